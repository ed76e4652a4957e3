import Derived.Test.YtjjcakjoeiolgaaGreatPa4
import Derived.Test.YtjjcakjoeiolgaaGreatPa3
import Derived.Test.YtjjcakjoeiolgaaGreatPa2
import Derived.Test.YtjjcakjoeiolgaaGreatPa1
import Derived.Test.YtjjcakjoeiolgaaGreatPa0
import Derived.Test.YtjjcakjoeiolgaaGreatProg
import Derived.KernelRfl
import Derived.ProofKit
import Derived.Carry
import Derived.OpenShut
import Derived.Stop.Joined
import Derived.JoinedCond
set_option linter.defProp false
section
namespace Go.Proofs
def jKA{L t}(h:(nodeOf L t).kind≠0):inP L t=true:=by
 cases hi:inP L t with
 |true=>rfl
 |false=>rw[jLM hi]at h;exact absurd rfl h
def zCZ{L}(d:Wf L){t}(c:(nodeOf L t).kind=6):nodeOf L t=zT (nodeOf L t).frm:=by
 have ht:=jKA (L:=L) (t:=t) Om;have⟨h1,h2,h3,_⟩:=d.node ht;generalize nodeOf L t=n at *;have⟨k,f,to,u,x,a,b⟩:=n;simp only at c;subst c;unfold zJ at h1;simp[shapeOf,isKind]at h1;simp[shapeOf]at h2 h3;unfold zT;simp only[Node.mk.injEq,true_and];exact⟨h1.1.1,h1.1.2,h1.2,h2,h3⟩
def zDQ{L}(a:Wf L){t}(b:(nodeOf L t).kind=6):∃i:Nat,find L (zT (nodeOf L t).frm)=some i/\t=(i:Int)+1:=by
 have ht:=jKA (L:=L) (t:=t) Om;obtain⟨i,hi,rfl⟩:=jCA ht;refine⟨i,?_,rfl⟩;rw[<-zCZ a b,qJ hi];exact Go.Proofs.jNG a.ok<|List.getElem?_eq_getElem hi
section
variable {L:Pool} {G M:List Int} {S:List Way}
end
def jSU(L G l):∃X,(zN L G l).2.2.2=L++X:=by
 unfold zN;split;exact⟨[],Sm⟩;split;exact⟨[],Sm⟩;split<;>exact jLI G l L []
end Go.Proofs
end
section
open Go Go.SE List
namespace Go.Proofs
def jGR(a:List Tree)(y:Tree):Prop:=∃g∈a,In g y
inductive DrvT(c:List Tree):Tree->Prop
 |seen {y:Tree}:jGR c y->DrvT c y
 |free {k f t u:Int} {x:ByteArray} {d:List Tree}:jHN k=true->DrvT c (.mk k f t u x d)
 |pair {f t u:Int} {x:ByteArray} {a b:Tree}:DrvT c a->DrvT c b->DrvT c (.mk 4 f t u x [a,b])
 |hash {f t u:Int} {x:ByteArray} {a:Tree}:DrvT c a->DrvT c (.mk 5 f t u x [a])
 |sign {k f t u:Int} {x:ByteArray} {a:Tree}:qO k=true->DrvT c a->jGR c (jXM<|if k=9 then t else f)->DrvT c (.mk k f t u x [a])
def jUH{n}(h:n.kind=4):zB n=[n.a,n.b]:=by simp[zB,h,shapeOf]
def zFH{n}(h:n.kind=5):zB n=[n.a]:=by simp[zB,h,shapeOf]
def jZK{n}(h:qO n.kind=true):zB n=[n.a]:=by
 simp only[qO,Bool.or_eq_true,beq_iff_eq]at h;rcases h with(h|h)|h<;>simp[zB,h,shapeOf]
section
variable {L:Pool} {G:List Int} (hW:Wf L) (hG:∀g∈G,inP L g=true)
include hW hG
def jZN{g}(i:g∈G){y}(h:In (zA L g) y):∃t,inP L t=true/\zA L t=y/\Seen L G t:=by
 induction h with
 |refl=>exact⟨g,hG g i,rfl,.given i⟩
 |fst _ d =>
  have⟨u,c,e,hs⟩:=d
  rw[zU hW c]at e
  injection e with b _ _ _ _ a
  rw[jUH b]at a
  simp at a
  exact⟨_,(jPD hW c b).1.1,a.1,.aris hs<|.inl ⟨rfl,b,rfl⟩⟩
 |snd _ d =>
  have⟨u,c,e,hs⟩:=d
  rw[zU hW c]at e
  injection e with b _ _ _ _ a
  rw[jUH b]at a
  simp at a
  exact⟨_,(jPD hW c b).2.1,a.2,.aris hs<|.inr<|.inl ⟨rfl,b,rfl⟩⟩
 |shows f _ d =>
  have⟨u,c,e,hs⟩:=d
  rw[zU hW c]at e
  injection e with b _ _ _ _ a
  rw[<-b]at f
  rw[jZK f]at a
  simp at a
  exact⟨_,(jWK hW c f).1,a,.aris hs<|.inr<|.inr ⟨rfl,f,rfl⟩⟩
def jEZ{t}(ht:inP L t=true):Seen L G t↔jGR (G.map<|zA L) (zA L t):=by
 constructor;intro h;have⟨_,g,a,hi⟩:=zGL hW hG h;exact⟨_,mem_map.2 ⟨g,a,rfl⟩,hi⟩;rintro⟨_,hm,hi⟩;obtain⟨g,a,rfl⟩:=mem_map.1 hm;have⟨v,b,e,hs⟩:=jZN hW hG a hi;rw[yF hW _ v t rfl b ht e]at hs;exact hs
def jTP{y}(h:jGR (G.map<|zA L) y):∃t,inP L t=true/\zA L t=y/\Seen L G t:=by
 have⟨_,hm,hi⟩:=h;obtain⟨g,a,rfl⟩:=mem_map.1 hm;exact jZN hW hG a hi
omit hG in
def jJY{v n}(c:inP L v=true)(e:zA L v=jXM n):∃i:Nat,find L (zT n)=some i/\v=(i:Int)+1:=by
 rw[zU hW c]at e;injection e with a b;have⟨i,h1,h2⟩:=zDQ hW a;rw[b]at h1;exact⟨i,h1,h2⟩
omit hG in
def jFM{i n}(h:find L (zT n)=some i):inP L ((i:Int)+1)=true/\zA L ((i:Int)+1)=jXM n:=by
 have⟨h1,h2⟩:=jPO h;have hi:inP L ((i:Int)+1)=true:=zI.2 ⟨Om,Om⟩;exact⟨hi,by rw[zU hW hi,h2];rfl⟩
def zDU{t}(ht:inP L t=true):Drv L (Seen L G) t↔DrvT (G.map<|zA L) (zA L t):=by
 constructor;intro h;induction h with
 |seen h=>exact .seen<|(jEZ hW hG ht).1 h
 |free h=>rw[zU hW ht];exact .free h
 |pair h _ _ f j =>
  have⟨a,b⟩:=jPD hW ht h
  rw[zU hW ht,jUH h,h];exact .pair (f a.1)<|j b.1
 |hash h _ f =>
  have a:=kids5 hW ht h
  rw[zU hW ht,zFH h,h];exact .hash<|f a.1
 |sign h _ p g f =>
  have a:=jWK hW ht h
  rw[zU hW ht,jZK h]
  have⟨q,n⟩:=jFM hW p
  rw[jEZ hW hG q,n]at g
  exact .sign h (f a.1) g
 intro h;have key:∀y,DrvT (G.map<|zA L) y->∀t,inP L t=true->zA L t=y->Drv L (Seen L G) t:=by
  intro y h;induction h with
  |seen h=>rintro t ht rfl;exact .seen<|(jEZ hW hG ht).2 h
  |free h=>intro t ht e;rw[zU hW ht]at e;injection e with c;exact .free (by rw[c];exact h)
  |pair _ _ f j =>
   intro t ht e
   rw[zU hW ht]at e;injection e with c _ _ _ _ d
   rw[jUH c]at d;simp at d
   have⟨a,b⟩:=jPD hW ht c
   exact .pair c (f _ a.1 d.1)<|j _ b.1 d.2
  |hash _ f =>
   intro t ht e
   rw[zU hW ht]at e;injection e with c _ _ _ _ d
   rw[zFH c]at d;simp at d
   exact .hash c<|f _ (kids5 hW ht c).1 d
  |sign g _ hs f =>
   intro t ht e
   rw[zU hW ht]at e;injection e with c r m _ _ d
   rw[<-c]at g
   rw[jZK g]at d;simp at d
   have⟨v,o,l,sv⟩:=jTP hW hG hs
   obtain⟨i,k,rfl⟩:=jJY hW o l
   refine .sign g (f _ (jWK hW ht g).1 d) (i:=i) ?_ sv
   unfold xM
   rw[c,r,m];exact k
 exact key _ h t ht rfl
def jPF(n):zHA L G n=true↔jGR (G.map<|zA L) (jXM n):=by
 unfold Proofs.zHA;constructor;intro h;split at h;rename_i i hi;have⟨d,b⟩:=jFM hW hi
 classical
 have:=of_decide_eq_true h;rw[jEZ hW hG d,b]at this;exact this;cases h;intro h;have⟨v,c,a,sv⟩:=jTP hW hG h;obtain⟨i,e,rfl⟩:=jJY hW c a;rw[e]
 classical
 exact decide_eq_true sv
end
def jXL(a:List Tree)(l:Letter):Prop:=vJ l=0/\DrvT a (zR l true true)
def jBZ{l}(h:vJ l=0):(l.frm=0\/l.frm=1)/\l.text.size<=64:=by
 have⟨k,f,c,x,g⟩:=l;have⟨_,b,_,_,_,a⟩:=jCX h;exact⟨b,a⟩
def jDE{L}(hW:Wf L){l}(b:L.length<=65000):(zC L l).2.1=vJ l:=by
 unfold zC;split;rfl;rename_i h;have a:vJ l=0:=Classical.byContradiction h;have⟨h1,h2⟩:=jBZ a;have⟨sz,d,g,f,c⟩:=jPI h1 h2 true true;rw[a];rcases g.of Om Om hW with e|⟨_,e⟩;exact e;grind
def jMY{L M}{G:List Int}(hW:Wf (L++M))(hG:∀g∈G,inP L g=true):G.map (zA<|L++M)=G.map (zA L):=map_congr_left fun g a=>jHS hW<|hG g a
section
variable {L:Pool} {G:List Int} (hW:Wf L) (hG:∀g∈G,inP L g=true)
include hW hG
def jRD{l:Letter}(b:L.length<=65000):((zC L l).2.1=0/\Drv (zC L l).2.2 (Seen (zC L l).2.2 G) (zC L l).1)↔jXL (G.map<|zA L) l:=by
 rw[jDE hW b];unfold jXL;refine and_congr_right fun e=>?_;obtain⟨M,c⟩:=jAR hW.ok l;have a:=xI hW l;obtain⟨_,b2,b3⟩:=jAQ (by rw[jDE hW b];exact e) hW;rw[c]at a b2 b3|-;rw[zDU a (fun g d=>uD<|hG g d) b2,b3,jMY a hG]
end
def jGG(G):∀(ls:List Letter) (L:Pool),ReachR (fun _ _=>False) G ls L (jGW G ls L).1 (jGW G ls L).2
 |[],_=>.nil
 |l :: ls,L=>by
  rw[jGW];split;rename_i h;exact .hit h.1 h.2;rename_i h;exact .miss (.inl h)<|jGG G ls _
structure ReachT(b:Pool->Int->Prop)(G:List Int)(ls:List Letter)(L:Pool)(r:Int)(a:Pool):Prop where
 wf:Wf a
 app:∃X,a=L++X
 few:a.length<=L.length+8*ls.length
 nums:yU L->(∀l∈ls,yH l.c)->yU a
 no:r=0->∀l∈ls,jXL (G.map<|zA L) l->∃d t,b d t/\d.length<=L.length+8*ls.length
 yes:r≠0->∃l∈ls,jXL (G.map<|zA L) l/\inP a r=true/\zA a r=zR l true true/\Drv a (Seen a G) r
def Lil(l:Letter):Prop:=vJ l=0->∃sz d,GP (zR l true true) sz d/\sz<=8/\d<=20
def jGO{L}(hW:Wf L){l}(a:Lil l):(zC L l).2.2.length<=L.length+8:=by
 unfold zC;split;simp;rename_i h;have⟨sz,d,g,h1,h2⟩:=a<|Classical.byContradiction h;have:=zFL g Om Om hW;omega
def ReachR.tree{a:Pool->Int->Prop}{G ls L i r}(h:ReachR a G ls L r i):Wf L->(∀g∈G,inP L g=true)->(∀l∈ls,Lil l)->L.length+8*ls.length<=65000->ReachT a G ls L r i:=by
 induction h with
 | nil=>intro hW _ _ _;exact⟨hW,⟨[],Sm⟩,Sm,fun h _=>h,fun _=>Sm,fun h=>absurd rfl h⟩
 | @hit l ls L h1 h2 =>
  intro hW hG d e
  rw[length_cons] at e
  have⟨b1,b2,b3⟩:=jAQ h1 hW
  have n:=jGO hW<|d l Sm
  refine⟨xI hW l,jAR hW.ok l,by rw[length_cons];omega,fun h b=>xU h<|b l Sm,fun h=>?_,fun _=>⟨l,Sm,(jRD hW hG Om).1 ⟨h1,h2⟩,b2,b3,h2⟩⟩
  have:=(zI.1 b2).1;omega
 | @miss l ls L i r h1 _ o =>
  intro hW hG d e
  rw[length_cons] at e
  have⟨M,c⟩:=jAR hW.ok l
  have f:=xI hW l
  have n:=jGO hW<|d l Sm
  have hm:G.map (zA (zC L l).2.2)=G.map (zA L):=by rw[c] at f |-;exact jMY f hG
  have⟨i1,⟨X,i2⟩,t,p,s,k⟩:=o f (by rw[c];exact fun g q=>uD<|hG g q) Gd Om
  rw[hm] at s k
  refine⟨i1,⟨M++X,by rw[i2,c,append_assoc]⟩,by rw[length_cons];omega,fun h b=>p (xU h<|b l Sm) Gd,fun h m hm hs=>?_,fun h=>?_⟩
  rcases mem_cons.1 hm with rfl | hm
  have j:=(jRD hW hG (l:=m) Om).2 hs
  exact⟨_,_,h1.resolve_left fun h=>h j,by rw[length_cons];omega⟩
  grind
  grind
def jNI{who c x}:∀l∈evs who c x,Lil l:=by
 intro l a b;have⟨h1,h2⟩:=jBZ b;simp[evs]at a;rcases a with rfl|rfl;exact⟨_,_,jEA (h1.imp id .inl)<|jSP c h2,Om,Om⟩;exact⟨_,_,jEA (.inr<|.inr rfl)<|jBH (jCC De)<|jSP c h2,Om,Om⟩
def jUZ(a:List Tree)(who c:Int)(x:ByteArray):Prop:=yG who=true/\∃l∈evs who c x,jXL a l
def jFW{L G}(hW:Wf L)(hG:∀g∈G,inP L g=true)(a:L.length<=64900)(who c x):(jEK L G who c x).1≠0↔jUZ (G.map<|zA L) who c x:=by
 unfold jEK jUZ;split;rename_i h;have R:=(jGG G (evs who c x) L).tree hW hG jNI (by simp[evs];omega);refine⟨fun b=>?_,fun⟨_,l,a,hs⟩ b=>?_⟩;have⟨l,a,hs,_⟩:=R.yes b;exact⟨h,l,a,hs⟩;have⟨_,_,d,_⟩:=R.no b l a hs;exact d;rename_i h;simp[h]
def zBG(a:List Tree)(who:Int):Prop:=yG who=true/\(jGR a (jXM who)\/jGR a (jXM 2))
def jPK{L G}(hW:Wf L)(hG:∀g∈G,inP L g=true)(who):jNE L G who=true↔zBG (G.map<|zA L) who:=by
 unfold jNE zBG;rw[Bool.and_eq_true,Bool.or_eq_true,jPF hW hG,jPF hW hG]
def jPU(gs c x):DrvT gs (qG c x):=.pair (.free rfl)<|.pair (.free rfl)<|.free rfl
def jZU{gs n D}:DrvT gs (yX n D)↔jGR gs (yX n D)\/(DrvT gs D/\jGR gs (jXM n)):=by
 constructor;intro h;generalize e:yX n D=y at h;cases h with
 |seen h=>exact .inl h
 |free h=>unfold yX at e;injection e with e;rw[<-e]at h;cases h
 |pair _ _=>simp[yX]at e
 |hash _=>simp[yX]at e
 |sign a h1 h2 =>
  simp only[yX,Tree.mk.injEq,List.cons.injEq,and_true]at e
  obtain⟨rfl,rfl,rfl,rfl,rfl,rfl⟩:=e
  exact .inr ⟨h1,h2⟩
 rintro(h|⟨h1,h2⟩);exact .seen h;exact .sign rfl h1 h2
def jKP{gs who c x}(b:yG who=true)(e:x.size<=64):jUZ gs who c x↔zBG gs who\/∃l∈evs who c x,vJ l=0/\jGR gs (zR l true true):=by
 have d:who=0\/who=1:=by unfold yG at b;simpa using b
 have f:vJ ⟨2,who,c,x,false⟩=0:=xE Om d (by simp[vG]) (by simp[vL,vG]) Sm e;have h:vJ ⟨6,0,c,x,false⟩=0:=xE Om (.inl rfl) (by simp[vG]) (by simp[vL,vG]) Sm e;have g:zR ⟨2,who,c,x,false⟩ true true=yX who (qG c x):=rfl;have a:∃D,zR ⟨6,0,c,x,false⟩ true true=yX 2 D/\DrvT gs D:=⟨_,rfl,.pair (.free rfl)<|jPU gs c x⟩;have⟨D,a,d2⟩:=a;have d1:=jPU gs c x;unfold jUZ zBG jXL;simp only[b,true_and,evs,mem_cons,not_mem_nil,or_false,exists_eq_or_imp,exists_eq_left,f,h,g,a,jZU,d1,d2];constructor;grind;grind
structure Gs(L:Pool)(G:List Int)(a:List Tree):Prop where
 wf:Wf L
 inp:∀g∈G,inP L g=true
 e:G.map (zA L)=a
def Gs.app{L X:Pool}{G gs}(h:Gs L G gs)(w:Wf (L++X)):Gs (L++X) G gs:=⟨w,fun g a=>uD<|h.inp g a,by rw[jMY w h.inp,h.e]⟩
def Gs.bound{L G gs}(h:Gs L G gs)(b:L.length<=64900)(who c x):Gs (jEK L G who c x).2 G gs/\(jEK L G who c x).2.length<=L.length+16:=by
 unfold jEK;split;obtain⟨w,⟨X,a⟩,f,_⟩:=(jGG G (evs who c x) L).tree h.wf h.inp jNI (by simp[evs];omega);rw[a]at w f|-;exact⟨h.app w,by simpa[evs]using f⟩;exact⟨h,Sm⟩
def jTO{y:Tree}(h:jGR [zR f23 true true] y):y=zR f23 true true\/Lo y:=by
 have⟨g,a,hi⟩:=h;simp at a;subst a;exact jZO _ _ _ hi
def jST(n:Int):¬jGR [zR f23 true true] (jXM n):=fun h=>by
 rcases jTO h with e|e;have:(jXM n).kd=(zR f23 true true).kd:=by rw[e]
 simp[jXM,Tree.kd,zR,f23,yX]at this;exact(e _ .refl).2 rfl
def zDR:∃L G,vY [] [] (qP f23).1=(L,G,true)/\Gs L G [zR f23 true true]/\L.length<=100:=by
 have⟨h1,h2⟩:=jZS;obtain⟨M,b,c,n1,h|⟨_,f,t,e,ht,a⟩⟩:=jSN (G:=[]) Wf.nil yU.nil (l:=f23) ⟨De,De⟩;rw[h1]at h;cases h.1;rw[nil_append]at b c ht a;exact⟨M,addT [] t,Prod.ext b<|Prod.ext e h1,⟨c,fun g d=>by simp[addT]at d;rw[d];exact ht,by simp[addT,a]⟩,by rw[b]at h2;exact h2⟩
def tO(L:Pool)(G:List Int)(l:List Op):List UInt8×Int×Int×Pool:=
 if(zN L G l).2.1≠0 then([],(zN L G l).2.1,(zN L G l).2.2.1,(zN L G l).2.2.2)
 else((jAN (zN L G l).2.2.2 (zN L G l).1).1,(jAN (zN L G l).2.2.2 (zN L G l).1).2,0,(zN L G l).2.2.2)
def jZV{L}(h:yU L)(G M){o}(b:yH o.num):yU (yD L G M o).2.2:=
 jPV (fun r=>yU r.2.2) (fun _ _=>h) G M o fun n a=>h.make (by rcases a with e|e<;>rw[e];exact jHB;exact b)
def jJE(G):∀(l:List Op) (L:Pool) (M:List Int),yU L->(∀o∈l,yH o.num)->yU (zZ L G M l).2.2
 |[],_,_,h,_=>h
 |o :: l,L,M,h,a=>by
  have h1:=jZV h G M<|a o Sm;unfold zZ;split;exact h1;exact jJE G l _ _ h1 Gd
def jPS(L G l):(zN L G l).2.2.2=L\/(zN L G l).2.2.2=(zZ L G [] l).2.2:=by
 unfold zN;split;exact .inl rfl;grind
def oL{L}(h:yU L)(G){l}(a:∀o∈l,yH o.num):yU (zN L G l).2.2.2:=by
 rcases jPS L G l with e|e<;>rw[e];exact h;exact jJE G l L [] h a
def jPT(L G l):(zN L G l).2.2.2.length<=L.length+min 256 l.length:=by
 unfold zN;split;simp;rename_i a;have:=jLH G l L [];split;simp;grind
def enc_ok{L t}(h:(jAN L t).2=0):inP L t=true/\(vI L t).length<=4096/\(jAN L t).1=vI L t:=by
 unfold jAN at h|-;split;grind;grind
def jPH{L}(c:Wf L)(d:yU L)(G){l}(f:∀o∈l,yH o.num)(a:(tO L G l).2.1=0):
  (zN L G l).2.1=0/\inP (tO L G l).2.2.2 (zN L G l).1=true/\vY (tO L G l).2.2.2 G (tO L G l).1=((tO L G l).2.2.2,addT G (zN L G l).1,true):=by
 have e:=jAM c G l
 have n1:=oL d G f
 unfold tO at a|-
 split at a
 grind
 rename_i h
 rw[if_neg h]
 have⟨i1,i2,b⟩:=enc_ok a
 refine⟨Classical.byContradiction h,i1,?_⟩
 simp only
 unfold vY
 rw[b,(jZZ e n1 i1 i2).1]
 simp only[ne_eq,not_true_eq_false,if_false]
 rw[tU i1]
section
variable {L M:Pool} {G K:List Int}
def Simq.say(h:Simq L M G K){l}(d:∀o∈l,yH o.num)(a:M.length+l.length<=65536):
  (tO L G l).1=(tO M K l).1/\(tO L G l).2.1=(tO M K l).2.1/\(tO L G l).2.2.1=(tO M K l).2.2.1/\Simq (tO L G l).2.2.2 (tO M K l).2.2.2 G K/\(tO M K l).2.2.2.length<=M.length+min 256 l.length:=by
 have p:=h.len
 have⟨e,i,m,j⟩:=jKD h.wl h.wm h.g l Om a
 have c:=jAM h.wl G l;have b:=jAM h.wm K l
 have n1:=oL h.nl G d;have n2:=oL h.nm K d
 have f:=jPT M K l
 have hs:jGS (zN L G l).2.2.2 (zN M K l).2.2.2:=by
  have:=jLG l h.wl h.wm h.g LR.nil h.s Om a;have k:=(jGF l h.wl h.wm h.g LR.nil Om a).1;unfold zN;by_cases h1:l.length>256;rw[if_pos h1,if_pos h1];exact h.s;rw[if_neg h1,if_neg h1];by_cases h2:l.length=0;rw[if_pos h2,if_pos h2];exact h.s;rw[if_neg h2,if_neg h2,<-k];split<;>exact this
 have S:Simq (zN L G l).2.2.2 (zN M K l).2.2.2 G K:=⟨c,b,n1,n2,m,hs⟩
 unfold tO
 rw[<-e]
 split
 exact⟨rfl,rfl,i,S,f⟩
 rename_i n
 have r:=j<|Classical.byContradiction n
 rw[zDS c b r]
 exact⟨rfl,rfl,rfl,S,f⟩
def Simq.echo(h:Simq L M G K){l}(a:∀o∈l,yH o.num)(b:M.length+l.length<=65536)(c:(tO M K l).2.1=0):
  (vY (tO L G l).2.2.2 G (tO M K l).1).2.2=true/\(vY (tO M K l).2.2.2 K (tO M K l).1).2.2=true /\
  Simq (vY (tO L G l).2.2.2 G (tO M K l).1).1 (vY (tO M K l).2.2.2 K (tO M K l).1).1 (vY (tO L G l).2.2.2 G (tO M K l).1).2.1 (vY (tO M K l).2.2.2 K (tO M K l).1).2.1 /\
  (vY (tO M K l).2.2.2 K (tO M K l).1).1.length<=M.length+min 256 l.length:=by
 have⟨d,e,_,S,f⟩:=h.say a b
 have i:=h.len
 have⟨a1,a2,a3⟩:=jPH h.wl h.nl G a<|e.trans c
 have⟨b1,b2,b3⟩:=jPH h.wm h.nm K a c
 have⟨_,_,_,r⟩:=jKD h.wl h.wm h.g l Om b
 have ep:∀(L:Pool) (G:List Int),(tO L G l).2.2.2=(zN L G l).2.2.2:=fun L G=>by unfold tO;split<;>rfl
 have r:=r a1
 rw[<-ep,<-ep]at r
 rw[d]at a3
 rw[a3,b3]
 exact⟨rfl,rfl,⟨S.wl,S.wm,S.nl,S.nm,S.g.addT S.wl S.wm r,S.s⟩,f⟩
end
def zGZ{l}(i:yH l.c):(zW (qP l).1).1=none\/(vJ l=0/\∃q,zW (qP l).1=(some q,0,0)/\Wf q/\inP q q.length=true/\zA q q.length=zR l true true):=by
 by_cases b:(zC [] l).2.1≠0;have e:(qP l).1=[]:=by unfold qP;rw[if_pos b]
 rw[e];exact .inl tD;have b:(zC [] l).2.1=0:=Classical.byContradiction b;have⟨f,d,g⟩:=jAQ b Wf.nil;have e:qP l=jAN (zC [] l).2.2 (zC [] l).1:=by unfold qP;rw[if_neg Om]
 by_cases a:(vI (zC [] l).2.2 (zC [] l).1).length>4096;have:(qP l).1=[]:=by rw[e];unfold jAN;rw[if_pos d,if_pos a]
 rw[this];exact .inl tD;have h:(qP l).1=vI (zC [] l).2.2 (zC [] l).1:=by rw[e];unfold jAN;rw[if_pos d,if_neg a]
 have⟨q,q1,q2,q3,q4⟩:=jGH (xI Wf.nil l) (xU yU.nil i) d Om;rw[h];exact .inr ⟨f,q,q1,q2,q3,by rw[q4,g]⟩
def jUE(l):(qP l).1.length<=4096:=by
 unfold qP;split;simp;unfold jAN;split;grind;simp
def zDL{M}(b:Wf M)(K){l}(k:yH l.c)(t:M.length<=60000):(vY M K (qP l).1).1.length<=M.length+40:=by
 have e:(vY M K (qP l).1).1=(qY M (qP l).1).2.2.2:=by unfold vY;split<;>rfl
 rw[e];rcases zGZ k with h|⟨f,q,q1,q2,q3,q4⟩;have:(qY M (qP l).1).2.2.2=M:=by unfold qY;rw[h]
 rw[this];exact Nat.le_add_right _ _;have:(qY M (qP l).1).2.2.2=(vD M q q.length).2.2:=by unfold qY;rw[q1]
 rw[this];have m:2*q.length<=(qP l).1.length:=jCU (by rw[q1]);have o:=jUE l;have a:=(jAO b q2 q3 Om).1;have b1:=jDE b (l:=l) Om;obtain⟨_,b2,b3⟩:=jAQ (by rw[b1];exact f) b;have g:=xI b l;have s:=jXJ b l;obtain⟨X,r⟩:=jAR b.ok l;obtain⟨n,_⟩:=xW b q2 q3 a;have hi:=jPX q2 (subs q q.length) [] M (fun _=>0) (Cp.start b) (fun z d=>uU q2 d) (xB q2 _) (by have:=uH q2 (q.length:Int);omega);have j:(vD M q q.length).2.2=(zS q (subs q q.length) M fun _=>0).1:=by
  unfold vD at a|-;rw[if_pos q3]at a|-;simp only at a|-;split;grind;rfl
 have:jGS (vD M q q.length).2.2 (zC M l).2.2:=by
  intro v i;rw[j]at i|-;rcases hi v i with⟨h1,h2⟩|⟨z,d,h2⟩;rw[r]at g|-;exact⟨v,uD h1,by rw[h2,jHS g h1]⟩;obtain⟨v',h3,p⟩:=jTK g q2 ((jCS q2).1 d).2 q3 _ b2 (by rw[b3,q4]);exact⟨v',h3,by rw[h2,p]⟩
 have:=this.len n;omega
def jFO(Lq:Pool)(q:Pool×List Int)(t:Int):Pool×List Int:=((vD q.1 Lq t).2.2,if(vD q.1 Lq t).2.1=0 then jAL (vD q.1 Lq t).2.2 q.2 (vD q.1 Lq t).1 else q.2)
def qR(Lq:Pool)(G:List Int):Pool×List Int:=G.foldl (jFO Lq) ([],[])
def jCH(Lq G t):qR Lq (G++[t])=jFO Lq (qR Lq G) t:=by unfold qR;rw[foldl_append];rfl
def zGJ{P:List Int->Prop}(b:P [])(h1:∀l t,P l->P (l++[t]))(l):P l:=by
 have:∀m:List Int,P m.reverse:=fun m=>by
  induction m with
  |nil=>exact b
  |cons x m a=>rw[reverse_cons];exact h1 _ _ a
 have:=this l.reverse;rwa [reverse_reverse]at this
def jLY{Lq}(c:Wf Lq)(l:yU Lq):∀(G:List Int),G.Nodup->(∀g∈G,inP Lq g=true)->Wf (qR Lq G).1/\yU (qR Lq G).1/\jGS (qR Lq G).1 Lq/\LR (qR Lq G).1 Lq (qR Lq G).2 G:=by
 refine zGJ (fun _ _=>⟨Wf.nil,yU.nil,jGS.nil,LR.nil⟩) fun G t o m hi=>?_;have⟨n1,_,n2⟩:=nodup_append.1 m;have⟨w,n,s,g⟩:=o n1 Gd;have ht:=hi t Sm;rw[jCH];generalize qR Lq G=q at *;have⟨e,s'⟩:=zAA w c s ht;have⟨a,f,j⟩:=xW w c ht e;have k:=jLV n l t;have⟨X,p⟩:=jFP q.1 Lq t;have i:LR (vD q.1 Lq t).2.2 Lq q.2 G:=by
  rw[p]at a|-;have:=g.app (Y:=[]) a Gd;rwa [append_nil]at this
 have d:=i.addT a c (s:=(vD q.1 Lq t).1) (t:=t) ⟨f,ht,j⟩;have b:t∉G:=fun h=>n2 t h t Sm rfl;unfold jFO;rw[if_pos e,tU f];rw[show addT G t=G++[t] by unfold Proofs.addT;rw[if_neg b]]at d;exact⟨a,k,s',d⟩
def Simq.copied{L M G K}(h:Simq L M G K)(a:G.Nodup):Simq (qR L G).1 M (qR L G).2 K:=by
 have⟨w,n,s,g⟩:=jLY h.wl h.nl G a h.g.l;refine⟨w,h.wm,n,h.nm,⟨g.l,h.g.m,g.e.trans h.g.e⟩,fun v d=>?_⟩;have⟨t,ht,e⟩:=s v d;have⟨u,c,b⟩:=h.s t ht;exact⟨u,c,e.trans b⟩
end Go.Proofs
end
section
open Go Go.SE List
namespace Go.Proofs
open Tryz
attribute [local irreducible] Calls
def jAT.few{w f L G a b F}(h:jAT w f L G a b F):G.length<=1000000:=by
 have:=xV h.given.1 h.given.2;have:=h.wf.ok.few;omega
abbrev SaidK(A:World->Pool->NP->Prop)(S:List UInt8×Int×Int×Pool)(F:NP)(a:World)(r1:ByteArray)(r2 r3:Int)(w':World):Prop:=r1=⟨S.1.toArray⟩/\r2=S.2.1/\r3=S.2.2.1/\∃F',A w' S.2.2.2 F'/\Ext F a w'/\∀y,F' y->F y\/a.heap.size<=y
def jQW{C:NP}(f:Addr)(sl:Sl)(l:List Op)(c:World){L:Pool}{G:List Int}{a b:Bool}{F:NP}(h:jAT c f L G a b F)(s:yU (zN L G l).2.2.2)(K:Lst C c 5 sl (l.map oK))(P:∀y,C y->y<c.heap.size/\¬ F y)(M:l.length<=1000):
  cl 14 #[vp<|some f,sl.v] c<|XS fun r1 r2 r3 w'=>SaidK (fun w L F=>jAT w f L G a b F) (tO L G l) F c r1 r2 r3 w':=by
 refine w_G7 _ _ c (SaidK (fun w L F=>jAT w f L G a b F) (tO L G l) F c) ?_
 unfold m_G7
 have J:=h.few
 have⟨k,p,S,t,Q,B,V⟩:=h
 refine Br.f rfl ⟨fun _=>True,trivial,?_⟩
 rintro W rfl
 have o:Pure c c.drew:=Ext.drew c
 have h1:=B.ext o fun _ _ h=>h
 have R:=o.size
 refine⟨f,rfl,some p,h1.box.cell rfl,f,rfl,some k,h1.box.cell0,?_⟩
 refine(jNM p k sl l c.drew h1.wf h1.pool h1.know (K.pure o) Gd J M).mono ?_
 rintro _ D ⟨r1,r2,r3,rfl,N,d,x,u,A⟩
 have⟨H,z⟩:=Prod.mk.inj N
 have⟨q,I⟩:=Prod.mk.inj z
 have⟨X,E⟩:=jSU L G l
 have m:=jAM B.wf G l
 have r:=E
 rw[E]at x m
 have h2:=h1.grown x m u A
 rw[<-r]at h2 x m
 have i:Ext F c D:=(Ext.pure o).trans<|u.mono Gd
 have g:∀y,(y=f.block\/t y\/d y)->F y\/c.heap.size<=y:=Gd
 refine⟨_,_,_,rfl,trivial,u.kept fun _ h=>h.elim,fun e=>?_,fun e=>?_⟩
 have e:=bne_iff_ne.1 e
 rw[q]at e
 unfold tO
 rw[if_pos e]
 exact⟨rfl,q,I,_,⟨k,p,S,t,d,h2,fun _=>Iff.rfl⟩,i,g⟩
 have j:r2=0:=by simpa using e
 rw[q]at j
 unfold tO
 rw[if_neg<|by simpa using j,<-H]
 refine⟨f,rfl,some p,h2.box.cell rfl,?_⟩
 refine(zEO p r1 D m s h2.pool).mono ?_
 rintro _ Y ⟨T,U,rfl,O,n⟩
 refine⟨_,_,rfl,n.pure.keptP,_,jJA underlying59 underlying5 underlying9 n.rows.lst,rfl,O,rfl,_,⟨k,p,S,t,d,h2.ext n.pure fun _ _ h=>h,fun _=>Iff.rfl⟩,i.thenPure n.pure,g⟩
def jXF(f w0){L G a b F}(h:jAT w0 f L G a b F)(hN:yU L):
  cl 22 #[vp<|some f] w0<|XD fun r w'=>∃c F',r=some c/\jAT w' c (qR L G).1 (qR L G).2 a b F'/\Pure w0 w'/\∀y,F' y->w0.heap.size<=y:=by
 suffices key:∀K:Option Addr->WP,(∀c w',(∃F',jAT w' c (qR L G).1 (qR L G).2 a b F'/\Pure w0 w'/\∀y,F' y->w0.heap.size<=y)->K (some c) w')->m_A2 (some f) w0 K from
  w_A2 _ w0 _<|key _ Gd
 intro K hK
 unfold m_A2
 have hG:=h.few
 have hg:=h.given
 have hFl:∀y,F y->y<w0.heap.size:=fun y g=>h.lt g
 have hwf:=h.wf
 have⟨k,p,S,FK,FP,W,hF⟩:=h
 refine Br.f rfl ?_
 refine(jKL w0).mono ?_
 rintro _ P ⟨_,rfl,c,Fc,rfl,hc,E1,R⟩
 have z1:=E1.size
 have hA:=W.ext E1 fun _ _ h=>h
 have⟨kc,pc,Sc,FKc,Z,o,M⟩:=hc
 refine⟨_,rfl,E1.keptP,f,rfl,a,b,fun i hi=>?_,c,rfl,fun j hj=>?_,id,?_⟩
 .rw[yP]
  rcases(show i=0\/i=1 by simp at hi;omega)with rfl|rfl
  .exact hA.box.cell rfl
  .exact hA.box.cell rfl
 .rw[yP];exact o.box.canW So
 rintro Q rfl
 have Bc:=Box.storeAt [vb a,vb b] 0 2 P _ o.box Sm
 have X2:Ext (·=c.block) P (storeRow P (c.add 2) [vb a,vb b]):=by
  have:=Ext.storeRow P (c.add 2) [vb a,vb b];rw[zG]at this;exact this
 have Bc:Box (storeRow P (c.add 2) [vb a,vb b]) c [vp<|some kc,vp<|some pc,vb a,vb b] 98:=Bc
 generalize storeRow P (c.add 2) [vb a,vb b]=Q at *
 have A:FoeAt Q c [] [] a b kc pc Sc FKc Z:=⟨Bc,o.know.ext X2 fun y g e=>o.dk<|e▸g,o.pool.ext X2 fun y g e=>o.dp<|e▸g,o.wf,o.ok,o.d,o.dk,o.dp⟩
 have cn:w0.heap.size<=c.block:=R _<|(M _).2<|.inl rfl
 have E2:Pure w0 Q:=E1.trans' X2 Gd
 have hA2:FoeAt Q f L G a b k p S FK FP:=hA.ext X2 Gd
 clear o hA Bc
 refine⟨f,rfl,some k,hA2.box.cell0,?_⟩
 refine(jEI k p Q hA2.know hG).mono ?_
 rintro _ w3 ⟨r2,rfl,C⟩
 have z2:=E2.size
 have E3:=E2.trans C.pure
 have z3:=C.pure.size
 refine⟨_,rfl,C.pure.keptP,?_⟩
 have hlen:r2.len=G.length:=by rw[C.rows.len,zY]
 have B:zBH w0 None r2.blk None w3 c [] [] a b:=by
  have l:∀y,Fc y->y<Q.heap.size:=fun y g=>by
   rcases(M y).1 g with rfl|g|g
   .exact A.box.lt
   .exact A.know.lt g
   .exact A.pool.lt g
  refine⟨Fc,⟨kc,pc,Sc,FKc,Z,A.ext C.pure fun _ _ h=>h,M⟩,E3,fun y g=>⟨.inr<|R y g,id,fun hb=>?_⟩,fun y g=>⟨C.rows.lt g,id⟩,fun y g=>g.elim⟩;have:=C.own y hb;have:=l y g;omega
 have D:Own None w3 73 1 r2 (tmr G):=⟨C.rows,fun _ _ h=>h⟩
 refine⟨fun i H w=>∃n:Nat,i=n/\n<=G.length/\H=None/\zBH w0 None r2.blk None w c (qR L<|G.take n).1 (qR L<|G.take n).2 a b/\Own None w 73 1 r2 (tmr G),fun i _=>((G.length:Int)-i).toNat,⟨0,rfl,Nat.zero_le _,rfl,B,D⟩,?_⟩
 clear B D
 rintro _ Hl wl hsl ⟨n,rfl,hn,rfl,x,ho⟩
 refine⟨fun l=>?_,fun l=>?_⟩
 .have l:n<G.length:=Oh<|of_decide_eq_true l
  have v:G.take (n+1)=G.take n++[G[n]]:=by rw[take_succ_eq_append_getElem l]
  have hGn:=hg.2 _<|getElem_mem l
  have⟨a4,hat,jNB⟩:=jIU ho.rows (i:=(n:Int)) (t:=G[n]) (by rw[jBO Om<|by simpa using l];simp)
  generalize G[n]=t at *
  have hw1:=(jLY hwf hN (G.take<|n+1) (hg.1.sublist<|take_sublist _ G) Gd).1
  rw[v,jCH]at hw1
  refine⟨a4,hat,t,jNB,fun _=>True,trivial,?_⟩
  rintro w4 rfl
  have J:=x.pureE<|Ext.drew wl
  have ho4:=ho.pure<|Ext.drew wl
  generalize wl.drew=w4 at *
  have⟨F4,J,E4,d1,d2,d3⟩:=J
  have⟨k4,Y,S4,FK4,FP4,h4,u⟩:=J
  have I:=W.ext E4 fun _ _ h=>h
  have fresh:∀y,F4 y->w0.heap.size<=y:=fun y g=>(d1 y g).1.elim False.elim id
  refine⟨c,rfl,some Y,h4.box.cell rfl,f,rfl,some p,I.box.cell rfl,?_⟩
  refine(zFR Y p t w4 h4.wf I.wf h4.pool I.pool Gd).mono ?_
  rintro _ w5 ⟨r3,r4,rfl,e3,e4,V,T,O,hF5⟩
  have next : ∀ w, zBH w0 None r2.blk None w c (qR L<|G.take<|n + 1).1 (qR L<|G.take<|n + 1).2 a b -> Own None w 73 1 r2 (tmr G) ->
    (∃m:Nat,IntKind.i64.wrap ((n:Int)+1)=m/\m<=G.length/\None=None/\zBH w0 None r2.blk None w c (qR L<|G.take m).1 (qR L<|G.take m).2 a b/\Own None w 73 1 r2 (tmr G))/\((G.length:Int)-IntKind.i64.wrap ((n:Int)+1)).toNat<((G.length:Int)-(n:Int)).toNat:=by
   intro w g1 g2
   rw[zQ l Om]
   exact⟨⟨n+1,rfl,l,rfl,g1,g2⟩,uR l⟩
  rw[v,jCH]at next
  generalize qR L (G.take n)=q at *
  have⟨X,hX⟩:=jFP q.1 L t
  have hX':=hX
  have N:Wf (vD q.1 L t).2.2:=hw1
  rw[hX]at T N
  have z:=h4.grown T N O hF5
  rw[<-hX']at z N
  have U:=ho4.ext (O.mono Gd) fun y g hf=>(d1 y hf).2.2 g
  refine⟨_,_,rfl,trivial,O.kept fun _ h=>h.elim,fun hc=>?_,fun hc=>?_⟩
  .have s:r4=0:=by simpa using hc
   rw[e4]at s
   refine⟨c,rfl,some k4,z.box.cell0,?_⟩
   refine(jKM k4 Y r3 w5 z.know z.pool z.wf z.d z.ok).mono ?_
   rintro _ w6 ⟨r5,rfl,_,S6,FK6,hK6,ok6,E6,hF6⟩
   have h6:=z.knows hK6 ok6 E6 hF6
   refine⟨_,rfl,E6.kept fun _ h=>h.elim,?_⟩
   have X46:Ext F4 w4 w6:=(O.mono fun y _ g=>(u y).2<|.inr<|.inr g).trans<|E6.mono Gd
   have z5:=O.size
   refine next _ (zBH.step d1 d2 d3 E4 ⟨k4,Y,S6,FK6,V,?_,fun _=>Iff.rfl⟩ X46 ?_).1 (U.ext (E6.mono fun y _ g=>(u y).2<|.inr<|.inl g) fun y g hf=>(d1 y hf).2.2 g)
   .unfold jFO
    rw[if_pos s,<-e3];exact h6
   .grind
  .have s:¬r4=0:=by simpa using hc
   rw[e4]at s
   refine next _ (zBH.step d1 d2 d3 E4 ⟨k4,Y,S4,FK4,V,?_,fun _=>Iff.rfl⟩ (O.mono fun y _ g=>(u y).2<|.inr<|.inr g) ?_).1 U
   .unfold jFO
    rw[if_neg s];exact z
   .grind
 .have:n=G.length:=Oh<|of_decide_eq_false l
  subst this
  rw[take_length]at x
  have⟨F',x,E,h1,_⟩:=x
  exact hK c wl ⟨F',x,E,fun y g=>(h1 y g).1.elim False.elim id⟩
structure RefAt(w:World)(r x q:Addr)(M:Pool)(K:List Int)(a b:Bool)(FK FP:NP):Prop where
 box:Box w r [vp<|some x,vb a,vb b] 52
 know:jXN w x q K FK
 pool:vK w q M FP
 d:∀y,FK y->¬FP y
 dk:¬FK r.block
 dp:¬FP r.block
def jUY(r:Addr)(M:Pool)(K:List Int)(a b:Bool):Own1:=fun w F=>∃x q FK FP,RefAt w r x q M K a b FK FP/\∀y,F y↔y=r.block\/FK y\/FP y
section
variable {w w':World} {f r x q:Addr} {L M:Pool} {G K:List Int} {a b:Bool} {FK FP F:NP}
def RefAt.ext{X}(h:RefAt w r x q M K a b FK FP)(E:Ext X w w')(e:∀y,y=r.block\/FK y\/FP y->¬X y):RefAt w' r x q M K a b FK FP:=
 ⟨h.box.ext E<|e _<|.inl rfl,h.know.ext E fun b c=>e _<|.inr<|.inl c,h.pool.ext E fun b c=>e _<|.inr<|.inr c,h.d,h.dk,h.dp⟩
def oW:Cl1 (jUY r M K a b):=by
 refine⟨fun⟨x,q,FK,FP,h,e⟩ E d=>⟨x,q,FK,FP,h.ext E fun y c=>d y<|(e y).2 c,e⟩,fun⟨x,q,FK,FP,h,e⟩ y c=>?_⟩;rcases(e y).1 c with rfl|c|c;exact h.box.lt;exact h.know.lt c;exact h.pool.lt c
def RefAt.grown{M' FP'}(h:RefAt w r x q M K a b FK FP)(i:vK w' q M' FP')(E:Ext FP w w')(f:∀y,FP' y->FP y\/w.heap.size<=y):RefAt w' r x q M' K a b FK FP':=
 ⟨h.box.ext E h.dp,h.know.ext E fun y c=>h.d y c,i,fun y c e=>(f y e).elim (h.d y c) fun g=>Oh<|h.know.lt c,h.dk,fun c=>(f _ c).elim h.dp fun g=>Oh h.box.lt⟩
def RefAt.given{K' FK'}(h:RefAt w r x q M K a b FK FP)(i:jXN w' x q K' FK')(E:Ext FK w w')(f:∀y,FK' y->FK y\/w.heap.size<=y):RefAt w' r x q M K' a b FK' FP:=
 ⟨h.box.ext E h.dk,i,h.pool.ext E fun y e c=>h.d y c e,fun y e=>(f y e).elim (h.d y) fun g c=>Oh<|h.pool.lt c,fun e=>(f _ e).elim h.dk fun g=>Oh h.box.lt,h.dp⟩
end
def jXN.box{w x q G F}(h:jXN w x q G F):∃sg:Sl,w.cell? x=some (vp<|some q)/\w.cell? (x.add 1)=some sg.v/\Rws w 73 1 sg (tmr G)/\∀y,sg.blk y->F y:=by
 have⟨sg,h,a⟩:=h;exact⟨sg,h.box.cell0,h.box.cell rfl,h.giv,fun y b=>(a y).2<|.inr b⟩
def zEH(w0):cl 10 #[] w0 (XD fun r w'=>∃c F,r=some c/\jUY c [] [] false false w' F/\Pure w0 w'/\∀y,F y->w0.heap.size<=y):=by
 refine w_I5 w0 (fun r w'=>∃c F,r=some c/\jUY c [] [] false false w' F/\Pure w0 w'/\∀y,F y->w0.heap.size<=y) ?_;refine(jBI w0).mono ?_;rintro _ m ⟨_,rfl,q,FP,rfl,e,g,l⟩;refine⟨_,rfl,fun p1 i h2 k n h3=>?_⟩;have f:Pure m i:=Ext.new h2;have d:Pure i n:=Ext.new h3;have p:=g.size;have s:=f.size;have b1:=h2.at_size;have b2:=h3.at_size;have o:=(Box.of_newA h2).lt;have a:∀y,¬Sl.nil.blk y:=fun y j=>by have⟨_,h,_⟩:=j;cases h
 refine⟨k,_,rfl,⟨p1,q,fun y=>y=p1.block,FP,⟨Box.of_newA h3,⟨Sl.nil,⟨(Box.of_newA h2).pure d,Rws.nil _ _ _,a _⟩,fun y=>by simp[a]⟩,(e.pure f).pure d,?_,?_,?_⟩,fun _=>Iff.rfl⟩,(g.trans f).trans d,?_⟩;rintro y rfl b;have:=e.lt b;omega;omega;intro b;have:=e.lt b;omega;rintro y (rfl|rfl|b);omega;omega;exact l y b
section
variable (r:Addr) (w0:World) {M:Pool} {K:List Int} {a b:Bool} {F:NP} (h:jUY r M K a b w0 F) (hW:Wf M)
include h hW
def jQD(body:ByteArray)(z:K.length<=100000):cl 45 #[vp<|some r,vs body] w0 (XC fun o w'=>o=(vY M K body.data.toList).2.2/\Tn (jUY r (vY M K body.data.toList).1 (vY M K body.data.toList).2.1 a b) F w0 w'):=by
 refine w_J5 _ _ w0 (fun o w'=>o=(vY M K body.data.toList).2.2/\Tn (jUY r (vY M K body.data.toList).1 (vY M K body.data.toList).2.1 a b) F w0 w') ?_;unfold m_J5;have⟨x,q,FK,FP,h,f⟩:=h;have⟨sg,B,G,_⟩:=h.know.box;refine⟨r,rfl,some x,h.box.cell0,x,rfl,some q,B,?_⟩;have⟨s,u,hr,m,hs,_⟩:=jJB (P:=prog) (src:=9) (dst:=59) underlying9 underlying59 underlying5 w0 body;refine⟨s,u,hr,?_⟩;have h1:=h.ext m fun _ _ h=>h;refine(jQP q s body.data.toList u hW h1.pool hs).mono ?_;rintro _ p ⟨t,e,y,rfl,rfl,rfl,rfl,g,A,l,i⟩;have h2:=h1.grown A l i;have D:=m.size;have I:=l.size;have j:Ext F w0 p:=(Ext.pure m).trans<|l.mono fun y _ c=>(f y).2<|.inr<|.inr c;have w:∀y,g y->F y\/w0.heap.size<=y:=fun y c=>(i y c).imp (fun h=>(f y).2<|.inr<|.inr h) fun h=>Om;refine⟨_,_,_,rfl,fun d=>?_,fun d=>?_⟩;have d:=bne_iff_ne.1 d;unfold vY;rw[if_pos d];refine⟨rfl,_,⟨x,q,FK,g,h2,fun _=>Iff.rfl⟩,j,?_⟩;rintro y (rfl|c|c);exact .inl<|(f _).2<|.inl rfl;exact .inl<|(f y).2<|.inr<|.inl c;exact w y c;have d:(qY M body.data.toList).2.1=0:=by simpa using d
 refine⟨r,rfl,some x,h2.box.cell0,?_⟩;refine(jQR x q (qY M body.data.toList).1 p h2.know h2.pool z).mono ?_;rintro _ H ⟨E,rfl,n,C,v,k⟩;refine⟨_,rfl,?_⟩;unfold vY;rw[if_neg<|by simpa using d];refine⟨rfl,_,⟨x,q,n,g,h2.given C v k,fun _=>Iff.rfl⟩,j.trans<|v.mono fun y _ c=>(f y).2<|.inr<|.inl c,?_⟩;rintro y (rfl|c|c);exact .inl<|(f _).2<|.inl rfl;exact(k y c).imp (fun h=>(f y).2<|.inr<|.inl h) fun h=>Om;exact w y c
def jQE(who)(E:K.length<=100000)(B:M.length<65536):cl 46 #[vp<|some r,vi who] w0 (XB fun o w'=>o=(zO M K a b who).1/\Tn (jUY r (zO M K a b who).2.1 (zO M K a b who).2.2.1 (zO M K a b who).2.2.2.1 (zO M K a b who).2.2.2.2) F w0 w'):=by
 refine w_K5 _ _ w0 (fun o w'=>o=(zO M K a b who).1/\Tn (jUY r (zO M K a b who).2.1 (zO M K a b who).2.2.1 (zO M K a b who).2.2.2.1 (zO M K a b who).2.2.2.2) F w0 w') ?_;refine⟨fun g=>?_,fun g=>?_⟩;have e:zO M K a b who=(2,M,K,a,b):=by
  unfold zO yG;rw[if_pos (by simp only[Bool.and_eq_true,bne_iff_ne]at g;simpa using g)]
 rw[e];exact⟨rfl,F,h,Ext.refl _,fun y c=>.inl c⟩;have O:who=0\/who=1:=by
  simp only[Bool.and_eq_false_iff,bne_eq_false_iff_eq]at g;exact g
 have⟨x,q,FK,FP,h,f⟩:=h;have⟨sg,I,N,_⟩:=h.know.box;refine⟨r,rfl,some x,h.box.cell0,x,rfl,some q,I,?_⟩;refine(vV q (zT who) w0 h.pool hW.ok).mono ?_;rintro _ D ⟨r1,r2,rfl,G,u,H,p,j⟩;have⟨A,L⟩:=Prod.mk.inj G;have⟨C,_⟩:=jUI hW B (n:=who) (by omega);have h2:=h.grown H p j;refine⟨_,_,rfl,r,rfl,some x,h2.box.cell0,?_⟩;refine(jQR x q r1 D h2.know h2.pool E).mono ?_;rintro _ l ⟨r3,rfl,t,J,z,k⟩;have h3:=h2.given J z k;have P:=p.size;obtain⟨i,rfl,hi⟩:∃i:Nat,who=(i:Int)/\i<2:=⟨who.toNat,by omega,by omega⟩;refine⟨_,rfl,r,rfl,(r.add 1).add i,⟨by omega,by omega,by simp⟩,?_⟩;rw[yP];refine⟨h3.box.canW (by simp;omega),?_⟩;rintro _ rfl;have v:=h3.box.set (1+i)<|vb true;have s:Ext (·=r.block) l (l.setCell (r.add<|1+i)<|vb true):=by
  have:=Ext.setCell (w:=l) (r.add<|1+i)<|vb true;rw[zG]at this;exact this
 unfold zO;rw[if_neg (by unfold yG;rcases(show i=0\/i=1 by omega)with rfl|rfl<;>simp),if_neg (by rw[C];simp),<-A];have m:Box (l.setCell (r.add<|1+i)<|vb true) r [vp<|some x,vb<|a ||((i:Int)==0),vb<|b ||((i:Int)==1)] 52:=by
  rcases(show i=0\/i=1 by omega)with rfl|rfl;simpa using v;simpa using v
 refine⟨rfl,_,⟨x,q,t,u,⟨m,h3.know.ext s fun y c e=>h3.dk<|e▸c,h3.pool.ext s fun y c e=>h3.dp<|e▸c,h3.d,h3.dk,h3.dp⟩,fun _=>Iff.rfl⟩,((p.mono fun y _ c=>(f y).2<|.inr<|.inr c).trans<|z.mono fun y _ c=>(f y).2<|.inr<|.inl c).trans (s.mono fun y _ c=>(f y).2<|.inl c),?_⟩;rintro y (rfl|c|c);exact .inl<|(f _).2<|.inl rfl;exact(k y c).imp (fun h=>(f y).2<|.inr<|.inl h) (fun h=>by omega);exact(j y c).imp (fun h=>(f y).2<|.inr<|.inr h) id
def zEG{H:NP}(sl:Sl)(l:List Op)(U:yU M)(R:∀o∈l,yH o.num)(C:Lst H w0 5 sl (l.map oK))(p:∀y,H y->y<w0.heap.size/\¬ F y)(V:l.length<=1000):
  cl 47 #[vp<|some r,sl.v] w0<|XS fun r1 r2 r3 w'=>SaidK (fun w M F=>jUY r M K a b w F) (tO M K l) F w0 r1 r2 r3 w':=by
 refine w_L5 _ _ w0 (SaidK (fun w M F=>jUY r M K a b w F) (tO M K l) F w0) ?_
 unfold m_L5
 have⟨x,q,FK,FP,h,j⟩:=h
 refine⟨fun _=>True,trivial,?_⟩
 rintro w1 rfl
 have t:Pure w0 w0.drew:=Ext.drew w0
 have h1:=h.ext t fun _ _ h=>h
 have P:=t.size
 have⟨sg,Z,W,L,ks⟩:=h1.know.box
 refine⟨r,rfl,some x,h1.box.cell0,x,rfl,some q,Z,r,rfl,some x,h1.box.cell0,x,rfl,sg,W,?_⟩
 refine(jXC q sg sl K l w0.drew hW h1.pool L.lst (C.pure t) (fun y e=>⟨L.lt e,h1.d y<|ks y e⟩) (fun y e=>⟨Nat.lt_of_lt_of_le (p y e).1 P,fun O=>(p y e).2<|(j y).2<|.inr<|.inr O⟩) V).mono ?_
 rintro _ I ⟨r1,r2,r3,rfl,X,g,Y,D,n⟩
 have⟨N,G⟩:=Prod.mk.inj X
 have⟨u,Q⟩:=Prod.mk.inj G
 have z:=jAM hW K l
 have B:=oL U K R
 have h2:=h1.grown Y D n
 have k:Ext F w0 I:=(Ext.pure t).trans<|D.mono fun y _ e=>(j y).2<|.inr<|.inr e
 have i:∀y,(y=r.block\/FK y\/g y)->F y\/w0.heap.size<=y:=by
  rintro y (rfl|e|e);exact .inl<|(j _).2<|.inl rfl;exact .inl<|(j y).2<|.inr<|.inl e;exact(n y e).imp (fun h=>(j y).2<|.inr<|.inr h) fun h=>Om
 refine⟨_,_,_,rfl,trivial,D.kept fun _ h=>h.elim,fun c=>?_,fun c=>?_⟩
 have c:=bne_iff_ne.1 c
 rw[u]at c
 unfold tO
 rw[if_pos c]
 exact⟨rfl,u,Q,_,⟨x,q,FK,g,h2,fun _=>Iff.rfl⟩,k,i⟩
 have f:r2=0:=by simpa using c
 rw[u]at f
 unfold tO
 rw[if_neg<|by simpa using f,<-N]
 have⟨S,A,_⟩:=h2.know.box
 refine⟨r,rfl,some x,h2.box.cell0,x,rfl,some q,A,?_⟩
 refine(jDJ q r1 I z B h2.pool).mono ?_
 rintro _ J ⟨r4,T,rfl,E,s⟩
 have m:∃F',jUY r (zN M K l).2.2.2 K a b J F'/\Ext F w0 J/\∀y,F' y->F y\/w0.heap.size<=y:=⟨_,⟨x,q,FK,g,h2.ext s.pure fun _ _ h=>h,fun _=>Iff.rfl⟩,k.thenPure s.pure,i⟩
 refine⟨_,_,rfl,s.pure.keptP,fun c=>?_,fun c=>?_⟩
 have c:=bne_iff_ne.1 c
 refine⟨?_,E,rfl,m⟩
 have:(jAN (zN M K l).2.2.2 r1).1=[]:=by
  rw[E]at c;unfold jAN at c|-;split;rename_i hi;rw[if_pos hi]at c;split;rfl;rename_i C;rw[if_neg C]at c;exact absurd rfl c;rfl
 rw[this]
 have f:T=0:=by simpa using c
 exact⟨_,jJA underlying59 underlying5 underlying9 s.rows.lst,rfl,by rw[<-E,f],rfl,m⟩
end
def jGD(l:Letter):(jVP l).data.toList=(qP l).1:=by unfold jVP;simp
section
variable {w0 w:World} {F0 H:NP} {f:Addr} {L:Pool} {G:List Int} {a b:Bool} (T:Tk H (FoeO f L G a b) F0 w0 w)
include T
def _root_.Go.SE.Tk.binds(who c x):cl 13 #[vp<|some f,.agg #[vi who,vu c,vs x]] w (XC fun r w'=>(r=true↔(jEK L G who c x).1≠0)/\Tk H (FoeO f (jEK L G who c x).2 G a b) F0 w0 w'/\Kept H w w'):=by
 have⟨F,g,_,k⟩:=T.one;exact(jEG f who c x w g).mono fun e w' ⟨r,d,hr,t⟩=>⟨r,d,hr,k t⟩
def _root_.Go.SE.Tk.hear(body):cl 23 #[vp<|some f,vs body] w (XC fun r w'=>r=(vY L G body.data.toList).2.2/\Tk H (FoeO f (vY L G body.data.toList).1 (vY L G body.data.toList).2.1 a b) F0 w0 w'/\Kept H w w'):=by
 have⟨F,d,_,k⟩:=T.one;exact(jDD f body w d).mono fun e w' ⟨r,c,hr,t⟩=>⟨r,c,hr,k (A':=FoeO _ _ _ _ _) t⟩
def _root_.Go.SE.Tk.corrupt(who):cl 41 #[vp<|some f,vi who] w (XB fun r w'=>r=(zO L G a b who).1/\Tk H (FoeO f (zO L G a b who).2.1 (zO L G a b who).2.2.1 (zO L G a b who).2.2.2.1 (zO L G a b who).2.2.2.2) F0 w0 w'/\Kept H w w'):=by
 have⟨F,d,_,k⟩:=T.one;exact(jBJ f who w d).mono fun e w' ⟨r,c,hr,t⟩=>⟨r,c,hr,k (A':=FoeO _ _ _ _ _) t⟩
def _root_.Go.SE.Tk.free(who):cl 21 #[vp<|some f,vi who] w (XC fun r w'=>r=jNE L G who/\Tk H (FoeO f L G a b) F0 w0 w'/\Kept H w w'):=by
 have g:=T;have⟨F,d,_⟩:=T;exact(jXE f who w d).mono fun e w' ⟨r,c,hr,E⟩=>⟨r,c,hr,g.pure qB E,E.keptP⟩
end
def jQT(w0):cl 8 #[] w0 (XC fun r w'=>r=true/\Pure w0 w'):=by
 refine w_G w0 (fun r w'=>r=true/\Pure w0 w') ?_;refine(jKL w0).mono ?_;rintro _ J ⟨_,rfl,f,F,rfl,H,P,I⟩;refine⟨some f,rfl,P.keptP,fun h=>(by cases h),fun _=>?_⟩;have N:Tk None (FoeO f [] [] false false) None w0 J:=⟨F,H,P,fun y hy=>⟨.inr<|I y hy,id⟩,fun _ h=>h.elim⟩;clear H I;refine(jCN f23 ⟨De,De⟩ J).mono ?_;rintro _ w2 ⟨_,rfl,rfl,K⟩;refine⟨_,rfl,K.keptP,?_⟩;refine((N.pure qB K).hear<|jVP f23).mono ?_;rintro _ w3 ⟨_,rfl,rfl,v,D⟩;have⟨L,G,e,c,i⟩:=zDR;rw[jGD,e]at v;refine⟨_,rfl,D,fun h=>?_,fun _=>?_⟩;rw[jGD,e]at h;cases h;refine(v.hear ⟨#[120]⟩).mono ?_;rintro _ w4 ⟨_,rfl,rfl,Q,B⟩;have ex:vY L G (ByteArray.mk #[120]).data.toList=(L,G,false):=hear_x L G;rw[ex]at Q;refine⟨_,rfl,B,?_⟩;rw[ex];refine⟨fun h=>(by cases h),fun _=>?_⟩;clear N v D B;refine(Q.binds 1 7 ⟨#[116]⟩).mono ?_;rintro _ w5 ⟨Y,rfl,h5,T5,k5⟩;have⟨k,l5⟩:=c.bound Om 1 7 ⟨#[116]⟩;have t5:Y=true:=h5.2 ((jFW c.wf c.inp Om 1 7 _).2 (by
  rw[c.e];exact(jKP rfl De).2<|.inr ⟨f23,by simp[evs,f23],Kf,_,Sm,.refl⟩))
 subst t5;refine⟨_,rfl,k5,fun _=>?_,fun h=>(by cases h)⟩;generalize (jEK L G 1 7 ⟨#[116]⟩).2=V at *;refine(T5.binds 0 7 ⟨#[116]⟩).mono ?_;rintro _ w6 ⟨r6,rfl,h6,T6,Z⟩;have⟨b,l6⟩:=k.bound Om 0 7 ⟨#[116]⟩;have T:r6=false:=Bool.eq_false_iff.2 (fun h=>by
  have:=(jFW k.wf k.inp Om 0 7 _).1<|h6.1 h;rw[k.e]at this;rcases(jKP rfl De).1 this with⟨_,h|h⟩|⟨l,i,_,hs⟩;exact jST _ h;exact jST _ h;rcases jTO hs with e|e;simp[evs]at i;rcases i with rfl|rfl<;>simp[zR,f23,yX]at e;simp[evs]at i;rcases i with rfl|rfl<;>exact(e _ .refl).1 rfl)
 subst T;refine⟨_,rfl,Z,?_⟩;generalize (jEK V G 0 7 ⟨#[116]⟩).2=a at *;refine⟨fun _=>?_,fun h=>(by cases h)⟩;refine(T6.free 1).mono ?_;rintro _ w7 ⟨_,rfl,rfl,U,k7⟩;refine⟨_,rfl,k7,?_⟩;have S:jNE a G 1=false:=Bool.eq_false_iff.2 (fun h=>by
  have:=(jPK b.wf b.inp 1).1 h;rw[b.e]at this;rcases this.2 with h|h<;>exact jST _ h)
 rw[S];refine⟨fun _=>?_,fun h=>(by cases h)⟩;have⟨E,ml⟩:=jUI b.wf Om (n:=0)<|.inl rfl;have⟨s,R,_⟩:=xD E;have q:=uM b.wf<|zT 0;have⟨X,hX⟩:=yO a<|zT 0;have C:zO a G false false 0=(0,(make a<|zT 0).2.2,addT G (make a<|zT 0).1,true,false):=by
  unfold zO;rw[if_neg De,if_neg (by rw[E];simp),tU s];rfl
 refine(U.corrupt 0).mono ?_;rintro _ w8' ⟨_,rfl,rfl,O,k8⟩;rw[C]at O;refine⟨_,rfl,k8,fun w9 o=>?_⟩;have T9:=O.hst qB o;rw[C];have hs:jGR ((addT G (make a<|zT 0).1).map<|zA (make a<|zT 0).2.2) (jXM 0):=⟨_,mem_map.2 ⟨_,jFF.2<|.inr rfl,rfl⟩,by rw[zDJ q s R];exact .refl⟩;have M:∀g∈addT G (make a<|zT 0).1,inP (make a<|zT 0).2.2 g=true:=fun g c=>by
  rcases jFF.1 c with h|rfl;rw[hX];exact uD<|b.inp g h;exact s
 generalize (make a<|zT 0).2.2=t,(make a<|zT 0).1=kk at *;generalize addT G kk=x at *;refine⟨fun _=>?_,fun h=>(by cases h)⟩;have A:zO t x true false 2=(2,t,x,true,false):=by unfold zO;rw[if_pos De]
 refine(T9.corrupt 2).mono ?_;rintro _ w10 ⟨_,rfl,rfl,d,m⟩;rw[A]at d;refine⟨_,rfl,m,fun w11 j=>?_⟩;rw[A];refine⟨fun _=>?_,fun h=>(by cases h)⟩;refine((d.hst qB j).free 0).mono ?_;rintro _ W ⟨_,rfl,rfl,w,p⟩;refine⟨_,rfl,p,?_⟩;have fr:zBG (x.map<|zA t) 0:=⟨rfl,.inl hs⟩;rw[(jPK q M 0).2 fr];refine⟨fun _=>?_,fun h=>(by cases h)⟩;refine(w.binds 0 9 ⟨#[120]⟩).mono ?_;rintro _ w13 ⟨r,rfl,hr,z,u⟩;exact⟨_,rfl,u,hr.2<|(jFW q M Om 0 9 _).2<|(jKP rfl De).2<|.inl fr,z.fr⟩
def zCU(l:List Op):∀q∈l.map oK,q.length=5:=by intro q a;obtain⟨o,_,rfl⟩:=mem_map.1 a;rfl
def jZA(l:List Op):∀q∈l.map oK,q.all vE=true:=by intro q a;obtain⟨o,_,rfl⟩:=mem_map.1 a;rfl
def zEZ:SlType prog 36 88 5 48:=by
 refine⟨underlying36,⟨t88,_,Kf,(by kernel_rfl:t88.zero=some (.agg #[vi 0,vi 0,vi 0,vu 0,vs ⟨#[]⟩])),Kf,Kf,rfl⟩,Om⟩
def zCT{So:NP}{so:Sl}{ops:List Op}{w d:World}{p1:Addr}(i:Lst So w 5 so (ops.map oK))(l:ops.length<=1000)(n3:New w (.cells #[] 88) p1 d):∃s1 c,(Builtin.append_ #[36,36] 36 #[(Sl.mk (some p1) 0 0).v,so.v]).run prog d=.ok s1.v c/\Rws c 88 5 s1 (ops.map oK)/\Pure w c/\Pure w d/\(∀b,s1.blk b->w.heap.size<=b)/\∀H:NP,(∀b,H b->b<w.heap.size)->Kept H d c:=by
 have f:Pure w d:=Ext.new n3;have k:=n3.at_size;have⟨s1,c,hr,R,X,b4⟩:=(Rws.empty (sz:=5) n3).appendL (P:=prog) (ty:=36) zEZ (i.pure f) (zCU _) (jZA _) (by simp;omega) (by simp[maxLen];omega);have m:∀b,(Sl.mk (some p1) 0 0).blk b->b=p1.block:=fun b ⟨a,g,e⟩=>by cases g;exact e.symm
 refine⟨s1,c,hr,by simpa using R,f.trans' X<|by grind,f,fun b h=>(b4 b h).elim (by grind) fun h=>by have:=f.size;omega,fun H j=>X.kept<|by grind⟩
abbrev Pair(f r:Addr)(L M:Pool)(G K:List Int)(a b:Bool):Own1:=Sep (FoeO f L G a b)<|jUY r M K a b
def Done(h:NP)(w0:World)(r:Addr)(M:Pool)(n:Nat)(o:Option Addr)(w':World):Prop:=
 ∃b d a c e f g,o=some b/\Tn (Pair b r d a c e f g) h w0 w'/\Simq d a c e/\2*a.length<=2*M.length+n
def Sim.few{w f L M G K a b F}(h:jAT w f L G a b F)(s:Simq L M G K):K.length<=65536:=by
 have:=xV h.given.1 h.given.2;have:=h.wf.ok.few;have:=s.g.len;omega
def jQV{S F0}(f r x w0){L M G K a b}(q:ActOk S w0 x)(hS:∀y,S y->y<w0.heap.size/\¬ F0 y)(hn:x.ops.length<=265)(h:Pair f r L M G K a b w0 F0)(g:Simq L M G K)(hM:2*M.length+x.body.size<=120000):
  cl 11 #[vp<|some f,vp<|some r,.agg (tX x).toArray] w0<|XQ fun o ok w'=>ok=true/\Done F0 w0 r M (x.body.size+600) o w':=by
 suffices key:∀Q:Option Addr->Bool->WP,(∀o w',Done F0 w0 r M (x.body.size+600) o w'->Q o true w')->m_J1 (some f) (some r) x.kind x.body x.l.kind x.l.frm x.l.c x.l.text x.l.fake x.who x.so w0 Q from
  w_J1 _ _ _ _ _ _ _ _ _ _ _ w0 _<|key _ fun _ _ h=>⟨rfl,h⟩
 intro Q hQ
 have d:∀{L M:Pool} {G K:List Int} {a b a' b':Bool},Cl1<|Sep (FoeO f L G a b)<|jUY r M K a' b':=qB.sep oW
 have v:=Tk.start h d
 have hbs:x.body.data.toList.length=x.body.size:=Sm
 have i:∀{H w f' L' M' G' K' a' b'},Tk H (Pair f' r L' M' G' K' a' b') F0 w0 w->Simq L' M' G' K'->2*M'.length<=2*M.length+(x.body.size+600)->Q (some f') true w:=fun t s n=>hQ _ _ ⟨_,_,_,_,_,_,_,rfl,t.tn,s,n⟩
 have hK:K.length<=100000:=by
  have⟨_,_,m,_⟩:=h;have:=Sim.few m g;omega
 have u:∀{H w} (y:ByteArray) (Q1:Bool->WP),Tk H (Pair f r L M G K a b) F0 w0 w->2*M.length+y.data.toList.length<=131072->(vY M K y.data.toList).1.length*2<=2*M.length+(x.body.size+600)->(∀w',Tk H (Pair f r (vY L G y.data.toList).1 (vY M K y.data.toList).1 (vY L G y.data.toList).2.1 (vY M K y.data.toList).2.1 a b) F0 w0 w'->Q (some f) true w')->cl 23 #[vp<|some f,vs y] w (fun e p=>∃r1:Bool,e=.returned (vb r1)/\Kept H w p/\cl 45 #[vp<|some r,vs y] p (XC fun r2 I=>Kept H p I/\Q (some f) (r1==r2) I)):=by
  intro H w y _ T j _ hq;have⟨F1,m,_,J⟩:=T.l qB oW;refine(jDD f y w m).mono ?_;rintro _ p ⟨o,rfl,rfl,t⟩;have⟨T4,A⟩:=J (A':=FoeO _ _ _ _ _) t;refine⟨_,rfl,A,?_⟩;have⟨F2,hr,_,D⟩:=T4.r qB oW;refine(jQD r p hr g.wm y hK).mono ?_;rintro _ I ⟨o2,rfl,rfl,O⟩;have⟨T5,kp5⟩:=D O;refine⟨_,rfl,kp5,?_⟩;rw[(g.hear y.data.toList j).1,beq_self_eq_true];exact hq _ T5
 refine⟨fun _=>?_,fun _=>⟨fun _=>?_,fun _=>⟨fun _=>?_,fun _=>⟨fun _=>?_,fun _=>⟨fun _=>?_,fun _=>?_⟩⟩⟩⟩⟩
 .intro H1 F hs
  refine⟨fun _=>True,trivial,?_⟩
  rintro w3 rfl
  have⟨U,s1,n1⟩:=g.hear x.body.data.toList Om
  refine(u x.body (fun _ _=>True) ((v.hst d hs).pure d<|Ext.drew F) Om Om fun w' T=>i T s1 Om).mono ?_
  rintro _ p ⟨r1,e,k,c⟩
  refine⟨r1,e,trivial,k,c.mono ?_⟩
  rintro _ I ⟨r2,e,k,c⟩
  exact⟨r2,e,trivial,k,c⟩
 .intro H1 F hs
  refine(jCN x.l q.num F).mono ?_
  rintro _ w6 ⟨_,rfl,rfl,E6⟩
  refine⟨_,rfl,E6.keptP,?_⟩
  have h96:=jUE x.l
  have hb:=jGD x.l
  have n2:=zDL g.wm K (l:=x.l) q.num Om
  have⟨U,s1,_⟩:=g.hear (qP x.l).1 Om
  refine u (jVP x.l) (fun _ _=>True) ((v.hst d hs).pure d E6) (by rw[hb];omega) (by rw[hb];omega) fun w' T=>?_
  rw[hb]at T
  exact i T s1 Om
 .intro H1 F hs
  refine⟨fun _=>True,trivial,?_⟩
  rintro w3 rfl
  have T3:=(v.hst d hs).pure d<|Ext.drew F
  have⟨F1,m,_,J⟩:=T3.l qB oW
  refine(jBJ f x.who _ m).mono ?_
  rintro _ p ⟨o,rfl,rfl,t⟩
  have⟨T4,A⟩:=J (A':=FoeO _ _ _ _ _) t
  refine⟨_,rfl,trivial,A,?_⟩
  refine(p_N1 _ p).mono ?_
  rintro _ I ⟨rfl,E5⟩
  refine⟨_,rfl,trivial,E5.keptP,?_⟩
  have T5:=T4.pure d E5
  have⟨F2,hr,_,D⟩:=T5.r qB oW
  refine(jQE r I hr g.wm x.who hK Om).mono ?_
  rintro _ w6 ⟨o2,rfl,rfl,O⟩
  have⟨T6,kp6⟩:=D O
  refine⟨_,rfl,trivial,kp6,?_⟩
  have⟨U,s1,e2,n1⟩:=g.corrupt a b x.who Om
  have e3:(s_N1 (zO L G a b x.who).1==(zO M K a b x.who).1)=true:=beq_iff_eq.2 U
  rw[e3]
  rw[e2]at T6
  exact i T6 s1 Om
 .intro H2 P hs p2 w14 h14
  have T14:=(v.hst d hs).pure d<|Ext.new h14
  have E13:=hs.first
  have z13:=E13.size
  have lo:∀{w},Ext F0 w0 w->Lst S w 5 x.so (x.ops.map oK):=fun E=>q.ops.ext E fun y j=>(hS y j).2
  have⟨s1,V,hr,R,E15,_,hnb,Z⟩:=zCT (q.ops.pure E13) Om h14
  refine⟨s1,V,hr,Z H2 fun y j=>hs.lt y j,?_⟩
  have⟨F1,m,d1,J⟩:=(v.hst d hs).lP qB oW E15
  have⟨U,e2,e3,s1',n1⟩:=g.say q.nums Om
  refine(jQW f s1 x.ops V m (oL g.nl G q.nums) R.lst (fun y j=>⟨R.lt j,fun hF=>?_⟩) Om).mono ?_
  .have:=hnb y j;have:=d1 y hF;omega
  rintro _ w16 ⟨_,_,_,rfl,rfl,rfl,rfl,t⟩
  have⟨z,kp16⟩:=J (A':=FoeO _ _ _ _ _) t
  refine⟨_,_,_,rfl,kp16,?_⟩
  have⟨F2,hr2,d2,D⟩:=z.r qB oW
  refine(zEG r w16 hr2 g.wm x.so x.ops g.nm q.nums (lo z.fr) (fun y j=>⟨?_,fun hF=>?_⟩) Om).mono ?_
  .have:=(hS y j).1;have:=z.fr.size;omega
  .have:=(hS y j).1
   rcases(d2 y hF).1 with h|h
   .exact(hS y j).2 h
   .omega
  rintro _ w17 ⟨_,_,_,rfl,rfl,rfl,rfl,O⟩
  have⟨X,kp17⟩:=D O
  refine⟨_,_,_,rfl,kp17,?_⟩
  rw[U,e2,e3]
  have n2:(tO M K x.ops).2.2.2.length<=M.length+256:=Om
  refine⟨fun hc=>?_,fun _ H7 w28 h28=>?_⟩
  .simp only[Bool.and_eq_true,beq_iff_eq]at hc
   have⟨a1,a2,a3,a4⟩:=g.echo q.nums Om hc.2
   refine Br.t Sm fun H4 w20 h20=>?_
   have T20:=X.hst d h20
   have⟨F3,B,_,k3⟩:=T20.l qB oW
   refine(jDD f ⟨(tO M K x.ops).1.toArray⟩ w20 B).mono ?_
   rintro _ w23 ⟨_,rfl,rfl,t⟩
   have⟨T23,kp23⟩:=k3 (A':=FoeO _ _ _ _ _) t
   refine⟨_,rfl,kp23,?_⟩
   refine Br.t a1 ?_
   have⟨F4,hr4,_,k4⟩:=T23.r qB oW
   refine(jQD r w23 hr4 s1'.wm ⟨(tO M K x.ops).1.toArray⟩ hK).mono ?_
   rintro _ w22 ⟨_,rfl,rfl,t⟩
   have⟨T22,N⟩:=k4 t
   refine⟨_,rfl,N,?_⟩
   rw[a2]
   exact i T22 a3 Sy
  .have T28:=X.hst d h28
   simpa using i T28 s1' Om
 .intro H2 P hs
  have T13:=v.hst d hs
  have⟨F1,m,d1,J⟩:=T13.l qB oW
  have hfG:=m.given.1
  refine(jXF f P m g.nl).mono ?_
  rintro _ w33 ⟨_,rfl,c,Fc,rfl,hc,E33,hn33⟩
  have T33:=T13.new d (C:=FoeO c _ _ _ _) hc E33 hn33
  refine⟨_,rfl,E33.keptP,fun h=>(by cases h),fun _=>?_⟩
  have⟨F2,hs2,_,D⟩:=T33.r qB d
  have⟨F3,B,_,k3⟩:=hs2.one oW<|d.lt hs2
  refine(jBJ f 0 w33 B).mono ?_
  rintro _ w34 ⟨_,rfl,_,t⟩
  have⟨T34,kp34⟩:=D<|k3 (A':=FoeO _ _ _ _ _) t
  refine⟨_,rfl,kp34,?_⟩
  refine(jCN ⟨6,0,77,⟨#[122,122]⟩,false⟩ ⟨De,De⟩ w34).mono ?_
  rintro _ w35 ⟨_,rfl,rfl,W⟩
  refine⟨_,rfl,W.keptP,?_⟩
  have T35:=T34.pure (qB.sep d) W
  have⟨F4,Y,_,k4⟩:=T35.r qB d
  have⟨F5,hf5,_,k5⟩:=Y.one oW<|d.lt Y
  refine(jDD f _ w35 hf5).mono ?_
  rintro _ w36 ⟨_,rfl,_,t⟩
  have⟨T36,kp36⟩:=k4<|k5 (A':=FoeO _ _ _ _ _) t
  refine⟨_,rfl,kp36,?_⟩
  exact i (T36.sub Sep.out) (g.copied hfG) Om
 .intro H1 F hs
  exact i (v.hst d hs) g Om
def St(ls:List Act)(r:Addr)(w0:World)(n:Nat)(H:NP)(f:Addr)(w:World):Prop:=
 ∃L M G K a b,Tk H (Pair f r L M G K a b) None w0 w/\Simq L M G K/\2*M.length<=uO (ls.take n)+n*600
def zHJ{f r L M G K a b}:Cl1 (Pair f r L M G K a b):=qB.sep oW
section
variable {S:NP} {ls:List Act} {r f:Addr} {w0 w:World} {n:Nat} {H:NP}
def St.hst{H' w'}(h:St ls r w0 n H f w)(hs:Hst w0 H w H' w'):St ls r w0 n H' f w':=by
 have⟨L,M,G,K,a,b,T,r⟩:=h;exact⟨L,M,G,K,a,b,T.hst zHJ hs,r⟩
def jXI{j}(a:j<ls.length):uO (ls.take<|j+1)=uO (ls.take j)+ls[j].body.size:=by
 rw[take_succ_eq_append_getElem a];simp only[uO,map_append,sum_append,map_cons,map_nil,sum_cons,sum_nil,Nat.add_zero]
def jUW(l):∀(j:Nat),uO (l.take j)<=uO l:=fun j=>by
 have h:uO l=uO (l.take j)+uO (l.drop j):=by
  unfold uO;rw[<-sum_append,<-map_append,take_append_drop]
 omega
def zBW{a b c d n}(h:a<=b+(c+600))(h2:b<=d+n*600):a<=d+c+(n+1)*600:=Om
def zAV(j:∀x∈ls,ActOk S w0 x)(hS:∀y,S y->y<w0.heap.size)(hs:Small ls)(g:n<ls.length)(h:St ls r w0 n H f w):
  cl 11 #[vp<|some f,vp<|some r,.agg (tX ls[n]).toArray] w<|XQ fun o ok w'=>Kept H w w'/\ok=true/\∃e,o=some e/\St ls r w0 (n+1) H e w':=by
 have⟨L,M,G,K,a,b,T,l,q⟩:=h
 have D:=j _<|getElem_mem g
 have u:=hs.ops _<|getElem_mem g
 have s:=jXI g
 have h1:=jUW ls<|n+1
 have h2:=hs.bytes;have h3:=hs.few
 generalize ls[n]=x at *
 have⟨F,v,d,k⟩:=T.one
 have z:=T.fr.size
 refine(jQV (S:=S) f r x w (D.ext T.fr fun _ _ h=>h) (fun y p=>⟨Nat.lt_of_lt_of_le (hS y p) z,fun B=>?_⟩) u v l Om).mono ?_
 have:=hS y p
 rcases(d y B).1 with h|h
 exact h
 omega
 rintro _ w' ⟨o,ok,rfl,rfl,e,C,m,I,J,E,N,rfl,t,s',i⟩
 have⟨A,kp⟩:=k t
 have c:2*m.length<=uO (ls.take<|n+1)+(n+1)*600:=by rw[s];exact zBW i q
 exact⟨_,_,rfl,kp,rfl,e,rfl,C,m,I,J,E,N,A,s',c⟩
def St.start{w3 w4 w5 F F2}(E:Pure w0 w3)(d:∀y,H y->y<w3.heap.size)(g:jAT w4 f [] [] false false F)(c:Pure w3 w4)(nf:∀y,F y->w3.heap.size<=y)(hr:jUY r [] [] false false w5 F2)(a:Pure w4 w5)(e:∀y,F2 y->w4.heap.size<=y):St ls r w0 0 H f w5:=by
 have z:=E.size;have i:=c.size;have j:=a.size;refine⟨[],[],[],[],false,false,⟨fun y=>F y\/F2 y,⟨F,F2,g.pure a,hr,fun y h1 h2=>?_,fun _=>Iff.rfl⟩,(E.trans c).trans a,fun y b=>?_,fun y b=>Oh<|d y b⟩,Simq.nil,Sm⟩;have:=g.lt h1;have:=e y h2;omega;have:w3.heap.size<=y:=b.elim (nf y) fun h=>Oh<|e y h;exact⟨.inr Om,fun hh=>Oh<|d y hh⟩
def St.pure(h:St ls r w0 n H f w):Pure w0 w:=by
 have⟨_,_,_,_,_,_,T,_⟩:=h;exact T.fr
end
end Go.Proofs
end
section
open Go Go.SE List
namespace Go.Proofs
attribute [local irreducible] wpL wpX opE wpE Calls
attribute [local irreducible] adv W WV WR yN pv lpC jBQ ctR ka rgP dgo nwV nhI hvl had hcs hpt stV stC kp yM uK qM bn ub
end Go.Proofs
end
section
open Go Go.SE List
namespace Go.Proofs
def KnowOk.nil(L):KnowOk L [] []:=⟨⟨by simp[zH],by simp[zH],fun i hi=>by simp at hi⟩,by simp[zH],Sm,Sm⟩
end Go.Proofs
end
section
open Go Go.SE List
namespace Go.Proofs
attribute [local irreducible] Calls
section
variable {w0 w w':World} {H H':NP} {s p k q:Addr} {sg:Sl} {L1 L2 L':Pool} {GK G G':List Int} {S S':List Way} {FP FK FR F':NP}
end
end Go.Proofs
end
section
open Go Go.SE List
namespace Go.Proofs
end Go.Proofs
namespace Go.Proofs
attribute [local irreducible] Calls
end Go.Proofs
end
section
open Go Go.SE List
namespace Go.Proofs
attribute [local irreducible] Calls
end Go.Proofs
end
section
namespace Go.Proofs
def jWE{L}(d:Wf L){t}(ht:inP L t=true):make L (nodeOf L t)=(t,0,L):=by
 have⟨h1,h2,h3,h,m,k,j⟩:=d.node ht;obtain⟨i,hi,rfl⟩:=jCA ht;have hs:=d.ok.sizeOf<|(i:Int)+1;have l:=d.ok.depthOf<|(i:Int)+1;have g:find L (nodeOf L<|(i:Int)+1)=some i:=by rw[qJ hi];exact Go.Proofs.jNG d.ok<|List.getElem?_eq_getElem hi
 have c:((zB<|nodeOf L<|(i:Int)+1).any fun t=>!inP L t)=false:=Gd;have e:((decide ((shapeOf (nodeOf L<|(i:Int)+1).kind).kids<1)&&(nodeOf L<|(i:Int)+1).a !=0) ||(decide ((shapeOf (nodeOf L<|(i:Int)+1).kind).kids<2)&&(nodeOf L<|(i:Int)+1).b !=0))=false:=Gd;generalize nodeOf L ((i:Int)+1)=n at *;have f:(check L n).2.2=0:=by
  unfold check;simp only;rw[if_neg<|by simpa using h1,if_neg (by rw[e];simp),if_neg<|by simpa using h,if_neg (by rw[c];simp),if_neg Om]
 unfold make;simp only;rw[if_neg<|by simpa using f,g]
def jCW{L}(h:Wf L){t}(ht:inP L t=true):(jHN (nodeOf L t).kind=true\/(nodeOf L t).kind=4\/(nodeOf L t).kind=5\/qO (nodeOf L t).kind=true) ->
  ((nodeOf L t).kind=1/\nodeOf L t=⟨1,(nodeOf L t).frm,0,0,⟨#[]⟩,0,0⟩)\/((nodeOf L t).kind=2/\nodeOf L t=⟨2,0,0,(nodeOf L t).num,⟨#[]⟩,0,0⟩)\/((nodeOf L t).kind=3/\nodeOf L t=⟨3,0,0,0,(nodeOf L t).text,0,0⟩) \/
  ((nodeOf L t).kind=4/\nodeOf L t=⟨4,0,0,0,⟨#[]⟩,(nodeOf L t).a,(nodeOf L t).b⟩)\/((nodeOf L t).kind=5/\nodeOf L t=⟨5,0,0,0,⟨#[]⟩,(nodeOf L t).a,0⟩)\/((nodeOf L t).kind=7/\nodeOf L t=⟨7,(nodeOf L t).frm,0,0,⟨#[]⟩,(nodeOf L t).a,0⟩) \/
  ((nodeOf L t).kind=8/\nodeOf L t=⟨8,(nodeOf L t).frm,(nodeOf L t).to,0,⟨#[]⟩,(nodeOf L t).a,0⟩/\oU (IntKind.u64.wrap (nodeOf L t).to)=(nodeOf L t).to) \/
  ((nodeOf L t).kind=9/\nodeOf L t=⟨9,(nodeOf L t).frm,(nodeOf L t).to,0,⟨#[]⟩,(nodeOf L t).a,0⟩/\oU (IntKind.u64.wrap (nodeOf L t).frm)=(nodeOf L t).frm):=by
 have⟨h1,h2,h3,c,_⟩:=h.node ht
 generalize nodeOf L t=n at *
 have⟨k,f,to,u,x,a,b⟩:=n
 simp only at h1 h2 h3 c|-
 have g:∀m:Int,uY m=true->oU (IntKind.u64.wrap m)=m:=fun m hm=>by
  simp only[uY,Bool.and_eq_true,decide_eq_true_eq]at hm;have:IntKind.u64.wrap m=m:=by simp[IntKind.wrap,IntKind.bits,IntKind.signed];omega
  unfold oU;rw[this,decide_eq_false Om];exact IntWalk.i64_in m Om
 intro e
 have d:k=1\/k=2\/k=3\/k=4\/k=5\/k=7\/k=8\/k=9:=by
  simp only[jHN,qO,Bool.or_eq_true,beq_iff_eq]at e;omega
 rcases d with rfl|rfl|rfl|rfl|rfl|rfl|rfl|rfl
 left;simp[zJ,shapeOf,isKind]at h1;simp[shapeOf]at h2 h3;simp_all
 right;left;simp[zJ,shapeOf,isKind]at h1;simp[shapeOf]at h2 h3;simp_all
 right;right;left;simp[zJ,shapeOf,isKind]at h1;simp[shapeOf]at h2 h3;simp_all
 right;right;right;left;simp[zJ,shapeOf,isKind]at h1;simp_all
 right;right;right;right;left;simp[zJ,shapeOf,isKind]at h1;simp[shapeOf]at h2 h3;simp_all
 right;right;right;right;right;left;simp[zJ,shapeOf,isKind]at h1;simp[shapeOf]at h2 h3;simp_all
 right;right;right;right;right;right;left
 simp[zJ,shapeOf,isKind]at h1;simp[shapeOf]at h2 h3
 have i:uY to=true:=by
  unfold zM at c;simp only[shapeOf]at c;cases hh:uY to with
  |true=>rfl
  |false=>simp[hh]at c
 simp_all
 right;right;right;right;right;right;right
 simp[zJ,shapeOf,isKind]at h1;simp[shapeOf]at h2 h3
 have i:uY f=true:=by
  unfold zM at c;simp only[shapeOf]at c;cases hh:uY f with
  |true=>rfl
  |false=>simp[hh]at c
 simp_all
def jFY(L:Pool)(G:List Int)(s:Step)(o:Op):Prop:=
 if s.rule=0 then o.code=0/\(s.t∈G->atM G o.a=some s.t)
 else if s.rule=1 then o=⟨6,s.a,0,0,⟨#[]⟩⟩
 else if s.rule=2 then o=⟨7,s.a,0,0,⟨#[]⟩⟩
 else if s.rule=3 then o=⟨8,s.a,0,0,⟨#[]⟩⟩
 else if(nodeOf L s.t).kind=1 then o=⟨1,(nodeOf L s.t).frm,0,0,⟨#[]⟩⟩
 else if(nodeOf L s.t).kind=2 then o=⟨2,0,0,(nodeOf L s.t).num,⟨#[]⟩⟩
 else if(nodeOf L s.t).kind=3 then o=⟨3,0,0,0,(nodeOf L s.t).text⟩
 else if(nodeOf L s.t).kind=4 then o=⟨4,s.a,s.b,0,⟨#[]⟩⟩
 else if(nodeOf L s.t).kind=5 then o=⟨5,s.a,0,0,⟨#[]⟩⟩
 else if(nodeOf L s.t).kind=7 then o=⟨9,s.a,s.b,0,⟨#[]⟩⟩
 else if(nodeOf L s.t).kind=8 then o=⟨10,s.a,s.b,IntKind.u64.wrap (nodeOf L s.t).to,⟨#[]⟩⟩
 else o=⟨11,s.a,s.b,IntKind.u64.wrap (nodeOf L s.t).frm,⟨#[]⟩⟩
def jDG{pre v}(h:jKW pre.length v=true):atM (pre.map Step.t) v=some (tAt pre v):=by
 simp only[jKW,Bool.and_eq_true,decide_eq_true_eq]at h;have a:v.toNat<pre.length:=Om;rw[jBO h.1<|by simpa using a];simp[tAt,a]
def jRS{L}(w:Wf L){G pre s o}(i:fol L G pre s=true)(f:jFY L G s o):yD L G (pre.map Step.t) o=(s.t,0,L):=by
 unfold fol at i;by_cases j:inP L s.t=false
 .grind
 rw[if_neg j]at i;have j:inP L s.t=true:=by simpa using j
 unfold jFY at f;by_cases F:s.rule=0
 .rw[if_pos F]at i f;simp only[Bool.and_eq_true,decide_eq_true_eq]at i;rw[zDY f.1];unfold uN;rw[f.2 i.2]
 rw[if_neg F]at i f;by_cases l:s.rule=1\/s.rule=2\/s.rule=3
 .rw[if_pos l]at i;simp only[Bool.and_eq_true,beq_iff_eq]at i;have⟨⟨u,_⟩,g⟩:=i;have B:=jDG u;have r:nodeAt L (pre.map Step.t) s.a=nodeOf L (tAt pre s.a):=by unfold nodeAt;rw[B]
  unfold jNR at g;rcases l with h|h|h
  .rw[if_pos h]at f g;subst f;simp only[Bool.and_eq_true,beq_iff_eq]at g;rw[jZX rfl];unfold yJ;simp only;rw[r,if_pos g.1,g.2];rfl
  .rw[if_neg Om,if_pos h]at f g;subst f;simp only[Bool.and_eq_true,beq_iff_eq]at g;rw[jZW rfl];unfold yJ;simp only;rw[r,if_pos g.1,g.2];rfl
  .rw[if_neg Om,if_neg Om]at f g;rw[if_pos h]at f;subst f;simp only[Bool.and_eq_true,beq_iff_eq]at g;rw[jWS rfl];unfold xA;simp only;rw[r,if_pos g.1,g.2]
 rw[if_neg l]at i;rw[if_neg Om,if_neg Om,if_neg Om]at f;have k:=jWE w j;by_cases E:s.rule=4
 .rw[if_pos E]at i;simp only[Bool.and_eq_true,beq_iff_eq]at i;have q:=i.2;rcases jCW w j (.inl q)with⟨e,d⟩|⟨e,d⟩|⟨e,d⟩|⟨e,d⟩|⟨e,d⟩|⟨e,d⟩|⟨e,d,_⟩|⟨e,d,_⟩
  .rw[if_pos e]at f;subst f;rw[zDX rfl];simp only;rw[<-d];exact k
  .rw[if_neg Om,if_pos e]at f;subst f;rw[zDW rfl];simp only;rw[<-d];exact k
  .rw[if_neg Om,if_neg Om,if_pos e]at f;subst f;rw[zDV rfl];simp only;rw[<-d];exact k
  all_goals rw[e]at q;cases q
 rw[if_neg E]at i;by_cases H:s.rule=5
 .rw[if_pos H]at i;by_cases x:(nodeOf L s.t).kind=4
  .rw[if_pos x]at i;simp only[Bool.and_eq_true,beq_iff_eq]at i;have⟨⟨⟨u,z⟩,v⟩,C⟩:=i;rw[if_neg Om,if_neg Om,if_neg Om,if_pos x]at f;subst f;rw[jWT rfl];unfold jBL;simp only;rw[jDG u];simp only;rw[jDG z];simp only;rcases jCW w j (.inr<|.inl x)with⟨e,d⟩|⟨e,d⟩|⟨e,d⟩|⟨e,d⟩|⟨e,d⟩|⟨e,d⟩|⟨e,d,_⟩|⟨e,d,_⟩<;>first|omega|(rw[v,C,<-d];exact k)
  rw[if_neg x]at i;by_cases y:(nodeOf L s.t).kind=5
  .rw[if_pos y]at i;simp only[Bool.and_eq_true,beq_iff_eq]at i;have⟨⟨u,_⟩,v⟩:=i;rw[if_neg Om,if_neg Om,if_neg Om,if_neg Om,if_pos y]at f;subst f;rw[jZY rfl];unfold jCB;simp only;rw[jDG u];simp only;rcases jCW w j (.inr<|.inr<|.inl y)with⟨e,d⟩|⟨e,d⟩|⟨e,d⟩|⟨e,d⟩|⟨e,d⟩|⟨e,d⟩|⟨e,d,_⟩|⟨e,d,_⟩<;>first|omega|(rw[v,<-d];exact k)
  rw[if_neg y]at i;by_cases n:qO (nodeOf L s.t).kind=true
  .rw[if_pos n]at i;simp only[Bool.and_eq_true,beq_iff_eq]at i;have⟨⟨⟨⟨u,z⟩,v⟩,C⟩,ef⟩:=i;have A:nodeAt L (pre.map Step.t) s.b=nodeOf L (tAt pre s.b):=by unfold nodeAt;rw[jDG z]
   have p:∀(c:Int) (m:Int) (mk:Int->Int->Node),vM L (pre.map Step.t) ⟨c,s.a,s.b,m,⟨#[]⟩⟩ mk=make L (mk (xM<|nodeOf L s.t) (nodeOf L s.t).a):=fun c m mk=>by
    unfold vM;simp only;rw[jDG u];simp only;rw[A,if_pos C,ef,v]
   rcases jCW w j (.inr<|.inr<|.inr n)with⟨e,d⟩|⟨e,d⟩|⟨e,d⟩|⟨e,d⟩|⟨e,d⟩|⟨e,d⟩|⟨e,d,D⟩|⟨e,d,D⟩
   .rw[e]at n;cases n
   .rw[e]at n;cases n
   .rw[e]at n;cases n
   .omega
   .omega
   .rw[if_neg Om,if_neg Om,if_neg Om,if_neg Om,if_neg Om,if_pos e]at f;subst f;rw[jWR rfl,p];have:xM (nodeOf L s.t)=(nodeOf L s.t).frm:=by unfold xM;rw[if_neg Om]
    rw[this,<-d];exact k
   .rw[if_neg Om,if_neg Om,if_neg Om,if_neg Om,if_neg Om,if_neg Om,if_pos e]at f;subst f;rw[jLT rfl,p];have:xM (nodeOf L s.t)=(nodeOf L s.t).frm:=by unfold xM;rw[if_neg Om]
    simp only;rw[this,D,<-d];exact k
   .rw[if_neg Om,if_neg Om,if_neg Om,if_neg Om,if_neg Om,if_neg Om,if_neg Om]at f;subst f;rw[jLS rfl,p];have:xM (nodeOf L s.t)=(nodeOf L s.t).to:=by unfold xM;rw[if_pos e]
    simp only;rw[this,D,<-d];exact k
  .grind
 .grind
def jYJ{L:Pool}(b:Wf L){G:List Int}{l:List Step}{ops:List Op}(f:ops.length=l.length)(e:∀i (h:i<l.length),jFY L G l[i]<|ops[i]' Om)(c:∀i (hi:i<l.length),fol L G (l.take i) l[i]=true):
  ∀n,n<=l.length->zZ L G [] ops=zZ L G ((l.take n).map Step.t) (ops.drop n):=by
 intro n
 induction n with
 |zero=>intro _;simp
 |succ n d =>
  intro g
  have a:n<l.length:=Om
  rw[d Om,jDU (by omega:n<ops.length),jRS b (c n a)<|e n a]
  simp only[ne_eq,not_true_eq_false,if_false]
  rw[List.take_succ_eq_append_getElem a,List.map_append];rfl
def jVM{L}(f:Wf L){G:List Int}{l ops}(b:ops.length=l.length)(j:∀i (h:i<l.length),jFY L G l[i]<|ops[i]' Om)(g:∀i (hi:i<l.length),fol L G (l.take i) l[i]=true)(d:l.length<=256)(a:l≠[]){t:Int}(ht:tAt l ((l.length:Int) - 1)=t):
  zN L G ops=(t,0,0,L):=by
 have hr:=jYJ f b j g l.length<|Nat.le_refl _
 rw[List.take_length,<-b,List.drop_length]at hr
 have hr:zZ L G [] ops=(l.map Step.t,0,L):=hr
 have c:0<l.length:=List.length_pos_iff.2 a
 unfold zN
 rw[if_neg Om,if_neg Om,hr]
 simp only[ne_eq,not_true_eq_false,if_false]
 have e:((l.length:Int)-1).toNat=l.length-1:=Om
 unfold tAt at ht
 rw[e]at ht
 rw[List.getLast?_eq_getElem?,List.length_map,List.getElem?_map,ht]
end Go.Proofs
end
section
open Go Go.SE List
namespace Go.Proofs
open Tryz
attribute [local irreducible] Calls
def jSX{S}(s ts v w0)(hs:Lst S w0 1 s (tmr ts))(l:ts.length<=1000000):
  cl 162 #[s.v,vi v] w0<|XB fun r w'=>(v∈ts->atM ts r=some v)/\w'=w0:=by
 refine w_G1 _ _ w0 _ ?_
 unfold m_G1
 have g:s.len=ts.length:=by rw[hs.len,zY]
 refine⟨fun i w'=>w'=w0/\∃j:Nat,i=j/\j<=ts.length/\v∉ts.take j,fun i _=>((ts.length:Int)-i).toNat,⟨rfl,0,rfl,Nat.zero_le _,Sm⟩,?_⟩
 rintro _ _ ⟨rfl,j,rfl,m,k⟩
 refine⟨fun h=>?_,fun h=>?_⟩
 have b:=vR g h
 have⟨a,d,_,f⟩:=uQ hs b
 have e:ts.take (j+1)=ts.take j++[ts[j]]:=take_succ_eq_append_getElem b
 refine⟨a,d,_,f,fun h=>⟨fun _=>?_,rfl⟩,fun h=>?_⟩
 have:v=ts[j]:=by simpa using h
 rw[this];exact jBO Om (by simpa using b)
 rw[zQ b Om]
 refine⟨⟨rfl,j+1,rfl,b,?_⟩,uR b⟩
 rw[e,mem_append,mem_singleton]
 rintro(c|c)
 exact k c
 simp[c]at h
 grind
def stv(s:Step):Value:=.agg #[vi s.rule,vi s.a,vi s.b,vi s.t]
def jNL{Sg}(p sg G s w0){L F}(C:zD w0 p L F)(j:Ok L)(B:Lst Sg w0 1 sg (tmr G))(y:G.length<=1000000):
  cl 106 #[vp<|some p,sg.v,stv s] w0<|fun e w'=>∃o:Op,e=.returned (opv o)/\(jFY L G s o/\Pure w0 w'):=by
 have⟨g,sa,sb,st⟩:=s
 suffices key:∀K:Int->Int->Int->Int->ByteArray->WP,(∀c a b n x w',jFY L G ⟨g,sa,sb,st⟩ ⟨c,a,b,n,x⟩->Pure w0 w'->K c a b n x w')->m_U2 (some p) sg g sa sb st w0 K by
  refine(w_U2 _ _ g sa sb st w0 (fun c a b n x w'=>jFY L G ⟨g,sa,sb,st⟩ ⟨c,a,b,n,x⟩/\Pure w0 w')<|key _ Gd).mono ?_;rintro _ w' ⟨c,a,b,n,x,rfl,h⟩;exact⟨⟨c,a,b,n,x⟩,rfl,h⟩
 intro K d
 intro O z l
 have q:=l.first
 refine(jDK p st z (C.pure q) j).mono ?_
 rintro _ R ⟨k,f,U,u,x,a,b,r,rfl,⟨A,_⟩,t⟩
 refine⟨_,_,_,_,_,_,_,_,rfl,t.keptP,?_⟩
 have E:=q.trans t
 unfold jFY at d
 simp only at d
 rw[<-A]at d
 simp only at d
 refine⟨fun h=>fun H w hs=>?_,fun h=>?_⟩
 .have h:g=0:=by simpa using h
  refine(jSX sg G st w (B.pure<|E.hst hs) y).mono ?_
  rintro _ _ ⟨r2,rfl,m,rfl⟩
  refine⟨_,rfl,Kept.refl _,fun Q i=>d _ _ _ _ _ _ ?_<|(E.hst hs).trans' i.ext fun b I hh=>Oh<|i.old b hh⟩
  rw[if_pos h];exact⟨rfl,m⟩
 have J:g≠0:=by simpa using h
 refine⟨fun h=>fun H w hs=>d _ _ _ _ _ _ ?_<|E.hst hs,fun h=>?_⟩
 .grind
 have n1:g≠1:=by simpa using h
 refine⟨fun h=>fun H w hs=>d _ _ _ _ _ _ ?_<|E.hst hs,fun h=>?_⟩
 .grind
 have n2:g≠2:=by simpa using h
 refine⟨fun h=>fun H w hs=>d _ _ _ _ _ _ ?_<|E.hst hs,fun h=>?_⟩
 .grind
 have n3:g≠3:=by simpa using h
 refine⟨fun h=>fun H w hs=>d _ _ _ _ _ _ ?_<|E.hst hs,fun h=>?_⟩
 .grind
 have N:k≠1:=by simpa using h
 refine⟨fun h=>fun H w hs=>d _ _ _ _ _ _ ?_<|E.hst hs,fun h=>?_⟩
 .grind
 have D:k≠2:=by simpa using h
 refine⟨fun h=>fun H w hs=>d _ _ _ _ _ _ ?_<|E.hst hs,fun h=>?_⟩
 .grind
 have P:k≠3:=by simpa using h
 refine⟨fun h=>fun H w hs=>d _ _ _ _ _ _ ?_<|E.hst hs,fun h=>?_⟩
 .grind
 have S:k≠4:=by simpa using h
 refine⟨fun h=>fun H w hs=>d _ _ _ _ _ _ ?_<|E.hst hs,fun h=>?_⟩
 .grind
 have T:k≠5:=by simpa using h
 refine⟨fun h=>fun H w hs=>d _ _ _ _ _ _ ?_<|E.hst hs,fun h=>?_⟩
 .grind
 have M:k≠7:=by simpa using h
 refine⟨fun h=>fun H w hs=>d _ _ _ _ _ _ ?_<|E.hst hs,fun h=>fun H w hs=>d _ _ _ _ _ _ ?_<|E.hst hs⟩
 .grind
 .grind
structure IsPrf(L:Pool)(G:List Int)(S:List Way)(t:Int)(l:List Step):Prop where
 ne:l≠[]
 fol:∀i (hi:i<l.length),fol L G (l.take i) l[i]=true
 nd:(l.map Step.t).Nodup
 last:tAt l ((l.length:Int)-1)=t
 mem:∀x,x∈l.map Step.t↔Dp L S t x
structure ForK(a:World)(L:Pool)(G:List Int)(S:List Way)(t:Int)(r:Sl)(ok:Bool)(w':World):Prop where
 pure:Pure a w'
 no:ok=false->r=Sl.nil/\(¬Drv L (fun x=>x∈zH S) t\/∃l,IsPrf L G S t l/\256<l.length)
 yes:ok=true->Drv L (fun x=>x∈zH S) t/\∃(l:List Step) (ops:List Op),IsPrf L G S t l/\Rws w' 88 5 r (ops.map oK)/\(∀b,r.blk b->a.heap.size<=b)/\ops.length=l.length/\l.length<=256/\zN L G ops=(t,0,0,L)
def jQY(k p t w0){L G S F FP}(e:Wf L)(b:KnowOk L G S)(h:qC w0 k p G S F)(c:zD w0 p L FP):
  cl 105 #[vp<|some k,vi t] w0<|XF fun r ok w'=>∃l:List Step,RetO w0 173 4 (l.map jOE) r w'/\(ok=true↔Drv L (fun x=>x∈zH S) t)/\(ok=true->IsPrf L G S t l):=by
 refine(jHH k p t w0 e b h c).mono ?_
 rintro _ w' ⟨r,ok,rfl,l,h1,h2,_,a,d⟩
 exact⟨r,ok,rfl,l,h1,h2,fun h=>⟨(a h).1,(a h).2.1,(a h).2.2.1,(a h).2.2.2.1,d h⟩⟩
def jQO(p k t w0){L G S F FK}(X:Wf L)(hk:KnowOk L G S)(hP:zD w0 p L F)(hK:qC w0 k p G S FK)(hG:G.length<=1000000):
  cl 50 #[vp<|some p,vp<|some k,vi t] w0<|XF fun r ok w'=>ForK w0 L G S t r ok w':=by
 refine w_E2 _ _ _ w0 _ ?_
 unfold m_E2
 have K:∀b,¬Sl.nil.blk b:=fun b d=>by have⟨a,h,_⟩:=d;cases h
 refine Br.f rfl fun H1 w1 D=>?_
 have E1:=D.first
 refine(jQY k p t w1 X hk (hK.pure E1)<|hP.pure E1).mono ?_
 rintro _ w2 ⟨r1,J,rfl,l,n,hd,U⟩
 refine⟨r1,J,rfl,n.kept,?_⟩
 have C:r1.len=l.length:=by rw[n.rows.len];simp
 have V:=E1.trans n.pure
 refine⟨fun h=>fun H2 w3 e=>⟨V.hst e,fun _=>⟨rfl,?_⟩,fun h=>by cases h⟩,fun h=>fun H2 w3 e=>?_⟩
 .grind
 rw[Bool.or_eq_false_iff]at h
 have Y:J=true:=by simpa using h.1
 subst Y
 have v:l.length<=256:=Oh<|of_decide_eq_false h.2
 have q:=U rfl
 have E3:=V.hst e
 have O1:Own H1 w2 173 4 r1 (l.map jOE):=⟨n.rows,fun b d hh=>Oi (n.own b d)<|D.lt b hh⟩
 have O3:=O1.hst e
 refine(jEI k p w3 (hK.pure E3) hG).mono ?_
 rintro _ N ⟨r3,rfl,g⟩
 refine⟨r3,rfl,g.kept,?_⟩
 have E4:=E3.trans g.pure
 have O4:=O3.pure g.pure
 have P4:Own H2 N 73 1 r3 (tmr G):=⟨g.rows,fun b d hh=>Oi (g.own b d)<|e.lt b hh⟩
 have z4:=g.pure.size
 have zz:w0.heap.size<=w2.heap.size:=V.size
 have z3:=e.ext.size
 refine⟨fun s x H w=>∃(j:Nat) (ops:List Op),x=j/\j<=l.length/\∃hl:ops.length=j,(∀i (h:i<ops.length) (h2:i<l.length),jFY L G l[i] ops[i])/\Pure w0 w/\N.heap.size<=w.heap.size/\Hst w0 H w H w/\Own H w 173 4 r1 (l.map jOE)/\Own H w 73 1 r3 (tmr G)/\Own H w 88 5 s (ops.map oK)/\(∀b,s.blk b->N.heap.size<=b),
  fun _ x _=>((l.length:Int)-x).toNat,⟨0,[],rfl,Nat.zero_le _,rfl,fun i h=>by simp at h,E4,Nat.le_refl _,e.here.again g.kept,O4,P4,Own.nil _ _,fun b d=>(K b d).elim⟩,?_⟩
 rintro s _ H w _ ⟨j,ops,rfl,hj,y,hst,E,zw,hsw,O,Pg,Q,hQ⟩
 refine⟨fun h=>?_,fun h=>?_⟩
 .have u:=vR C h
  have⟨a,W,M⟩:=O.nth u
  refine⟨a,W,l[j].rule,l[j].a,l[j].b,l[j].t,M,fun R w6 m=>?_⟩
  have O6:=O.hst m
  have A:=Pg.hst m
  have Q6:=Q.hst m
  have E6:=E.hst m
  refine(jNL p r3 G l[j] w6 (hP.pure E6) X.ok A.rows.lst hG).mono ?_
  rintro _ w7 ⟨o,rfl,hso,z⟩
  refine⟨o.code,o.a,o.b,o.num,o.text,rfl,z.keptP,fun p3 T n8=>?_⟩
  have I:Pure w7 T:=Ext.new n8
  have B:Hst w0 R T R T:=(m.here.again z.keptP).again I.keptP
  have⟨s1,w9,Z,Q9,X9,k9,b9⟩:=((Q6.pure z).pure I).append (P:=prog) (ty:=36) (c:=1) zEZ B (r:=oK o) (Box.of_new n8).row rfl (by simp[oK,vE]) So (by simp[maxLen];omega)
  refine⟨s1,w9,Z,k9,?_⟩
  rw[zQ u Om]
  have z6:=m.ext.size
  have z7:=z.size
  have z8:=I.size
  have z9:=X9.size
  have dj:∀{e':TypeId} {sz:Nat} {r:Sl} {rs:List (List Value)},Own R w6 e' sz r rs->(∀b,r.blk b->b<N.heap.size)->Own R w9 e' sz r rs:=fun h d=>((h.pure z).pure I).ext X9 Gd
  refine⟨⟨j+1,ops++[o],rfl,u,by simp[y],?_,((E6.trans z).trans I).trans' X9 Gd,Om,B.again k9,dj O6 fun b d=>Oh<|O4.rows.lt d,dj A fun b d=>P4.rows.lt d,by simpa using Q9,fun b d=>(b9 b d).elim (hQ b) fun h=>Om⟩,uR u⟩
  intro i hi hi2
  by_cases hij:i<ops.length
  .grind
  .grind
 .have hge:=yI C hj h
  subst hge
  refine⟨E,fun h=>(by cases h),fun _=>⟨hd.1 rfl,l,ops,q,Q.rows,fun b d=>Oi (hQ b d) E4.size,y,v,?_⟩⟩
  exact jVM X y (fun i h=>hst i Om h) q.fol v q.ne q.last
end Go.Proofs
end
section
open Go Go.SE List
namespace Go.Proofs
attribute [local irreducible] wpL wpX opE wpE Calls
attribute [local irreducible] adv W WV WR yN pv lpC jBQ ctR ka rgP dgo nwV nhI hvl had hcs hpt stV stC kp yM uK qM bn ub
end Go.Proofs
end
section
open Go Go.SE List
namespace Go.Proofs
def jWJ(bs:List UInt8):Letter×Bool:=if(qY [] bs).2.1≠0 then(tA,false)else zFB (qY [] bs).2.2.2 (qY [] bs).1
end Go.Proofs
namespace Go.Proofs
open Tryz
attribute [local irreducible] Calls
def jTB{S0}(sb bs w0)(hs:Lst S0 w0 1 sb (byr bs))(H:sb.a=none->sb=Sl.nil):
  cl 15 #[sb.v] w0<|XW fun k f c x g ok w'=>((⟨k,f,c,x,g⟩:Letter),ok)=jWJ bs/\Pure w0 w':=by
 refine w_U7 _ w0 _ ?_
 intro I D h
 have z:=h.first
 refine(jBI D).mono ?_
 rintro _ C ⟨_,rfl,p,F,rfl,E,r,q⟩
 refine⟨_,rfl,r.keptP,?_⟩
 have e:=z.trans r
 refine(jQP p sb bs C Wf.nil E<|hs.pure e).mono ?_
 rintro _ u ⟨t,x,y,rfl,rfl,rfl,rfl,G,o,s,B⟩
 have d:Pure w0 u:=e.trans' s fun i hi m=>Oi (q i m) z.size
 refine⟨_,_,_,rfl,s.kept fun b A m=>Oi (h.lt b A)<|q b m,fun l=>?_,fun l=>?_⟩
 .intro J j
  refine⟨?_,d.hst j⟩
  unfold jWJ;rw[if_pos<|bne_iff_ne.1 l];rfl
 .refine(jQF p (jED Wf.nil bs) (qY [] bs).1 u G o).mono ?_
  rintro _ L ⟨k,f,c,x,g,ok,rfl,hr,w⟩
  refine⟨_,_,_,_,_,_,rfl,w.keptP,fun K n=>⟨?_,(d.trans w).hst n⟩⟩
  unfold jWJ;rw[if_neg<|by simpa using l,hr,zCI<|jED Wf.nil bs]
end Go.Proofs
end
section
open Go Go.SE List
namespace Go.Proofs
attribute [local irreducible] wpL wpX opE wpE Calls
attribute [local irreducible] adv W WV WR yN pv lpC jBQ ctR ka rgP dgo nwV nhI hvl had hcs hpt stV stC kp yM uK qM bn ub
end Go.Proofs
end
section
open Go Go.SE List
namespace Go.Proofs
attribute [local irreducible] Calls
structure RetS(w:World)(e:TypeId)(sz:Nat)(rs:List (List Value))(s:Sl)(w':World):Prop where
 rows:Rws w' e sz s rs
 own:∀b,s.blk b->w.heap.size<=b
 pure:Pure w w'
end Go.Proofs
end
section
open Go Go.SE List
namespace Go.Proofs
structure Bond where
 who:Int
 c:Int
 text:ByteArray
 why:Int
 by_:Int
deriving DecidableEq
def jGQ(l:Letter)(by_:Int):List Bond:=
 if l.kind=6 then[⟨0,l.c,l.text,2,by_⟩,⟨1,l.c,l.text,2,by_⟩]else if l.kind=2 then[⟨l.frm,l.c,l.text,1,by_⟩]else[]
def vT(who c:Int)(x:ByteArray)(i:Int):List Bond->Option (Int×Int)
 |[]=>none
 |b :: bs=>if b.who=who/\b.c=c/\b.text=x then some (b.why,i)else vT who c x i bs
def xG(who c:Int)(x:ByteArray):Int->List Letter->Bool×Int×Int
 |_,[]=>(false,0,-1)
 |i,l :: ls=>match vT who c x i (jGQ l i)with
  |some r=>(true,r)
  |none=>xG who c x (i+1) ls
end Go.Proofs
namespace Go.Proofs
attribute [local irreducible] Calls
end Go.Proofs
end
section
open Go Go.SE List
namespace Go.Proofs
def zDE{L}(d:Wf L)(m:yU L){t}(ht:inP L t=true){l}(k:yH l.c)(g:l.kind≠4)(f:vJ l=0)(j:Lil l)(e:zA L t=zR l true true):
  (vI L t).length<=4096/\jWJ (vI L t)=(l,true):=by
 have b0:(zC [] l).2.1=0:=by rw[jDE Wf.nil Sm];exact f
 have⟨_,b1,b2⟩:=jAQ b0 Wf.nil
 have a:=xI Wf.nil l
 have n1:=xU yU.nil k
 have o:=jGO Wf.nil j
 have i:vI L t=vI (zC [] l).2.2 (zC [] l).1:=jDQ d a ht b1<|e.trans b2.symm
 have hs:(vI L t).length<=4096:=by
  rw[i];have h1:=uH a (zC [] l).1;have h2:=jBU a n1 (subs (zC [] l).2.2 (zC [] l).1) [] (fun z n=>uU a n) Gd;have:vI (zC [] l).2.2 (zC [] l).1=textFrom (zC [] l).2.2 [] (subs (zC [] l).2.2 (zC [] l).1):=rfl;rw[this];simp at o;omega
 refine⟨hs,?_⟩
 have⟨_,d1,d2⟩:=jZZ d m ht hs
 have b:=jED Wf.nil<|vI L t
 have⟨_,p,_⟩:=jZT Wf.nil d1
 unfold jWJ
 rw[if_neg (by rw[d1];simp)]
 exact zGO b p ⟨f,true,true,fun h=>absurd h g,by rw[d2,e]⟩
def jZM{who c x}(a:yG who=true){l}(b:l∈evs who c x):(xG who c x 0 [l]).1=true:=by
 simp[evs]at b;rcases b with rfl|rfl;simp[xG,jGQ,vT];unfold yG at a;simp at a;rcases a with rfl|rfl<;>simp[xG,jGQ,vT]
end Go.Proofs
end
section
open Go Go.SE List
namespace Go.Proofs
open Tryz
attribute [local irreducible] Calls
def IsPrf.few{L G S t l}(h:IsPrf L G S t l):l.length<=L.length:=by
 have:=xV (L:=L) h.nd (fun x a=>by
  obtain⟨s,hs,rfl⟩:=mem_map.1 a;obtain⟨i,hi,rfl⟩:=getElem_of_mem hs;exact zFM<|h.fol i hi)
 simpa using this
def RecI(f p1 p3:Addr):Own1:=fun w F=>∃s:Sl,Box w p1 [vp<|some f] 28/\Box w p3 [s.v] 36/\p1.block≠p3.block/\∀y,F y↔y=p1.block\/y=p3.block
def RecJ(G:List Int)(p3:Addr)(L:Pool)(t:Int):Own1:=fun w F=>∃(s:Sl) (ops:List Op),Box w p3 [s.v] 36/\Rws w 88 5 s (ops.map oK)/\ops.length<=256/\zN L G ops=(t,0,0,L)/\∀y,F y↔y=p3.block\/s.blk y
def jSW{f p1 p3}:Cl1 (RecI f p1 p3):=by
 refine⟨fun⟨s,h1,h3,n,a⟩ E d=>⟨s,h1.ext E<|d _<|(a _).2<|.inl rfl,h3.ext E<|d _<|(a _).2<|.inr rfl,n,a⟩,fun⟨s,h1,h3,_,a⟩ y b=>?_⟩;rcases(a y).1 b with rfl|rfl;exact h1.lt;exact h3.lt
def zHB{f p1 p3:Addr}{G:List Int}{a b:Bool}(U:G.length<=1000000):How prog f G a b (RecI f p1 p3) (RecJ G p3) (fun L _=>256<L.length) 49 #[] #[vp<|some p1,vp<|some p3]:=by
 refine⟨jSW,call49,fun w L t F h ht W=>?_⟩;refine w_L7 t p1 p3 w (fun ok w'=>(ok=true->Tn (Sep (FoeO f L G a b)<|RecJ G p3 L t) F w w')/\(ok=false->256<L.length/\Tn (Sep (FoeO f L G a b)<|RecI f p1 p3) F w w')) ?_;refine⟨fun _=>True,trivial,?_⟩;rintro w1 rfl;have Z:Pure w w.drew:=Ext.drew w;have m:=(qB (f:=f) (L:=L) (G:=G) (a:=a) (b:=b)).sep<|jSW (f:=f) (p1:=p1) (p3:=p3);have T0:=(Tk.start h m).pure m Z;have⟨R,hs,_,k0⟩:=T0.one;have⟨x,P,⟨k,p,S,C,A,c,N⟩,⟨s,b1,b3,q,u⟩,O,J⟩:=hs;refine⟨some f,b1.cell0,f,rfl,some p,c.box.cell rfl,some f,b1.cell0,f,rfl,some k,c.box.cell0,?_⟩;refine(jQO p k t w.drew c.wf c.ok c.pool c.know U).mono ?_;rintro _ n ⟨r1,ok,rfl,I⟩;have i:=I.pure;refine⟨r1,ok,rfl,trivial,i.keptP,(b3.pure i).canW0 Sm,id,?_⟩;rintro w3 rfl;have z:=Ext.setCell (w:=n) p3 r1.v;have Q:Box (n.setCell p3 r1.v) p3 [r1.v] 36:=by
  have:=(b3.pure i).set 0 r1.v;simpa[Addr.add]using this
 have Y:P p3.block:=(u _).2<|.inr rfl;have o:Ext R w.drew (n.setCell p3 r1.v):=(Ext.pure i).trans<|z.mono Gd;have H:FoeAt (n.setCell p3 r1.v) f L G a b k p S C A:=(c.ext i fun _ _ h=>h).ext z Gd;have r:jAT (n.setCell p3 r1.v) f L G a b x:=⟨k,p,S,C,A,H,N⟩;have z2:=i.size;refine⟨fun d=>?_,fun V=>?_⟩;have⟨_,l,ops,_,X,g,M,K,B⟩:=I.yes d;have E:¬r1.blk p3.block:=fun T=>Oi (g _ T) b3.lt;refine((k0 (A':=Sep (FoeO f L G a b)<|RecJ G p3 L t) ⟨fun y=>x y\/(y=p3.block\/r1.blk y),⟨x,_,r,⟨r1,ops,Q,X.ext z fun y d e=>E<|e▸d,Om,B,fun _=>Iff.rfl⟩,fun y d h3=>?_,fun _=>Iff.rfl⟩,o,fun y d=>?_⟩).1).tn;rcases h3 with rfl|h3;exact O _ d Y;have:=g y h3;have:y<w.drew.heap.size:=jAT.lt ⟨k,p,S,C,A,c,N⟩ d;omega;grind;obtain⟨rfl,D⟩:=I.no V;have j:256<L.length:=by
  rcases D with h|⟨l,M,h⟩;exact absurd (Drv.mono (fun t ht=>(c.ok.seen_iff t).2 ht) W) h;have:=M.few;omega
 refine⟨j,(k0 (A':=Sep (FoeO f L G a b)<|RecI f p1 p3) ⟨R,⟨x,P,r,⟨Sl.nil,((b1.pure i).ext z q),Q,q,u⟩,O,J⟩,o,fun y d=>.inl d⟩).1.tn⟩
def jQX(f who c x w0){L G a b F}(h:jAT w0 f L G a b F):
  cl 12 #[vp<|some f,.agg #[vi who,vu c,vs x]] w0 (XF fun s ok w'=>∃r d,ReachR (fun L _=>256<L.length) G (if yG who=true then evs who c x else[]) L r d /\
   (ok=true↔r≠0)/\(r=0->s=Sl.nil/\Tn (FoeO f d G a b) F w0 w')/\(r≠0->∃ops:List Op,ops.length<=256/\zN d G ops=(r,0,0,d)/\Tn (Sep (FoeO f d G a b)<|RdO 88 5 s<|ops.map oK) F w0 w')):=by
 suffices key : ∀ K : Sl -> Bool -> WP, (∀ s ok w', (∃ r d, ReachR (fun L _ => 256 < L.length) G (if yG who = true then evs who c x else []) L r d /\
   (ok=true↔r≠0)/\(r=0->s=Sl.nil/\Tn (FoeO f d G a b) F w0 w')/\(r≠0->∃ops:List Op,ops.length<=256/\zN d G ops=(r,0,0,d)/\Tn (Sep (FoeO f d G a b)<|RdO 88 5 s<|ops.map oK) F w0 w'))->K s ok w')->m_D3 (some f) who c x w0 K from
  w_D3 _ _ _ _ w0 _<|key _ fun _ _ _ h=>h
 intro K O
 intro p1 V n1 J w2 hs p3 H n3
 have T:=h.few
 have e1:=n1.at_size
 have e3:=n3.at_size
 have W:Tk None (Sep (BoxO p1 [vp<|some f] 28)<|FoeO f L G a b) F w0 V:=(Tk.start h qB).new qB (F:=fun y=>y=p1.block) ⟨Box.of_newA n1,fun _=>Iff.rfl⟩ (Ext.new n1) fun y n=>Om
 have z:=(W.hst (zFO.sep qB) hs).new (zFO.sep qB) (C:=BoxO p3 [Sl.nil.v] 36) (F:=fun y=>y=p3.block) ⟨Box.of_newA n3,fun _=>Iff.rfl⟩ (Ext.new n3) fun y n=>Om
 have Z:=(qB (f:=f) (L:=L) (G:=G) (a:=a) (b:=b)).sep<|jSW (f:=f) (p1:=p1) (p3:=p3)
 have z:Tk J (Sep (FoeO f L G a b)<|RecI f p1 p3) F w0 H:=z.sub (fun {N} ⟨A,P,⟨D,i⟩,⟨D3,Y,⟨B,m⟩,w,Q,g⟩,d12,q⟩=>⟨N,⟨Y,fun y=>y=p1.block\/y=p3.block,w,⟨Sl.nil,B,D,fun e=>d12 p3.block ((i _).2 rfl) ((g _).2<|.inl<|(m _).2 e.symm),fun _=>Iff.rfl⟩,fun y R n=>by
  rcases n with rfl|rfl;grind;exact d12 _ ((i _).2 rfl) ((g _).2<|.inr R),fun y=>by
  rw[q,i,g,m];constructor;grind;rintro(h|h|h);exact .inr<|.inr h;exact .inr<|.inl h;exact .inl h⟩,fun _ h=>h⟩)
 have⟨N,l,_,I⟩:=z.one
 have j:=l
 have⟨_,_,_,⟨_,b1,_⟩,_⟩:=j
 refine⟨some f,b1.cell0,?_⟩
 refine(jKK f who c x _ #[] _ (zHB T) H l).mono ?_
 rintro _ U ⟨r,rfl,d,M,S,h1⟩
 have o:Kept J H U:=Gd
 refine⟨_,rfl,o,fun u=>?_,fun u=>?_⟩
 have hr:r=0:=by simpa using u
 exact O _ _ _ ⟨r,d,M,by simp[hr],fun _=>⟨rfl,((I<|S hr).1.sub Sep.fst).tn⟩,fun h=>absurd hr h⟩
 have hr:r≠0:=by simpa using u
 have T4:=(I<|h1 hr).1
 have⟨F5,⟨A,P,w,⟨s,ops,b3,t,k,p,g⟩,d12,E⟩,X,n5,h5⟩:=T4
 exact⟨s,b3.cell0,O _ _ _ ⟨r,d,M,by simp[hr],fun h=>absurd h hr,fun _=>⟨ops,k,p,fun y=>A y\/s.blk y,⟨A,s.blk,w,⟨t,fun _=>Iff.rfl⟩,fun y h1 h2=>d12 y h1<|(g y).2<|.inr h2,fun _=>Iff.rfl⟩,X,fun y n=>(n5 y<|(E y).2<|n.imp id fun h=>(g y).2<|.inr h).1⟩⟩⟩
end Go.Proofs
end
section
open Go Go.SE List
namespace Go.Proofs
end Go.Proofs
namespace Go.Proofs
attribute [local irreducible] Calls
end Go.Proofs
end
section
open Go Go.SE List
namespace Go.Proofs
attribute [local irreducible] Calls
def RetS.kept{w w' e sz rs s H}(h:RetS w e sz rs s w'):Kept H w w':=h.pure.keptP
end Go.Proofs
end
section
open Go Go.SE List
open Go.IntKind renaming i64 -> q6
namespace Go.Proofs
open Tryz
set_option maxRecDepth 100000
set_option maxHeartbeats 4000000
attribute [local irreducible] wpL wpX opE wpE Calls
attribute [local irreducible] adv W WV WR yN pv lpC jBQ ctR ka rgP dgo nwV nhI hvl had hcs hpt stV stC kp yM uK qM bn ub
def s_C1(c g d:Int)(f:ByteArray)(h:Bool)(a e:Int)(b:ByteArray):Int:=(cond ((((a !=0)&&(a !=1)) ||(d !=e)) ||(!(decide (f=b)))) 0<|cond ((c==2)&&(g==a)) 1<|cond (c==6) 2 0)
def p_C1(g n h:Int)(m:ByteArray)(o:Bool)(a i:Int)(c:ByteArray)(p:World):cl 56 #[(.agg #[(.int .i64 g),(.int .i64 n),(.int .u64 h),(.string m),(.bool o)]),(.int .i64 a),(.int .u64 i),(.string c)] p (fun e w'=>e=.returned (.int .i64<|s_C1 g n h m o a i c)/\Pure p w'):=
 cwp func56 [((((a !=0)&&(a !=1)) ||(h !=i)) ||(!(decide (m=c)))),((g==2)&&(n==a)),(g==6)] (fun b=>(vi<|cond (b 0) 0<|cond (b 1) 1<|cond (b 2) 2 0)) fun d=>nh 0<|pj 1 0 [(((a !=0)&&(a !=1)) ||(h !=i))] [1,4] (fun b=>[(26,(vb<|(b 0) ||(!(decide (m=c)))))]) (fun k=>ct 3 3<|pj 0 0 [(a !=0)] [1,2,3,4] (fun b=>[(14,(vb<|(b 0)&&(a !=1)))]) (fun j=>pb 1 0 0 j (fun j=>pe 3 0 j)<|fun j=>pe 3 0 j)<|ct 1 5<|pj 0 0 [((a !=0)&&(a !=1))] [1,3,4] (fun b=>[(20,(vb<|(b 0) ||(h !=i)))]) (fun l=>pb 1 0 0 l (fun l=>pe 5 0 l)<|fun l=>lh 1 0 [2]<|pe 3 0 l)<|pb 1 1 0 k (fun k=>pe 5 0 k)<|fun k=>lh 1 0 [3]<|pe 3 0 k)<|pb 0 0 0 d (fun d=>qpe 2 d)<|fun d=>pj 1 0 [(g==2)] [4] (fun b=>[(35,(vb<|(b 0)&&(n==a)))]) (fun f=>lh 1 0 []<|pb 1 2 0 f (fun f=>lh 1 0 [1]<|pe 3 0 f)<|fun f=>pe 5 0 f)<|pb 0 0 1 d (fun d=>qpe 2 d)<|fun d=>lh 2 0 []<|pb 0 1 2 d (fun d=>qpe 2 d)<|fun d=>qpe 2 d
def m_D2_l1(o:Sl)(l q:Int)(p:ByteArray)(i1:Int)(t:Bool)(s r:Int)(i:World)(a:NP)(b:World)(e:Int->Bool->Int->Int->NP->WP)(K:Bool->Int->Int->WP):Prop:=Br (decide (i1<(o.len:Int))) (∃a1:Addr,At o i1 5 a1/\∃h f d j g,Row b a1 [(vi h),(vi f),(vu d),(vs j),(vb g)]/\¬a a1.block/\Br (((s_C1 h f d j g l q p):Int) !=0) (∀c n,Hst i a b c n->K true (s_C1 h f d j g l q p) i1 n) (∀c m,Hst i a b c m->e (q6.wrap<|i1+1) t s r c m))<|∀k,Hst i a b a k->K false 0 (-1) k
def m_D2(q:Sl)(o s:Int)(r:ByteArray)(h:World)(K:Bool->Int->Int->WP):Prop:=∀m n,Hst h None h m n->∃(i:Int->Bool->Int->Int->NP->WP) (c:Int->Bool->Int->Int->World->Nat),i 0 false 0 0 m n/\∀(i1:Int) (l:Bool) (k j:Int) (b:NP) (a:World),Hst h b a b a->i i1 l k j b a->m_D2_l1 q o s r i1 l k j h b a (fun e f g d p w'=>i e f g d p w'/\c e f g d w'<c i1 l k j a) K
def w_D2(l1 aA aB aC w0 K)(h:m_D2 l1 aA aB aC w0 K):
  cl 17 #[l1.v,(.agg #[(vi aA),(vu aB),(vs aC)])] w0<|XR K:=
 cwH func17 h<|nh 0<|nh 0<|ah<|wb4 1 [0,3,4] (fun i1 a d c=>[(5,(vi i1))]) (fun i1 a d c l=>hpt l 0 0 [(vb a),(vi d),(vi c)])<|fun {_ _ i1 a d c}=>fun m=>br 0 4 (dss 1 [10] []<|ix 2<|xe5<|fun {e g f j i}=>lrs 0<|lhs 1 0 1 []<|lhs 1 0 1 [1]<|lhs 1 0 1 [2]<|pj 0 0 [] [0,3,4,5] (fun b=>[(6,(vi<|s_C1 e g f j i aA aB aC))]) (fun k=>cps 0 0 call56 (p_C1 e g f j i aA aB aC)<|pe 1 0 k)<|br 0 2 (sg 4 0 []<|ah<|rss 0<|qgg 0 [] 3<|qee)<|ah<|je 4 0 m)<|sg 2 0 []<|an<|rss 0<|qgg 0 [] 3<|qee
end Go.Proofs
end
section
open Go Go.SE List
namespace Go.Proofs
end Go.Proofs
namespace Go.Proofs
attribute [local irreducible] Calls
end Go.Proofs
end
section
open Go Go.SE List
namespace Go.Proofs
def zIM(l:Letter):Prop:=l.kind=2->l.frm=0\/l.frm=1
end Go.Proofs
namespace Go.Proofs
open Tryz
attribute [local irreducible] Calls
def jWF{S:NP}{w:World}{s:Sl}{ls:List Letter}(h:Lst S w 5 s (ls.map jWG)){j:Nat}(b:j<ls.length):∃a,At s j 5 a/\S a.block/\Row w a (jWG ls[j]):=by
 have⟨a,h1,h2,h3⟩:=h.at_ j (by simpa using b);exact⟨a,h1,h2,by simpa using h3⟩
def zES(l)(h:zIM l)(who c x i):
  (s_C1 l.kind l.frm l.c l.text l.fake who c x=0/\vT who c x i (jGQ l i)=none)\/(s_C1 l.kind l.frm l.c l.text l.fake who c x≠0/\vT who c x i (jGQ l i)=some (s_C1 l.kind l.frm l.c l.text l.fake who c x,i)):=by
 have⟨k,f,cc,t,g⟩:=l
 unfold s_C1 jGQ
 simp only[zIM]at h|-
 by_cases d:k=6
 subst d
 by_cases a:cc=c
 by_cases ht:t=x
 by_cases e:who=0
 subst e;right;simp[vT,a,ht]
 by_cases h1:who=1
 subst h1;right;simp[vT,a,ht]
 left
 have j:(who !=0)=true:=bne_iff_ne.2 e
 have n1:(who !=1)=true:=bne_iff_ne.2 h1
 simp[vT,j,n1,Ne.symm e,Ne.symm h1]
 left;simp[vT,ht,decide_eq_false ht]
 left
 have nc:(cc !=c)=true:=bne_iff_ne.2 a
 simp[vT,a,nc]
 have n6:(k==6)=false:=beq_eq_false_iff_ne.2 d
 by_cases h2:k=2
 subst h2
 have m:=h rfl
 by_cases a:cc=c
 by_cases ht:t=x
 by_cases b:f=who
 subst b;right
 rcases m with rfl|rfl<;>simp[vT,a,ht]
 left
 have nw:(f==who)=false:=beq_eq_false_iff_ne.2 b
 simp[vT,a,ht,b,nw]
 left;simp[vT,ht,decide_eq_false ht]
 left
 have nc:(cc !=c)=true:=bne_iff_ne.2 a
 simp[vT,a,nc]
 left
 have n2:(k==2)=false:=beq_eq_false_iff_ne.2 h2
 simp[vT,h2,d,n2,n6]
def jNJ{S:NP}(s:Sl)(ls:List Letter)(who c:Int)(x:ByteArray)(k:World)(B:Lst S k 5 s (ls.map jWG))(hS:∀b,S b->b<k.heap.size)(D:∀l∈ls,zIM l)(N:ls.length<=1000000):
  cl 17 #[s.v,.agg #[vi who,vu c,vs x]] k<|XR fun b y i w'=>(b,y,i)=xG who c x 0 ls/\Pure k w':=by
 suffices key:∀K:Bool->Int->Int->WP,(∀b y i w',((b,y,i)=xG who c x 0 ls/\Pure k w')->K b y i w')->m_D2 s who c x k K from
  w_D2 _ _ _ _ k _<|key _ fun _ _ _ _ h=>h
 intro K C
 intro L M m
 have g:s.len=ls.length:=by rw[B.len];simp
 refine⟨fun w _ _ _ H w'=>∃j:Nat,w=j/\j<=ls.length/\Pure k w'/\(∀b,S b->¬H b)/\xG who c x 0 ls=xG who c x j (ls.drop j),fun w _ _ _ _=>((ls.length:Int)-w).toNat,⟨0,rfl,Nat.zero_le _,m.first,m.disj0 hS,rfl⟩,?_⟩
 rintro _ _ _ _ Q wl J ⟨j,rfl,G,p,F,d⟩
 refine⟨fun h=>?_,fun h=>?_⟩
 .have e:=vR g h
  have⟨a,u,r,o⟩:=jWF (B.ext p fun _ _ h=>h) e
  rw[drop_eq_getElem_cons e,xG]at d
  have t:=D ls[j]<|getElem_mem e
  generalize ls[j]=l at *
  have f:=zES l t who c x j
  refine⟨a,u,_,_,_,_,_,o,F _ r,fun h=>?_,fun h=>?_⟩
  .intro E P z
   have h:s_C1 l.kind l.frm l.c l.text l.fake who c x≠0:=by simpa using h
   rcases f with f|f
   .exact absurd f.1 h
   .rw[f.2]at d
    exact C _ _ _ _ ⟨by rw[d],p.hst z⟩
  .intro E O n
   have h:s_C1 l.kind l.frm l.c l.text l.fake who c x=0:=by simpa using h
   rcases f with f|f
   .rw[f.2]at d
    rw[zQ e Om]
    exact⟨⟨j+1,rfl,e,p.hst n,n.disj0 hS,by simpa using d⟩,uR e⟩
   .exact absurd h f.1
 .have A:=yI g G h
  subst A
  rw[drop_length]at d
  intro I q
  exact C _ _ _ _ ⟨by rw[d];rfl,p.hst q⟩
end Go.Proofs
end
section
open Go Go.SE List
namespace Go.Proofs
open Tryz
attribute [local irreducible] Calls
def jFT{S:NP}(l1:Sl)(ls:List Act)(who c:Int)(x:ByteArray)(hc:yH c)(u:World)(hL:Lst S u 9 l1 (ls.map tX))(hok:∀y∈ls,ActOk S u y)(hS:∀y,S y->y<u.heap.size):
  cl 3 #[l1.v,.agg #[vi who,vu c,vs x]] u<|XC fun r w'=>r=true/\Pure u w':=by
 suffices key:∀K:Bool->WP,(∀w',Pure u w'->K true w')->m_H l1 who c x u K from
  w_H _ _ _ _ u _<|key _ fun _ h=>⟨rfl,h⟩
 intro Q hQ
 have hll:l1.len=ls.length:=by rw[hL.len];simp
 have p:∀H w,Pure u w->cl 8 #[] w (XC fun r1 w2=>Kept H w w2/\Q r1 w2):=fun H w E=>by
  refine(jQT w).mono ?_;rintro _ w5 ⟨_,rfl,rfl,V⟩;exact⟨_,rfl,V.keptP,hQ _<|E.trans V⟩
 intro H1 w1 C
 refine(jQU l1 ls w1 (hL.pure C.first) fun y W=>(hok y W).ext C.first fun _ _ h=>h).mono ?_
 rintro _ w2 ⟨hg,rfl,A,E2⟩
 refine⟨_,rfl,E2.keptP,fun H6 w3 hs3=>?_⟩
 have E3:Pure u w3:=(C.first.trans E2).hst hs3
 refine⟨fun _=>p _ _ E3,fun hx=>?_⟩
 have A:Small ls:=A Gd
 refine(jKL w3).mono ?_
 rintro _ w4 ⟨_,rfl,f,F,rfl,hf,E4,nf⟩
 refine⟨_,rfl,E4.keptP,?_⟩
 refine(zEH w4).mono ?_
 rintro _ w5 ⟨_,rfl,r,F2,rfl,hr,V,nr⟩
 refine⟨_,rfl,V.keptP,?_⟩
 have h0:St ls r u 0 H6 f w5:=St.start E3 hs3.lt hf E4 nf hr V nr
 clear hf hr nf nr E4 V
 refine⟨fun o i H w=>∃n f,i=((n:Nat):Int)/\n<=ls.length/\o=some f/\St ls r u n H f w,fun _ i _=>((ls.length:Int)-i).toNat,⟨0,f,rfl,Nat.zero_le _,rfl,h0⟩,?_⟩
 rintro _ _ Hl wl hsl ⟨n,f,rfl,hn,rfl,hst⟩
 have El:=hst.pure
 refine⟨fun j=>⟨fun h=>(by cases h),fun _=>?_⟩,fun j=>⟨fun h=>(by cases h),fun _=>?_⟩⟩
 .have j:=vR hll j
  have⟨a1,hat,_,hrow⟩:=(hL.pure El).nth j
  refine⟨a1,hat,_,_,_,_,_,_,_,_,_,hrow,?_⟩
  refine(zAV hok hS A j hst).mono ?_
  rintro _ w6 ⟨_,_,rfl,kp,rfl,f',rfl,hst'⟩
  refine⟨_,_,rfl,kp,fun h=>(by cases h),fun _ H2 w7 hs7=>?_⟩
  unfold m_H_j3
  rw[zQ j<|Oh A.few]
  exact⟨⟨n+1,f',rfl,j,rfl,hst'.hst hs7⟩,uR j⟩
 have⟨L,M,G,K,a,b,T,z,hM⟩:=hst
 have hM6:M.length<=60000:=by have:=jUW ls n;have:=A.bytes;have:=A.few;omega
 have hl:=z.len
 have⟨F1,hf,_,k1⟩:=T.l qB oW
 refine(jQX f who c x wl hf).mono ?_
 rintro _ w7 ⟨s,ok,rfl,t,B,hR,J,hno,hyes⟩
 have I:=hR.tree z.wl z.g.l (by split;exact jNI;simp) (by split<;>simp[evs]<;>omega)
 have hm:G.map (zA B)=G.map (zA L):=by
  have⟨X,hX⟩:=I.app;have:=I.wf;rw[hX]at this|-;exact jMY this z.g.l
 have hG':∀g∈G,inP B g=true:=by
  have⟨X,hX⟩:=I.app;rw[hX];exact fun g hg=>uD<|z.g.l g hg
 have hfew':B.length<=L.length+16:=by
  have:=I.few;split at this<;>simp[evs]at this<;>omega
 have k:=jFW I.wf hG' Om who c x
 rw[hm]at k
 by_cases ht:t=0
 .obtain⟨rfl,t7⟩:=hno ht
  have⟨T7,U⟩:=k1 (A':=FoeO f B G a b) t7
  have hok0:ok=false:=Bool.eq_false_iff.2 fun h=>J.1 h ht
  subst hok0
  refine⟨_,_,rfl,U,fun _=>?_,fun h=>(by cases h)⟩
  have⟨F2,hr,_⟩:=T7.r qB oW
  have⟨x8,q,FK,FP,hr,_⟩:=hr
  have⟨_,k8,_⟩:=hr.know.box
  have⟨s1,s2,s3,D,_⟩:=hr.pool
  have C:s1.len=M.length:=by rw[D.r1.len];simp
  refine⟨r,rfl,some x8,hr.box.cell0,x8,rfl,some q,k8,q,rfl,s1,D.box.cell0,Br.t rfl ⟨fun _=>?_,fun hfw=>?_⟩⟩
  .refine Br.t rfl ?_
   exact Br.t rfl (p _ _ T7.fr)
  .have⟨F3,O,_,k3⟩:=T7.l qB oW
   refine(jEG f who c x w7 O).mono ?_
   rintro _ w8 ⟨r9,rfl,hb,t8⟩
   have⟨T8,N⟩:=k3 t8
   refine⟨_,rfl,N,?_⟩
   have h9:r9=false:=Bool.eq_false_iff.2 (fun h=>by
    have⟨D,l,d,hs⟩:=k.1<|hb.1 h;have⟨L2,_,h256,h2⟩:=I.no ht l (by rw[if_pos D];exact d) hs;rw[if_pos D]at h2;simp only[Bool.not_eq_false',decide_eq_true_eq,C]at hfw;rw[IntWalk.i64_in _ Om]at hfw;simp[evs]at h2;omega)
   subst h9
   refine Br.t rfl ?_
   exact Br.t rfl (p _ _ T8.fr)
 .have⟨ops,h256,hev,t7⟩:=hyes ht
  have⟨T7,U⟩:=k1 (A':=Sep (FoeO f B G a b)<|RdO 88 5 s<|ops.map oK) t7
  have Z:ok=true:=J.2 ht
  subst Z
  refine⟨_,_,rfl,U,fun h=>(by cases h),fun _=>?_⟩
  have⟨l,d,hs,Y,htr,_⟩:=I.yes ht
  have D:yG who=true:=Gd
  rw[if_pos D]at d
  have hlc:yH l.c/\l.kind≠4:=by simp[evs]at d;rcases d with rfl|rfl<;>exact⟨hc,Sm⟩
  have hN':=I.nums z.nl (by rw[if_pos D];intro m hm;simp[evs]at hm;rcases hm with rfl|rfl<;>exact hc)
  have⟨tx1,tx2⟩:=zDE I.wf hN' Y hlc.1 hlc.2 hs.1 (jNI l d) htr
  have hsay:tO B G ops=(vI B t,0,0,B):=by
   unfold tO jAN;rw[hev];simp only[ne_eq,not_true_eq_false,if_false];rw[if_pos Y,if_neg Om]
  have clR:=(qB (f:=f) (L:=B) (G:=G) (a:=a) (b:=b)).sep<|jPY (e:=88) (sz:=5) (s:=s) (rs:=ops.map oK)
  have⟨F3,F4,O,⟨hRw,hF4⟩,d34,_,k3⟩:=(T7.sub Sep.fst).lb jPY
  refine(jQW f s ops w7 O (by rw[hev];exact hN') hRw.lst (fun y W=>⟨hRw.lt W,fun h3=>d34 y h3<|(hF4 y).2 W⟩) Om).mono ?_
  rintro _ w8 ⟨_,_,_,rfl,rfl,rfl,rfl,t8⟩
  rw[hsay]at t8|-
  have⟨T8,N⟩:=k3 (A':=FoeO f B G a b) t8
  refine⟨_,_,_,rfl,N,?_⟩
  have⟨c1,w9,hr9,E9,hs9,hz9⟩:=jJB (P:=prog) (src:=9) (dst:=59) underlying9 underlying59 underlying5 w8 ⟨(vI B t).toArray⟩
  refine⟨c1,w9,hr9,E9.keptP,?_⟩
  refine(jTB c1 (vI B t) w9 (by simpa using hs9) hz9).mono ?_
  rintro _ w10 ⟨lk,lf,lc,lx,lg,r13,rfl,hd,E10⟩
  rw[tx2]at hd
  obtain⟨e1,rfl⟩:=Prod.mk.inj hd
  subst e1
  refine⟨_,_,_,_,_,_,rfl,E10.keptP,fun H3 w14 hs14=>?_⟩
  have T14:=((((T8.sub Sep.fst).pure qB E9).pure qB E10).hst qB hs14)
  have⟨F5,hf5,_,k5⟩:=T14.one
  refine(jEG f who c x w14 hf5).mono ?_
  rintro _ w15 ⟨r14,rfl,hb,t15⟩
  have⟨T15,kp15⟩:=k5 t15
  refine⟨_,rfl,kp15,?_⟩
  have h14:r14=true:=hb.2<|k.2 ⟨D,_,d,hs⟩
  subst h14
  refine Br.t rfl fun H5 w19 hs19 p3 w21 h21=>?_
  have E21:Pure u w21:=(T15.fr.hst hs19).trans<|Ext.new h21
  have R:=Rws.lit (rs:=[jWG ⟨lk,lf,lc,lx,lg⟩]) h21 rfl (by intro q hq;simp at hq;subst hq;rfl) (by simp[maxLen])
  refine(jNJ ⟨some p3,1,1⟩ [⟨lk,lf,lc,lx,lg⟩] who c x w21 R.lst (fun y W=>R.lt W) (fun m hm _=>by simp at hm;subst hm;exact(jBZ hs.1).1) Sm).mono ?_
  rintro _ w22 ⟨rb,ry,ri,rfl,hj,E22⟩
  refine⟨_,_,_,rfl,E22.keptP,?_⟩
  have:rb=true:=by
   have:=jZM D d;rw[<-hj]at this;exact this
  subst this
  exact Br.t rfl (p _ _<|E21.trans E22)
end Go.Proofs
end
section
namespace Go.SE
open Go.ChangeShapes Go.WideShapes Go.ChangeAt Go.RowKit
section
variable {H:Type} {enc:TypeId×Value->H} {P:Program}
def jFX(j:laidOutB P=true){W W'}(i:Below W.heap.size W W'):∀(ts:List TypeId) (vs:List Value) (ds:List (DataW H)) (f:List MemPlace),(ts.all fun t=>P.readableRec t && decide (t<P.types.size))=true ->
  DataW.TrodAll enc P W 0 (fun _=>true) true ts vs ds f->(∀x∈f,x.block<W.heap.size)->DataW.TrodAll enc P W' 0 (fun b=>decide (b<W.heap.size)) true ts vs ds f
 |[],_,_,_,_,h,_=>by
  obtain⟨rfl,rfl,rfl⟩:=trodAll_nil h;exact h
 |t :: ts,_,_,_,hr,h,e=>by
  obtain⟨v,g,d,c,a,b,rfl,rfl,rfl,h1,h2⟩:=trodAll_cons h;simp only[List.all_cons,Bool.and_eq_true,decide_eq_true_eq]at hr;exact⟨a,b,Below.trod j hr.1.1 hr.1.2 h1 i Gd,jFX j i ts g c b (by simpa using hr.2) h2 fun x k=>e x<|by simp[k],rfl⟩
def zDF{f}{s:ChangeSpec}{W W' args}{ds y:List (DataW H)}{e:List MemPlace}{t}(C:laidOutB P=true)(u:s.vars=[])(D:∀ds:List (DataW H),ds.length=f.params.size->s.fn H ds={ results:=[.lit<|.bool true],args:=ds })(l:f.resultTypes=#[t])(ht:P.underlying t=some .bool)(hr:(f.params.toList.all fun t=>P.readableRec t && decide (t<P.types.size))=true)(w:DataW.Whole enc P f.params.toList s.vars false W args.toList ds y e)(E:Pure W W'):
  s.post enc P f false true false false W args (.bool true) W':=by
 have j:=w
 obtain⟨p,q,r,k,rfl,F,I⟩:=w
 rw[u]at k
 obtain⟨rfl,rfl⟩:=trodVars_none k
 have i:ds.length=f.params.size:=by
  have:∀(ts:List TypeId) (vs:List Value) (ds:List (DataW H)) (n:List MemPlace),DataW.TrodAll enc P W 0 (fun _=>true) true ts vs ds n->ds.length=ts.length:=by
   intro ts;induction ts with
   |nil=>intro vs ds n h;obtain⟨_,rfl,_⟩:=trodAll_nil h;rfl
   |cons t ts z =>
    intro vs ds n h
    obtain⟨v,A,d,B,a,b,_,rfl,_,_,h2⟩:=trodAll_cons h
    simp[z _ _ _ h2]
  simpa using this _ _ _ _ r
 have m:=D ds i
 have c:s.fn H (ds++[])={ results:=[.lit<|.bool true],args:=ds }:=by rw[List.append_nil];exact m
 have o:∀x∈p,x.block<W.heap.size:=fun x G=>by simpa using j.lt x (by simp[G])
 have g:=E.below
 refine⟨ds,[],p++[],[],p,[],j,?_,?_,?_,g.frame _,fun h=>by cases h⟩
 rw[c,l];exact trodAll_mk1<|shut_bool ht _
 rw[c];exact jFX C g _ _ _ _ hr r o
 rw[c,u];exact k
end
end Go.SE
namespace Go.SE
open Go.ChangeShapes Go.WideShapes Go.ChangeAt Go.RowKit
section
variable {P:Program} {W:World} {r:Reach} {b0:Nat} {t:TypeId} {v:Value}
def jOS{fs:Array Field}{ts:List TypeId}(ht:P.underlying t=some (.struct fs))(j:P.cellTypes P.depth t=some ts)(k:P.cellsOf t=ts.length)(h:Value.okWide P W r b0 t v):
  ∃cs:Array Value,v=.agg cs/\cs.size=ts.length/\∀(i:Nat) (u:TypeId) (c:Value),ts[i]?=some u->cs[i]?=some c->Cell.okWide P W r b0 u c:=by
 unfold Value.okWide at h
 rw[ht]at h
 obtain⟨cs,rfl,hs,l,b,_,a⟩:=h
 rw[j]at b
 cases b
 refine⟨cs,rfl,hs.trans k,fun i u c g hcs=>?_⟩
 have⟨m,d,e⟩:=a i c hcs
 have f:i<ts.length:=(List.getElem?_eq_some_iff.1 g).1
 rw[Nat.mod_eq_of_lt f,g]at d
 cases d
 exact e
def jZB{e}(ht:P.underlying t=some (.slice e))(h:Value.okWide P W r b0 t v):∃a n c,v=.slice a n c:=by
 unfold Value.okWide at h;rw[ht]at h;simp only at h;unfold Cell.okWide at h;rw[ht]at h;cases v<;>simp[Cell.ok,ht]at h;exact⟨_,_,_,rfl⟩
end
end Go.SE
end
section
open Go Go.SE List
namespace Go.Proofs
theorem jAJ{α β:Type}{f:α->Option β}:∀{l:List α} {r:List β},l.mapM f=some r->r.length=l.length/\∀(i:Nat) (a:α),l[i]?=some a->∃b,f a=some b/\r[i]?=some b
 |[],r,h=>Gd
 |x :: xs,r,h=>by
  rw[mapM_cons]at h;cases d:f x with
  |none=>simp[d]at h
  |some y =>
   cases c:xs.mapM f with
   |none=>simp[d,c]at h
   |some g =>
    have:r=y ::g:=by simpa[d,c]using h.symm
    subst this
    have⟨h1,h2⟩:=jAJ c
    refine⟨by simp[h1],fun i a e=>?_⟩
    cases i with
    |zero=>cases e;exact⟨y,d,rfl⟩
    |succ i=>exact h2 i a (by simpa using e)
theorem zAF{w base a n cs}(h:w.cells? base a n=some cs):cs.length=n/\Row w a cs:=by
 have⟨_,h1,h2⟩:=World.cells?_some h;exact⟨h1,fun j b=>h2 j Om⟩
section
variable {H:Type} {enc:TypeId×Value->H} {P:Program} {W:World} {base:Nat} {sp:Nat->Bool} {held:Bool}
theorem oI{t k}(ht:P.underlying t=some (.int k)){n c}{x:DataW H×List MemPlace}(h:DataW.trod enc P W base sp held n t [c]=some x):∃m,c=.int k m:=by
 cases n with
 |zero=>cases h
 |succ n =>
  rw[DataW.trod_step]at h
  unfold DataW.trodStep at h
  rw[ht]at h
  cases c<;>simp at h
  obtain⟨⟨rfl,_⟩,_⟩:=h
  exact⟨_,rfl⟩
theorem jMJ{t}(ht:P.underlying t=some (.int .u64)){n c}{x:DataW H×List MemPlace}(h:DataW.trod enc P W base sp held n t [c]=some x):∃m,c=vu m/\yH m:=by
 cases n with
 |zero=>cases h
 |succ n =>
  rw[DataW.trod_step]at h
  unfold DataW.trodStep at h
  rw[ht]at h
  cases c with
  |int k z =>
   simp only at h
   split at h
   rename_i a
   obtain⟨rfl,a⟩:=a
   have h1:IntKind.u64.min=0:=by rfl
   have h2:IntKind.u64.max=18446744073709551615:=by rfl
   simp only[Lit.wf,Bool.and_eq_true,decide_eq_true_eq,h1,h2]at a
   exact⟨z,rfl,Om,Om⟩
   cases h
  |_=>simp at h
theorem jYF{t}(ht:P.underlying t=some .string){n c}{x:DataW H×List MemPlace}(h:DataW.trod enc P W base sp held n t [c]=some x):∃m,c=vs m:=by
 cases n with
 |zero=>cases h
 |succ n =>
  rw[DataW.trod_step]at h
  unfold DataW.trodStep at h
  rw[ht]at h
  cases c<;>simp at h
  exact⟨_,rfl⟩
end
section
variable {H:Type} {enc:TypeId×Value->H} {P:Program} {W:World} {base:Nat} {sp:Nat->Bool} {held:Bool}
theorem row_lt{a v vs}(h:Row W a (v ::vs)):a.block<W.heap.size:=by
 have:=h 0 Sm;have:=World.block_lt_of_cell? W (a.add 0) this;rwa [zG]at this
theorem jRR{t}{fs:Array Field}(ht:P.underlying t=some (.struct fs)){n cs}{x:DataW H×List MemPlace}(h:DataW.trod enc P W base sp held n t cs=some x):
  ∃m,cs.length=P.cellsOf t/\∀(i:Nat) (f:Field),fs.toList[i]?=some f->∃y,DataW.trod enc P W base sp held m f.type ((cs.drop f.offset).take<|P.cellsOf f.type)=some y:=by
 cases n with
 |zero=>cases h
 |succ n =>
  rw[DataW.trod_step]at h
  unfold DataW.trodStep at h
  rw[ht]at h
  simp only at h
  split at h
  rename_i c
  cases hm:fs.toList.mapM (fun f=>DataW.trod enc P W base sp held n f.type<|(cs.drop f.offset).take<|P.cellsOf f.type)with
  |none=>rw[hm]at h;cases h
  |some r =>
   refine⟨n,c,fun i f d=>?_⟩
   have⟨b,a,_⟩:=(jAJ hm).2 i f d
   exact⟨b,a⟩
  cases h
end
section
variable {H:Type} {enc:TypeId×Value->H} {W:World} {base:Nat} {sp:Nat->Bool} {held:Bool}
end
end Go.Proofs
end
section
open Go Go.SE List
namespace Go.Proofs
open Tryz
section
variable {H:Type} {enc:TypeId×Value->H} {P:Program} {W:World} {base:Nat} {sp:Nat->Bool} {held:Bool}
theorem jVH{t}(ht:P.underlying t=some .bool){n c}{x:DataW H×List MemPlace}(h:DataW.trod enc P W base sp held n t [c]=some x):∃m,c=vb m:=by
 cases n with
 |zero=>cases h
 |succ n =>
  rw[DataW.trod_step]at h
  unfold DataW.trodStep at h
  rw[ht]at h
  cases c<;>simp at h
  exact⟨_,rfl⟩
end
set_option maxRecDepth 100000 in
theorem zEB{H:Type}{enc:TypeId×Value->H}{W:World}{base:Nat}{sp:Nat->Bool}{held:Bool}{n:Nat}{cs:List Value}{x:DataW H×List MemPlace}(h:DataW.trod enc prog W base sp held n 25 cs=some x):∃who c:Int,∃y:ByteArray,cs=[vi who,vu c,vs y]/\yH c:=by
 have⟨m,b,a⟩:=jRR underlying25 h;rw[show(prog.cellsOf 25)=3 by kernel_rfl]at b;match cs,b with
 |[c0,i,j],_ =>
  have⟨_,d⟩:=a 0 _ rfl
  have⟨_,h1⟩:=a 1 _ rfl
  have⟨_,h2⟩:=a 2 _ rfl
  simp only[show(prog.cellsOf 3)=1 by kernel_rfl,show(prog.cellsOf 23)=1 by kernel_rfl,show(prog.cellsOf 9)=1 by kernel_rfl]at d h1 h2
  obtain⟨g,rfl⟩:=oI underlying3 d
  obtain⟨f,rfl,hm⟩:=jMJ underlying23 h1
  obtain⟨e,rfl⟩:=jYF underlying9 h2
  exact⟨g,f,e,rfl,hm⟩
end Go.Proofs
end
section
open Go Go.SE List
namespace Go.Proofs
end Go.Proofs
end
section
open Go Go.SE List
namespace Go.Proofs
open Tryz
structure Blk{H:Type}(B:DataW H->Nat):Prop where
 str:∀l,l.length<=B (.lit<|.string l)
 agg:∀{ps d},d∈ps->B d<=B (.agg ps)
 elem:∀{es sp d},d∈es->B d<=B (.slice es sp)
 len:∀es sp,es.length<=B (.slice es sp)
section
variable {H:Type} {enc:TypeId×Value->H} {P:Program} {W:World} {base:Nat} {sp:Nat->Bool} {held:Bool} {B:DataW H->Nat} (hB:Blk B) {N:Nat}
include hB
theorem jIT{t}(ht:P.underlying t=some .string){n c}{x:DataW H×List MemPlace}(h:DataW.trod enc P W base sp held n t [c]=some x)(a:B x.1<=N):∃m:ByteArray,c=.string m/\m.size<=N:=by
 cases n with
 |zero=>cases h
 |succ n =>
  rw[DataW.trod_step]at h
  unfold DataW.trodStep at h
  rw[ht]at h
  cases c<;>simp at h
  rename_i m
  obtain⟨_,rfl⟩:=h
  have:=hB.str m.data.toList
  exact⟨m,rfl,by simp at this;simp only at a;omega⟩
theorem jBT{t}{fs:Array Field}(ht:P.underlying t=some (.struct fs)){n cs}{x:DataW H×List MemPlace}(h:DataW.trod enc P W base sp held n t cs=some x)(c:B x.1<=N):
  ∃m,cs.length=P.cellsOf t/\∀(i:Nat) (f:Field),fs.toList[i]?=some f->∃y,DataW.trod enc P W base sp held m f.type ((cs.drop f.offset).take<|P.cellsOf f.type)=some y/\B y.1<=N:=by
 cases n with
 |zero=>cases h
 |succ n =>
  rw[DataW.trod_step]at h
  unfold DataW.trodStep at h
  rw[ht]at h
  simp only at h
  split at h
  rename_i d
  cases hm:fs.toList.mapM (fun f=>DataW.trod enc P W base sp held n f.type<|(cs.drop f.offset).take<|P.cellsOf f.type)with
  |none=>rw[hm]at h;cases h
  |some r =>
   rw[hm]at h
   cases h
   refine⟨n,d,fun i f e=>?_⟩
   have⟨b,a,hr⟩:=(jAJ hm).2 i f e
   exact⟨b,a,Nat.le_trans (hB.agg<|mem_map.2 ⟨b,mem_of_getElem? hr,rfl⟩) c⟩
  cases h
theorem jRQ{t e}(ht:P.underlying t=some (.slice e)){n c}{x:DataW H×List MemPlace}(h:DataW.trod enc P W base sp held (n+1) t [c]=some x)(d:B x.1<=N):
  c=.slice none 0 0\/∃a len cap,c=.slice (some a) len cap/\len<=cap/\len<=N/\∀i,i<len->∃cs y,W.cells? base (a.add<|i*P.cellsOf e) (P.cellsOf e)=some cs/\DataW.trod enc P W base sp held n e cs=some y/\B y.1<=N:=by
 rw[DataW.trod_step]at h
 unfold DataW.trodStep at h
 rw[ht]at h
 cases c with
 |slice a len cap =>
  cases a with
  |none =>
   cases len with
   |zero=>cases cap with
    |zero=>exact .inl rfl
    |succ c=>simp at h
   |succ l=>simp at h
  |some a =>
   right
   simp only at h
   split at h
   rename_i j
   cases hm:(range len).mapM fun i=>(W.cells? base (a.add<|i*P.cellsOf e)<|P.cellsOf e).bind (DataW.trod enc P W base sp held n e)with
   |none=>rw[hm]at h;cases h
   |some r =>
    rw[hm]at h
    obtain⟨q,_,rfl⟩:=Option.map_eq_some_iff.1 h
    have g:=(jAJ hm).1
    simp at g
    have h1:=hB.len (r.map (·.1))<|q.map (·.1)
    rw[length_map]at h1
    refine⟨a,len,cap,rfl,j.2.1,by simp only at d;omega,fun i hi=>?_⟩
    have⟨b,f,hr⟩:=(jAJ hm).2 i i (by simp[hi])
    have⟨cs,h1,h2⟩:=Option.bind_eq_some_iff.1 f
    exact⟨cs,b,h1,h2,Nat.le_trans (hB.elem<|mem_map.2 ⟨b,mem_of_getElem? hr,rfl⟩) d⟩
   cases h
 |_=>simp at h
theorem jFK{α:Type}{tS e sz}{f:α->List Value}(hS:P.underlying tS=some (.slice e))(l:P.cellsOf e=sz)(o:∀a,∃v vs,f a=v :: vs)(r:α)(k:∀(n:Nat) (cs:List Value) (x:DataW H×List MemPlace),DataW.trod enc P W base sp held n e cs=some x->B x.1<=N->∃a,cs=f a){n c}{x:DataW H×List MemPlace}(h:DataW.trod enc P W base sp held n tS [c]=some x)(t:B x.1<=N):
  ∃s:Sl,∃xs:List α,c=s.v/\Lst (fun b=>b<W.heap.size) W sz s (xs.map f)/\xs.length<=N:=by
 cases n with
 |zero=>cases h
 |succ n =>
  rcases jRQ hB hS h t with rfl|⟨a,len,cap,rfl,m,j,d⟩
  exact⟨Sl.nil,[],rfl,⟨rfl,fun i hi=>by simp at hi⟩,Nat.zero_le _⟩
  rw[l]at d
  have g:∀i,∃q:α,i<len->Row W (a.add<|i*sz) (f q):=by
   intro i;by_cases hi:i<len;have⟨cs,y,h1,h2,h3⟩:=d i hi;obtain⟨q,rfl⟩:=k n cs y h2 h3;exact⟨q,fun _=>(zAF h1).2⟩;exact⟨r,fun h=>absurd h hi⟩
  have⟨q,p⟩:=Classical.axiomOfChoice g
  refine⟨⟨some a,len,cap⟩,(range len).map q,rfl,⟨Sm,fun i hi=>?_⟩,by simpa using j⟩
  have hi:i<len:=by simpa using hi
  have hr:=p i hi
  have⟨v,vs,e⟩:=o<|q i
  refine⟨a.add<|i*sz,⟨Om,by simpa using hi,a,rfl,Sm⟩,?_,by simpa using hr⟩
  rw[e]at hr;exact row_lt hr
end
section
variable {H:Type} {enc:TypeId×Value->H} {W:World} {base:Nat} {sp:Nat->Bool} {held:Bool} {B:DataW H->Nat} (hB:Blk B) {N:Nat}
include hB
set_option maxRecDepth 100000 in
theorem jSE{n:Nat}{cs:List Value}{x:DataW H×List MemPlace}(h:DataW.trod enc prog W base sp held n 88 cs=some x)(l:B x.1<=N):∃o:Op,cs=oK o/\yH o.num/\o.text.size<=N:=by
 have⟨m,b,a⟩:=jBT hB underlying88 h l;rw[show(prog.cellsOf 88)=5 by kernel_rfl]at b;match cs,b with
 |[c0,q,s,r,p],_ =>
  have⟨_,d,_⟩:=a 0 _ rfl
  have⟨_,h1,_⟩:=a 1 _ rfl
  have⟨_,h2,_⟩:=a 2 _ rfl
  have⟨_,h3,_⟩:=a 3 _ rfl
  have⟨_,c,b4⟩:=a 4 _ rfl
  simp only[show(prog.cellsOf 3)=1 by kernel_rfl,show(prog.cellsOf 23)=1 by kernel_rfl,show(prog.cellsOf 9)=1 by kernel_rfl]at d h1 h2 h3 c
  obtain⟨g,rfl⟩:=oI underlying3 d
  obtain⟨f,rfl⟩:=oI underlying3 h1
  obtain⟨e,rfl⟩:=oI underlying3 h2
  obtain⟨k,rfl,hm⟩:=jMJ underlying23 h3
  obtain⟨i,rfl,j⟩:=jIT hB underlying9 c b4
  exact⟨⟨g,f,e,k,i⟩,rfl,hm,j⟩
set_option maxRecDepth 100000 in
theorem zGT{n:Nat}{c:Value}{x:DataW H×List MemPlace}(h:DataW.trod enc prog W base sp held n 36 [c]=some x)(d:B x.1<=N):∃s:Sl,∃l:List Op,c=s.v/\Lst (fun b=>b<W.heap.size) W 5 s (l.map oK)/\l.length<=N/\∀o∈l,yH o.num/\o.text.size<=N:=by
 have⟨s,xs,e,i,g⟩:=jFK (α:={o:Op // yH o.num/\o.text.size<=N}) (sz:=5) (f:=fun o=>oK o.1) hB underlying36 Kf (fun a=>⟨_,_,rfl⟩) ⟨⟨0,0,0,0,⟨#[]⟩⟩,⟨De,De⟩,Nat.zero_le _⟩ (fun _ _ _ h d=>by
  have⟨o,e,j⟩:=jSE hB h d;exact⟨⟨o,j⟩,e⟩) h d
 refine⟨s,xs.map Subtype.val,e,by rw[map_map];exact i,by simpa using g,fun m hm=>?_⟩;obtain⟨y,_,rfl⟩:=mem_map.1 hm;exact y.2
set_option maxRecDepth 100000 in
theorem jJV{n:Nat}{cs:List Value}{x:DataW H×List MemPlace}(h:DataW.trod enc prog W base sp held n 35 cs=some x)(p:B x.1<=N):∃l:Letter,cs=jWG l/\yH l.c/\l.text.size<=N:=by
 have⟨m,b,a⟩:=jBT hB underlying35 h p;rw[show(prog.cellsOf 35)=5 by kernel_rfl]at b;match cs,b with
 |[c0,r,t,s,q],_ =>
  have⟨_,e,_⟩:=a 0 _ rfl
  have⟨_,h1,_⟩:=a 1 _ rfl
  have⟨_,h2,_⟩:=a 2 _ rfl
  have⟨_,h3,b3⟩:=a 3 _ rfl
  have⟨_,d,_⟩:=a 4 _ rfl
  simp only[show(prog.cellsOf 3)=1 by kernel_rfl,show(prog.cellsOf 23)=1 by kernel_rfl,show(prog.cellsOf 9)=1 by kernel_rfl,show(prog.cellsOf 4)=1 by kernel_rfl]at e h1 h2 h3 d
  obtain⟨i,rfl⟩:=oI underlying3 e
  obtain⟨g,rfl⟩:=oI underlying3 h1
  obtain⟨f,rfl,hm⟩:=jMJ underlying23 h2
  obtain⟨o,rfl,k⟩:=jIT hB underlying9 h3 b3
  obtain⟨j,rfl⟩:=jVH underlying4 d
  exact⟨⟨i,g,f,o,j⟩,rfl,hm,k⟩
set_option maxRecDepth 100000 in
theorem jTH(e:N<=1048576){n:Nat}{cs:List Value}{x:DataW H×List MemPlace}(h:DataW.trod enc prog W base sp held n 38 cs=some x)(t:B x.1<=N):∃a:Act,cs=tX a/\ActOk (fun b=>b<W.heap.size) W a:=by
 have⟨m,c,d⟩:=jBT hB underlying38 h t;rw[show(prog.cellsOf 38)=9 by kernel_rfl]at c;match cs,c with
 |[c0,C,z,D,y,A,w,F,E],_ =>
  have⟨_,p,_⟩:=d 0 _ rfl
  have⟨_,h1,b1⟩:=d 1 _ rfl
  have⟨_,h2,b2⟩:=d 2 _ rfl
  have⟨_,h3,_⟩:=d 3 _ rfl
  have⟨_,j,b4⟩:=d 4 _ rfl
  simp only[show(prog.cellsOf 3)=1 by kernel_rfl,show(prog.cellsOf 9)=1 by kernel_rfl,show(prog.cellsOf 35)=5 by kernel_rfl,show(prog.cellsOf 36)=1 by kernel_rfl]at p h1 h2 h3 j
  obtain⟨r,rfl⟩:=oI underlying3 p
  obtain⟨q,rfl,v⟩:=jIT hB underlying9 h1 b1
  have⟨l,c,f,g⟩:=jJV hB h2 b2
  obtain⟨s,rfl⟩:=oI underlying3 h3
  obtain⟨so,ops,rfl,u,i,k⟩:=zGT hB j b4
  simp only[jWG,drop,take,List.cons.injEq,and_true]at c
  obtain⟨rfl,rfl,rfl,rfl,rfl⟩:=c
  exact⟨⟨r,q,l,s,so,ops⟩,rfl,f,fun o h=>(k o h).1,u,Nat.le_trans v e,Nat.le_trans g e,Nat.le_trans i e,fun o h=>Nat.le_trans (k o h).2 e⟩
set_option maxRecDepth 100000 in
theorem zIK(k:N<=1048576){n:Nat}{c:Value}{x:DataW H×List MemPlace}(h:DataW.trod enc prog W base sp held n 22 [c]=some x)(d:B x.1<=N):∃s:Sl,∃l:List Act,c=s.v/\Lst (fun b=>b<W.heap.size) W 9 s (l.map tX)/\∀a∈l,ActOk (fun b=>b<W.heap.size) W a:=by
 have⟨s,xs,e,j,_⟩:=jFK (α:={a:Act // ActOk (fun b=>b<W.heap.size) W a}) (sz:=9) (f:=fun a=>tX a.1) hB underlying22 Kf (fun a=>⟨_,_,rfl⟩) ⟨⟨0,⟨#[]⟩,⟨0,0,0,⟨#[]⟩,false⟩,0,Sl.nil,[]⟩,⟨De,De⟩,Sm,⟨rfl,fun i hi=>by simp at hi⟩,Nat.zero_le _,Nat.zero_le _,Nat.zero_le _,Sm⟩ (fun _ _ _ h d=>by
  have⟨a,e,g⟩:=jTH hB k h d;exact⟨⟨a,g⟩,e⟩) h d
 refine⟨s,xs.map Subtype.val,e,by rw[map_map];exact j,fun m hm=>?_⟩;obtain⟨y,_,rfl⟩:=mem_map.1 hm;exact y.2
end
end Go.Proofs
end
section
namespace Go.SE
open Go.ChangeShapes Go.WideShapes Go.ChangeAt Go.RowKit
section
variable {H:Type} {enc:TypeId×Value->H} {P:Program}
def jSL{C:Checked}{os:Os}{f fn}{s:OpenSpec}{k:(H:Type)->List (DataW H)->Bool}(L:s.cond=some k){F:Stop.Interp}{t}(D:laidOutB C.prog=true)(A:s.vars=[])(l:(s.at F).vars=[])(G:∀ds:List (DataW H),ds.length=fn.params.size->(s.at F).fn H ds={ results:=[.lit<|.bool true],args:=ds })(o:fn.resultTypes=#[t])(ht:C.prog.underlying t=some .bool)(hr:(fn.params.toList.all fun t=>C.prog.readableRec t && decide (t<C.prog.types.size))=true)(own:ownKnob C.prog.godebug=none)(c:os.Started)(d:C.prog.inits.idxOf? f=none)(u:C.prog.funcs[f]?=some fn)(b:∃(w:World) (tape:Tape) (i:Input),w.os=os/\(w.forCall tape i).Shaped C.prog/\i.vars=[]/\Input.okWide C.prog (w.forCall tape i) .any w.heap.size f i /\
   s.pre6 enc C.prog fn [] false (w.forCall tape i).memory i.args/\({}:Assume).holds C.prog (lone (Frame.enter C.prog f i.args .normal) []<|w.forCall tape i))(a:∀(W:World) (base:Nat) (args:Array Value) (ds:List (DataW H)) (p:List MemPlace),
   (∀(j:Nat) t v,fn.params[j]?=some t->args[j]?=some v->Value.okWide C.prog W .any base t v) ->
   DataW.TrodAll enc C.prog W 0 (fun _=>true) true fn.params.toList args.toList ds p->(∀x∈p,x.block<W.heap.size)->k H ds=true ->
   Calls C.prog f args W fun e z=>∃r:Bool,e=.returned (.bool r)/\(r=true/\Pure W z)):
  ReturnsInHanded {} C os f .any (s.pre6 enc C.prog fn [] false)<|(s.at F).post enc C.prog fn false true false false:=by
 refine returnsInHanded_of_cond L own c d u b ?_
 intro W base args ds N n m B _ h _
 have g:=B
 obtain⟨p,q,E,y,rfl,I,M⟩:=B
 rw[A]at y
 obtain⟨rfl,rfl⟩:=trodVars_none y
 rw[List.append_nil]at h
 refine(a W base args ds p m E (fun x J=>by simpa using g.lt x (by simp[J])) h).mono fun e z ⟨r,K,h1,h2⟩=>?_
 subst h1
 rw[A,<-l]at g
 exact⟨_,K,zDF D l G o ht hr g h2⟩
end
end Go.SE
end
