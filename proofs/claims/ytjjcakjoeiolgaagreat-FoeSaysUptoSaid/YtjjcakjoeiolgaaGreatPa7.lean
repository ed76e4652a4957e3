import Derived.Test.YtjjcakjoeiolgaaGreatPa4
import Derived.Test.YtjjcakjoeiolgaaGreatProg
import Derived.KernelRfl
import Derived.Test.YtjjcakjoeiolgaaGreatPa3
import Derived.Test.YtjjcakjoeiolgaaGreatPa5
import Derived.Test.YtjjcakjoeiolgaaGreatPa6
set_option linter.defProp false
section
open Go Go.SE List
namespace Go.Proofs
def mq(L:av)(S:List gx)(t y:Int):Prop:=
 (∃v∈S,v.t=t/\v.gz≠0/\y=v.ay)\/(t∉zG S/\0<y/\(y=(rj L S t).1\/y=(rj L S t).2.1))
inductive Dp(L:av)(S:List gx):Int->Int->Prop
 |refl (t:Int):Dp L S t t
 |step {t y z:Int}:mq L S t y->Dp L S y z->Dp L S t z
def mq.ou{L S t y a b f m}(h:rj L S t=(a,b,f,m))(ht:t∉zG S):mq L S t y↔0<y/\(y=a\/y=b):=by
 unfold mq;rw[h];constructor;rintro(⟨v,c,rfl,_⟩|⟨_,h⟩);exact absurd (mem_map.2 ⟨v,c,rfl⟩) ht;exact h;grind
def mq.ua{L S t y r f}(i:(zG S).Nodup)(b:SE.eu (S.map fun v=>(v.t,(v.gz,v.ay))) t=some (r,f)):mq L S t y↔r≠0/\y=f:=by
 have hm:=tU b;have⟨v,d,e⟩:=mem_map.1 hm;simp only[Prod.mk.injEq]at e;obtain⟨rfl,rfl,rfl⟩:=e;have c:v.t∈zG S:=mem_map.2 ⟨v,d,rfl⟩;unfold mq;constructor;rintro(⟨u,g,e,hr,rfl⟩|⟨h,_⟩);have a:((S.map fun v=>(v.t,(v.gz,v.ay))).map Prod.fst).Nodup:=by rw[map_map];exact i
 have h2:=TB a<|mem_map.2 ⟨u,g,rfl⟩;rw[e,b]at h2;simp only[Option.some.injEq,Prod.mk.injEq]at h2;exact⟨by rw[h2.1];exact hr,h2.2.symm⟩;exact absurd c h;grind
def Dp.all{L:av}{S:List gx}{M:List gl}(b:∀s∈M,∀y,mq L S s.t y->y∈M.map gl.t){t x:Int}(ht:t∈M.map gl.t)(h:Dp L S t x):x∈M.map gl.t:=by
 induction h with
 |refl=>exact ht
 |step a _ c =>
  obtain⟨s,hs,rfl⟩:=mem_map.1 ht
  exact c<|b s hs _ a
end Go.Proofs
namespace Go.Proofs
open Tryz
attribute [local irreducible] Calls
def BT(s:gl):List Value:=[vi s.gz,vi s.a,vi s.b,vi s.t]
def Y6:j1 prog 169 173 4 32:=by
 refine⟨underlying169,⟨t173,_,Kf,(by kernel_rfl:t173.zero=some (.agg #[vi 0,vi 0,vi 0,vi 0])),Kf,Kf,rfl⟩,Om⟩
def Jt(_:Unit):Value:=vb true
def vt(B:List Int):List (Int×Unit):=B.map fun t=>(t,())
def Mu(B):(vt B).map Prod.fst=B:=by
 unfold vt;rw[map_map];exact map_id' B
def QX(B t):vt (B++[t])=vt B++[(t,())]:=by simp[vt]
def PW(ma mb:Nat)(c5:Addr)(sl:Sl)(b:Nat):Prop:=b=ma\/b=mb\/b=c5.block\/sl.ao b
def jaZ(f:FuncId)(c1 c2 c3 c4 c5:Addr):Value:=.func (.func f) #[] #[vp<|some c1,vp<|some c2,vp<|some c3,vp<|some c4,vp<|some c5]
structure rB(w:World)(k:Addr)(c1 c2 c3 c4 c5:Addr)(ma mb:Nat)(sl:Sl)(l:List gl)(B:List Int):Prop where
 a1:w.cell? c1=some (.map<|some ma)
 a2:w.cell? c2=some (.map<|some mb)
 a3:w.cell? c3=some (vp<|some k)
 a4:w.cell? c4=some (jaZ 160 c1 c2 c3 c4 c5)
 a5:ai w c5 [sl.v] 169
 am:fc pM w ma (ug l)
 bm:fc Jt w mb (vt B)
 ls:bf w 173 4 sl (l.map BT)
 d:∀b,PW ma mb c5 sl b->b≠c1.block/\b≠c2.block/\b≠c3.block/\b≠c4.block
 n1:ma≠mb
 n2:ma≠c5.block
 n3:mb≠c5.block
 n4:¬sl.ao ma
 n5:¬sl.ao mb
 n6:¬sl.ao c5.block
structure pL(w:World)(k p:Addr)(c1 c2 c3 c4 c5:Addr)(ma mb:Nat)(L:av)(G:List Int)(S:List gx)(F FP:NP)(sl:Sl)(l:List gl)(B:List Int):Prop where
 dG:rB w k c1 c2 c3 c4 c5 ma mb sl l B
 fh:qJ w k p G S F
 bj:zD w p L FP
 dF:∀b,F b->¬PW ma mb c5 sl b
 dP:∀b,FP b->¬PW ma mb c5 sl b
section
variable {w w':World} {k p c1 c2 c3 c4 c5:Addr} {ma mb:Nat} {L:av} {G:List Int} {S:List gx} {F FP:NP} {sl:Sl} {l:List gl} {B:List Int}
def rB.ext{X}(h:rB w k c1 c2 c3 c4 c5 ma mb sl l B)(a:ab X w w')(h1:∀b,PW ma mb c5 sl b->¬X b)(g:¬X c1.block)(c:¬X c2.block)(e:¬X c3.block)(f:¬X c4.block):rB w' k c1 c2 c3 c4 c5 ma mb sl l B:=
 ⟨a.cell h.a1 g,a.cell h.a2 c,a.cell h.a3 e,a.cell h.a4 f,h.a5.ext a<|h1 _<|.inr<|.inr<|.inl rfl,h.am.ext a<|h1 _<|.inl rfl,h.bm.ext a<|h1 _<|.inr<|.inl rfl,h.ls.ext a fun b i=>h1 b<|.inr<|.inr<|.inr i,h.d,h.n1,h.n2,h.n3,h.n4,h.n5,h.n6⟩
def rB.lt(h:rB w k c1 c2 c3 c4 c5 ma mb sl l B){b}(a:PW ma mb c5 sl b):b<w.heap.size:=by
 rcases a with rfl|rfl|rfl|a;exact h.am.lt;exact h.bm.lt;exact h.a5.lt;exact h.ls.lt a
def pL.ext{X n}(h:pL w k p c1 c2 c3 c4 c5 ma mb L G S F FP sl l B)(d:ab X w w')(i:∀b,X b->n<=b)(j:∀b,PW ma mb c5 sl b->b<n\/¬X b)(zc:c1.block<n/\c2.block<n/\c3.block<n/\c4.block<n)(g:∀b,F b->b<n)(e:∀b,FP b->b<n):pL w' k p c1 c2 c3 c4 c5 ma mb L G S F FP sl l B:=by
 have a:∀b,b<n->¬X b:=fun b c f=>Oh<|i b f;exact⟨h.dG.ext d Gd (a _ zc.1) (a _ zc.2.1) (a _ zc.2.2.1)<|a _ zc.2.2.2,h.fh.ext d fun b c=>a b<|g b c,h.bj.ext d fun b c=>a b<|e b c,h.dF,h.dP⟩
def pL.pure(h:pL w k p c1 c2 c3 c4 c5 ma mb L G S F FP sl l B)(E:Pure w w'):pL w' k p c1 c2 c3 c4 c5 ma mb L G S F FP sl l B:=
 ⟨h.dG.ext E (fun _ _ h=>h) (fun h=>h) (fun h=>h) (fun h=>h) fun h=>h,h.fh.pure E,h.bj.pure E,h.dF,h.dP⟩
def pL.zc(h:pL w k p c1 c2 c3 c4 c5 ma mb L G S F FP sl l B):c1.block<w.heap.size/\c2.block<w.heap.size/\c3.block<w.heap.size/\c4.block<w.heap.size:=
 ⟨World.block_lt_of_cell? w _ h.dG.a1,World.block_lt_of_cell? w _ h.dG.a2,World.block_lt_of_cell? w _ h.dG.a3,World.block_lt_of_cell? w _ h.dG.a4⟩
def rB.zj(h:rB w k c1 c2 c3 c4 c5 ma mb sl l B)(t:Int):∃w',(Instr.mapUpdate 232 (.map<|some mb) (vi t)<|vb true).run prog w=.ok () w'/\(∃c,(c=B\/c=B++[t])/\rB w' k c1 c2 c3 c4 c5 ma mb sl l c)/\ab (·=mb) w w':=by
 have f:=h.d mb<|.inr<|.inl rfl;have ue:∀{w':World} {c:List Int},fc Jt w' mb (vt c)->ab (·=mb) w w'->rB w' k c1 c2 c3 c4 c5 ma mb sl l c:=fun i a =>
  ⟨a.cell h.a1 fun e=>f.1 e.symm,a.cell h.a2 fun e=>f.2.1 e.symm,a.cell h.a3 fun e=>f.2.2.1 e.symm,a.cell h.a4 fun e=>f.2.2.2 e.symm,h.a5.ext a fun e=>h.n3 e.symm,h.am.ext a h.n1,i,h.ls.ext a fun b j e=>h.n5<|e▸j,h.d,h.n1,h.n2,h.n3,h.n4,h.n5,h.n6⟩
 cases g:SE.eu (vt B) t with
 |none =>
  have⟨w',h1,h2,h3⟩:=h.bm.put (P:=prog) (T:=232) underlying232 underlying73 g ()
  exact⟨w',h1,⟨_,.inr rfl,ue (by rw[QX];exact h2) h3⟩,h3⟩
 |some v =>
  cases v
  have⟨w',h1,h2,h3⟩:=h.bm.gi (P:=prog) (T:=232) underlying232 underlying73 g
  exact⟨w',h1,⟨_,.inl rfl,ue h2 h3⟩,h3⟩
def rB.Th(h:rB w k c1 c2 c3 c4 c5 ma mb sl l B)(t:Int):(Instr.lookup 232 (.map<|some mb) (vi t) false).run prog w=.ok (vb<|decide (t∈B)) w:=by
 rcases h.bm.get (P:=prog) (T:=232) underlying232 underlying73 (zeroValue4 _) t false with⟨h1,h2⟩|⟨v,h1,h2⟩;have b:t∉B:=by have:=uV.1 h1;rwa [Mu]at this
 rw[decide_eq_false b];exact h2;have a:t∈B:=by have:=tU h1;rw[<-Mu B];exact mem_map.2 ⟨_,this,rfl⟩
 rw[decide_eq_true a];exact h2
end
structure Ia(w0:World)(k p:Addr)(c1 c2 c3 c4 c5:Addr)(ma mb:Nat)(L:av)(G:List Int)(S:List gx)(F FP:NP)(sl:Sl)(l:List gl)(t r:Int)(ok:Bool)(w':World)(a:Sl)(M:List gl)(c:List Int):Prop where
 st:pL w' k p c1 c2 c3 c4 c5 ma mb L G S F FP a (l++M) c
 dG:qf L G (fun x=>x∈zG S) (l++M) c
 aw:∀s∈M,km S s.t<=km S t/\(iw L t s.t\/s.t∈zG S)
 yz:ok=true->∃i,r=((i:Nat):Int)/\∃hi:i<(l++M).length,(l++M)[i].t=t
 yn:ok=true↔dr L (fun x=>x∈zG S) t
 ext:ab (PW ma mb c5 sl) w0 w'
 ak:∀b,a.ao b->sl.ao b\/w0.heap.size<=b
 jaV:ok=true->M=[]\/pz (l++M) (((l++M).length:Int)-1)=t
 dp:∀s∈M,Dp L S t s.t
 cl:∀s∈M,∀y,mq L S s.t y->y∈(l++M).map gl.t
structure pJ(w0:World)(H:NP)(w:World)(k p:Addr)(c1 c2 c3 c4 c5:Addr)(ma mb:Nat)(L:av)(G:List Int)(S:List gx)(F FP:NP)(sl:Sl)(l:List gl)(t:Int)(sl1:Sl)(M B:_):Prop where
 st:pL w k p c1 c2 c3 c4 c5 ma mb L G S F FP sl1 (l++M) B
 dG:qf L G (fun x=>x∈zG S) (l++M) B
 aw:∀s∈M,km S s.t<km S t/\(iw L t s.t\/s.t∈zG S)
 ext:ab (PW ma mb c5 sl) w0 w
 ak:∀b,sl1.ao b->sl.ao b\/w0.heap.size<=b
 jf:∀b,sl1.ao b->¬H b
 hs:af w0 H w H w
 dp:∀s∈M,Dp L S t s.t
 cl:∀s∈M,∀y,mq L S s.t y->y∈(l++M).map gl.t
section
variable {w0 w w':World} {H H':NP} {k p c1 c2 c3 c4 c5:Addr} {ma mb:Nat} {L:av} {G:List Int} {S:List gx} {F FP:NP} {sl sl1 sl2:Sl} {l M M2:List gl} {B0 B B2:List Int} {t:Int}
def PW.old(h:pL w0 k p c1 c2 c3 c4 c5 ma mb L G S F FP sl l B0)(c:∀b,sl1.ao b->sl.ao b\/w0.heap.size<=b):∀b,PW ma mb c5 sl1 b->b<w0.heap.size->PW ma mb c5 sl b:=by
 rintro b (a|a|a|a) d;exact .inl a;exact .inr<|.inl a;exact .inr<|.inr<|.inl a;exact(c b a).elim (fun h=>.inr<|.inr<|.inr h) fun h=>Om
def pJ.nh(h:pJ w0 H w k p c1 c2 c3 c4 c5 ma mb L G S F FP sl l t sl1 M B)(a:pL w0 k p c1 c2 c3 c4 c5 ma mb L G S F FP sl l B0):∀b,PW ma mb c5 sl1 b->¬H b:=by
 have old:∀b,b<w0.heap.size->¬H b:=fun b c hh=>Oh<|h.hs.old b hh;rintro b (rfl|rfl|rfl|c);exact old _<|a.dG.lt<|.inl rfl;exact old _<|a.dG.lt<|.inr<|.inl rfl;exact old _<|a.dG.lt<|.inr<|.inr<|.inl rfl;exact h.jf b c
def pJ.aq(h:pJ w0 H w k p c1 c2 c3 c4 c5 ma mb L G S F FP sl l t sl1 M B)(c:pL w0 k p c1 c2 c3 c4 c5 ma mb L G S F FP sl l B0)(hs:af w0 H w H' w'):pJ w0 H' w' k p c1 c2 c3 c4 c5 ma mb L G S F FP sl l t sl1 M B:=by
 have d:=hs.ja (G:=PW ma mb c5 sl1) fun b a=>⟨h.st.dG.lt a,h.nh c b a⟩;exact⟨h.st.ext hs.ext hs.old (fun b a=>.inr<|d b a) c.zc (fun b a=>c.fh.lt a) fun b a=>c.bj.lt a,h.dG,h.aw,h.ext.aq hs,h.ak,fun b a=>d b<|.inr<|.inr<|.inr a,hs.fi,h.dp,h.cl⟩
def pJ.step{u r ok}(h:pJ w0 H w k p c1 c2 c3 c4 c5 ma mb L G S F FP sl l t sl1 M B)(j:pL w0 k p c1 c2 c3 c4 c5 ma mb L G S F FP sl l B0)(hr:Ia w k p c1 c2 c3 c4 c5 ma mb L G S F FP sl1 (l++M) u r ok w' sl2 M2 B2)(n:km S u<km S t)(d:iw L t u\/u∈zG S)(e:∀x,u∈zG S->km S x<=km S u->x∈zG S)(c:mq L S t u):
  aj H w w'/\pJ w0 H w' k p c1 c2 c3 c4 c5 ma mb L G S F FP sl l t sl2 (M++M2) B2:=by
 have g:aj H w w':=hr.ext.bl fun b a m=>h.nh j b m a
 refine⟨g,by rw[<-append_assoc];exact hr.st,by rw[<-append_assoc];exact hr.dG,fun s hs=>?_,h.ext.cg hr.ext fun i hi a=>PW.old j h.ak i a hi,fun b a=>?_,fun b a hh=>?_,h.hs.gi g,fun s hs=>?_,fun s hs y f=>?_⟩
 rcases mem_append.1 hs with hs|hs
 exact h.aw s hs
 have⟨q1,q2⟩:=hr.aw s hs
 refine⟨Om,?_⟩
 rcases q2 with q2|q2
 rcases d with h1|h1
 exact .inl<|h1.trans q2
 exact .inr<|e _ h1 q1
 exact .inr q2
 rcases hr.ak b a with h1|h1
 exact h.ak b h1
 right;have:=h.ext.size;omega
 rcases hr.ak b a with h1|h1
 exact h.jf b h1 hh
 have:=h.hs.lt b hh;omega
 rcases mem_append.1 hs with hs|hs
 exact h.dp s hs
 exact .step c<|hr.dp s hs
 rw[<-append_assoc]
 rcases mem_append.1 hs with hs|hs
 rw[map_append];exact mem_append_left _<|h.cl s hs y f
 exact hr.cl s hs y f
end
def jPD{S u x}(b:u∈zG S)(h:km S x<=km S u):x∈zG S:=by
 refine Classical.byContradiction fun a=>?_;have:=HT b;rw[Fw a]at h;omega
end Go.Proofs
end
section
open Go Go.SE List
namespace Go.Proofs
open Tryz
attribute [local irreducible] Calls
def Si(k p c1 c2 c3 c4 E:Addr)(ma mb:Nat){L:av}{G:List Int}{S:List gx}{F FP:NP}(hW:Wf L)(hk:ny L G S):∀(n:Nat) (t:Int) (w0:World) (sl:Sl) (l:List gl) (B:List Int),km S t<n ->
  pL w0 k p c1 c2 c3 c4 E ma mb L G S F FP sl l B->qf L G (fun x=>x∈zG S) l B ->
  cl 160 #[vi t,vp (some c1),vp (some c2),vp (some c3),vp (some c4),vp (some E)] w0 (XE fun r ok w'=>∃sl' M B',Ia w0 k p c1 c2 c3 c4 E ma mb L G S F FP sl l t r ok w' sl' M B'):=by
 intro n
 induction n with
 |zero=>intro t w0 sl l B h;omega
 |succ n ih =>
 intro t w0 sl l B hrk J hp0
 suffices key:∀K:Int->Bool->WP,(∀r ok w' sl' M B',Ia w0 k p c1 c2 c3 c4 E ma mb L G S F FP sl l t r ok w' sl' M B'->K r ok w')->G0 t c1 c2 c3 c4 E w0 K from
  Xg _ _ _ _ _ _ w0 _ (key _ fun r ok w' sl' M B' h=>⟨sl',M,B',h⟩)
 intro K hK
 have hKs:∀r u t,u∈zG S->xD L r u t->t∈zG S:=fun r u t hu ha=>hk.rW u hu r t ha
 unfold G0
 rcases J.dG.am.get (P:=prog) (T:=231) underlying231 underlying73 (zeroValue3 _) t true with⟨hl,hrun⟩|⟨v,hl,hrun⟩
 case inr =>
  obtain⟨i,hi,rfl,iu⟩:=RH hl
  refine⟨_,J.dG.a1,_,true,hrun,Br.t rfl (hK _ _ w0 sl [] B ⟨by simpa using J,by simpa using hp0,Sm,fun _=>⟨i,rfl,by simpa using hi,by simpa using iu⟩,⟨fun _=>iu▸hp0.yn _ (getElem_mem hi),fun _=>rfl⟩,ab.refl _,fun b g=>.inl g,fun _=>.inl rfl,Sm,Sm⟩)⟩
 case inl =>
 have htl:t∉l.map gl.t:=KU.1 hl
 refine⟨_,J.dG.a1,_,false,hrun,Br.f rfl ?_⟩
 intro H1 w2 hs2
 have old:∀{H:NP} {w:World},af w0 H w H w->∀b,b<w0.heap.size->¬H b:=fun hs b g hh=>Oh (hs.old b hh)
 have C0:pJ w0 ar w0 k p c1 c2 c3 c4 E ma mb L G S F FP sl l t sl [] B:=⟨by simpa using J,by simpa using hp0,Sm,ab.refl _,fun b g=>.inl g,fun b _ h=>h,af.start w0,Sm,Sm⟩
 have C2:=C0.aq J hs2
 have c5h:∀{H:NP} {w:World} {j:Sl} {M B1:_},pJ w0 H w k p c1 c2 c3 c4 E ma mb L G S F FP sl l t j M B1->¬H E.block:=fun C=>C.nh J _ (.inr (.inr (.inl rfl)))
 have J1f:∀(r a b:Int) (H:NP) (w:World) (j:Sl) (M:List gl) (B1:List Int),pJ w0 H w k p c1 c2 c3 c4 E ma mb L G S F FP sl l t j M B1->¬dr L (fun x=>x∈zG S) t->wE t c1 c2 E false r a b t H w K:=by
  intro r a b H w j M B1 C hnd;refine Br.t rfl ?_;have⟨w5,hr5,⟨B',hB',P5⟩,E5⟩:=C.st.dG.zj t;have hmb:=C.nh J mb (.inr (.inl rfl));have hpb:qf L G (fun x=>x∈zG S) (l++M) B':=by
   rcases hB' with rfl|rfl
   .exact C.dG
   .exact C.dG.Yd hnd
  refine⟨_,C.st.dG.a2,w5,hr5,E5.bl fun b g e=>hmb (e▸g),hK 0 false w5 j M B' ⟨⟨P5,C.st.fh.ext E5 fun b g e=>C.st.dF b g (.inr (.inl e)),C.st.bj.ext E5 fun b g e=>C.st.dP b g (.inr (.inl e)),C.st.dF,C.st.dP⟩,hpb,fun s hs=>⟨Nat.le_of_lt (C.aw s hs).1,(C.aw s hs).2⟩,(fun h=>by cases h),⟨(fun h=>by cases h),fun h=>absurd h hnd⟩,C.ext.cg E5 fun i hi e=>.inr (.inl e),C.ak,(fun h=>by cases h),C.dp,C.cl⟩⟩
 have J1t:∀(r a b:Int) (H:NP) (w:World) (j:Sl) (M:List gl) (B1:List Int),pJ w0 H w k p c1 c2 c3 c4 E ma mb L G S F FP sl l t j M B1->nn L G (l++M) ⟨r,a,b,t⟩=true->dr L (fun x=>x∈zG S) t->(∀y,mq L S t y->y∈(l++M).map gl.t)->wE t c1 c2 E true r a b t H w K:=by
  intro r a b H w j M B1 C hfol hdt hdp;refine Br.f rfl ?_;have hsl:j.len=(l++M).length:=by rw[C.st.dG.ls.len];simp
  have hfew:=C.dG.fm;have hL6:=hW.ok.fm;have htn:t∉(l++M).map gl.t:=by
   rw[map_append,mem_append];rintro(h|h)
   .exact htl h
   .have⟨s,hs,e⟩:=mem_map.1 h;have:=(C.aw s hs).1;rw[e]at this;omega
  have hlk:=KU.2 htn;have⟨w5,hr5,I5,E5⟩:=C.st.dG.am.put (P:=prog) (T:=231) underlying231 underlying73 hlk ((l++M).length:Int);have hma:=C.nh J ma (.inl rfl);have da:=C.st.dG.d ma (.inl rfl);have b5:ai w5 E [j.v] 169:=C.st.dG.a5.ext E5 fun e=>C.st.dG.n2 e.symm;refine⟨_,C.st.dG.a1,j,C.st.dG.a5.bd,w5,by rw[hsl];exact hr5,E5.bl fun b g e=>hma (e▸g),j,b5.bd,?_⟩;intro p3 w7 h7;have E7:Pure w5 w7:=ab.aw h7;have ls7:=(C.st.dG.ls.ext E5 fun b g e=>C.st.dG.n4 (e▸g)).pure E7;have⟨s1,w8,hr8,R8,X8,f8⟩:=ls7.append (P:=prog) (ty:=169) (c:=1) Y6 (r:=BT ⟨r,a,b,t⟩) (ai.bh h7).row rfl rfl (by simp at hfew|-;omega) (by simp[maxLen]at hfew|-;omega);have b8:ai w8 E [j.v] 169:=(b5.pure E7).ext X8 C.st.dG.n6;refine⟨s1,w8,hr8,X8.bl fun b g hx=>C.jf b hx g,b8.ia Sm,c5h C,?_⟩;rintro _ rfl;have E9:=ab.setCell (w:=w8) E s1.v;have z5:w.heap.size<=w7.heap.size:=Oi E5.size E7.size;have f8':∀b,s1.ao b->j.ao b\/w.heap.size<=b:=fun b g=>(f8 b g).imp_right fun h=>Om;have X:ab (PW ma mb E j) w (w8.setCell E s1.v):=(((E5.mono fun b _ e=>.inl e).trans (E7.pure (F:=PW ma mb E j))).trans (X8.mono fun b _ h=>.inr (.inr (.inr h)))).trans (E9.mono fun b _ e=>.inr (.inr (.inl e)));have nx:∀{b},(b=c1.block\/b=c2.block\/b=c3.block\/b=c4.block)->¬PW ma mb E j b:=fun g hx=>by
   have⟨d1,d2,d3,d4⟩:=C.st.dG.d _ hx;rcases g with h|h|h|h
   .exact d1 h
   .exact d2 h
   .exact d3 h
   .exact d4 h
  have wG:∀{b},PW ma mb E j b->b<w.heap.size:=fun g=>C.st.dG.lt g;have I9:fc pM (w8.setCell E s1.v) ma (ug ((l++M)++[⟨r,a,b,t⟩])):=by
   rw[PU];exact((I5.pure E7).ext X8 C.st.dG.n4).ext E9 C.st.dG.n2
  have P9:rB (w8.setCell E s1.v) k c1 c2 c3 c4 E ma mb s1 ((l++M)++[⟨r,a,b,t⟩]) B1:=by
   refine⟨X.cell C.st.dG.a1 (nx (.inl rfl)),X.cell C.st.dG.a2 (nx (.inr (.inl rfl))),X.cell C.st.dG.a3 (nx (.inr (.inr (.inl rfl)))),X.cell C.st.dG.a4 (nx (.inr (.inr (.inr rfl)))),b8.jb,I9,?_,?_,?_,C.st.dG.n1,C.st.dG.n2,C.st.dG.n3,?_,?_,?_⟩
   .have:=((C.st.dG.bm.ext E5 fun e=>C.st.dG.n1 e.symm).pure E7).ext X8 C.st.dG.n5;exact this.ext E9 C.st.dG.n3
   .have hne : ∀ b, s1.ao b -> b ≠ E.block:=fun b g e => by
     rcases f8' b g with h|h
     .exact C.st.dG.n6 (e▸h)
     .have:=wG (.inr (.inr (.inl rfl)));omega
    have:=R8.ext E9 hne;simpa using this
   .rintro b (g|g|g|g)
    .exact C.st.dG.d b (.inl g)
    .exact C.st.dG.d b (.inr (.inl g))
    .exact C.st.dG.d b (.inr (.inr (.inl g)))
    .rcases f8' b g with h|h
     .exact C.st.dG.d b (.inr (.inr (.inr h)))
     .have:=C.st.zc;omega
   .intro g;rcases f8' _ g with h|h
    .exact C.st.dG.n4 h
    .have:=wG (.inl rfl);omega
   .intro g;rcases f8' _ g with h|h
    .exact C.st.dG.n5 h
    .have:=wG (.inr (.inl rfl));omega
   .intro g;rcases f8' _ g with h|h
    .exact C.st.dG.n6 h
    .have:=wG (.inr (.inr (.inl rfl)));omega
  have hlk9:SE.eu (ug ((l++M)++[⟨r,a,b,t⟩])) t=some ((l++M).length:Int):=by
   rw[PU,Ov (by rw[QG];exact htn),if_pos rfl]
  rcases I9.get (P:=prog) (T:=231) underlying231 underlying73 (zeroValue3 _) t false with⟨hx,_⟩|⟨v,hv,hrun9⟩
  .rw[hx]at hlk9;cases hlk9
  .rw[hv] at hlk9;cases hlk9;have dg:∀{Z:NP},(∀b,Z b->b<w.heap.size)->(∀b,Z b->¬ PW ma mb E j b)->∀b,Z b->¬ PW ma mb E s1 b:=fun hz h b g hx=>by
    rcases hx with hx|hx|hx|hx
    .exact h b g (.inl hx)
    .exact h b g (.inr (.inl hx))
    .exact h b g (.inr (.inr (.inl hx)))
    .rcases f8' b hx with h'|h'
     .exact h b g (.inr (.inr (.inr h')))
     .have:=hz b g;omega
   refine⟨_,P9.a1,_,hrun9,hK _ true _ s1 (M++[⟨r,a,b,t⟩]) B1 ⟨⟨by rw[<-append_assoc];exact P9,C.st.fh.ext X fun b g=>C.st.dF b g,C.st.bj.ext X fun b g=>C.st.dP b g,dg (fun b g=>C.st.fh.lt g) C.st.dF,dg (fun b g=>C.st.bj.lt g) C.st.dP⟩,by rw[<-append_assoc];exact C.dG.sd hfol htn hdt,fun s hs=>?_,fun _=>⟨(l++M).length,rfl,Sm,Sm⟩,⟨fun _=>hdt,fun _=>rfl⟩,C.ext.cg X fun i hi g=>PW.old J C.ak i g hi,fun b g=>?_,fun _=>.inr ?_,fun s hs=>?_,fun s hs y hy=>?_⟩⟩
   .rcases mem_append.1 hs with hs|hs
    .exact⟨Nat.le_of_lt (C.aw s hs).1,(C.aw s hs).2⟩
    .simp at hs;subst hs;exact⟨Nat.le_refl _,.inl (.refl t)⟩
   .rcases f8' b g with h|h
    .exact C.ak b h
    .right;have:=C.ext.size;omega
   .rw[<-append_assoc];have e:((((l++M)++[(⟨r,a,b,t⟩:gl)]).length:Int)-1)=((l++M).length:Int):=So;rw[e,zP Sm];simp
   .rcases mem_append.1 hs with hs|hs
    .exact C.dp s hs
    .simp at hs;subst hs;exact .refl t
   .rw[<-append_assoc,map_append];refine mem_append_left _ ?_;rcases mem_append.1 hs with hs|hs
    .exact C.cl s hs y hy
    .simp at hs;subst hs;exact hdp y hy
 have hcall : ∀ (u : Int) (H : NP) (w : World) (j : Sl) (M : List gl) (B1 : List Int), pJ w0 H w k p c1 c2 c3 c4 E ma mb L G S F FP sl l t j M B1 -> km S u < km S t -> (iw L t u \/ u ∈ zG S) -> mq L S t u -> ∀ (Q : Int -> Bool -> WP),
   (∀(r:Int) (ok:Bool) (w':World) (I:Sl) (M2:List gl) (B2:List Int),pJ w0 H w' k p c1 c2 c3 c4 E ma mb L G S F FP sl l t I (M++M2) B2->(ok=true↔dr L (fun x=>x∈zG S) u)->(ok=true->∃i,r=((i:Nat):Int)/\∃hi:i<(l++(M++M2)).length,(l++(M++M2))[i].t=u)->aj H w w'->Q r ok w') ->
   ∃v13:Value,w.cell? c4=some v13/\∃(f1:FuncId) (fs1 cs1:Array Value),v13=.func (.func f1) fs1 cs1/\(∀args w,(callFunc f1 args).run prog w=.ok (.enter f1 args) w)/\Calls prog f1 (fs1++#[(vi u)]++cs1) w (XE fun r1 r2 w'=>aj H w w'/\Q r1 r2 w'):=by
  intro u H w j M B1 C hu hsub hdep Q hQ
  refine⟨_,C.st.dG.a4,160,#[],_,rfl,call160,?_⟩
  refine(ih u w j (l++M) B1 Om C.st C.dG).mono ?_
  rintro _ w' ⟨r,ok,rfl,I,M2,B2,hret⟩
  have⟨hkp,C2⟩:=C.step J hret hu hsub (fun x hu hx=>jPD hu hx) hdep
  refine⟨r,ok,rfl,hkp,hQ r ok w' I M2 B2 C2 hret.yn (fun h=>?_) hkp⟩
  have⟨i,e,hi,iu⟩:=hret.yz h
  refine⟨i,e,by rw[<-append_assoc];exact hi,?_⟩
  simpa[append_assoc]using iu
 have⟨sg,m,sk,k2,hF2⟩:=C2.st.fh
 have⟨vr,vf,hlook,hway⟩:=k2.eu t
 refine⟨_,C2.st.dG.a2,_,C2.st.dG.Th t,_,C2.st.dG.a3,k,rfl,_,k2.box.cell rfl,vr,vf,_,hlook,fun hc=>?_,fun hc=>?_⟩
 .-- it is seen
  have o:t∈zG S:=by simpa using hc
  have hdt:dr L (fun x=>x∈zG S) t:=.seen o
  have hnB:decide (t∈B)=false:=decide_eq_false fun g=>hp0.zj t g hdt
  have hin:=hk.gm t o
  have V:¬al L t=false:=by simp[hin]
  rw[hnB]
  rcases VL hk.tooy (tU (hway o))with⟨rfl,rfl,hg⟩|⟨hne,hari,hfs,hrf⟩
  .refine⟨fun h=>by simp at h,fun _=>?_⟩
   intro H2 w10 hs10
   have C10:=C2.aq J hs10
   refine J1t 0 0 0 H2 w10 sl [] B C10 ?_ hdt fun y hy=>absurd rfl ((mq.ua hk.pt (hway o)).1 hy).1
   unfold nn;rw[if_neg V,if_pos rfl];simp[hg]
  .refine⟨fun _=>?_,fun h=>absurd (by simpa using h) hne⟩
   intro H2 w10 hs10
   have C10:=C2.aq J hs10
   refine hcall vf H2 w10 sl [] B C10 hrf (.inr hfs) ((mq.ua hk.pt (hway o)).2 ⟨hne,rfl⟩) _ ?_
   intro r1 ok w11 I M2 B2 C11 hd11 hi11 _ w12 hs12
   have C12:=C11.aq J hs12
   obtain⟨i,rfl,hi,iu⟩:=hi11 (hd11.2 (.seen hfs))
   refine J1t vr i 0 H2 w12 I _ B2 C12 ?_ hdt (fun y hy=>by rw[((mq.ua hk.pt (hway o)).1 hy).2];exact mem_map.2 ⟨_,getElem_mem hi,iu⟩)
   have hr:=hari.gz
   unfold nn
   rw[if_neg V,if_neg hne,if_pos hr]
   have h1:=zi hi
   have h2:=zP hi
   rw[iu]at h2
   simp only[h1,h2,Bool.true_and,Bool.and_eq_true,beq_iff_eq,true_and]
   exact(RG hr).2 hari
 .-- it is not
  have o:t∉zG S:=by simpa using hc
  refine⟨fun g=>?_,fun g=>?_⟩
  .intro H2 w4 hs4
   have C4:=C2.aq J hs4
   refine⟨_,C4.st.dG.a3,?_⟩
   refine(Xs k p t w4 C4.st.fh C4.st.bj hW).mono ?_
   rintro _ w13 ⟨r3,r4,r5,r6,rfl,z,E13⟩
   refine⟨r3,r4,r5,r6,rfl,E13.bo,?_⟩
   have C13:pJ w0 H2 w13 k p c1 c2 c3 c4 E ma mb L G S F FP sl l t sl [] B:=⟨C4.st.pure E13,C4.dG,C4.aw,C4.ext.fb E13,C4.ak,C4.jf,C4.hs.gi E13.bo,C4.dp,C4.cl⟩
   have J2 : ∀ (H : NP) (w : World) (j : Sl) (M : List gl) (B1 : List Int) (ok4 : Bool) (rl a : Int), pJ w0 H w k p c1 c2 c3 c4 E ma mb L G S F FP sl l t j M B1 ->
     (ok4=false->¬dr L (fun x=>x∈zG S) t) ->
     (ok4=true->r4<=0->nn L G (l++M) ⟨rl,a,0,t⟩=true/\dr L (fun x=>x∈zG S) t) ->
     (ok4=true->0<r4->km S r4<km S t/\(iw L t r4\/r4∈zG S)/\(dr L (fun x=>x∈zG S) r4->dr L (fun x=>x∈zG S) t)/\(dr L (fun x=>x∈zG S) t->dr L (fun x=>x∈zG S) r4) /\
      ∀M2 (i:Nat) (hi:i<(l++(M++M2)).length),(l++(M++M2))[i].t=r4->nn L G (l++(M++M2)) ⟨rl,a,i,t⟩=true) ->
     (ok4=true->0<r3->r3∈(l++M).map gl.t) ->
     DX t c1 c2 c4 E r4 ok4 rl a 0 t w0 H w K:=by
    intro H w j M B1 ok4 rl a C h1 h2 h3 h4
    refine⟨fun hc=>?_,fun hc=>?_⟩
    .rw[Bool.and_eq_true]at hc
     have⟨hok,hpos⟩:=hc
     have hpos:=of_decide_eq_true hpos
     have⟨g1,g2,g3,g4,g5⟩:=h3 hok hpos
     intro H5 w19 hs19
     have C19:=C.aq J hs19
     refine hcall r4 H5 w19 j M B1 C19 g1 g2 ((mq.ou z.symm o).2 ⟨hpos,.inr rfl⟩) _ ?_
     intro r7 r8 w20 I M2 B2 C20 hd20 hi20 _ w21 hs21
     have C21:=C20.aq J hs21
     cases r8 with
     |false=>exact J1f _ _ _ H5 w21 I _ B2 C21 (fun W=>by have:=hd20.2 (g4 W);cases this)
     |true =>
      obtain⟨i,rfl,hi,iu⟩:=hi20 rfl
      refine J1t _ _ _ H5 w21 I _ B2 C21 (g5 M2 i hi iu) (g3 (hd20.1 rfl)) fun y hy=>?_
      rcases(mq.ou z.symm o).1 hy with⟨hy0,e|e⟩
      .subst e
       rw[<-append_assoc,map_append]
       exact mem_append_left _ (h4 hok hy0)
      .subst e
       exact mem_map.2 ⟨_,getElem_mem hi,iu⟩
    .intro H5 w19 hs19
     have C19:=C.aq J hs19
     cases ok4 with
     |false=>exact J1f _ _ _ H5 w19 j M B1 C19 (h1 rfl)
     |true =>
      have hle:r4<=0:=by simpa using hc
      have⟨q1,q2⟩:=h2 rfl hle
      refine J1t _ _ _ H5 w19 j M B1 C19 q1 q2 fun y hy=>?_
      rcases(mq.ou z.symm o).1 hy with⟨hy0,e|e⟩
      .subst e;exact h4 rfl hy0
      .omega
   cases hin:al L t with
   |false =>
    have hm:rj L S t=(0,0,false,false):=by unfold rj;rw[if_pos hin]
    rw[hm]at z;cases z
    have hnd:¬dr L (fun x=>x∈zG S) t:=fun W=>by
     have hnode:ad L t=xC:=by unfold ad;rw[yR hin];rfl
     rcases W.pD with h|h|⟨h,_⟩|⟨h,_⟩|⟨h,_⟩
     .exact o h
     all_goals (rw[hnode]at h;exact absurd h De)
    refine⟨fun h=>by simp at h,fun _=>?_⟩
    intro H4 O q
    exact J2 H4 O sl [] B false _ _ (C13.aq J q) (fun _=>hnd) (fun h=>by cases h) (fun h=>by cases h) (fun h=>by cases h)
   |true =>
   have V:¬al L t=false:=by simp[hin]
   have ht1:=(zI.1 hin).1
   generalize A:ad L t=n at *
   have hm:=z
   unfold rj at hm
   rw[if_neg V,A]at hm
   have kx:∀x∈zB n,al L x=true/\x<t:=by have:=(hW.node hin).2.2.2.2.1;rw[A]at this;exact this
   rcases SA hW hin with hk1|Y|hk5|hk6|hk7
   .rw[A]at hk1
    rw[if_pos hk1]at hm;cases hm
    refine⟨fun h=>by simp at h,fun _=>?_⟩
    intro H4 O q
    have W:dr L (fun x=>x∈zG S) t:=.free (by rw[A];exact hk1)
    refine J2 H4 O sl [] B true _ _ (C13.aq J q) (fun h=>by cases h) (fun _ _=>⟨?_,W⟩) (fun _ h=>Om) fun _ h=>Om
    unfold nn;rw[if_neg V,A];simp[hk1]
   .rw[A]at Y
    rw[if_neg (by rw[Y];decide),if_pos Y]at hm;cases hm
    have ha:=kx n.a (AG (.inl Y))
    have hb':=kx n.b (M4 Y)
    have ha1:=(zI.1 ha.1).1
    have hb1:=(zI.1 hb'.1).1
    have sa:iw L t n.a:=.fl (.refl t) (by rw[A];exact AG (.inl Y))
    have sb:iw L t n.b:=.fl (.refl t) (by rw[A];exact M4 Y)
    have pD:dr L (fun x=>x∈zG S) t->dr L (fun x=>x∈zG S) n.a/\dr L (fun x=>x∈zG S) n.b:=fun W=>by
     rcases W.pD with h|h|⟨_,h1,h2⟩|⟨h,_⟩|⟨h,_⟩
     .exact absurd h o
     .rw[A,Y]at h;exact absurd h De
     .rw[A]at h1 h2;exact⟨h1,h2⟩
     .rw[A,Y]at h;cases h
     .rw[A,Y]at h;exact absurd h De
    refine⟨fun _=>?_,fun h=>by simp at h;omega⟩
    intro H4 O q
    refine hcall n.a H4 O sl [] B (C13.aq J q) (Fm o ha1 ha.2) (.inl sa) ((mq.ou z.symm o).2 ⟨Om,.inl rfl⟩) _ ?_
    intro r9 r10 w22 I M2 B2 C22 R U _ w23 hs23
    have C23:=C22.aq J hs23
    refine J2 H4 w23 I _ B2 r10 _ _ C23 (fun h W=>by have:=R.2 (pD W).1;rw[h]at this;cases this) (fun _ h=>Om) (fun h _=>⟨Fm o hb1 hb'.2,.inl sb,fun W=>.ke (by rw[A];exact Y) (by rw[A];exact R.1 h) (by rw[A];exact W),fun W=>(pD W).2,?_⟩) (fun h _=>by have⟨i1,_,N,D⟩:=U h;exact mem_map.2 ⟨_,getElem_mem N,D⟩)
    intro M3 i hi iu
    obtain⟨i1,rfl,N,D⟩:=U h
    have hi1':i1<(l++(([]++M2)++M3)).length:=by simp at N|-;omega
    have e1:pz (l++(([]++M2)++M3)) (i1:Int)=n.a:=by
     rw[<-append_assoc,OK N];exact D
    have e2:=zP hi
    rw[iu]at e2
    clear iu
    generalize l++(([]++M2)++M3)=l' at *
    unfold nn;rw[if_neg V,A]
    simp[Y,zi hi,zi hi1',e1,e2]
   .rw[A]at hk5
    rw[if_neg (by rw[hk5];decide),if_neg (by rw[hk5];decide),if_pos hk5]at hm;cases hm
    have ha:=kx n.a (AG (.inr (.inl hk5)))
    have ha1:=(zI.1 ha.1).1
    have sa:iw L t n.a:=.fl (.refl t) (by rw[A];exact AG (.inr (.inl hk5)))
    have pD:dr L (fun x=>x∈zG S) t->dr L (fun x=>x∈zG S) n.a:=fun W=>by
     rcases W.pD with h|h|⟨h,_⟩|⟨_,h⟩|⟨h,_⟩
     .exact absurd h o
     .rw[A,hk5]at h;exact absurd h De
     .rw[A,hk5]at h;cases h
     .rw[A]at h;exact h
     .rw[A,hk5]at h;exact absurd h De
    refine⟨fun _=>?_,fun h=>by simp at h;omega⟩
    intro H4 O q
    refine hcall n.a H4 O sl [] B (C13.aq J q) (Fm o ha1 ha.2) (.inl sa) ((mq.ou z.symm o).2 ⟨Om,.inl rfl⟩) _ ?_
    intro r9 r10 w22 I M2 B2 C22 R U _ w23 hs23
    have C23:=C22.aq J hs23
    refine J2 H4 w23 I _ B2 r10 _ _ C23 (fun h W=>by have:=R.2 (pD W);rw[h]at this;cases this) (fun h _=>⟨?_,.ov (by rw[A];exact hk5) (by rw[A];exact R.1 h)⟩) (fun _ h=>Om) (fun h _=>by have⟨i1,_,N,D⟩:=U h;exact mem_map.2 ⟨_,getElem_mem N,D⟩)
    obtain⟨i1,rfl,N,D⟩:=U h
    have e1:=zP N
    rw[D]at e1
    clear D
    have q1:=zi N
    generalize l++([]++M2)=l' at *
    unfold nn;rw[if_neg V,A]
    simp[hk5,q1,e1]
   .rw[A]at hk6
    rw[if_neg (by rw[hk6];decide),if_neg (by rw[hk6];decide),if_neg (by rw[hk6];decide),if_pos hk6]at hm;cases hm
    have hnd:¬dr L (fun x=>x∈zG S) t:=fun W=>by
     rcases W.pD with h|h|⟨h,_⟩|⟨h,_⟩|⟨h,_⟩
     .exact o h
     all_goals (rw[A,hk6]at h;exact absurd h De)
    refine⟨fun h=>by simp at h,fun _=>?_⟩
    intro H4 O q
    exact J2 H4 O sl [] B false _ _ (C13.aq J q) (fun _=>hnd) (fun h=>by cases h) (fun h=>by cases h) (fun h=>by cases h)
   .rw[A]at hk7
    have⟨x4,x5,x6,xf⟩:=CW hk7
    rw[if_neg (by rw[xf];decide),if_neg x4,if_neg x5,if_neg x6]at hm
    generalize hko:oE L (oo n)=ko at *
    have⟨key,kok⟩:=ko
    simp only[Prod.mk.injEq]at hm
    obtain⟨rfl,rfl,rfl,rfl⟩:=hm
    have ha:=kx n.a (AG (.inr (.inr hk7)))
    have ha1:=(zI.1 ha.1).1
    have sa:iw L t n.a:=.fl (.refl t) (by rw[A];exact AG (.inr (.inr hk7)))
    have pD:dr L (fun x=>x∈zG S) t->dr L (fun x=>x∈zG S) n.a/\kok=true/\r4∈zG S:=fun W=>by
     rcases W.pD with h|h|⟨h,_⟩|⟨h,_⟩|⟨_,h1,h2,h3⟩
     .exact absurd h o
     .rw[A,xf]at h;cases h
     .rw[A]at h;exact absurd h x4
     .rw[A]at h;exact absurd h x5
     .rw[A]at h1 h2 h3;rw[hko]at h2 h3;exact⟨h1,h2,h3⟩
    refine⟨fun hc=>?_,fun hc=>?_⟩
    .rw[Bool.and_eq_true,Bool.and_eq_true]at hc
     have⟨⟨hkok,hkey⟩,_⟩:=hc
     have hkey:=of_decide_eq_true hkey
     have hkn:=JL (L:=L) (n:=oo n) (by rw[hko];exact hkok)
     rw[hko]at hkn
     have hk1:=(zI.1 hkn.1).1
     intro H4 O q
     refine hcall n.a H4 O sl [] B (C13.aq J q) (Fm o ha1 ha.2) (.inl sa) ((mq.ou z.symm o).2 ⟨Om,.inl rfl⟩) _ ?_
     intro r9 r10 w22 I M2 B2 C22 R U _ w23 hs23
     have C23:=C22.aq J hs23
     refine J2 H4 w23 I _ B2 r10 _ _ C23 (fun h W=>by have:=R.2 (pD W).1;rw[h]at this;cases this) (fun _ h=>by simp only at hk1;omega) (fun h _=>⟨YF o ht1 hkey,.inr hkey,fun _=>.signed (by rw[A];exact hk7) (by rw[A];exact R.1 h) (by rw[A,hko];exact hkok) (by rw[A,hko];exact hkey),fun _=>.seen hkey,?_⟩) (fun h _=>by have⟨i1,_,N,D⟩:=U h;exact mem_map.2 ⟨_,getElem_mem N,D⟩)
     intro M3 i hi iu
     obtain⟨i1,rfl,N,D⟩:=U h
     have hi1':i1<(l++(([]++M2)++M3)).length:=by simp at N|-;omega
     have e1:pz (l++(([]++M2)++M3)) (i1:Int)=n.a:=by
      rw[<-append_assoc,OK N];exact D
     have e2:pz (l++(([]++M2)++M3)) (i:Int)=r4:=by rw[zP hi];exact iu
     clear iu
     generalize l++(([]++M2)++M3)=l' at *
     unfold nn;rw[if_neg V,A]
     have hkey2:=hkn.2.1
     simp only at hkey2
     simp[hk7,x4,x5,zi hi,zi hi1',e1,e2,hkey2,zV]
    .intro H4 O q
     have hnk:(kok&&decide (r4∈zG S))=false:=by
      have:decide (n.a>0)=true:=So;rw[this]at hc;simpa using hc
     refine J2 H4 O sl [] B _ _ _ (C13.aq J q) (fun _ W=>?_) (fun h=>by rw[hnk]at h;cases h) (fun h=>by rw[hnk]at h;cases h) (fun h=>by rw[hnk]at h;cases h)
     have⟨_,i2,i3⟩:=pD W
     rw[i2,decide_eq_true i3]at hnk;cases hnk
  .have htB:t∈B:=by simpa using g
   intro H2 w4 hs4
   have C4:=C2.aq J hs4
   have hnB:(!decide (t∈B))=false:=by simp[htB]
   rw[hnB]
   exact J1f 0 0 0 H2 w4 sl [] B C4 (hp0.zj t htB)
def jRE(k p:Addr)(t:Int)(n:World){L:av}{G:List Int}{S:List gx}{F FP:NP}(hW:Wf L)(hk:ny L G S)(h:qJ n k p G S F)(R:zD n p L FP):
  cl 105 #[vp (some k),vi t] n (XF fun r ok w'=>∃l:List gl,fx n 173 4 (l.map BT) r w'/\(ok=true↔dr L (fun x=>x∈zG S) t)/\(ok=false->l=[])/\(ok=true->l≠[]/\(∀i (hi:i<l.length),nn L G (l.take i) l[i]=true)/\(l.map gl.t).Nodup/\pz l ((l.length:Int)-1)=t/\∀s∈l,iw L t s.t\/s.t∈zG S)/\(ok=true->∀x,x∈l.map gl.t↔Dp L S t x)):=by
 suffices key:∀K:Sl->Bool->WP,(∀r ok w' l,fx n 173 4 (l.map BT) r w'->(ok=true↔dr L (fun x=>x∈zG S) t)->(ok=false->l=[])->(ok=true->l≠[]/\(∀i (hi:i<l.length),nn L G (l.take i) l[i]=true)/\(l.map gl.t).Nodup/\pz l ((l.length:Int)-1)=t/\∀s∈l,iw L t s.t\/s.t∈zG S)->(ok=true->∀x,x∈l.map gl.t↔Dp L S t x)->K r ok w')->LX (some k) t n K from
  jcf _ _ n _ (key _ Gd)
 intro K hK
 intro J w1 h1
 have B1:=ai.bh h1
 refine⟨_,B1.bd,Br.f rfl ?_⟩
 intro O w2 h2 E Z h3 z w4 h4
 have B4:=ai.bh h4
 refine⟨B4.ia Sm,?_⟩
 rintro _ rfl
 have P:=ab.setCell (w:=w4) z (.map (some E.block))
 have X:=B4.jb (v:=.map (some E.block))
 have s1:=h1.cu;have s2:=h2.cu;have s3:=h3.cu;have s4:=h4.cu
 have E1:Pure n w1:=ab.aw h1
 have E2:Pure w1 w2:=ab.aw h2
 have Y:Pure w2 Z:=ab.aw h3
 have V:Pure Z w4:=ab.aw h4
 have l1:=B1.lt
 have l2:=(ai.bh h2).lt
 have l3:=(fc.bh (f:=pM) h3).lt
 have l4:=B4.lt
 have z4:=P.size
 generalize hw5:w4.setCell z (.map (some E.block))=C at *
 intro N w6 U y w7 h7
 have W:=ai.bh h7
 refine⟨W.ia Sm,?_⟩
 rintro _ rfl
 have X7:=ab.setCell (w:=w7) y (.map (some N.block))
 have B7':=W.jb (v:=.map (some N.block))
 have s6:=U.cu;have s7:=h7.cu
 have E6:Pure C w6:=ab.aw U
 have E7:Pure w6 w7:=ab.aw h7
 have l6:=(fc.bh (f:=Jt) U).lt
 have l7:=W.lt
 have z7:=X7.size
 generalize hw8:w7.setCell y (.map (some N.block))=Q at *
 intro B w9 h9
 have B9:=ai.bh h9
 refine⟨B9.ia Sm,?_⟩
 rintro _ rfl
 have X9:=ab.setCell (w:=w9) B (.func (.func 160) #[] #[vp (some z),vp (some y),vp (some J),vp (some B),vp (some O)])
 have B9':=B9.jb (v:=.func (.func 160) #[] #[vp (some z),vp (some y),vp (some J),vp (some B),vp (some O)])
 have s9:=h9.cu
 have E9:Pure Q w9:=ab.aw h9
 have l9:=B9.lt
 have z9:=X9.size
 have g1:=E1.size;have g2:=E2.size;have g3:=Y.size;have g4:=V.size;have g6:=E6.size;have g7:=E7.size;have g9:=E9.size
 generalize hw10:w9.setCell B (.func (.func 160) #[] #[vp (some z),vp (some y),vp (some J),vp (some B),vp (some O)])=m at *
 have d:∀b,¬Sl.nil.ao b:=fun b j=>by have⟨a,h,_⟩:=j;cases h
 have T5:Pure n C:=(((E1.trans E2).trans Y).trans V).cg P fun i hi e=>Om
 have T8:Pure C Q:=(E6.trans E7).cg X7 fun i hi e=>Om
 have o:Pure Q m:=E9.cg X9 fun i hi e=>Om
 have T:Pure n m:=(T5.trans T8).trans o
 have T2:Pure w2 C:=(Y.trans V).cg P fun i hi e=>Om
 have T1:Pure w1 C:=E2.trans T2
 have T3:Pure Z C:=V.cg P fun i hi e=>Om
 have T6:Pure w6 Q:=E7.cg X7 fun i hi e=>Om
 have q:Pure C m:=T8.trans o
 have h0:pL m k p z y J B O E.block N.block L G S F FP Sl.nil [] []:=by
  refine⟨⟨(X.pure q).bd,(B7'.pure o).bd,(B1.pure (T1.trans q)).bd,B9'.bd,(ai.bh h2).pure (T2.trans q),(fc.bh h3).pure (T3.trans q),(fc.bh U).pure (T6.trans o),bf.nil _ _ _,?_,Om,Om,Om,d _,d _,d _⟩,h.pure T,R.pure T,?_,?_⟩;rintro b (rfl|rfl|rfl|j);omega;omega;omega;exact(d b j).elim;rintro b j (rfl|rfl|rfl|g);have:=h.lt j;omega;have:=h.lt j;omega;have:=h.lt j;omega;exact d b g;rintro b j (rfl|rfl|rfl|g);have:=R.lt j;omega;have:=R.lt j;omega;have:=R.lt j;omega;exact d b g
 refine⟨_,h0.dG.a4,160,#[],_,rfl,call160,?_⟩
 refine(Si k p z y J B O E.block N.block hW hk _ t m Sl.nil [] [] (Nat.lt_succ_self _) h0 (qf.nil _ _ _)).mono ?_
 rintro _ H ⟨r1,ok,rfl,D,M,B',c⟩
 refine⟨r1,ok,rfl,fun hc=>?_,fun hc=>?_⟩
 have hf:ok=false:=by simpa using hc
 subst hf
 refine hK Sl.nil false H [] ⟨bf.nil _ _ _,fun b j=>(d b j).elim,T.cg c.ext fun i hi g=>?_⟩ c.yn (fun _=>rfl) (fun h=>by cases h) (fun h=>by cases h)
 rcases g with rfl|rfl|rfl|g
 omega
 omega
 omega
 exact(d _ g).elim
 have ht:ok=true:=by simpa using hc
 subst ht
 have aq:=c.st
 have A:=c.dG
 have u:=c.yz rfl
 simp only[nil_append]at aq A u
 have⟨i,_,hi,iu⟩:=u
 refine⟨D,aq.dG.a5.bd,?_⟩
 refine hK D true H M ⟨aq.dG.ls,fun b j=>?_,T.cg c.ext fun i hi g=>?_⟩ c.yn (fun h=>by cases h) (fun _=>⟨?_,A.nn,A.nd,?_,fun s hs=>(c.aw s hs).2⟩) fun _ x=>⟨fun g=>?_,fun g=>?_⟩
 rcases c.ak b j with h|h
 exact(d b h).elim
 have:=T.size;omega
 rcases g with rfl|rfl|rfl|g
 omega
 omega
 omega
 exact(d _ g).elim
 grind
 have:=c.jaV rfl
 simp only[nil_append]at this
 rcases this with rfl|h
 simp at hi
 exact h
 obtain⟨s,hs,rfl⟩:=mem_map.1 g
 exact c.dp s hs
 have I:=c.cl
 simp only[nil_append]at I
 exact Dp.all I (mem_map.2 ⟨_,getElem_mem hi,iu⟩) g
def Ws(k p t w0){L G S F FP}(g:Wf L)(e:ny L G S)(h:qJ w0 k p G S F)(f:zD w0 p L FP):
  cl 105 #[vp<|some k,vi t] w0<|XF fun r ok w'=>∃l:List gl,fx w0 173 4 (l.map BT) r w'/\(ok=true↔dr L (fun x=>x∈zG S) t)/\(ok=false->l=[])/\(ok=true->l≠[]/\(∀i (hi:i<l.length),nn L G (l.take i) l[i]=true)/\(l.map gl.t).Nodup/\pz l ((l.length:Int)-1)=t/\∀s∈l,iw L t s.t\/s.t∈zG S):=by
 refine(jRE k p t w0 g e h f).mono ?_
 rintro _ w' ⟨r,ok,rfl,l,a,b,c,d,_⟩
 exact⟨r,ok,rfl,l,a,b,c,d⟩
def Mk(k p t w0){L G S F FP}(d:Wf L)(b:ny L G S)(h:qJ w0 k p G S F)(c:zD w0 p L FP):
  cl 63 #[vp<|some k,vi t] w0<|XC fun r w'=>(r=true↔dr L (fun x=>x∈zG S) t)/\Pure w0 w':=by
 refine Wp _ _ w0 _ ?_
 refine(Ws k p t w0 d b h c).mono ?_
 rintro _ e ⟨r,ok,rfl,l,hr,a,_,_⟩
 exact⟨r,ok,rfl,a,hr.pure⟩
end Go.Proofs
end
section
open Go Go.SE List
namespace Go.Proofs
attribute [local irreducible] Calls
end Go.Proofs
end
section
open Go Go.SE List
open Go.IntKind renaming i64 -> q6
namespace Go.Proofs
open Tryz
set_option maxRecDepth 100000
set_option maxHeartbeats 4000000
attribute [local irreducible] bu ft fg dw Calls
attribute [local irreducible] jq W WV WR yW pv ku jd nz ka lq ky lj mz mo iq fa im mv kq kp uP xG yA bn ub
def Zg(c:Sl)(e i1:Int)(a:World)(b:Int->WP)(K:Bool->WP):Prop:=Br (decide (i1<(c.len:Int))) (∃a1:Addr,At c i1 1 a1/\li a a1 fun d=>Br (d==e) (K true a)<|b (q6.wrap<|i1+1) a)<|K false a
def Qy(f:Sl)(g:Int)(e:World)(K:Bool->WP):Prop:=∃(d:Int->WP) (c:Int->World->Nat),d 0 e/\∀(i1:Int) (a:World),d i1 a->Zg f g i1 a (fun b w'=>d b w'/\c b w'<c i1 a) K
def jaq(l1 t1 w0 K)(h:Qy l1 t1 w0 K):
  cl 150 #[l1.v,(vi t1)] w0<|XC K:=
 cy func150 h<|zg 2 [0,1] (fun i1=>[(5,(vi i1))])<|fun {_ _ i1}=>fun a=>br 0 4 (ix 3<|ld 0<|br 0 2 (rr 2)<|de 4 a)<|rr 2
def KH(a:Option Addr)(c:Int)(h:World)(K:Int->WP):Prop:=∃a1,a=some a1/\lp h a1 fun l=>cl 112 #[(vp l),(vi c)] h fun e b=>∃r1,e=.returned (vb r1)/\Br (!r1) (K 51 b) (∃a2,a=some a2/\lx b (a2.add 1) fun k=>cl 150 #[k.v,(vi c)] b<|XC fun r2 d=>Br (!r2) (∃a3,a=some a3/\lx d (a3.add 1) fun m=>∀g i,au d (.cells #[(vi c)] 73) g i->∃s1:Sl,∃f:World,(Builtin.append_ #[46,46] 46 #[m.v,(Sl.mk (some g) 1 1).v]).run prog i=.ok s1.v f/\∃a4,a=some a4/\zL f (a4.add 1)/\∀j,j=f.setCell (a4.add 1) s1.v->K 0 j) (K 0 d))
def WI(k1 t1 w0 K)(h:KH k1 t1 w0 K):
  cl 100 #[(vp k1),(vi t1)] w0<|XB K:=
 cy func100 h<|nc 2<|ld 1<|fy 1 call112<|br 0 1 (rr 2)<|nc 2<|ld 1<|fy 1 call150<|br 0 1 (nc 3<|ld 1<|cd 1<|dt<|ef 0<|ev<|nc 0<|gv 1<|rr 1)<|rr 2
end Go.Proofs
end
section
open Go Go.SE List
namespace Go.Proofs
open Tryz
attribute [local irreducible] Calls
def zBK{S}(s ts v w0)(hs:dn S w0 1 s (bz ts))(m:ts.length<=1000000):
  cl 150 #[s.v,vi v] w0<|XC fun r w'=>r=decide (v∈ts)/\w'=w0:=by
 refine jaq _ _ w0 _ ?_
 unfold Qy
 have f:s.len=ts.length:=by rw[hs.len,vA]
 refine⟨fun i w'=>w'=w0/\∃j:Nat,i=j/\j<=ts.length/\v∉ts.take j,fun i _=>((ts.length:Int)-i).toNat,⟨rfl,0,rfl,Nat.zero_le _,Sm⟩,?_⟩
 rintro _ _ ⟨rfl,j,rfl,l,k⟩
 refine⟨fun h=>?_,fun h=>?_⟩
 have b:=vW f h
 have⟨a,d,_,g⟩:=uB hs b
 have c:ts.take (j+1)=ts.take j++[ts[j]]:=take_succ_eq_append_getElem b
 refine⟨a,d,_,g,fun h=>⟨?_,rfl⟩,fun h=>?_⟩
 grind
 rw[zN b Om]
 refine⟨⟨rfl,j+1,rfl,b,?_⟩,yY b⟩
 rw[c,mem_append,mem_singleton]
 rintro(e|e)
 exact k e
 simp[e]at h
 grind
structure Xc(w:World)(x q:Addr)(G:List Int)(sg:Sl):Prop where
 box:ai w x [vp<|some q,sg.v] 48
 jo:bf w 73 1 sg (bz G)
 n1:¬sg.ao x.block
def sS(w:World)(x q:Addr)(G:List Int)(F:NP):Prop:=∃sg,Xc w x q G sg/\∀b,F b↔(b=x.block\/sg.ao b)
section
variable {w w':World} {x q:Addr} {G:List Int} {F:NP}
def sS.ext{X}(h:sS w x q G F)(a:ab X w w')(d:∀b,F b->¬X b):sS w' x q G F:=by
 have⟨sg,h,c⟩:=h;exact⟨sg,⟨h.box.ext a<|d _<|(c _).2<|.inl rfl,h.jo.ext a Gd,h.n1⟩,c⟩
def sS.lt(h:sS w x q G F){b}(a:F b):b<w.heap.size:=by
 have⟨sg,h,c⟩:=h;rcases(c b).1 a with rfl|a;exact h.box.lt;exact h.jo.lt a
end
def K6(x q t a){L G F FR}(h:sS a x q G F)(z:vR a q L FR)(E:G.length<=100000):
  cl 100 #[vp<|some x,vi t] a<|XB fun r w'=>∃F',sS w' x q (pd L G t) F'/\ab F a w'/\∀b,F' b->F b\/a.heap.size<=b:=by
 refine WI _ _ a _ ?_
 unfold KH
 have o:=h
 have⟨sg,h,I⟩:=h
 refine⟨x,rfl,_,h.box.bd,?_⟩
 refine(uO q t a z).mono ?_
 rintro _ a ⟨r1,rfl,rfl,rfl⟩
 refine⟨_,rfl,fun i=>?_,fun i=>?_⟩
 have g:al L t=false:=by simpa using i
 have:pd L G t=G:=by unfold pd;rw[if_neg<|by simp[g]]
 rw[this];exact⟨F,o,ab.refl _,fun b f=>.inl f⟩
 have g:al L t=true:=by simpa using i
 have B:pd L G t=ic G t:=by unfold pd;rw[if_pos g]
 rw[B]
 refine⟨x,rfl,sg,h.box.cell rfl,?_⟩
 refine(zBK sg G t a h.jo.ei Om).mono ?_
 rintro _ a ⟨r2,rfl,rfl,rfl⟩
 refine⟨_,rfl,fun i=>?_,fun i=>?_⟩
 have m:t∉G:=by simpa using i
 have d:ic G t=G++[t]:=if_neg m
 rw[d]
 refine⟨x,rfl,sg,h.box.cell rfl,?_⟩
 intro H y h3
 have j:Pure a y:=ab.aw h3
 have⟨s1,s,n,A,u,C⟩:=(h.jo.pure j).append (P:=prog) (ty:=46) (c:=1) te (r:=[vi t]) (ai.bh h3).row rfl rfl (by rw[vA];omega) (by rw[vA];simp[maxLen];omega)
 have b4:=(h.box.pure j).ext u h.n1
 refine⟨s1,s,n,x,rfl,b4.ee Sm,?_⟩
 rintro _ rfl
 have k:=ab.setCell (w:=s) (x.add 1) s1.v
 rw[zC]at k
 have l:∀b,s1.ao b->sg.ao b\/a.heap.size<=b:=fun b f=>(C b f).imp_right fun h=>Oh j.size
 have p:¬s1.ao x.block:=fun hh=>(l _ hh).elim h.n1 fun hh=>Oh h.box.lt
 refine⟨fun b=>b=x.block\/s1.ao b,⟨s1,⟨b4.set 1 s1.v,by rw[show bz (G++[t])=bz G++[[vi t]] by simp[bz]];exact A.ext k fun b f e=>p<|e▸f,p⟩,fun b=>Iff.rfl⟩,?_,fun b f=>?_⟩
 exact((j.pure (F:=F)).trans<|u.mono Gd).trans<|k.mono Gd
 grind
 have D:t∈G:=by simpa using i
 have d:ic G t=G:=if_pos D
 rw[d];exact⟨F,o,ab.refl _,fun b f=>.inl f⟩
end Go.Proofs
end
section
open Go Go.SE List
open Go.IntKind renaming i64 -> q6
namespace Go.Proofs
open Tryz
set_option maxRecDepth 100000
set_option maxHeartbeats 4000000
attribute [local irreducible] bu ft fg dw Calls
attribute [local irreducible] jq W WV WR yW pv ku jd nz ka lq ky lj mz mo iq fa im mv kq kp uP xG yA bn ub
def Us(a:Int):Bool:=((decide (a>=4))&&(decide (a<=11)))
def NO(a:Int)(d:World):cl 286 #[(.int .i64 a)] d (fun e w'=>e=.returned (.bool<|Us a)/\Pure d w'):=
 jr func286 [] (fun b=>(vb<|(decide (a>=4))&&(decide (a<=11)))) fun g=>pj 1 0 [] [] (fun b=>[(2,(vb<|(decide (a>=4))&&(decide (a<=11))))]) (fun f=>ct 3 3<|pj 0 0 [(decide (a>=4))] [] (fun b=>[(8,(vb<|(b 0)&&(decide (a<=11))))]) (fun c=>pb 1 0 0 c (fun c=>pe 3 0 c)<|fun c=>pe 3 0 c)<|pe 1 0 f)<|ff 0 g
def y0(a:Int):Bool:=((a==4) ||((decide (a>=9))&&(decide (a<=11))))
def S7(a:Int)(f:World):cl 287 #[(.int .i64 a)] f (fun e w'=>e=.returned (.bool<|y0 a)/\Pure f w'):=
 jr func287 [] (fun b=>(vb<|(a==4) ||((decide (a>=9))&&(decide (a<=11))))) fun g=>pj 1 0 [] [] (fun b=>[(2,(vb<|(a==4) ||((decide (a>=9))&&(decide (a<=11)))))]) (fun h=>ct 3 7<|pj 0 0 [(a==4)] [] (fun b=>[(12,(vb<|(b 0) ||((decide (a>=9))&&(decide (a<=11)))))]) (fun d=>pb 1 0 0 d (fun d=>pe 7 0 d)<|fun d=>ct 3 3<|pj 0 0 [(decide (a>=9))] [5] (fun b=>[(11,(vb<|(b 0)&&(decide (a<=11))))]) (fun c=>pb 1 0 0 c (fun c=>pe 3 0 c)<|fun c=>pe 3 0 c)<|pe 1 0 d)<|pe 1 0 h)<|ff 0 g
def FE(n1:Int):Int:=(cond (decide (n1>2147483648)) (-1)<|q6.wrap n1)
def MV(n1:Int)(c:World):cl 288 #[(.int .u64 n1)] c (fun e w'=>e=.returned (.int .i64<|FE n1)/\Pure c w'):=
 jr func288 [(decide (n1>2147483648))] (fun b=>(vi<|cond (b 0) (-1)<|q6.wrap n1)) fun a=>pb 0 3 0 a (fun a=>ff 2 a)<|fun a=>ff 4 a
def BM(l:Option Addr)(d s:Sl)(f F:Int)(aC W:Int)(aF:ByteArray)(a1 G:Int)(X aH:Int)(t c:Int)(I C:Int)(u:ByteArray)(O U:Int)(i:World)(H:NP)(w:World)(K:Int->Int->WP):Prop:=Br (f==0) (Br ((decide (F<0)) ||(decide (F>=(d.len:Int)))) (∀o g,af i H w o g->K 0 90 g)<|∃a2:Addr,At d F 1 a2/\∀o g,af i H w o g->li g a2 fun v1=>K v1 0 g) (Br (f==1) (cl 60 #[(vp l),(.agg #[(vi 1),(vi F),(vi 0),(vu 0),ve,(vi 0),(vi 0)])] w<|XH fun r2 r3 B=>aj H w B/\K r2 r3 B) (Br (f==2) (cl 60 #[(vp l),(.agg #[(vi 2),(vi 0),(vi 0),(vu W),ve,(vi 0),(vi 0)])] w<|XH fun Y r5 z=>aj H w z/\K Y r5 z) (Br (f==3) (cl 60 #[(vp l),(.agg #[(vi 3),(vi 0),(vi 0),(vu 0),(vs aF),(vi 0),(vi 0)])] w<|XH fun r6 r7 x=>aj H w x/\K r6 r7 x) (Br (f==4) (∃a3:Addr,At s aC 1 a3/\li w a3 fun v2=>cl 60 #[(vp l),(.agg #[(vi 4),(vi 0),(vi 0),(vu 0),ve,(vi a1),(vi v2)])] w<|XH fun r8 Z D=>aj H w D/\K r8 Z D) (Br (f==5) (cl 60 #[(vp l),(.agg #[(vi 5),(vi 0),(vi 0),(vu 0),ve,(vi a1),(vi 0)])] w<|XH fun M S A=>aj H w A/\K M S A) (Br (cond (f==6) (f==6)<|f==7) (Br (G !=4) (∀b a,af i H w b a->K 0 90 a)<|Br (f==6) (∀b a,af i H w b a->K X 0 a)<|∀b a,af i H w b a->K aH 0 a)<|Br (f==8) (Br (((G !=7)&&(G !=8))&&(G !=9)) (∀p h,af i H w p h->K 0 90 h)<|∀p h,af i H w p h->K X 0 h)<|Br (f==9) (∀b a,af i H w b a->cl 60 #[(vp l),(.agg #[(vi 7),(vi c),(vi 0),(vu 0),ve,(vi a1),(vi 0)])] a (XH fun Q R v=>aj b a v/\K Q R v))<|Br (f==10) (∀b a,af i H w b a->∃L:WP,L a.drew/\∀r,r=a.drew->cl 288 #[(vu W)] r fun e k=>∃E,e=.returned (vi E)/\L k/\aj b r k/\cl 60 #[(vp l),(.agg #[(vi 8),(vi c),(vi E),(vu 0),ve,(vi a1),(vi 0)])] k (XH fun V J m=>L m/\aj b k m/\K V J m)) (∀b a,af i H w b a->∃T:WP,T a.drew/\∀n,n=a.drew->cl 288 #[(vu W)] n fun e j=>∃y,e=.returned (vi y)/\T j/\aj b n j/\cl 60 #[(vp l),(.agg #[(vi 9),(vi y),(vi c),(vu 0),ve,(vi a1),(vi 0)])] j (XH fun N P q=>T q/\aj b j q/\K N P q))))))))
def Dr(j:Option Addr)(d b:Sl)(q s:Int)(o A:Int)(t:ByteArray)(a1:Int)(i:World)(H:NP)(w:World)(K:Int->Int->WP):Prop:=cl 64 #[(vp j),(vi a1)] w fun e g=>∃m F C D B p l r1,e=.returned (.tuple #[(Ac m F C D B p l),(vb r1)])/\aj H w g/\Br (decide (q>=9)) (∃a4:Addr,At b o 1 a4/\∀a c,af i H g a c->li c a4 fun E=>cl 64 #[(vp j),(vi E)] c fun e h=>∃k x u z r v y n,e=.returned (.tuple #[(Ac k x u z r v y),(vb n)])/\aj a c h/\Br (k !=6) (∀f,af i a h a f->K 0 90 f) (∀f,af i a h a f->BM j d b q s o A t a1 m p l k x u z r v y i a f K)) (∀a c,af i H g a c->BM j d b q s o A t a1 m p l 0 0 0 0 ⟨#[]⟩ 0 0 i a c K)
def Mp(j:Option Addr)(c a:Sl)(e h:Int)(i k:Int)(m:ByteArray)(f:World)(K:Int->Int->WP):Prop:=∀l:Bool,l=((((decide (e<0)) ||(decide (e>11))) ||(((decide (e>=4))&&(decide (e<=11)))&&((decide (h<0)) ||(decide (h>=(a.len:Int)))))) ||((y0 e)&&((decide (i<0)) ||(decide (i>=(a.len:Int))))))->Br l (∀b g,af f ar f b g->K 0 90 g) (Br ((decide (e>=4))&&(decide (e<=11))) (∃a5:Addr,At a h 1 a5/\∀b d,af f ar f b d->li d a5 fun n=>Dr j c a e h i k m n f b d K)<|∀b d,af f ar f b d->Dr j c a e h i k m 0 f b d K)
def w_X(p1 given1 made1 aA aB aC aE aF w0 K)(h:Mp p1 given1 made1 aA aB aC aE aF w0 K):
  cl 213 #[(vp p1),given1.v,made1.v,(.agg #[(vi aA),(vi aB),(vi aC),(vu aE),(vs aF)])] w0<|XH K:=
 dv func213 h<|nh 0<|pj 2 0 [(((decide (aA<0)) ||(decide (aA>11))) ||(((decide (aA>=4))&&(decide (aA<=11)))&&((decide (aB<0)) ||(decide (aB>=(made1.len:Int))))))] [0,1,2,7] (fun b=>[(55,(vb<|(b 0) ||((y0 aA)&&((decide (aC<0)) ||(decide (aC>=(made1.len:Int)))))))]) (fun p=>lh 1 0 []<|ct 2 4<|pj 0 0 [(decide (aA<0))] [0,1,2,7] (fun b=>[(21,(vb<|(b 0) ||(decide (aA>11))))]) (fun o=>pb 1 0 0 o (fun o=>pe 4 0 o)<|fun o=>lh 1 0 []<|pe 2 0 o)<|ct 1 16<|pj 0 0 [((decide (aA<0)) ||(decide (aA>11)))] [0,1,2,7] (fun b=>[(38,(vb<|(b 0) ||(((decide (aA>=4))&&(decide (aA<=11)))&&((decide (aB<0)) ||(decide (aB>=(made1.len:Int)))))))]) (fun u=>pb 1 0 0 u (fun u=>pe 16 0 u)<|fun u=>lh 1 0 []<|cp 0 call286 (NO aA)<|ct 1 11<|pj 0 0 [((decide (aA>=4))&&(decide (aA<=11)))] [0,1,2,7,22] (fun b=>[(37,(vb<|(b 0)&&((decide (aB<0)) ||(decide (aB>=(made1.len:Int))))))]) (fun n=>pb 1 0 0 n (fun n=>lh 1 0 [1]<|ct 2 6<|pj 0 0 [(decide (aB<0))] [0,1,2,7,22,26] (fun b=>[(36,(vb<|(b 0) ||(decide (aB>=(made1.len:Int)))))]) (fun t=>pb 1 0 0 t (fun t=>pe 6 0 t)<|fun t=>lh 1 0 [1]<|pe 4 0 t)<|pe 1 0 n)<|fun n=>pe 11 0 n)<|pe 1 0 u)<|pb 1 1 0 p (fun p=>pe 16 0 p)<|fun p=>lh 1 0 []<|cp 0 call287 (S7 aA)<|ct 1 11<|pj 0 0 [(y0 aA)] [0,1,2,7,39] (fun b=>[(54,(vb<|(b 0)&&((decide (aC<0)) ||(decide (aC>=(made1.len:Int))))))]) (fun j=>pb 1 0 0 j (fun j=>lh 1 0 [2]<|ct 2 6<|pj 0 0 [(decide (aC<0))] [0,1,2,7,39,43] (fun b=>[(53,(vb<|(b 0) ||(decide (aC>=(made1.len:Int)))))]) (fun r=>pb 1 0 0 r (fun r=>pe 6 0 r)<|fun r=>lh 1 0 [2]<|pe 4 0 r)<|pe 1 0 j)<|fun j=>pe 11 0 j)<|pe 1 0 p)<|yy<|br 0 0 (ah<|rr 3)<|lh 3 0 []<|cp 0 call286 (NO aA)<|jk 0 0 [0,1,2,7] (fun a1=>[(10,(vi a1))]) (fun a1 H w=>Dr _ _ _ _ _ _ _ _ a1 _ H w _) (fun y=>br 0 0 (lh 3 0 [1]<|ix 0<|ah<|ld 0<|je 1 0 y)<|ah<|je 1 0 y)<|fun {a1}=>cc 2 call64<|cf<|fun {x}=>dt<|rt<|ie<|nh 3<|sg 0 0 []<|nh 2<|sg 0 0 []<|lh 1 2 []<|BK 1 0 [0,1,2,7,10,11,13] (fun a c f e d g i=>[]) (fun a c f e d g i l=>im l 0 0<|Ab a c f e d g i) (fun a c f e d g i H w=>BM _ _ _ _ _ _ _ _ _ _ _ _ a c f e d g i _ H w _) (fun z=>br 0 0 (lh 4 2 [2]<|ix 0<|ah<|ld 0<|cc 0 call64<|cf<|dt<|rt<|ie<|sg 3 0 []<|lh 1 0 []<|br 0 1 (an<|rr 3)<|an<|je 1 0 z)<|ah<|je 1 0 z)<|fun {a c f e d g i}=>lh 1 2 []<|br 0 2 (pj 1 0 [(decide (aB<0))] [1,7] (fun b=>[(100,(vb<|(b 0) ||(decide (aB>=(given1.len:Int)))))]) (fun s=>lh 1 2 [1]<|pb 1 2 0 s (fun s=>pe 6 0 s)<|fun s=>lh 1 2 [1]<|pe 4 0 s)<|br 0 0 (ah<|rr 3)<|lh 3 2 [1]<|ix 0<|ah<|ld 0<|rr 2)<|br 0 3 (lh 3 2 [1]<|il 1 call60<|rr 4)<|br 0 3 (lh 3 2 [3]<|il 1 call60<|rr 4)<|br 0 3 (lh 3 2 [4]<|il 1 call60<|rr 4)<|br 0 3 (lh 5 2 [2]<|ix 0<|ld 0<|il 1 call60<|rr 4)<|br 0 3 (il 4 call60<|rr 4)<|pj 3 0 [(aA==6)] [0,7,10,11,13,88] (fun b=>[(154,(vb<|cond (b 0) (aA==6)<|aA==7))]) (fun q=>pb 0 0 0 q (fun q=>pe 1 0 q)<|fun q=>pe 3 0 q)<|br 0 0 (lh 2 1 []<|br 0 1 (ah<|rr 3)<|lh 2 2 []<|br 0 1 (lh 2 1 [5]<|ah<|rr 2)<|lh 2 1 [6]<|ah<|rr 2)<|br 0 3 (pj 1 0 [((x !=7)&&(x !=8))] [11] (fun b=>[(181,(vb<|(b 0)&&(x !=9)))]) (fun m=>lh 1 1 []<|ct 2 4<|pj 0 0 [(x !=7)] [11] (fun b=>[(176,(vb<|(b 0)&&(x !=8)))]) (fun k=>pb 1 0 0 k (fun k=>lh 1 1 []<|pe 2 0 k)<|fun k=>pe 4 0 k)<|pb 1 1 0 m (fun m=>lh 1 1 []<|pe 2 0 m)<|fun m=>pe 4 0 m)<|br 0 0 (ah<|rr 3)<|lh 2 1 [5]<|ah<|rr 2)<|br 0 3 (lh 3 0 [1]<|ah<|il 2 call60<|rr 4)<|br 0 3 (ah<|dC 1 [5,8] []<|jg 2 0 [1]<|jg 1 2 [3]<|kr 1 call288<|xh 1 call60<|rr 4)<|ah<|dC 1 [3,8] []<|jg 2 2 [3]<|jg 1 0 [1]<|kr 1 call288<|xh 1 call60<|rr 4
def Ln(o:Option Addr)(b j a:Sl)(i1:Int)(c:World)(d:Sl->Int->WP)(K:Sl->Int->WP):Prop:=Br (decide (i1<(j.len:Int))) (∃a1:Addr,At j i1 5 a1/\∃g e k i n,Row c a1 [(vi g),(vi e),(vi k),(vu i),(vs n)]/\cl 213 #[(vp o),b.v,a.v,(.agg #[(vi g),(vi e),(vi k),(vu i),(vs n)])] c (XH fun r1 r2 h=>Br (r2 !=0) (K a r2 h)<|∀f m,au h (.cells #[(vi r1)] 73) f m->∃s1:Sl,∃l:World,(Builtin.append_ #[46,46] 46 #[a.v,(Sl.mk (some f) 1 1).v]).run prog m=.ok s1.v l/\d s1 (q6.wrap<|i1+1) l))<|K a 0 c
def Pm(i:Option Addr)(b j:Sl)(h:World)(K:Sl->Int->WP):Prop:=∃(g:Sl->Int->WP) (e:Sl->Int->World->Nat),g Sl.nil 0 h/\∀(a:Sl) (i1:Int) (c:World),g a i1 c->Ln i b j a i1 c (fun d f w'=>g d f w'/\e d f w'<e a i1 c) K
def TD(p1 given1 l1 w0 K)(h:Pm p1 given1 l1 w0 K):
  cl 156 #[(vp p1),given1.v,l1.v] w0<|XM K:=
 cy func156 h<|Dy 4 [0,1,2] (fun a i1=>[(8,(Sl.v a)),(9,(vi i1))])<|fun {_ _ a i1}=>fun b=>br 0 4 (ix 6<|gw<|lr 0<|kz 0 call213<|br 0 7 (rr 5)<|cd 3<|dt<|ef 0<|ev<|de 4 b)<|rr 4
def Ml(e:Option Addr)(a d:Sl)(b:World)(K:Int->Int->Int->WP):Prop:=Br (decide ((d.len:Int)>256)) (K 0 6 0 b)<|Br (((d.len:Int):Int)==0) (K 0 3 0 b)<|cl 156 #[(vp e),a.v,d.v] b<|XM fun r1 r2 c=>Br (r2 !=0) (K 0 r2 (r1.len:Int) c)<|∃a1:Addr,At r1 (q6.wrap<|(r1.len:Int)-1) 1 a1/\li c a1 fun f=>K f 0 0 c
def RN(p1 given1 l1 w0 K)(h:Ml p1 given1 l1 w0 K):
  cl 101 #[(vp p1),given1.v,l1.v] w0<|XJ K:=
 cy func101 h<|br 0 6 (rr 4)<|br 0 4 (rr 4)<|kz 4 call156<|br 0 7 (rr 7)<|ix 5<|ld 0<|rr 3
end Go.Proofs
end
section
open Go Go.SE List
namespace Go.Proofs
open Tryz
attribute [local irreducible] Calls
abbrev sN(q:Addr)(F:NP)(w:World)(R:pU)(r1 r2:Int)(w':World):Prop:=(r1,r2)=(R.1,R.2.1)/\∃F',vR w' q R.2.2 F'/\ab F w w'/\∀b,F' b->F b\/w.heap.size<=b
def sN.az{q F w w1 w' R r1 r2}(E:Pure w w1)(h:sN q F w1 R r1 r2 w'):sN q F w R r1 r2 w':=by
 have⟨h1,F',h2,h3,a⟩:=h;exact⟨h1,F',h2,E.pure.trans h3,fun b c=>(a b c).imp_right fun h=>Oh E.size⟩
def Df{S w s ts}(h:dn S w 1 s (bz ts)){i t}(hi:ej ts i=some t):∃a,At s i 1 a/\S a.block/\w.cell? a=some (vi t):=by
 obtain⟨b,h1,rfl⟩:=EM hi;have⟨a,h2,h3,c⟩:=uB h h1;exact⟨a,by rw[Int.toNat_of_nonneg b]at h2;exact h2,h3,c⟩
section
variable {Sg Sm:NP} (q:Addr) (sg sm:Sl) (G M:List Int) (w0:World) {L:av} {F:NP} (hP:vR w0 q L F) (hok:Ok L)
 (hg:dn Sg w0 1 sg (bz G)) (hm:dn Sm w0 1 sm (bz M))
include hP hok hg hm
def JD(co oa ob on ox a1 rk ra rb kk kf kt kn kx ka kb H w)(hs:af w0 ar w0 H w)(W:0<=co)(Z:co<=11)(T:4<=co->ej M oa=some a1)(hB:co=4\/9<=co->∃b,ej M ob=some b)(S:4<=co->rk=(el L M oa).kind/\ra=(el L M oa).a/\rb=(el L M oa).b)(U:9<=co->(el L M ob).kind=6/\kf=(el L M ob).ay)(K:Int->Int->WP)(B:∀r1 r2 w',sN q F w0 (qZ L G M ⟨co,oa,ob,on,ox⟩) r1 r2 w'->K r1 r2 w'):
  BM (some q) sg sm co oa ob on ox a1 rk ra rb kk kf kt kn kx ka kb w0 H w K:=by
 unfold BM
 have E:=hs.first
 have Q:sg.len=G.length:=by rw[hg.len,vA]
 have g:∀{d w' r1 r2},af w0 H w d w'->qZ L G M ⟨co,oa,ob,on,ox⟩=(r1,r2,L)->K r1 r2 w':=fun c e=>by
  have k:=E.aq c;exact B _ _ _ (by rw[e];exact⟨rfl,F,hP.pure k,k.pure,fun b r=>.inl r⟩)
 have mk:∀{d w' f} {e:Ending} {n:df},af w0 H w d w'->qZ L G M ⟨co,oa,ob,on,ox⟩=ax L n->(∃r1 r2:Int,e=.returned (.tuple #[vi r1,vi r2])/\sN q F w' (ax L n) r1 r2 f)->∃r1 r2:Int,e=.returned (.tuple #[vi r1,vi r2])/\aj d w' f/\K r1 r2 f:=by
  rintro d w' f e n c I ⟨r1,r2,y,h⟩;have k:=E.aq c;refine⟨r1,r2,y,h.2.elim fun F' h=>h.2.1.bl fun b r C=>Oi (c.old b r)<|hP.lt C,B _ _ _ ?_⟩;rw[I];exact sN.az k h
 refine⟨fun h=>?_,fun h=>?_⟩
 .have h:co=0:=by simpa using h
  subst h
  have P:qZ L G M ⟨0,oa,ob,on,ox⟩=uR L G ⟨0,oa,ob,on,ox⟩:=Dx rfl
  refine⟨fun h=>fun d w' c=>g c ?_,fun h=>?_⟩
  .rw[P];unfold uR
   rw[Bool.or_eq_true,decide_eq_true_eq,decide_eq_true_eq]at h
   simp only
   rw[uw Om];rfl
  .rw[Bool.or_eq_false_iff,decide_eq_false_iff_not,decide_eq_false_iff_not]at h
   have O:ej G oa=some (G[oa.toNat]' Om):=uh Om Om
   have⟨a,v,A,z⟩:=Df hg O
   refine⟨a,v,fun d w' c=>⟨_,(E.aq c).cell z fun h=>h,g c ?_⟩⟩
   rw[P];unfold uR;simp only;rw[O]
 have n0:co≠0:=by simpa using h
 refine⟨fun h=>?_,fun h=>?_⟩
 .have h:co=1:=by simpa using h
  subst h
  exact(vZ q ⟨1,oa,0,0,⟨#[]⟩,0,0⟩ w (hP.pure E) hok).mono fun e f h=>mk hs.fi (Fv rfl) h
 have n1:co≠1:=by simpa using h
 refine⟨fun h=>?_,fun h=>?_⟩
 .have h:co=2:=by simpa using h
  subst h
  exact(vZ q ⟨2,0,0,on,⟨#[]⟩,0,0⟩ w (hP.pure E) hok).mono fun e f h=>mk hs.fi (DE rfl) h
 have n2:co≠2:=by simpa using h
 refine⟨fun h=>?_,fun h=>?_⟩
 .have h:co=3:=by simpa using h
  subst h
  exact(vZ q ⟨3,0,0,0,ox,0,0⟩ w (hP.pure E) hok).mono fun e f h=>mk hs.fi (Fh rfl) h
 have n3:co≠3:=by simpa using h
 have i:=T Om
 obtain⟨rfl,rfl,rfl⟩:=S Om
 refine⟨fun h=>?_,fun h=>?_⟩
 .have h:co=4:=by simpa using h
  subst h
  have⟨b1,s⟩:=hB<|.inl rfl
  have⟨a,v,A,z⟩:=Df hm s
  refine⟨a,v,b1,E.cell z fun h=>h,?_⟩
  have Y:qZ L G M ⟨4,oa,ob,on,ox⟩=ax L ⟨4,0,0,0,⟨#[]⟩,a1,b1⟩:=by
   rw[zb rfl];unfold rV;simp only;rw[i];simp only;rw[s]
  exact(vZ q ⟨4,0,0,0,⟨#[]⟩,a1,b1⟩ w (hP.pure E) hok).mono fun e f h=>mk hs.fi Y h
 have n4:co≠4:=by simpa using h
 refine⟨fun h=>?_,fun h=>?_⟩
 .have h:co=5:=by simpa using h
  subst h
  have V:qZ L G M ⟨5,oa,ob,on,ox⟩=ax L ⟨5,0,0,0,⟨#[]⟩,a1,0⟩:=by
   rw[Cc rfl];unfold sP;simp only;rw[i]
  exact(vZ q ⟨5,0,0,0,⟨#[]⟩,a1,0⟩ w (hP.pure E) hok).mono fun e f h=>mk hs.fi V h
 have n5:co≠5:=by simpa using h
 refine⟨fun h=>?_,fun h=>?_⟩
 .have t:co=6\/co=7:=Gd
  have u:qZ L G M ⟨co,oa,ob,on,ox⟩=yB L M ⟨co,oa,ob,on,ox⟩ (decide (co=7)):=by
   rcases t with h|h<;>subst h
   .exact Bm rfl
   .exact Bl rfl
  refine⟨fun h=>fun d w' c=>g c ?_,fun h=>?_⟩
  .rw[u];unfold yB;simp only
   rw[if_neg<|by simpa using h];rfl
  .have N:(el L M oa).kind=4:=by simpa using h
   refine⟨fun h=>fun d w' c=>g c ?_,fun h=>fun d w' c=>g c ?_⟩
   .have h:co=6:=by simpa using h
    rw[u];unfold yB;simp only;rw[if_pos N,decide_eq_false Om];rfl
   .have h:co≠6:=by simpa using h
    rw[u];unfold yB;simp only;rw[if_pos N,decide_eq_true Om];rfl
 have R:co≠6/\co≠7:=Gd
 refine⟨fun h=>?_,fun h=>?_⟩
 .have h:co=8:=by simpa using h
  subst h
  have m:qP (el L M oa).kind=!(((((el L M oa).kind:Int) !=7)&&(((el L M oa).kind:Int) !=8))&&(((el L M oa).kind:Int) !=9)):=by
   unfold qP;simp only[bne,Bool.not_and,Bool.not_not]
  refine⟨fun h=>fun d w' c=>g c ?_,fun h=>fun d w' c=>g c ?_⟩
  .rw[As rfl]
   unfold xI;simp only
   rw[if_neg (by rw[m,h];simp)];rfl
  .rw[As rfl]
   unfold xI;simp only
   rw[if_pos (by rw[m,h];rfl)]
 have n8:co≠8:=by simpa using h
 obtain⟨J,rfl⟩:=U Om
 have x:∀mk,vQ L M ⟨co,oa,ob,on,ox⟩ mk=ax L (mk (el L M ob).ay a1):=fun mk=>by
  unfold vQ;simp only;rw[i];simp only;rw[if_pos J]
 refine⟨fun h=>fun d w' c=>?_,fun h=>?_⟩
 .have h:co=9:=by simpa using h
  subst h
  exact(vZ q ⟨7,(el L M ob).ay,0,0,⟨#[]⟩,a1,0⟩ w' (hP.pure<|E.aq c) hok).mono fun e f h=>mk c ((AH rfl).trans<|x _) h
 have n9:co≠9:=by simpa using h
 have l:∀{d w' D o f} {e:Ending} {n:df},af w0 H w d w'->Pure w' D->D=o->qZ L G M ⟨co,oa,ob,on,ox⟩=ax L n->(∃r1 r2:Int,e=.returned (.tuple #[vi r1,vi r2])/\sN q F o (ax L n) r1 r2 f)->∃r1 r2:Int,e=.returned (.tuple #[vi r1,vi r2])/\True/\aj d o f/\K r1 r2 f:=by
  rintro d w' D _ f e n c E1 rfl I ⟨r1,r2,y,h⟩;have k:=(E.aq c).trans E1;refine⟨r1,r2,y,trivial,h.2.elim fun F' h=>h.2.1.bl fun b r C=>Oi (c.old b r)<|hP.lt C,B _ _ _ ?_⟩;rw[I];exact sN.az k h
 refine⟨fun h=>fun d w' c=>⟨fun _=>True,trivial,?_⟩,fun h=>fun d w' c=>⟨fun _=>True,trivial,?_⟩⟩
 .have h:co=10:=by simpa using h
  subst h
  rintro _ rfl
  refine(MV on _).mono ?_
  rintro _ f ⟨rfl,j⟩
  have p:Pure w' w'.drew:=ab.drew w'
  refine⟨_,rfl,trivial,j.bo,?_⟩
  exact(vZ q ⟨8,(el L M ob).ay,FE on,0,⟨#[]⟩,a1,0⟩ f (hP.pure<|((E.aq c).trans p).trans j) hok).mono fun e o h=>l c (p.trans j) rfl ((y9 rfl).trans<|x _) h
 .have X:co≠10:=by simpa using h
  have h:co=11:=Om
  subst h
  rintro _ rfl
  refine(MV on _).mono ?_
  rintro _ f ⟨rfl,j⟩
  have p:Pure w' w'.drew:=ab.drew w'
  refine⟨_,rfl,trivial,j.bo,?_⟩
  exact(vZ q ⟨9,FE on,(el L M ob).ay,0,⟨#[]⟩,a1,0⟩ f (hP.pure<|((E.aq c).trans p).trans j) hok).mono fun e o h=>l c (p.trans j) rfl ((ze rfl).trans<|x _) h
def jXR(o):cl 213 #[vp<|some q,sg.v,sm.v,pa o] w0 (XH fun r1 r2 w'=>sN q F w0 (qZ L G M o) r1 r2 w'):=by
 have⟨c,oa,d,on,j⟩:=o;refine w_X _ _ _ c oa d on j w0 (sN q F w0<|qZ L G M ⟨c,oa,d,on,j⟩) ?_;unfold Mp;have X:sm.len=M.length:=by rw[hm.len,vA]
 have Y:∀(a1:Int) (H:NP) (w:World),af w0 ar w0 H w->0<=c->c<=11->(4<=c->ej M oa=some a1)->(c=4\/9<=c->∃b,ej M d=some b)->Dr (some q) sg sm c oa d on j a1 w0 H w (sN q F w0<|qZ L G M ⟨c,oa,d,on,j⟩):=by
  intro a1 H w hs p i B hB;refine(FV q a1 w (hP.pure hs.first) hok).mono ?_;rintro _ w2 ⟨k,f,t',u,x,a,b,r,rfl,⟨E,_⟩,T⟩;have n:=hs.pure T;have O:4<=c->k=(el L M oa).kind/\a=(el L M oa).a/\b=(el L M oa).b:=fun h=>by
   have:el L M oa=ad L a1:=by unfold el;rw[B h]
   rw[this,<-E];exact⟨rfl,rfl,rfl⟩
  refine⟨_,_,_,_,_,_,_,_,rfl,T.bo,fun h=>?_,fun h=>fun H3 C g=>?_⟩
  .have A:9<=c:=by simpa using h
   have⟨b1,z⟩:=hB<|.inr A;have⟨I,P,D,t⟩:=Df hm z;refine⟨I,P,fun H3 C g=>?_⟩;have R:=n.first.aq g;refine⟨b1,R.cell t fun h=>h,?_⟩;refine(FV q b1 C (hP.pure R) hok).mono ?_;rintro _ w4 ⟨U,f2,t2,u2,x2,a2,b2,r2,rfl,⟨y,_⟩,V⟩;have J:el L M d=ad L b1:=by unfold el;rw[z]
   have s:=(n.trans g).pure V;refine⟨_,_,_,_,_,_,_,_,rfl,V.bo,fun h=>fun N m=>?_,fun h=>fun N m=>?_⟩
   .have S:U≠6:=by simpa using h
    have l:qZ L G M ⟨c,oa,d,on,j⟩=j9 L:=LK A i (by rw[J,<-y];exact S);rw[l];have Q:=s.first.aq m;exact⟨rfl,F,hP.pure Q,Q.pure,fun b e=>.inl e⟩
   .have S:U=6:=by simpa using h
    exact JD q sg sm G M w0 hP hok hg hm c oa d on j a1 k a b _ _ _ _ _ _ _ _ N (s.trans m) p i B hB O Gd _ fun _ _ _ h=>h
  .have A:¬9<=c:=by simpa using h
   exact JD q sg sm G M w0 hP hok hg hm c oa d on j a1 k a b _ _ _ _ _ _ _ _ C (n.trans g) p i B hB O (fun h=>absurd h A) _ fun _ _ _ h=>h
 have h2:y0 c=true↔(c=4\/(9<=c/\c<=11)):=by
  unfold y0;simp only[Bool.or_eq_true,Bool.and_eq_true,beq_iff_eq,decide_eq_true_eq,ge_iff_le]
 rintro _ rfl;refine⟨fun h=>fun H w hs=>?_,fun h=>?_⟩
 .have l : qZ L G M ⟨c, oa, d, on, j⟩ = j9 L:=by
   simp only[Bool.or_eq_true,Bool.and_eq_true,decide_eq_true_eq,ge_iff_le,h2,gt_iff_lt]at h;rcases h with((h|h)|⟨⟨Z,K⟩,h⟩)|⟨t,h⟩
   .exact Bk<|.inl h
   .exact Bk<|.inr h
   .exact U5 Z K<|uw Gd
   .exact Tq (uw Gd) t
  rw[l];exact⟨rfl,F,hP.pure hs.first,hs.first.pure,fun b e=>.inl e⟩
 .simp only[Bool.or_eq_false_iff,Bool.and_eq_false_iff,decide_eq_false_iff_not,ge_iff_le,gt_iff_lt] at h;have⟨⟨⟨p,i⟩,P⟩,e⟩:=h;have hB:c=4\/9<=c->∃b,ej M d=some b:=fun h=>by
   have ht:y0 c=true:=h2.2 Om;rw[ht]at e;rcases e with e|e
   .cases e
   .exact⟨_,uh Om Om⟩
  refine⟨fun h=>?_,fun h=>fun H w hs=>?_⟩
  .rw[Bool.and_eq_true,decide_eq_true_eq,decide_eq_true_eq]at h;have W:ej M oa=some (M[oa.toNat]' Om):=uh Om Om;have⟨I,iq,D,t⟩:=Df hm W;refine⟨I,iq,fun H w hs=>⟨_,hs.first.cell t fun h=>h,?_⟩⟩;exact Y _ H w hs Om Om (fun _=>W) hB
  .grind
end
structure IM(w0:World)(q:Addr)(F:NP)(R:List Int×Int×av)(s:Sl)(r2:Int)(w':World):Prop where
 cm:r2=R.2.1
 bj:∃F',vR w' q R.2.2 F'/\(∀b,F' b->F b\/w0.heap.size<=b)/\∀b,s.ao b->¬F' b
 cj:bf w' 73 1 s (bz R.1)
 ak:∀b,s.ao b->w0.heap.size<=b
 fr:ab F w0 w'
section
variable {Sg S0:NP} (q:Addr) (sg sl:Sl) (G:List Int) (l:List Op) (w0:World) {L:av} {F:NP} (hW:Wf L) (hP:vR w0 q L F)
 (hg:dn Sg w0 1 sg (bz G)) (hl:dn S0 w0 5 sl (l.map pn)) (hSg:∀b,Sg b->b<w0.heap.size/\¬F b) (hS0:∀b,S0 b->b<w0.heap.size/\¬F b) (hn:l.length<=1000)
include hW hP hg hl hSg hS0 hn
def Zz:cl 156 #[vp<|some q,sg.v,sl.v] w0 (XM fun s r2 w'=>IM w0 q F (vC L G [] l) s r2 w'):=by
 refine TD _ _ _ w0 (fun s r2 w'=>IM w0 q F (vC L G [] l) s r2 w') ?_;unfold Pm;have t:∀b,¬Sl.nil.ao b:=fun b g=>by have⟨a,h,_⟩:=g;cases h
 have Q:sl.len=l.length:=by rw[hl.len];simp
 refine⟨fun sm x w=>∃(j:Nat) (M:List Int) (B:av) (F1:NP),x=j/\j<=l.length/\M.length=j/\Wf B/\vC L G [] l=vC B G M (l.drop j)/\IM w0 q F (M,0,B) sm 0 w,fun _ x _=>((l.length:Int)-x).toNat,⟨0,[],L,F,rfl,Nat.zero_le _,rfl,hW,rfl,rfl,⟨F,hP,fun b g=>.inl g,fun b g=>(t b g).elim⟩,bf.nil _ _ _,fun b g=>(t b g).elim,ab.refl _⟩,?_⟩;rintro sm _ w ⟨j,M,B,_,rfl,hj,W,O,f,R⟩;unfold Ln;have⟨_,⟨F1,A,J,u⟩,d,m,X⟩:=R;simp only at A d;refine⟨fun h=>?_,fun h=>?_⟩;have k:=vW Q h;have⟨a,Z,U,I⟩:=hl.mm k;have ur:Row w a (pn l[j]):=X.row I (hS0 _ U).2;refine⟨a,Z,l[j].code,l[j].a,l[j].b,l[j].num,l[j].ba,ur,?_⟩;rw[JV k]at f;generalize l[j]=o at *;have z:=X.size;refine(jXR q sg sm G M w A O.ok (hg.ext X fun b g=>(hSg b g).2) d.ei o).mono ?_;rintro _ w1 ⟨r1,r2,rfl,hr,E,n,T,K⟩;have N:=u6 O G M o;generalize qZ B G M o=D at *;have⟨d1,d2,L2⟩:=D;simp only[Prod.mk.injEq]at hr;obtain⟨rfl,rfl⟩:=hr;simp only at f N n;have z2:=T.size;have y:∀b,sm.ao b->¬E b:=fun b g Y=>(K b Y).elim (u b g) fun h=>Oh<|d.lt g;have p:∀b,E b->F b\/w0.heap.size<=b:=fun b g=>(K b g).elim (J b) fun h=>.inr Om;have C:ab F w0 w1:=X.cg T Gd;have i:=d.ext T u;refine⟨_,_,rfl,fun h=>?_,fun h=>?_⟩;rw[if_pos<|by simpa using h]at f;rw[f];exact⟨rfl,⟨E,n,p,y⟩,i,m,C⟩;rw[if_neg<|by simpa using h]at f;intro p2 w2 n2;have S:Pure w1 w2:=ab.aw n2;have⟨s1,w3,V,R3,X3,H⟩:=(i.pure S).append (P:=prog) (ty:=46) (c:=1) te (r:=[vi _]) (ai.bh n2).row rfl rfl (by rw[vA];omega) (by rw[vA];simp[maxLen];omega);refine⟨s1,w3,V,?_⟩;rw[zN k Om];have z3:=S.size;refine⟨⟨j+1,M++[_],L2,E,rfl,k,by simp[W],N,f,rfl,⟨E,(n.pure S).ext X3 fun b g hs=>y b hs g,p,fun b g=>(H b g).elim (y b) fun h Y=>Oh<|n.lt Y⟩,?_,fun b g=>(H b g).elim (m b) fun h=>Om,?_⟩,yY k⟩;simp only[bz,map_append,map_cons,map_nil]at R3|-;exact R3;exact(C.fb S).cg X3 Gd;have hge:=yJ Q hj h;subst hge;have e:vC L G [] l=(M,0,B):=by rw[f,drop_length];rfl
 rw[e];exact⟨rfl,⟨F1,A,J,u⟩,d,m,X⟩
def UW:cl 101 #[vp<|some q,sg.v,sl.v] w0 (XJ fun r1 r2 r3 w'=>(r1,r2,r3)=((zM L G l).1,(zM L G l).2.1,(zM L G l).2.2.1)/\∃F',vR w' q (zM L G l).2.2.2 F'/\ab F w0 w'/\∀b,F' b->F b\/w0.heap.size<=b):=by
 refine RN _ _ _ w0 (fun r1 r2 r3 w'=>(r1,r2,r3)=((zM L G l).1,(zM L G l).2.1,(zM L G l).2.2.1)/\∃F',vR w' q (zM L G l).2.2.2 F'/\ab F w0 w'/\∀b,F' b->F b\/w0.heap.size<=b) ?_;unfold Ml;have p:sl.len=l.length:=by rw[hl.len];simp
 unfold zM;rw[p];refine⟨fun h=>?_,fun h=>?_⟩;rw[if_pos Gd];exact⟨rfl,F,hP,ab.refl _,fun b n=>.inl n⟩;rw[if_neg Gd];refine⟨fun h=>?_,fun h=>?_⟩;rw[if_pos<|by simpa using h];exact⟨rfl,F,hP,ab.refl _,fun b n=>.inl n⟩;have h2:l.length≠0:=by simpa using h
 rw[if_neg h2];refine(Zz q sg sl G l w0 hW hP hg hl hSg hS0 hn).mono ?_;rintro _ w ⟨s,r2,rfl,x⟩;have⟨r,⟨F',g,m,z⟩,c,t,X⟩:=x;refine⟨s,r2,rfl,?_⟩;have d:=BO G l L [];have f:∃F',vR w q (vC L G [] l).2.2 F'/\ab F w0 w/\∀b,F' b->F b\/w0.heap.size<=b:=⟨F',g,X,m⟩;generalize vC L G [] l=R at *;have⟨M,e,B⟩:=R;simp only at r c d f g;subst r;simp only[length_nil,Nat.zero_add]at d;have k:s.len=M.length:=by rw[c.len,vA]
 refine⟨fun h=>?_,fun h=>?_⟩;grind;have u:r2=0:=by simpa using h
 rw[if_neg<|by simpa using u];have j:=d.2 u;have i:M≠[]:=fun e=>by rw[e]at j;simp at j;omega
 rw[show IntKind.i64.wrap ((s.len:Int)-1)=(((l.length-1:Nat)):Int) by rw[k,j,IntWalk.i64_in _ Om];omega];have o:ej M ((l.length-1:Nat):Int)=some (M.getLast i):=by
  rw[uh Om Om];simp[getLast_eq_getElem,j]
 have⟨a,y,A⟩:=AU c o;refine⟨a,y,_,A,?_,f⟩;rw[getLast?_eq_some_getLast i];rfl
end
end Go.Proofs
end
section
namespace Go.SE
abbrev pY:=World->(Nat->Prop)->Prop
structure kg(A:pY):Prop where
 ext:∀{w w':World} {F X:Nat->Prop},A w F->ab X w w'->(∀y,F y->¬X y)->A w' F
 lt:∀{w:World} {F:Nat->Prop},A w F->∀y,F y->y<w.heap.size
def Tn(A:pY)(F:Nat->Prop)(w w':World):Prop:=∃F',A w' F'/\ab F w w'/\∀y,F' y->F y\/w.heap.size<=y
def BD:pY:=fun _ F=>∀y,¬F y
def sW(e:TypeId)(sz:Nat)(s:Sl)(rs:List (List Value)):pY:=fun w F=>bf w e sz s rs/\∀y,F y↔s.ao y
def ML:kg BD:=⟨fun h _ _=>h,fun h y a=>(h y a).elim⟩
def yw{e sz s rs}:kg (sW e sz s rs):=⟨fun h E d=>⟨h.1.ext E fun y a=>d y<|(h.2 y).2 a,h.2⟩,fun h y a=>h.1.lt<|(h.2 y).1 a⟩
def ez(A B:pY):pY:=fun w F=>∃a b,A w a/\B w b/\(∀y,a y->¬b y)/\∀y,F y↔a y\/b y
def Tk(H:Nat->Prop)(A:pY)(F0:Nat->Prop)(w0 w:World):Prop:=∃F,A w F/\ab F0 w0 w/\(∀y,F y->(F0 y\/w0.heap.size<=y)/\¬H y)/\∀y,H y->y<w.heap.size
section
variable {A A' B C:pY} {F0 F H H':Nat->Prop} {w0 w w':World}
def kg.vk(a:kg A)(b:kg B):kg (ez A B):=
 ⟨fun⟨f,i,c,hB,d,e⟩ E h=>⟨f,i,a.ext c E Gd,b.ext hB E Gd,d,e⟩,
 fun⟨_,_,c,hB,_,e⟩ y g=>((e y).1 g).elim (a.lt c y)<|b.lt hB y⟩
def Tk.start(h:A w F)(cl:kg A):Tk ar A F w w:=⟨F,h,ab.refl _,fun _ a=>⟨.inl a,id⟩,fun _ h=>h.elim⟩
def Tk.tn(h:Tk H A F0 w0 w):Tn A F0 w0 w:=by
 have⟨F,a,E,h1,_⟩:=h;exact⟨F,a,E,fun y b=>(h1 y b).1⟩
def Tk.fr(h:Tk H A F0 w0 w):ab F0 w0 w:=by have⟨_,_,E,_⟩:=h;exact E
def Tk.aq(h:Tk H A F0 w0 w)(cl:kg A)(hs:af w0 H w H' w'):Tk H' A F0 w0 w':=by
 have⟨F,a,E,h1,h2⟩:=h;have d:=hs.ja (G:=F) fun y b=>⟨cl.lt a y b,(h1 y b).2⟩;exact⟨F,cl.ext a hs.ext d,E.aq hs,fun y b=>⟨(h1 y b).1,d y b⟩,hs.lt⟩
def Tk.pure(h:Tk H A F0 w0 w)(cl:kg A)(E:Pure w w'):Tk H A F0 w0 w':=by
 have⟨F,a,c,h1,h2⟩:=h;exact⟨F,cl.ext a E fun _ _ h=>h,c.fb E,h1,fun y b=>Nat.lt_of_lt_of_le (h2 y b) E.size⟩
def Tk.uf(E:ab F0 w0 w)(h1:∀y,F y->(F0 y\/w0.heap.size<=y)/\¬H y)(h2:∀y,H y->y<w.heap.size)(t:Tn A' F w w'):Tk H A' F0 w0 w'/\aj H w w':=by
 have⟨F',c,b,n⟩:=t;refine⟨⟨F',c,E.cg b Gd,fun y a=>?_,fun y a=>Nat.lt_of_lt_of_le (h2 y a) b.size⟩,b.bl fun y a d=>(h1 y d).2 a⟩;rcases n y a with h|h;exact h1 y h;exact⟨.inr<|Nat.le_trans E.size h,fun hh=>Oh<|h2 y hh⟩
def ez.uf{F1 F2}(b:kg B)(hB:B w F2)(d:∀y,F1 y->¬F2 y)(f:∀y,F y↔F1 y\/F2 y)(t:Tn A' F1 w w'):Tn (ez A' B) F w w':=by
 have⟨F',e,c,n⟩:=t;refine⟨fun y=>F' y\/F2 y,⟨F',F2,e,b.ext hB c fun y h2 h1=>d y h1 h2,fun y a h2=>?_,fun _=>Iff.rfl⟩,c.mono Gd,fun y a=>?_⟩;rcases n y a with h|h;exact d y h h2;have:=b.lt hB y h2;omega;grind
def Tk.one(h:Tk H A F0 w0 w):∃F,A w F/\(∀y,F y->(F0 y\/w0.heap.size<=y)/\¬H y)/\∀{A' w'},Tn A' F w w'->Tk H A' F0 w0 w'/\aj H w w':=by
 have⟨F,a,E,h1,h2⟩:=h;exact⟨F,a,h1,fun t=>Tk.uf E h1 h2 t⟩
def ez.one(b:kg B)(h:ez A B w F)(f:∀y,F y->y<w.heap.size):∃a,A w a/\(∀y,a y->F y)/\∀{A' w'},Tn A' a w w'->Tn (ez A' B) F w w':=by
 have⟨a,i,e,hB,d,c⟩:=h;exact⟨a,e,fun y g=>(c y).2<|.inl g,fun t=>ez.uf b hB d c t⟩
def ez.sT(h:ez A B w F):ez B A w F:=by
 have⟨a,c,e,hB,d,b⟩:=h;exact⟨c,a,hB,e,fun y h2 h1=>d y h1 h2,fun y=>(b y).trans Or.comm⟩
def Tk.sT(h:Tk H (ez A B) F0 w0 w):Tk H (ez B A) F0 w0 w:=by
 have⟨F,a,r⟩:=h;exact⟨F,a.sT,r⟩
def Tk.lb(b:kg B)(h:Tk H (ez A B) F0 w0 w):∃a c,A w a/\B w c/\(∀y,a y->¬c y)/\(∀y,a y->(F0 y\/w0.heap.size<=y)/\¬H y)/\∀{A' w'},Tn A' a w w'->Tk H (ez A' B) F0 w0 w'/\aj H w w':=by
 have⟨F,⟨a,c,f,hB,d,e⟩,E,h1,h2⟩:=h;exact⟨a,c,f,hB,d,fun y g=>h1 y<|(e y).2<|.inl g,fun t=>Tk.uf E h1 h2<|ez.uf b hB d e t⟩
def Tk.l(e:kg A)(b:kg B)(h:Tk H (ez A B) F0 w0 w):∃a,A w a/\(∀y,a y->(F0 y\/w0.heap.size<=y)/\¬H y)/\∀{A' w'},Tn A' a w w'->Tk H (ez A' B) F0 w0 w'/\aj H w w':=by
 have⟨a,_,c,_,_,d,k⟩:=h.lb b;exact⟨a,c,d,k⟩
def Tk.r(a:kg A)(b:kg B)(h:Tk H (ez A B) F0 w0 w):∃c,B w c/\(∀y,c y->(F0 y\/w0.heap.size<=y)/\¬H y)/\∀{B' w'},Tn B' c w w'->Tk H (ez A B') F0 w0 w'/\aj H w w':=by
 have⟨c,hB,d,k⟩:=h.sT.l b a;exact⟨c,hB,d,fun t=>⟨(k t).1.sT,(k t).2⟩⟩
def Tk.lP{w1}(a:kg A)(b:kg B)(h:Tk H (ez A B) F0 w0 w)(E:Pure w w1):∃c,A w1 c/\(∀y,c y->y<w.heap.size)/\∀{A' w'},Tn A' c w1 w'->Tk H (ez A' B) F0 w0 w'/\aj H w1 w':=by
 have⟨c,f,d,k⟩:=h.l a b;exact⟨c,a.ext f E fun _ _ h=>h,a.lt f,fun {A' w'} ⟨F',j,g,n⟩=>⟨(k ⟨F',j,(ab.pure E).trans g,fun y e=>(n y e).imp id fun h=>Nat.le_trans E.size h⟩).1,g.bl fun y e i=>(d y i).2 e⟩⟩
def Tk.aw(a:kg A)(h:Tk H A F0 w0 w)(c:C w' F)(E:Pure w w')(n:∀y,F y->w.heap.size<=y):Tk H (ez C A) F0 w0 w':=by
 have⟨e,d,f,h1,h2⟩:=h;refine⟨fun y=>F y\/e y,⟨F,e,c,a.ext d E fun _ _ h=>h,fun y b g=>?_,fun _=>Iff.rfl⟩,f.fb E,fun y b=>?_,fun y b=>Nat.lt_of_lt_of_le (h2 y b) E.size⟩;have:=a.lt d y g;have:=n y b;omega;rcases b with b|b;exact⟨.inr<|Nat.le_trans f.size<|n y b,fun hh=>Oi (h2 y hh)<|n y b⟩;exact h1 y b
def Tk.sub(h:Tk H A F0 w0 w)(f:∀{F},A w F->∃F',B w F'/\∀y,F' y->F y):Tk H B F0 w0 w:=by
 have⟨F,a,E,h1,h2⟩:=h;have⟨F',b,s⟩:=f a;exact⟨F',b,E,fun y c=>h1 y<|s y c,h2⟩
def ez.fst(h:ez A B w F):∃F',A w F'/\∀y,F' y->F y:=by
 have⟨b,_,d,_,_,c⟩:=h;exact⟨b,d,fun y a=>(c y).2<|.inl a⟩
def ez.ji(h:ez A (ez B C) w F):∃F',ez A C w F'/\∀y,F' y->F y:=by
 have⟨b,l,e,⟨k,c,hB,j,d2,a⟩,d,f⟩:=h;refine⟨fun y=>b y\/c y,⟨b,c,e,j,fun y h1 g=>d y h1<|(a y).2<|.inr g,fun _=>Iff.rfl⟩,fun y i=>(f y).2<|i.imp id fun h=>(a y).2<|.inr h⟩
end
end Go.SE
end
section
open Go Go.SE List
open Go.IntKind renaming i64 -> q6
namespace Go.Proofs
open Tryz
set_option maxRecDepth 100000
set_option maxHeartbeats 4000000
attribute [local irreducible] bu ft fg dw Calls
attribute [local irreducible] jq W WV WR yW pv ku jd nz ka lq ky lj mz mo iq fa im mv kq kp uP xG yA bn ub
def Rp(c:World)(K:(Option Addr)->WP):Prop:=cl 42 #[] c fun e d=>∃r1,e=.returned (vp r1)/\cl 43 #[(vp r1)] d (XD fun r2 f=>∀a b,au f (.cells #[(vp r2),(vp r1),(vb false),(vb false)] 98) a b->K (some a) b)
def QR(a:World)(K:(Option Addr)->WP)(h:Rp  a K):
  cl 9 #[] a<|XD K:=
 cy func9 h<|fy 1 call42<|fy 2 call43<|cd 3<|rr 1
def jbz(a:Int):Bool:=((a==0) ||(a==1))
def If(a:Int)(d:World):cl 66 #[(.int .i64 a)] d (fun e w'=>e=.returned (.bool<|jbz a)/\Pure d w'):=
 jr func66 [] (fun b=>(vb<|(a==0) ||(a==1))) fun g=>pj 1 0 [] [] (fun b=>[(2,(vb<|(a==0) ||(a==1)))]) (fun f=>ct 3 3<|pj 0 0 [(a==0)] [] (fun b=>[(8,(vb<|(b 0) ||(a==1)))]) (fun c=>pb 1 0 0 c (fun c=>pe 3 0 c)<|fun c=>pe 3 0 c)<|pe 1 0 f)<|ff 0 g
def Tw(h e:Int)(c:ByteArray)(b:World)(K:Sl->WP):Prop:=∀g d,af b ar b g d->∀a f,au d (.cells #[(vi 2),(vi h),(vu e),(vs c),(vb false),(vi 6),(vi 0),(vu e),(vs c),(vb false)] 35) a f->K (Sl.mk (some a) 2 2) f
def jbA(aA aB aC w0 K)(h:Tw aA aB aC w0 K):
  cl 103 #[(.agg #[(vi aA),(vu aB),(vs aC)])] w0<|XA K:=
 dv func103 h<|nh 0<|lh 2 0 []<|lh 1 0 [1]<|lh 1 0 [2]<|lh 2 0 [1]<|lh 1 0 [2]<|ah<|my 1<|rr 1
def G9(d:Value)(g r2:Int)(h:Bool)(H:NP)(w:World)(e:Int->NP->WP)(K:Int->WP):Prop:=Br h (∃(f:FuncId) (c b:Array Value),d=.func (.func f) c b/\(∀args w,(callFunc f args).run prog w=.ok (.enter f args) w)/\Calls prog f (c++#[(vi r2)]++b) w (XC fun i a=>aj H w a/\Br i (K r2 a) (e (q6.wrap<|g+1) H a)))<|e (q6.wrap<|g+1) H w
def jcH(r:Option Addr)(a:Value)(r1:Sl)(i:Int)(v:World)(j:NP)(b:World)(f:Int->NP->WP)(K:Int->WP):Prop:=Br (decide (i<(r1.len:Int))) (∃a1:Addr,At r1 i 5 a1/\∃p n m q o,Row b a1 (Ae p n m q o)/\∀g k,af v j b g k->∃l:WP,l k.drew/\∀h,h=k.drew->∃a2,r=some a2/\lp h (a2.add 1) fun u=>cl 104 #[(vp u),(.agg #[(vi p),(vi n),(vu m),(vs q),(vb o)])] h fun e c=>∃r2 r3,e=.returned (.tuple #[(vi r2),(vi r3)])/\l c/\aj g h c/\Br (r3==0) (∃a3,r=some a3/\lp c a3 fun t=>cl 63 #[(vp t),(vi r2)] c<|XC fun s d=>aj g c d/\G9 a i r2 s g d f K) (G9 a i r2 false g c f K)) (K 0 b)
def Gr(l:Option Addr)(i p:Int)(o:ByteArray)(e:Value)(c:World)(K:Int->WP):Prop:=Br ((Option.isNone l) ||(!((i==0) ||(i==1)))) (∀g d,af c ar c g d->K 0 d)<|∀g d,af c ar c g d->cl 103 #[(.agg #[(vi i),(vu p),(vs o)])] d (XA fun r1 m=>aj g d m/\∃(k:Int->NP->WP) (h:Int->World->Nat),k 0 g m/\∀(j:Int) (b:NP) (a:World),af c b a b a->k j b a->jcH l e r1 j c b a (fun f n w'=>k f n w'/\h f w'<h j a) K)
def Ut(f1 aA aB aC how1 w0 K)(h:Gr f1 aA aB aC how1 w0 K):
  cl 48 #[(vp f1),(.agg #[(vi aA),(vu aB),(vs aC)]),how1] w0<|XB K:=
 dv func48 h<|nh 0<|pj 1 0 [(Option.isNone f1)] [0,2,4] (fun b=>[(18,(vb<|(b 0) ||(!((aA==0) ||(aA==1)))))]) (fun a=>pb 1 3 0 a (fun a=>pe 5 0 a)<|fun a=>lh 1 0 []<|cp 0 call66 (If aA)<|pe 2 0 a)<|br 0 0 (ah<|rr 2)<|ij 1 0 [] 3<|ah<|du 0 call103<|td 2 [0,2,20,21] (fun g=>[(22,(vi g))])<|fun {_ _ g}=>fun f=>br 0 1 (ix 1<|gw<|lr 0<|nh 0<|sg 0 0 []<|ah<|dC 0 [6] []<|nc 1<|sC 2<|sJ 0 0 [] 5<|xh 0 call104<|ct 8 8<|jk 0 0 [0,2,9,20,21,22] (fun c=>[(46,(vb c))]) (fun c H w=>G9 _ _ _ c H w _ _) (fun e=>br 1 0 (nc 1<|ld 2<|du 1 call63<|je 1 0 e)<|je 8 0 e)<|fun {c}=>br 1 1 (fo<|fun d=>cv 2 d<|xe<|rt<|ie<|br 0 1 (rr 3)<|je 3 1 f)<|je 7 1 f)<|rr 2
def Y7(e:Option Addr)(h g:Int)(f:ByteArray)(b:World)(K:Bool->WP):Prop:=∀c a,af b ar b c a->cl 48 #[(vp e),(.agg #[(vi h),(vu g),(vs f)]),(.func (.func 51) #[] #[])] a (XB fun r1 d=>aj c a d/\K (r1 !=0) d)
def Z8(f1 aA aB aC w0 K)(h:Y7 f1 aA aB aC w0 K):
  cl 13 #[(vp f1),(.agg #[(vi aA),(vu aB),(vs aC)])] w0<|XC K:=
 dv func13 h<|nh 0<|ij 2 0 [] 3<|ah<|du 0 call48<|rr 2
def NF(c:Option Addr)(m:Sl)(f:World)(K:ByteArray->Int->Int->WP):Prop:=Br (Option.isNone c) (K ⟨#[]⟩ 7 0 f)<|∃g:WP,g f.drew/\∀b,b=f.drew->∃a1,c=some a1/\lp b (a1.add 1) fun k=>∃a2,c=some a2/\lp b a2 fun j=>cl 52 #[(vp k),(vp j),m.v] b fun e a=>∃r1 r2 r3,e=.returned (.tuple #[(vi r1),(vi r2),(vi r3)])/\g a/\aj ar b a/\Br (r2 !=0) (K ⟨#[]⟩ r2 r3 a) (∃a3,c=some a3/\lp a (a3.add 1) fun n=>cl 53 #[(vp n),(vi r1)] a<|XM fun i l d=>aj ar a d/\∃h,(convert 59 9 i.v).run prog d=.ok (vs h) d/\K h l 0 d)
def U6(f1 l1 w0 K)(h:NF f1 l1 w0 K):
  cl 14 #[(vp f1),l1.v] w0<|XU K:=
 dv func14 h<|br 0 5 (rr 4)<|dC 1 [11] []<|nc 1<|sC 2<|nc 1<|sC 2<|JC 1 call52<|br 0 9 (rr 6)<|nc 2<|ld 2<|il 1 call53<|xe<|rn 6<|rr 4
def NZ(g:Option Addr)(j o:Int)(q m:Int)(k:ByteArray)(p:Sl)(d:World)(K:Bool->WP):Prop:=Br (Option.isNone g) (∀c a,af d ar d c a->K false a)<|∀c a,af d ar d c a->∃h:WP,h a.drew/\∀f,f=a.drew->∃a1,g=some a1/\lp f (a1.add 1) fun n=>cl 62 #[(vp n),(.agg #[(vi j),(vi o),(vi q),(vu m),(vs k),p.v])] f fun e b=>∃r1 r2,e=.returned (.tuple #[(vi r1),(vi r2)])/\h b/\aj c f b/\Br (r2==0) (∃a2,g=some a2/\lp b a2 fun l=>cl 63 #[(vp l),(vi r1)] b<|XC fun r3 i=>aj c b i/\K r3 i) (K false b)
def Zo(f1 aM aN aO aP aQ aR w0 K)(h:NZ f1 aM aN aO aP aQ aR w0 K):
  cl 19 #[(vp f1),(.agg #[(vi aM),(vi aN),(vi aO),(vu aP),(vs aQ),aR.v])] w0<|XC K:=
 dv func19 h<|nh 0<|br 0 3 (ah<|rr 2)<|ah<|dC 1 [6] []<|nc 1<|sC 2<|sJ 0 0 [] 6<|xh 0 call62<|br 1 8 (nc 1<|ld 2<|du 1 call63<|rr 2)<|rr 9
def P0(c:Option Addr)(a:Int)(d:World)(K:Bool->WP):Prop:=∃a1,c=some a1/\lp d (a1.add 1) fun g=>cl 127 #[(vp g),(.agg #[(vi 6),(vi a),(vi 0),(vu 0),ve,(vi 0),(vi 0)])] d fun e b=>∃r1 r2,e=.returned (.tuple #[(vi r1),(vb r2)])/\Br r2 (∃a2,c=some a2/\lp b a2 fun f=>cl 128 #[(vp f),(vi r1)] b<|XC K) (K false b)
def jcr(f1 who1 w0 K)(h:P0 f1 who1 w0 K):
  cl 67 #[(vp f1),(vi who1)] w0<|XC K:=
 cy func67 h<|nc 2<|ld 2<|kz 2 call127<|br 1 7 (nc 1<|ld 2<|fy 1 call128<|rr 2)<|rr 9
def Z5(g:Option Addr)(a:Int)(d:World)(K:Bool->WP):Prop:=Br ((!(Option.isNone g))&&((a==0) ||(a==1))) (∀c b,af d ar d c b->cl 67 #[(vp g),(vi a)] b fun e f=>∃r1,e=.returned (vb r1)/\aj c b f/\Br r1 (K true f) (cl 67 #[(vp g),(vi 2)] f<|XC fun r2 h=>aj c f h/\K r2 h)) (∀c b,af d ar d c b->K false b)
def ZE(f1 who1 w0 K)(h:Z5 f1 who1 w0 K):
  cl 21 #[(vp f1),(vi who1)] w0<|XC K:=
 dv func21 h<|ct 4 3<|pj 0 0 [(!(Option.isNone f1))] [0,1] (fun b=>[(10,(vb<|(b 0)&&((who1==0) ||(who1==1))))]) (fun a=>pb 1 0 0 a (fun a=>cp 1 call66 (If who1)<|pe 1 0 a)<|fun a=>pe 3 0 a)<|br 1 1 (ah<|du 2 call67<|br 1 1 (rr 5)<|du 1 call67<|rr 3)<|ah<|rr 9
def Sj(o:Option Addr)(r1:Option Addr)(r2:Sl)(g:Int)(b:NP)(a:World)(f:Int->NP->WP)(K:(Option Addr)->WP):Prop:=Br (decide (g<(r2.len:Int))) (∃a4:Addr,At r2 g 1 a4/\li a a4 fun n=>∃j:WP,j a.drew/\∀d,d=a.drew->∃a5,r1=some a5/\lp d (a5.add 1) fun q=>∃l,o=some l/\lp d (l.add 1) fun m=>cl 69 #[(vp q),(vp m),(vi n)] d fun e c=>∃r3 i,e=.returned (.tuple #[(vi r3),(vi i)])/\j c/\aj b d c/\Br (i==0) (∃k,r1=some k/\lp c k fun p=>cl 70 #[(vp p),(vi r3)] c<|XB fun r h=>aj b c h/\f (q6.wrap<|g+1) b h) (f (q6.wrap<|g+1) b c)) (K r1 a)
def Gb(i:Option Addr)(h:World)(K:(Option Addr)->WP):Prop:=Br (Option.isNone i) (K none h)<|cl 9 #[] h fun e k=>∃r1,e=.returned (vp r1)/\aj ar h k/\∃a1,i=some a1/\∃f g,Row k (a1.add 2) [(vb f),(vb g)]/\∃a2,r1=some a2/\(∀j,j<2->zL k ((a2.add 2).add j))/\¬ar (a2.add 2).block/\∀l,l=bb k (a2.add 2) [(vb f),(vb g)]->∃a3,i=some a3/\lp l a3 fun q=>cl 68 #[(vp q)] l<|XA fun r2 o=>aj ar l o/\∃(n:Int->NP->WP) (d:Int->World->Nat),n 0 ar o/\∀(m:Int) (b:NP) (a:World),af h b a b a->n m b a->Sj i r1 r2 m b a (fun c p w'=>n c p w'/\d c w'<d m a) K
def YG(f1 w0 K)(h:Gb f1 w0 K):
  cl 22 #[(vp f1)] w0<|XD K:=
 dv func22 h<|br 0 3 (rr 2)<|du 1 call9<|nc 3<|dt<|lr 1<|nc 0<|vy 1<|nc 1<|ld 2<|du 0 call68<|td 2 [0,3,23,24] (fun b=>[(25,(vi b))])<|fun {_ _ b}=>fun a=>br 0 1 (ix 1<|ld 0<|dC 1 [11] []<|nc 1<|sC 2<|nc 1<|sC 2<|xh 1 call69<|br 0 7 (nc 2<|ld 2<|du 1 call70<|je 2 0 a)<|je 3 0 a)<|rr 3
def Kr(b:Option Addr)(a:ByteArray)(c:World)(K:Bool->WP):Prop:=Br (Option.isNone b) (K false c)<|∃a1,b=some a1/\lp c (a1.add 1) fun i=>∃g:Sl,∃f:World,(convert 9 59<|vs a).run prog c=.ok g.v f/\cl 71 #[(vp i),g.v] f fun e d=>∃r1 r2 r3,e=.returned (.tuple #[(vi r1),(vi r2),(vi r3)])/\Br (r2 !=0) (K false d) (∃a2,b=some a2/\lp d a2 fun h=>cl 70 #[(vp h),(vi r1)] d<|XB fun k j=>K true j)
def YD(f1 body1 w0 K)(h:Kr f1 body1 w0 K):
  cl 23 #[(vp f1),(vs body1)] w0<|XC K:=
 cy func23 h<|br 0 3 (rr 2)<|nc 2<|ld 2<|dt<|ef 1<|ev<|BS 0 call71<|br 0 9 (rr 2)<|nc 2<|ld 2<|fy 1 call70<|rr 1
def Tz(A:Option Addr)(r1 a:Sl)(j:Int)(u:World)(b:NP)(c:World)(i:Sl->Int->NP->WP)(K:Sl->WP):Prop:=Br (decide (j<(r1.len:Int))) (∃a2:Addr,At r1 j 1 a2/\li c a2 fun y=>∃a3,A=some a3/\lp c (a3.add 1) fun z=>cl 73 #[(vp z),(vi y)] c fun e p=>∃q s w x r r2,e=.returned (.tuple #[(Ag q s w x r),(vb r2)])/\aj b c p/\Br r2 (∀d h,af u b p d h->∀t k,au h (.cells #[(vi q),(vi s),(vu w),(vs x),(vb r)] 35) t k->∃s1:Sl,∃l:World,(Builtin.append_ #[64,64] 64 #[a.v,(Sl.mk (some t) 1 1).v]).run prog k=.ok s1.v l/\aj d k l/\i s1 (q6.wrap<|j+1) d l) (∀d h,af u b p d h->i a (q6.wrap<|j+1) d h)) (∀f n,au c (.cells #[(.nilFunc:Value)] 134) f n->zL n f/\¬b f.block/\∀m,m=n.setCell f (.func (.func 74) #[] #[])->cl 75 #[a.v,(.func (.func 76) #[] #[(vp<|some f)])] m fun e o=>e=.returned (.tuple #[])/\aj b m o/\cl 81 #[a.v] o (XA fun r3 g=>aj b o g/\K r3 g))
def GW(h:Option Addr)(d:World)(K:Sl->WP):Prop:=Br (Option.isNone h) (K Sl.nil d)<|∃a1,h=some a1/\lp d a1 fun m=>cl 72 #[(vp m)] d<|XA fun r1 k=>aj ar d k/\∃(j:Sl->Int->NP->WP) (f:Sl->Int->World->Nat),j Sl.nil 0 ar k/\∀(a:Sl) (i:Int) (c:NP) (b:World),af d c b c b->j a i c b->Tz h r1 a i d c b (fun e g l w'=>j e g l w'/\f e g w'<f a i b) K
def Xz(f1 w0 K)(h:GW f1 w0 K):
  cl 24 #[(vp f1)] w0<|XA K:=
 dv func24 h<|br 0 3 (rr 2)<|nc 3<|ld 2<|du 0 call72<|ye 2 [0,16,17] (fun a c=>[(3,(Sl.v a)),(18,(vi c))])<|fun {_ _ a c}=>fun b=>br 0 1 (ix 1<|ld 0<|nc 2<|ld 2<|ow 1 call73<|nh 3<|sg 0 0 []<|br 0 2 (ij 2 0 [] 5<|ah<|my 0<|dt<|ef 0<|ie<|je 3 1 b)<|ah<|je 3 1 b)<|my 1<|np 0<|rA 2 call75<|du 1 call81<|rr 1
def jcN(f:Option Addr)(a:Int)(c:World)(K:Int->WP):Prop:=Br (Option.isNone f) (K 7 c)<|Br (!((a==0) ||(a==1))) (∀b,af c ar c ar b->K 2 b)<|∃a1,f=some a1/\∀b,af c ar c ar b->lp b (a1.add 1) fun j=>cl 99 #[(vp j),(vi a)] b fun e d=>∃r1 r2,e=.returned (.tuple #[(vi r1),(vi r2)])/\aj ar b d/\Br (r2 !=0) (K r2 d) (∃a2,f=some a2/\lp d a2 fun i=>cl 70 #[(vp i),(vi r1)] d<|XB fun r3 g=>aj ar d g/\∃a3,f=some a3/\∃a4:Addr,EZ (a3.add 2) a 2 1 a4/\zL g a4/\¬ar a4.block/\∀h,h=g.setCell a4 (vb true)->K 0 h)
def jcL(f1 who1 w0 K)(h:jcN f1 who1 w0 K):
  cl 41 #[(vp f1),(vi who1)] w0<|XB K:=
 dv func41 h<|br 0 4 (rr 2)<|cp 2 call66 (If who1)<|br 0 2 (an<|rr 2)<|nc 2<|an<|ld 2<|il 1 call99<|br 0 7 (rr 3)<|nc 2<|ld 2<|du 1 call70<|nc 2<|Qv 1<|np 0<|rr 1
def Wx(a:Int):Bool:=true
def Xf(a:Int)(c:World):cl 51 #[(.int .i64 a)] c (fun e w'=>e=.returned (.bool<|Wx a)/\Pure c w'):=
 jr func51 [] (fun b=>(vb true)) fun d=>ff 2 d
def ZA(b c d:Int)(e:ByteArray)(a:Bool):Int:=(cond a 1 0)
def Kq(d f h:Int)(i:ByteArray)(c:Bool)(g:World):cl 74 #[(.agg #[(.int .i64 d),(.int .i64 f),(.int .u64 h),(.string i),(.bool c)])] g (fun e w'=>e=.returned (.int .i64<|ZA d f h i c)/\Pure g w'):=
 jr func74 [c] (fun b=>(vi<|cond (b 0) 1 0)) fun a=>nh 0<|lh 2 0 [4]<|pb 0 0 0 a (fun a=>ff 2 a)<|fun a=>ff 2 a
def Xy(N F I:Int)(A:ByteArray)(O:Bool)(y J G:Int)(M:ByteArray)(Q:Bool)(d:Addr)(L:World)(K:Int->WP):Prop:=∀b u,af L ar L b u->∃a:WP,a u.drew/\∀t,t=u.drew->∃H:Value,(∀w',a w'->w'.cell? d=some H)/\∃B:Value,(∀w',a w'->w'.cell? d=some B)/\cl 78 #[(vi N),(vi y)] t fun e r=>∃r1,e=.returned (vi r1)/\a r/\aj b t r/\cl 78 #[(vi F),(vi J)] r fun e m=>∃r2,e=.returned (vi r2)/\a m/\aj b r m/\cl 79 #[(vu I),(vu G)] m fun e n=>∃r3,e=.returned (vi r3)/\a n/\aj b m n/\cl 80 #[(vs A),(vs M)] n fun e p=>∃x,e=.returned (vi x)/\a p/\aj b n p/\∃(s:FuncId) (k i:Array Value),H=.func (.func s) k i/\(∀args w,(callFunc s args).run prog w=.ok (.enter s args) w)/\Calls prog s (k++#[(.agg #[(vi N),(vi F),(vu I),(vs A),(vb O)])]++i) p fun e o=>∃z,e=.returned (vi z)/\a o/\aj b p o/\∃(l:FuncId) (h j:Array Value),B=.func (.func l) h j/\(∀args w,(callFunc l args).run prog w=.ok (.enter l args) w)/\Calls prog l (h++#[(.agg #[(vi y),(vi J),(vu G),(vs M),(vb Q)])]++j) o fun e q=>∃C,e=.returned (vi C)/\a q/\aj b o q/\cl 78 #[(vi z),(vi C)] q fun e g=>∃E,e=.returned (vi E)/\a g/\aj b q g/\∀D c,au g (.cells #[(vi r1),(vi r2),(vi r3),(vi x),(vi E)] 3) D c->a c/\cl 77 #[(Sl.mk (some D) 5 5).v] c (XB fun P f=>a f/\aj b c f/\K P f)
def VS(aE aF aG aH aS aI aJ aK aL aT cap1 w0 K)(h:Xy aE aF aG aH aS aI aJ aK aL aT cap1 w0 K):
  cl 76 #[(.agg #[(vi aE),(vi aF),(vu aG),(vs aH),(vb aS)]),(.agg #[(vi aI),(vi aJ),(vu aK),(vs aL),(vb aT)]),(vp<|some cap1)] w0<|XB K:=
 dv func76 h<|nh 0<|nh 0<|ah<|dC 1 [4,9,14,19,22,25,26,27,28] []<|jg 1 1 []<|jg 1 0 []<|jg 1 1 [1]<|jg 1 0 [1]<|jg 1 1 [2]<|jg 1 0 [2]<|jg 1 1 [3]<|jg 1 0 [3]<|ik 0<|sJ 0 1 [] 5<|ik 0<|sJ 0 0 [] 5<|kr 0 call78<|kr 0 call78<|kr 0 call79<|kr 0 call80<|fo<|fun b=>cv 0 b<|xe<|rt<|rM<|fo<|fun a=>cv 0 a<|xe<|rt<|rM<|kr 0 call78<|sZ 0<|kr 0 call77<|rr 1
end Go.Proofs
end
section
namespace Go.Proofs
def JJ{L M r u t}(a:al L u=true):xD (L++M) r u t↔xD L r u t:=by
 unfold xD;rw[zF a]
def tf.gn{L M G az v}(h:tf L G az v)(d:∀t∈zG az,al L t=true):tf (L++M) G az v:=by
 rcases h with h|⟨a,b,c⟩;exact .inl h;exact .inr ⟨a,(JJ<|d _ c).2 b,c⟩
def jVX{S i t}(h:t∈zG (S.take i)):t∈zG S:=by
 unfold zG at h|-;have⟨v,a,e⟩:=List.mem_map.1 h;exact List.mem_map.2 ⟨v,List.mem_of_mem_take a,e⟩
def ny.gn{L M G S}(h:ny L G S):ny (L++M) G S:=
 ⟨⟨h.pt,fun t ht=>uF<|h.gm t ht,fun i hi=>(h.ua i hi).gn fun t ht=>h.gm t<|jVX ht⟩,fun u a r t b=>h.rW u a r t<|(JJ<|h.gm u a).1 b,h.jo,h.DF⟩
def tV{L G t}(h:al L t=true):pd L G t=ic G t:=by unfold pd;rw[if_pos h]
end Go.Proofs
end
section
open Go Go.SE List
namespace Go.Proofs
def EK(L Lq t):∃M,(vI L Lq t).2.2=L++M:=by
 unfold vI;split;simp only;split;exact⟨[],(append_nil L).symm⟩;exact GN _ _ L _;exact⟨[],(append_nil L).symm⟩
def DJ(L bs):∃M,(yM L bs).2.2.2=L++M:=by
 unfold yM;split;exact⟨[],(append_nil L).symm⟩;exact EK _ _ _
def vS(L:av)(G:List Int)(bs:List UInt8):av×List Int×Bool:=
 if(yM L bs).2.1≠0 then((yM L bs).2.2.2,G,false)else((yM L bs).2.2.2,pd (yM L bs).2.2.2 G (yM L bs).1,true)
def uC(who:Int):Bool:=(who==0) ||(who==1)
def zS(L:av)(G:List Int)(a b:Bool)(who:Int):Int×av×List Int×Bool×Bool:=
 if uC who=false then(2,L,G,a,b)else
 if(ax L<|zV who).2.1≠0 then((ax L<|zV who).2.1,(ax L<|zV who).2.2,G,a,b)else
 (0,(ax L<|zV who).2.2,pd (ax L<|zV who).2.2 G (ax L<|zV who).1,a ||(who==0),b ||(who==1))
end Go.Proofs
namespace Go.SE
def jTR(s c i)(h:i<s.data.toList.length):(bytesRow s c)[i]?=some (.int .u8 ((s.data.toList[i]).toNat:Int)):=by
 unfold bytesRow;have a:i<s.data.size:=by simpa using h
 rw[Array.getElem?_append_left Gd,Array.getElem?_map,Array.getElem?_eq_getElem a,Option.map_some,Array.getElem_toList]
def Yc(b i):(⟨b,0,none⟩:Addr).add i=⟨b,i,none⟩:=by
 unfold Addr.add;split;rename_i h;subst h;rfl;simp
def Ie{P src dst e}(hs:P.underlying src=some .string)(g:P.underlying dst=some (.slice e))(k:P.underlying e=some (.int .u8))(w x):
  ∃(s:Sl) (w':World),(convert src dst<|vs x).run P w=.ok s.v w'/\Pure w w'/\dn (·=w.heap.size) w' 1 s (dj x.data.toList)/\(s.a=none->s=Sl.nil):=by
 refine⟨⟨some ⟨w.heap.size,0,none⟩,x.size,grownCap w x.size 0 e⟩,_,run_bytes_of_string w src dst e x hs g k,?_,?_,fun h=>by cases h⟩
 exact⟨rfl,rfl,rfl,Nat.le_succ _,by rw[World.size_alloc];exact Nat.le_succ _,fun b m _=>(RowKit.Below.heap_alloc _ _ _ m)⟩
 have c:(w.drew.alloc<|.cells (bytesRow x<|grownCap w x.size 0 e) e ((bytesRow x<|grownCap w x.size 0 e).size,(bytesRow x<|grownCap w x.size 0 e).size+1)).heap[w.heap.size]?=some (.cells (bytesRow x<|grownCap w x.size 0 e) e ((bytesRow x<|grownCap w x.size 0 e).size,(bytesRow x<|grownCap w x.size 0 e).size+1)):=World.alloc_heap_new w.drew _
 refine⟨by rw[qA];rfl,fun i hi=>?_⟩
 have d:i<x.data.toList.length:=by simpa[dj]using hi
 have l:x.size=x.data.toList.length:=by rw[Array.length_toList];rfl
 refine⟨(⟨w.heap.size,0,none⟩:Addr).add<|i*1,⟨Om,by show(i:Int)<(x.size:Int);omega,_,rfl,Sm⟩,by rw[zC],?_⟩
 intro j f
 have:j=0:=by simp[dj]at f;exact f
 subst this
 simp only[dj,getElem_map,Nat.mul_one,Nat.add_zero,yL]
 rw[Yc]
 unfold World.cell?
 simp only[c]
 simpa using jTR x _ i d
end Go.SE
namespace Go.Proofs
open Tryz
attribute [local irreducible] Calls
structure rS(w:World)(f:Addr)(L:av)(G:List Int)(a b:Bool)(k p:Addr)(S:List gx)(FK FP:NP):Prop where
 box:ai w f [vp<|some k,vp<|some p,vb a,vb b] 98
 fh:qJ w k p G S FK
 bj:zD w p L FP
 wf:Wf L
 ok:ny L G S
 d:∀x,FK x->¬FP x
 dk:¬FK f.block
 dp:¬FP f.block
def gr(w:World)(f:Addr)(L:av)(G:List Int)(a b:Bool)(F:NP):Prop:=∃k p S FK FP,rS w f L G a b k p S FK FP/\∀x,F x↔x=f.block\/FK x\/FP x
section
variable {w w':World} {f k p:Addr} {L:av} {G:List Int} {a b:Bool} {S:List gx} {FK FP F:NP}
def rS.ext{X}(h:rS w f L G a b k p S FK FP)(E:ab X w w')(c:∀x,x=f.block\/FK x\/FP x->¬X x):rS w' f L G a b k p S FK FP:=
 ⟨h.box.ext E<|c _<|.inl rfl,h.fh.ext E Gd,h.bj.ext E Gd,h.wf,h.ok,h.d,h.dk,h.dp⟩
def gr.ext{X}(h:gr w f L G a b F)(E:ab X w w')(d:∀x,F x->¬X x):gr w' f L G a b F:=by
 have⟨k,p,S,FK,FP,h,c⟩:=h;exact⟨k,p,S,FK,FP,h.ext E Gd,c⟩
def gr.pure(h:gr w f L G a b F)(E:Pure w w'):gr w' f L G a b F:=h.ext E fun _ _ h=>h
def gr.lt(h:gr w f L G a b F){x}(c:F x):x<w.heap.size:=by
 have⟨k,p,S,FK,FP,h,d⟩:=h;rcases(d x).1 c with rfl|c|c;exact h.box.lt;exact h.fh.lt c;exact h.bj.lt c
def gr.wf(h:gr w f L G a b F):Wf L:=by have⟨k,p,S,FK,FP,h,c⟩:=h;exact h.wf
def gr.pI(h:gr w f L G a b F):G.Nodup/\∀t∈G,al L t=true:=by
 have⟨k,p,S,FK,FP,h,c⟩:=h;exact⟨h.ok.DF,fun t ht=>h.ok.gm t<|h.ok.jo t ht⟩
def rS.pW{M FP'}(h:rS w f L G a b k p S FK FP)(i:zD w' p (L++M) FP')(j:Wf (L++M))(E:ab FP w w')(g:∀x,FP' x->FP x\/w.heap.size<=x):rS w' f (L++M) G a b k p S FK FP':=
 ⟨h.box.ext E h.dp,h.fh.ext E fun x c=>h.d x c,i,j,h.ok.gn,fun x c e=>(g x e).elim (h.d x c) fun l=>Oh<|h.fh.lt c,h.dk,fun c=>(g _ c).elim h.dp fun l=>Oh h.box.lt⟩
def rS.Hg{G' S' FK'}(h:rS w f L G a b k p S FK FP)(i:qJ w' k p G' S' FK')(j:ny L G' S')(E:ab FK w w')(g:∀x,FK' x->FK x\/w.heap.size<=x):rS w' f L G' a b k p S' FK' FP:=
 ⟨h.box.ext E h.dk,i,h.bj.ext E fun x e c=>h.d x c e,h.wf,j,fun x e=>(g x e).elim (h.d x) fun l c=>Oh<|h.bj.lt c,fun e=>(g _ e).elim h.dk fun l=>Oh h.box.lt,h.dp⟩
end
def G5(w0):cl 9 #[] w0 (XD fun r w'=>∃f F,r=some f/\gr w' f [] [] false false F/\Pure w0 w'/\∀x,F x->w0.heap.size<=x):=by
 refine QR w0 (fun r w'=>∃f F,r=some f/\gr w' f [] [] false false F/\Pure w0 w'/\∀x,F x->w0.heap.size<=x) ?_;refine(KB w0).mono ?_;rintro _ m ⟨_,rfl,p,rfl,l,FP,g,q⟩;refine⟨_,rfl,?_⟩;refine(TM p m).mono ?_;rintro _ o ⟨_,rfl,k,FK,rfl,j,b,e⟩;refine⟨_,rfl,fun h n h3=>?_⟩;have c:Pure o n:=ab.aw h3;have t:=l.size;have u:=b.size;have s:=h3.cu;refine⟨h,fun x=>x=h.block\/FK x\/FP x,rfl,⟨k,p,[],FK,FP,⟨ai.fp h3,j.pure c,(g.pure b).pure c,Wf.nil,⟨⟨by simp[zG],by simp[zG],fun i hi=>by simp at hi⟩,by simp[zG],Sm,Sm⟩,fun x a d=>?_,fun a=>?_,fun a=>?_⟩,fun x=>Iff.rfl⟩,(l.trans b).trans c,?_⟩;have:=e x a;have:=g.lt d;omega;have:=j.lt a;omega;have:=g.lt a;omega;grind
def Cs(f:Addr)(body:ByteArray)(e:World){L:av}{G:List Int}{a b:Bool}{F:NP}(h:gr e f L G a b F):
  cl 23 #[vp<|some f,vs body] e<|XC fun r w'=>r=(vS L G body.data.toList).2.2/\∃F',gr w' f (vS L G body.data.toList).1 (vS L G body.data.toList).2.1 a b F'/\ab F e w'/\∀x,F' x->F x\/e.heap.size<=x:=by
 refine YD _ _ e _ ?_
 unfold Kr
 have⟨k,p,S,FK,FP,h,E⟩:=h
 refine Br.f rfl ⟨f,rfl,some p,h.box.cell rfl,?_⟩
 have⟨s,B,hr,u,hs,I⟩:=Ie (P:=prog) (src:=9) (dst:=59) underlying9 underlying59 underlying5 e body
 refine⟨s,B,hr,?_⟩
 have h1:=h.ext u fun _ _ h=>h
 refine(zFH p s body.data.toList B h1.wf h1.bj hs I).mono ?_
 rintro _ A ⟨t,x,y,rfl,rfl,rfl,rfl,i,w,q,n⟩
 have⟨M,j⟩:=DJ L body.data.toList
 have z:=CP h.wf body.data.toList
 rw[j]at w z
 have h2:=h1.pW w z q n
 have g:ab F e A:=(ab.pure u).trans<|q.mono Gd
 have O:=u.size;have K:=q.size
 refine⟨_,_,_,rfl,fun c=>?_,fun c=>?_⟩
 have c:=bne_iff_ne.1 c
 unfold vS
 rw[if_pos c,j]
 refine⟨rfl,_,⟨k,p,S,FK,i,h2,fun _=>Iff.rfl⟩,g,?_⟩
 rintro x (rfl|o|o)
 grind
 grind
 grind
 have c:(yM L body.data.toList).2.1=0:=by simpa using c
 refine⟨f,rfl,some k,h2.box.bd,?_⟩
 refine(Gx k p (yM L body.data.toList).1 A h2.fh h2.bj h2.wf h2.d h2.ok).mono ?_
 rintro _ N ⟨J,rfl,_,D,l,C,H,v,m⟩
 refine⟨_,rfl,?_⟩
 have h3:=h2.Hg C H v m
 unfold vS
 rw[if_neg<|by simpa using c,j]
 refine⟨rfl,_,⟨k,p,D,l,i,h3,fun _=>Iff.rfl⟩,g.trans<|v.mono Gd,?_⟩
 rintro x (rfl|o|o)
 exact .inl<|(E _).2<|.inl rfl
 grind
 grind
def Ih(f who w0){L G a b F}(h:gr w0 f L G a b F):
  cl 41 #[vp<|some f,vi who] w0<|XB fun r w'=>r=(zS L G a b who).1/\∃F',gr w' f (zS L G a b who).2.1 (zS L G a b who).2.2.1 (zS L G a b who).2.2.2.1 (zS L G a b who).2.2.2.2 F'/\ab F w0 w'/\∀x,F' x->F x\/w0.heap.size<=x:=by
 refine jcL _ _ w0 _ ?_
 refine Br.f rfl ⟨fun g=>?_,fun g=>?_⟩
 .intro R hs
  have e:zS L G a b who=(2,L,G,a,b):=by
   unfold zS uC;rw[if_pos<|by simpa using g]
  rw[e]
  exact⟨rfl,F,h.pure hs.first,ab.pure hs.first,fun x c=>.inl c⟩
 have o:uC who=true:=by unfold uC;simpa only[Bool.not_eq_eq_eq_not,Bool.not_false]using g
 have Z:who=0\/who=1:=by unfold uC at o;simpa using o
 refine⟨f,rfl,fun R hs=>?_⟩
 have D:=hs.first
 have⟨k,p,S,FK,FP,h,U⟩:=h
 have h1:=h.ext D fun _ _ h=>h
 refine⟨some p,h1.box.cell rfl,?_⟩
 refine(ZM p R h1.bj h1.wf.ok who).mono ?_
 rintro _ P ⟨r1,r2,rfl,J,l,A,q,z⟩
 have T:(⟨6,who,0,0,⟨#[]⟩,0,0⟩:df)=zV who:=rfl
 rw[T]at J A
 have⟨V,u⟩:=Prod.mk.inj J
 have⟨M,s⟩:=yG L<|zV who
 have K:=uQ h.wf<|zV who
 rw[s]at A K
 have h2:=h1.pW A K q z
 have m:ab F w0 P:=(ab.pure D).trans<|q.mono Gd
 have z1:=D.size;have Y:=q.size
 refine⟨_,_,rfl,q.bl fun _ h=>h.elim,fun g=>?_,fun g=>?_⟩
 .have g:=bne_iff_ne.1 g
  unfold zS
  rw[if_neg<|by simp[o],if_pos (by rw[<-u];exact g),s]
  refine⟨u,_,⟨k,p,S,FK,l,h2,fun _=>Iff.rfl⟩,m,?_⟩
  rintro x (rfl|c|c)
  .grind
  .grind
  .grind
 .have H:r2=0:=by simpa using g
  refine⟨f,rfl,some k,h2.box.bd,?_⟩
  refine(Gx k p r1 P h2.fh h2.bj h2.wf h2.d h2.ok).mono ?_
  rintro _ n ⟨X,rfl,_,O,j,N,W,v,y⟩
  refine⟨_,rfl,v.bl fun _ h=>h.elim,?_⟩
  have h3:=h2.Hg N W v y
  have E:∃i:Nat,who=(i:Int)/\i<2:=⟨who.toNat,Om,Om⟩
  obtain⟨i,rfl,hi⟩:=E
  refine⟨f,rfl,(f.add 2).add i,⟨Om,Om,Sm⟩,?_⟩
  rw[yL]
  refine⟨h3.box.ee So,id,?_⟩
  rintro _ rfl
  have Q:=h3.box.set (2+i)<|vb true
  have C:ab (·=f.block) n (n.setCell (f.add<|2+i)<|vb true):=by
   have:=ab.setCell (w:=n) (f.add<|2+i)<|vb true;rw[zC]at this;exact this.mono fun x _ c=>c.symm▸rfl
  unfold zS
  rw[if_neg<|by simp[o],if_neg (by rw[<-u];simpa using H),s,<-V]
  have I:qJ (n.setCell (f.add<|2+i)<|vb true) k p (pd (L++M) G r1) O j:=N.ext C fun x c e=>h3.dk<|e▸c
  have t:=h3.bj.ext C fun x c e=>h3.dp<|e▸c
  have B:ai (n.setCell (f.add<|2+i)<|vb true) f [vp<|some k,vp<|some p,vb<|a ||((i:Int)==0),vb<|b ||((i:Int)==1)] 98:=by
   rcases(show i=0\/i=1 by omega)with rfl|rfl
   .simpa using Q
   .simpa using Q
  refine⟨rfl,fun x=>x=f.block\/j x\/l x,⟨k,p,O,j,l,⟨B,I,t,h3.wf,h3.ok,h3.d,h3.dk,h3.dp⟩,fun _=>Iff.rfl⟩,(m.trans<|v.mono Gd).trans<|C.mono Gd,?_⟩
  rintro x (rfl|c|c)
  .exact .inl<|(U _).2<|.inl rfl
  .grind
  .grind
end Go.Proofs
end
section
namespace Go.Proofs
def vN(k:Int):Bool:=(k==1 ||k==2) ||k==4
def qK(k:Int):Bool:=vN k ||k==6
def qF(l:eo):Int:=
 if l.kind<1\/l.kind>7\/(l.ay≠0/\l.ay≠1)\/(vN l.kind=false/\l.ay≠0)\/(qK l.kind=false/\l.ba≠⟨#[]⟩)\/(l.dz=true/\l.kind≠1/\l.kind≠4)then 110 else if l.ba.size>64 then 1 else 0
end Go.Proofs
end
section
open Go Go.SE List
open Go.IntKind renaming i64 -> q6
namespace Go.Proofs
open Tryz
set_option maxRecDepth 100000
set_option maxHeartbeats 4000000
attribute [local irreducible] bu ft fg dw Calls
attribute [local irreducible] jq W WV WR yW pv ku jd nz ka lq ky lj mz mo iq fa im mv kq kp uP xG yA bn ub
def jcO(e:World)(K:(Array Value)->WP):Prop:=∀a b,au e (.cells #[(vb false),(vb false),(vb false),ve,(vb false),(vb false),(vb false),ve,(vb false),(vb false),(vb false),ve,(vb false),(vb false),(vb false),ve,(vb false),(vb false),(vb false),ve,(vb false),(vb false),(vb false),ve,(vb false),(vb false),(vb false),ve,(vb false),(vb false),(vb false),ve] 300) a b->(∀j,j<32->zL b (a.add j))/\∀d,d=bb b a [(vb false),(vb false),(vb false),ve,(vb true),(vb true),(vb true),(vs (⟨#[112,114,111,109,105,115,101]⟩:ByteArray)),(vb true),(vb true),(vb false),(vs (⟨#[115,105,103,110]⟩:ByteArray)),(vb false),(vb false),(vb false),(vs (⟨#[97,98,111,114,116]⟩:ByteArray)),(vb true),(vb true),(vb true),(vs (⟨#[114,101,115,111,108,118,101]⟩:ByteArray)),(vb false),(vb false),(vb false),(vs (⟨#[116,111,107,101,110]⟩:ByteArray)),(vb false),(vb true),(vb false),(vs (⟨#[105,110,115,116,101,97,100]⟩:ByteArray)),(vb false),(vb false),(vb false),(vs (⟨#[102,117,108,108]⟩:ByteArray))]->∃c:Array Value,(c.size=32/\Row d a c.toList)/\K c d
def jbb(a:World)(K:(Array Value)->WP)(h:jcO  a K):
  cl 216 #[] a<|fun e w'=>∃r1:Array Value,e=.returned (.agg r1)/\K r1 w':=
 cy func216 h<|cd 0<|dh 8<|dx 0<|xe<|QH<|dy
def JX(f:ByteArray)(g:Bool)(a1:Addr)(d:Bool)(c:World)(H:NP)(w:World)(K:Int->WP):Prop:=Br d (K 110 w)<|lb w (a1.add 2) fun e=>Br ((!e)&&g) (∀b a,af c H w b a->K 110 a)<|Br (decide ((f.size:Int)>64)) (∀b a,af c H w b a->K 1 a)<|∀b a,af c H w b a->K 0 a
def Qb(c:ByteArray)(f:Bool)(a1:Addr)(g:Bool)(b:World)(H:NP)(w:World)(K:Int->WP):Prop:=Br g (K 110 w)<|lb w (a1.add 1) fun e=>∀d a,af b H w d a->JX c f a1 ((!e)&&(!(decide (c=⟨#[]⟩)))) b d a K
def Bp(d:Int)(g:ByteArray)(h:Bool)(a1:Addr)(b:World)(H:NP)(w:World)(K:Int->WP):Prop:=Br ((d !=0)&&(d !=1)) (∀c a,af b H w c a->K 110 a)<|∀c a,af b H w c a->lb a a1 fun i=>∀e f,af b c a e f->Qb g h a1 ((!i)&&(d !=0)) b e f K
def Y4(w A B:Int)(z:ByteArray)(y:Bool)(r:World)(K:Int->WP):Prop:=Br ((decide (w<1)) ||(decide (w>7))) (∀l q,af r ar r l q->K 110 q)<|∀l q,af r ar r l q->∃o:WP,o q.drew/\∀x,x=q.drew->(cl 216 #[] x fun e p=>∃r1:Array Value,e=.returned (.agg r1)/\o p/\aj l x p/\∃c b g h,(∀w',o w'->(Instr.index 300 (.agg r1)<|vi w).run prog w'=.ok (.agg #[(vb c),(vb b),(vb g),(vs h)]) w')/\∀v m,au p (.cells #[(vb false),(vb false),(vb false),ve] 299) v m->o m/\(∀j,j<4->zL m (v.add j))/\¬l v.block/\∀s,s=bb m v [(vb c),(vb b),(vb g),(vs h)]->Bp A z y v r l s K)/\(∀u k,au x (.cells #[(vb false),(vb false),(vb false),ve] 299) u k->o k/\cl 216 #[] k fun e n=>∃r2:Array Value,e=.returned (.agg r2)/\o n/\aj l k n/\∃d a i f,(∀w',o w'->(Instr.index 300 (.agg r2)<|vi w).run prog w'=.ok (.agg #[(vb d),(vb a),(vb i),(vs f)]) w')/\(∀j,j<4->zL n (u.add j))/\¬l u.block/\∀t,t=bb n u [(vb d),(vb a),(vb i),(vs f)]->Bp A z y u r l t K)
def RO(aC aA aK aD aB w0 K)(h:Y4 aC aA aK aD aB w0 K):
  cl 158 #[(.agg #[(vi aC),(vi aA),(vu aK),(vs aD),(vb aB)])] w0<|XB K:=
 dv func158 h<|nh 0<|pj 1 0 [(decide (aC<1))] [1] (fun b=>[(11,(vb<|(b 0) ||(decide (aC>7))))]) (fun c=>lh 1 0 []<|pb 1 2 0 c (fun c=>pe 4 0 c)<|fun c=>lh 1 0 []<|pe 2 0 c)<|br 0 0 (ah<|rr 2)<|jk 1 0 [1] (fun a1=>[(3,(vp<|some a1))]) (fun a1 H w=>Bp _ _ _ a1 _ H w _) (fun j=>ah<|dC 0 [0,4,5] [5]<|jg 1 0 []<|uo 0 (kr 0 call216<|G2<|Hd 0<|sZ 0<|vy 0<|je 0 0 j)<|sZ 0<|kr 0 call216<|G2<|Hd 0<|vy 0<|je 0 0 j)<|fun {a1}=>pj 0 0 [] [1,3] (fun b=>[(16,(vb<|(aA !=0)&&(aA !=1)))]) (fun o=>lh 1 0 [1]<|ct 2 4<|pj 0 0 [(aA !=0)] [1,3] (fun b=>[(24,(vb<|(b 0)&&(aA !=1)))]) (fun f=>pb 1 0 0 f (fun f=>lh 1 0 [1]<|pe 2 0 f)<|fun f=>pe 4 0 f)<|pe 1 0 o)<|br 0 0 (ah<|rr 3)<|jk 1 0 [1,3] (fun i=>[(16,(vb i))]) (fun i H w=>Qb _ _ _ i _ H w _) (fun n=>ah<|ld 1<|fun {p}=>ct 2 4<|pj 0 0 [(!p)] [1,3] (fun b=>[(32,(vb<|(b 0)&&(aA !=0)))]) (fun a=>pb 1 0 0 a (fun a=>lh 1 0 [1]<|pe 2 0 a)<|fun a=>pe 4 0 a)<|ah<|je 1 0 n)<|fun {i}=>br 0 0 (rr 3)<|jk 1 0 [1,3] (fun g=>[(16,(vb g))]) (fun g H w=>JX _ _ _ g _ H w _) (fun m=>ld 1<|fun {k}=>ct 2 4<|pj 0 0 [(!k)] [1,3] (fun b=>[(40,(vb<|(b 0)&&(!(decide (aD=⟨#[]⟩)))))]) (fun e=>pb 1 0 0 e (fun e=>lh 1 0 [3]<|pe 2 0 e)<|fun e=>pe 4 0 e)<|ah<|je 1 0 m)<|fun {g}=>br 0 0 (rr 3)<|ld 2<|fun {l}=>ct 2 3<|pj 0 0 [(!l)] [1] (fun b=>[(47,(vb<|(b 0)&&aB))]) (fun d=>pb 1 0 0 d (fun d=>lh 1 0 [4]<|pe 1 0 d)<|fun d=>pe 3 0 d)<|br 0 1 (ah<|rr 2)<|lh 2 0 [3]<|br 0 3 (ah<|rr 2)<|ah<|rr 2
def AK(s1:ByteArray):Int×Int×Int×Int×ByteArray×Sl:=(3,0,0,0,s1,Sl.nil)
def wY(s1:ByteArray)(a:World):cl 221 #[(.string s1)] a (fun e w'=>e=.returned (.agg #[(.int .i64 (AK s1).1),(.int .i64 (AK s1).2.1),(.int .i64 (AK s1).2.2.1),(.int .u64 (AK s1).2.2.2.1),(.string (AK s1).2.2.2.2.1),(AK s1).2.2.2.2.2.v])/\Pure a w'):=
 jr func221 [] (fun b=>(.agg #[(vi 3),(vi 0),(vi 0),(vu 0),(vs s1),Sl.nil.v])) fun c=>nh 0<|sg 2 0 []<|dx 0<|oe 0 [] 6<|Gy c
def Ak(n1:Int):Int×Int×Int×Int×ByteArray×Sl:=(2,0,0,n1,⟨#[]⟩,Sl.nil)
def EL(n1:Int)(a:World):cl 222 #[(.int .u64 n1)] a (fun e w'=>e=.returned (.agg #[(.int .i64 (Ak n1).1),(.int .i64 (Ak n1).2.1),(.int .i64 (Ak n1).2.2.1),(.int .u64 (Ak n1).2.2.2.1),(.string (Ak n1).2.2.2.2.1),(Ak n1).2.2.2.2.2.v])/\Pure a w'):=
 jr func222 [] (fun b=>(.agg #[(vi 2),(vi 0),(vi 0),(vu n1),ve,Sl.nil.v])) fun c=>nh 0<|sg 2 0 []<|dx 0<|oe 0 [] 6<|Gy c
def jaN(q g:Int)(o r:Int)(j:ByteArray)(h:Sl)(k l:Int)(m n:Int)(p:ByteArray)(i:Sl)(a:World)(K:Int->Int->Int->Int->ByteArray->Sl->WP):Prop:=∀b d,af a ar a b d->∀c f,au d (.cells #[(vi q),(vi g),(vi o),(vu r),(vs j),h.v,(vi k),(vi l),(vi m),(vu n),(vs p),i.v] 71) c f->∀e,af a b f b e->K 4 0 0 0 ⟨#[]⟩ (Sl.mk (some c) 2 2) e
def jbT(aL aM aN aO aP aQ bD bE bF bG bH bI w0 K)(h:jaN aL aM aN aO aP aQ bD bE bF bG bH bI w0 K):
  cl 220 #[(.agg #[(vi aL),(vi aM),(vi aN),(vu aO),(vs aP),aQ.v]),(.agg #[(vi bD),(vi bE),(vi bF),(vu bG),(vs bH),bI.v])] w0<|fun e w'=>∃b f c g a d,e=.returned (Aa b f c g a d)/\K b f c g a d w':=
 dv func220 h<|nh 0<|nh 0<|nh 0<|ij 0 2 [] 6<|ij 0 1 [] 6<|ah<|my 0<|sg 1 0 []<|an<|dx 0<|oe 0 [] 6<|dy
def RE(u:Int)(a:ByteArray)(f:World)(K:Int->Int->Int->Int->ByteArray->Sl->WP):Prop:=∀b d,af f ar f b d->cl 220 #[(.agg #[(vi 2),(vi 0),(vi 0),(vu u),ve,Sl.nil.v]),(.agg #[(vi 3),(vi 0),(vi 0),(vu 0),(vs a),Sl.nil.v])] d fun e c=>∃s m p i g q,e=.returned (Aa s m p i g q)/\aj b d c/\cl 220 #[(.agg #[(vi 3),(vi 0),(vi 0),(vu 0),(vs (⟨#[100,101,97,108]⟩:ByteArray)),Sl.nil.v]),(.agg #[(vi s),(vi m),(vi p),(vu i),(vs g),q.v])] c fun e j=>∃h l t r k n,e=.returned (Aa h l t r k n)/\aj b c j/\∀o,af f b j b o->K h l t r k n o
def Sx(c1 text1 w0 K)(h:RE c1 text1 w0 K):
  cl 217 #[(vu c1),(vs text1)] w0<|fun e w'=>∃f c d b g a,e=.returned (Aa f c d b g a)/\K f c d b g a w':=
 dv func217 h<|nh 0<|cp 0 call221 (wY (⟨#[100,101,97,108]⟩:ByteArray))<|cp 1 call222 (EL c1)<|cp 1 call221 (wY text1)<|ah<|ow 0 call220<|ow 0 call220<|sg 0 0 []<|an<|dx 0<|oe 0 [] 6<|dy
def Rg(a:Int)(b:Bool)(l bK:Int)(m j:Int)(i:ByteArray)(k:Sl)(c:World)(K:Int->Int->Int->Int->ByteArray->Sl->WP):Prop:=∀d h,af c ar c d h->∀g f,au h (.cells #[(vi l),(vi bK),(vi m),(vu j),(vs i),k.v] 71) g f->∀e,af c d f d e->K (cond b 9 8) a (q6.wrap<|1-a) 0 ⟨#[]⟩ (Sl.mk (some g) 1 1) e
def jbo(from1 fake1 bJ bK bL bM bN bO w0 K)(h:Rg from1 fake1 bJ bK bL bM bN bO w0 K):
  cl 218 #[(vi from1),(vb fake1),(.agg #[(vi bJ),(vi bK),(vi bL),(vu bM),(vs bN),bO.v])] w0<|fun e w'=>∃d i f j c g,e=.returned (Aa d i f j c g)/\K d i f j c g w':=
 dv func218 h<|nh 0<|nh 0<|pj 2 0 [fake1] [0,5,6] (fun b=>[(7,(vi<|cond (b 0) 9 8))]) (fun a=>pb 0 0 0 a (fun a=>pe 2 0 a)<|fun a=>pe 1 0 a)<|ij 4 1 [] 6<|ah<|my 0<|sg 1 0 []<|an<|dx 0<|oe 0 [] 6<|dy
def Yv(a l:Int)(h k m:Int)(j:ByteArray)(i:Sl)(b:World)(K:Int->Int->Int->Int->ByteArray->Sl->WP):Prop:=∀c f,af b ar b c f->∀d e,au f (.cells #[(vi l),(vi h),(vi k),(vu m),(vs j),i.v] 71) d e->∀g,af b c e c g->K 7 a 0 0 ⟨#[]⟩ (Sl.mk (some d) 1 1) g
def jaW(who1 aL aM aN aO aP aQ w0 K)(h:Yv who1 aL aM aN aO aP aQ w0 K):
  cl 219 #[(vi who1),(.agg #[(vi aL),(vi aM),(vi aN),(vu aO),(vs aP),aQ.v])] w0<|fun e w'=>∃b f c g a d,e=.returned (Aa b f c g a d)/\K b f c g a d w':=
 dv func219 h<|nh 0<|nh 0<|ij 1 1 [] 6<|ah<|my 0<|sg 1 0 []<|an<|dx 0<|oe 0 [] 6<|dy
def jcq(D X U:Int)(aD:ByteArray)(W:Bool)(c:World)(K:Int->Int->Int->Int->ByteArray->Sl->WP):Prop:=∀k V,af c ar c k V->cl 217 #[(vu U),(vs aD)] V fun e o=>∃I F G C B E,e=.returned (Aa I F G C B E)/\aj k V o/\Br (D==1) (∀a b,af c k o a b->cl 218 #[(vi X),(vb W),(.agg #[(vi I),(vi F),(vi G),(vu C),(vs B),E.v])] b fun e w6=>∃aR aS aT aU aV aW,e=.returned (Aa aR aS aT aU aV aW)/\aj a b w6/\∀w7,af c a w6 a w7->K aR aS aT aU aV aW w7) (Br (D==2) (∀a b,af c k o a b->cl 219 #[(vi X),(.agg #[(vi I),(vi F),(vi G),(vu C),(vs B),E.v])] b fun e w8=>∃aX aY aZ bA bB bC,e=.returned (Aa aX aY aZ bA bB bC)/\aj a b w8/\∀w9,af c a w8 a w9->K aX aY aZ bA bB bC w9) (Br (D==3) (∀a b,af c k o a b->∃C1:WP,C1 b.drew/\∀r,r=b.drew->cl 221 #[(vs (⟨#[97,98,111,114,116]⟩:ByteArray))] r fun e h=>∃bQ bR bS bT bU bV,e=.returned (Aa bQ bR bS bT bU bV)/\C1 h/\aj a r h/\cl 222 #[(vu U)] h fun e q=>∃bW bX bY bZ cA cB,e=.returned (Aa bW bX bY bZ cA cB)/\aj a h q/\cl 220 #[(.agg #[(vi bQ),(vi bR),(vi bS),(vu bT),(vs bU),bV.v]),(.agg #[(vi bW),(vi bX),(vi bY),(vu bZ),(vs cA),cB.v])] q fun e x=>∃cC cD cE cF cG cH,e=.returned (Aa cC cD cE cF cG cH)/\aj a q x/\cl 219 #[(vi 0),(.agg #[(vi cC),(vi cD),(vi cE),(vu cF),(vs cG),cH.v])] x fun e N=>∃Y cJ cK cL cM cN,e=.returned (Aa Y cJ cK cL cM cN)/\aj a x N/\∀T,af c a N a T->K Y cJ cK cL cM cN T) (Br (D==4) (∀a b,af c k o a b->∃H:WP,H b.drew/\∀y,y=b.drew->cl 221 #[(vs (⟨#[114,101,115,111,108,118,101]⟩:ByteArray))] y fun e n=>∃cO cP cQ cR cS cT,e=.returned (Aa cO cP cQ cR cS cT)/\H n/\aj a y n/\cl 218 #[(vi 0),(vb W),(.agg #[(vi I),(vi F),(vi G),(vu C),(vs B),E.v])] n fun e d=>∃cU cV cW cX cY cZ,e=.returned (Aa cU cV cW cX cY cZ)/\H d/\aj a n d/\cl 218 #[(vi 1),(vb W),(.agg #[(vi I),(vi F),(vi G),(vu C),(vs B),E.v])] d fun e m=>∃dA dB dD dE dF Z,e=.returned (Aa dA dB dD dE dF Z)/\H m/\aj a d m/\cl 220 #[(.agg #[(vi cU),(vi cV),(vi cW),(vu cX),(vs cY),cZ.v]),(.agg #[(vi dA),(vi dB),(vi dD),(vu dE),(vs dF),Z.v])] m fun e i=>∃dH dI dJ dK dL dM,e=.returned (Aa dH dI dJ dK dL dM)/\H i/\aj a m i/\cl 220 #[(.agg #[(vi cO),(vi cP),(vi cQ),(vu cR),(vs cS),cT.v]),(.agg #[(vi dH),(vi dI),(vi dJ),(vu dK),(vs dL),dM.v])] i fun e j=>∃dN dO dP dQ dR dS,e=.returned (Aa dN dO dP dQ dR dS)/\H j/\aj a i j/\cl 219 #[(vi X),(.agg #[(vi dN),(vi dO),(vi dP),(vu dQ),(vs dR),dS.v])] j fun e L=>∃dT dU dV dW dX dY,e=.returned (Aa dT dU dV dW dX dY)/\aj a j L/\∀J,af c a L a J->K dT dU dV dW dX dY J) (Br (D==5) (∀a b,af c k o a b->∃C3:WP,C3 b.drew/\∀p,p=b.drew->cl 221 #[(vs (⟨#[97,98,111,114,116,101,100]⟩:ByteArray))] p fun e f=>∃dZ eA eB eC eD eE,e=.returned (Aa dZ eA eB eC eD eE)/\C3 f/\aj a p f/\cl 222 #[(vu U)] f fun e u=>∃eF eG eH eI eJ eK,e=.returned (Aa eF eG eH eI eJ eK)/\aj a f u/\cl 220 #[(.agg #[(vi dZ),(vi eA),(vi eB),(vu eC),(vs eD),eE.v]),(.agg #[(vi eF),(vi eG),(vi eH),(vu eI),(vs eJ),eK.v])] u fun e t=>∃eL eM eN eO eP eQ,e=.returned (Aa eL eM eN eO eP eQ)/\aj a u t/\cl 219 #[(vi 2),(.agg #[(vi eL),(vi eM),(vi eN),(vu eO),(vs eP),eQ.v])] t fun e R=>∃eR eS eT eU eV eW,e=.returned (Aa eR eS eT eU eV eW)/\aj a t R/\∀S,af c a R a S->K eR eS eT eU eV eW S) (Br (D==6) (∀a b,af c k o a b->∃C4:WP,C4 b.drew/\∀s,s=b.drew->cl 221 #[(vs (⟨#[105,110,115,116,101,97,100]⟩:ByteArray))] s fun e g=>∃eX eY eZ fA fB fC,e=.returned (Aa eX eY eZ fA fB fC)/\C4 g/\aj a s g/\cl 220 #[(.agg #[(vi eX),(vi eY),(vi eZ),(vu fA),(vs fB),fC.v]),(.agg #[(vi I),(vi F),(vi G),(vu C),(vs B),E.v])] g fun e z=>∃fD fE fF fG fH fI,e=.returned (Aa fD fE fF fG fH fI)/\aj a g z/\cl 219 #[(vi 2),(.agg #[(vi fD),(vi fE),(vi fF),(vu fG),(vs fH),fI.v])] z fun e Q=>∃fJ fK fL fM fN fO,e=.returned (Aa fJ fK fL fM fN fO)/\aj a z Q/\∀M,af c a Q a M->K fJ fK fL fM fN fO M) (∀a b,af c k o a b->∃C5:WP,C5 b.drew/\∀w,w=b.drew->cl 221 #[(vs (⟨#[102,117,108,108]⟩:ByteArray))] w fun e l=>∃fP fQ fR fS fT fU,e=.returned (Aa fP fQ fR fS fT fU)/\C5 l/\aj a w l/\cl 222 #[(vu U)] l fun e A=>∃fV fW fX fY fZ gA,e=.returned (Aa fV fW fX fY fZ gA)/\aj a l A/\cl 220 #[(.agg #[(vi fP),(vi fQ),(vi fR),(vu fS),(vs fT),fU.v]),(.agg #[(vi fV),(vi fW),(vi fX),(vu fY),(vs fZ),gA.v])] A fun e P=>∃gB gC gD gE gF gG,e=.returned (Aa gB gC gD gE gF gG)/\aj a A P/\∀O,af c a P a O->K gB gC gD gE gF gG O))))))
def jas(aC aA aK aD aB w0 K)(h:jcq aC aA aK aD aB w0 K):
  cl 159 #[(.agg #[(vi aC),(vi aA),(vu aK),(vs aD),(vb aB)])] w0<|fun e w'=>∃b g c a f d,e=.returned (Aa b g c a f d)/\K b g c a f d w':=
 dv func159 h<|nh 0<|nh 0<|lh 1 1 [2]<|lh 1 1 [3]<|ah<|ow 0 call217<|nh 0<|sg 0 0 []<|lh 1 2 []<|br 0 2 (lh 2 2 [1]<|lh 1 2 [4]<|ij 0 0 [] 6<|ah<|ow 0 call218<|sg 0 1 []<|an<|dx 0<|oe 1 [] 6<|dy)<|br 0 3 (lh 2 2 [1]<|ij 0 0 [] 6<|ah<|ow 0 call219<|sg 0 1 []<|an<|dx 0<|oe 1 [] 6<|dy)<|br 0 3 (ah<|dC 1 [0,3,4,5,6] [3,4,5,6]<|jg 1 2 [2]<|sR 0 call221<|ow 0 call222<|ow 0 call220<|ow 0 call219<|sg 0 1 []<|an<|dx 0<|oe 1 [] 6<|dy)<|br 0 3 (ah<|dC 1 [2,6,10,11,12,13,14] [13,14]<|jg 1 2 [1]<|jg 1 2 [4]<|sJ 0 0 [] 6<|jg 1 2 [4]<|sJ 0 0 [] 6<|sR 0 call221<|sR 0 call218<|sR 0 call218<|sR 0 call220<|sR 0 call220<|ow 0 call219<|sg 0 1 []<|an<|dx 0<|oe 1 [] 6<|dy)<|br 0 3 (ah<|dC 1 [0,3,4,5,6] [3,4,5,6]<|jg 1 2 [2]<|sR 0 call221<|ow 0 call222<|ow 0 call220<|ow 0 call219<|sg 0 1 []<|an<|dx 0<|oe 1 [] 6<|dy)<|br 0 3 (ah<|dC 1 [0,2,3,4] [2,3,4]<|sJ 0 0 [] 6<|sR 0 call221<|ow 0 call220<|ow 0 call219<|sg 0 1 []<|an<|dx 0<|oe 1 [] 6<|dy)<|ah<|dC 1 [0,3,4,5] [3,4,5]<|jg 1 2 [2]<|sR 0 call221<|ow 0 call222<|ow 0 call220<|sg 0 1 []<|an<|dx 0<|oe 1 [] 6<|dy
def jbE(g:Option Addr)(i p f:Int)(k:ByteArray)(n:Bool)(h:World)(K:Int->Int->WP):Prop:=∀b c,af h ar h b c->cl 158 #[(.agg #[(vi i),(vi p),(vu f),(vs k),(vb n)])] c fun e a=>∃r1,e=.returned (vi r1)/\aj b c a/\Br (r1 !=0) (K 0 r1 a) (Br (Option.isNone g) (K 0 2 a)<|cl 159 #[(.agg #[(vi i),(vi p),(vu f),(vs k),(vb n)])] a fun e d=>∃l q o s j m,e=.returned (Aa l q o s j m)/\aj b a d/\cl 62 #[(vp g),(.agg #[(vi l),(vi q),(vi o),(vu s),(vs j),m.v])] d (XH fun r2 r3 r=>aj b d r/\K r2 r3 r))
def Xr(p1 aC aA aK aD aB w0 K)(h:jbE p1 aC aA aK aD aB w0 K):
  cl 104 #[(vp p1),(.agg #[(vi aC),(vi aA),(vu aK),(vs aD),(vb aB)])] w0<|XH K:=
 dv func104 h<|nh 0<|ij 2 0 [] 5<|ah<|du 0 call158<|br 0 3 (rr 4)<|br 0 3 (rr 3)<|ij 2 0 [] 5<|ow 0 call159<|il 0 call62<|rr 4
end Go.Proofs
end
section
open Go Go.SE List
namespace Go.Proofs
open Tryz
attribute [local irreducible] Calls
def Fj:Array Value:=#[vb false,vb false,vb false,vs ⟨#[]⟩,vb true,vb true,vb true,vs ⟨#[112,114,111,109,105,115,101]⟩,vb true,vb true,vb false,vs ⟨#[115,105,103,110]⟩,vb false,vb false,vb false,vs ⟨#[97,98,111,114,116]⟩,vb true,vb true,vb true,vs ⟨#[114,101,115,111,108,118,101]⟩,vb false,vb false,vb false,vs ⟨#[116,111,107,101,110]⟩,vb false,vb true,vb false,vs ⟨#[105,110,115,116,101,97,100]⟩,vb false,vb false,vb false,vs ⟨#[102,117,108,108]⟩]
def O0(w):cl 216 #[] w (fun e w'=>∃r:Array Value,e=.returned (.agg r)/\(r=Fj/\Pure w w')):=by
 refine jbb w (fun r w'=>r=Fj/\Pure w w') ?_;intro f c h1;have d:Pure w c:=ab.aw h1;have a:=au.ak (ab.refl w) h1;have b1:=ai.fp h1;clear h1;refine bx 32 b1 Kf Kf fun w' b E=>?_;exact⟨Fj,⟨Kf,b.MU Kf⟩,rfl,d.ak a E⟩
def Lh(l)(Q:1<=l.kind/\l.kind<=7)(p){w0 w H wd T}(hB:ai w p [vb<|vN l.kind,vb<|qK l.kind,vb<|l.kind == 1 || l.kind == 4,vs wd] T)(v:¬ H p.block)(E:Pure w0 w):
  Bp l.ay l.ba l.dz p w0 H w<|fun x w'=>x=qF l/\Pure w0 w':=by
 have⟨k,f,c,x,s⟩:=l
 simp only at *
 have jf:∀{H y:NP} {w w':World},ai w p [vb<|vN k,vb<|qK k,vb<|k==1 ||k==4,vs wd] T->¬H p.block->af w0 H w y w'->¬y p.block/\ai w' p [vb<|vN k,vb<|qK k,vb<|k==1 ||k==4,vs wd] T:=fun hB v hs=>by
  have h:=hs.ja (G:=(·=p.block)) (fun b e=>by subst e;exact⟨hB.lt,v⟩) _ rfl;exact⟨h,hB.ext hs.ext h⟩
 unfold Bp
 have g:(f≠0/\f≠1)\/(vN k=false/\f≠0)\/(qK k=false/\x≠⟨#[]⟩)\/(s=true/\k≠1/\k≠4)->(110:Int)=qF ⟨k,f,c,x,s⟩:=fun h=>by
  unfold qF;rw[if_pos];rcases h with h|h|h|h;exact .inr<|.inr<|.inl h;exact .inr<|.inr<|.inr<|.inl h;exact .inr<|.inr<|.inr<|.inr<|.inl h;exact .inr<|.inr<|.inr<|.inr<|.inr h
 refine⟨fun K J N d=>⟨g<|.inl ?_,E.aq d⟩,fun K J N d=>?_⟩
 grind
 have V:f=0\/f=1:=Gd
 have⟨M,A⟩:=jf hB v d
 have O:=E.aq d
 refine⟨_,A.bd,fun P R q=>?_⟩
 have⟨L,C⟩:=jf A M q
 have D:=O.aq q
 refine⟨fun j=>⟨g<|.inr<|.inl ?_,D⟩,fun j=>?_⟩
 rw[Bool.and_eq_true]at j;exact⟨by simpa using j.1,bne_iff_ne.1 j.2⟩
 have hs:¬(vN k=false/\f≠0):=fun h=>Gd
 refine⟨_,C.cell (i:=1) rfl,fun U S r=>?_⟩
 have⟨W,F⟩:=jf C L r
 have t:=D.aq r
 refine⟨fun u=>⟨g<|.inr<|.inr<|.inl ?_,t⟩,fun u=>?_⟩
 grind
 have ht:¬(qK k=false/\x≠⟨#[]⟩):=fun h=>Gd
 refine⟨_,F.cell (i:=2) rfl,fun n z B a=>⟨g<|.inr<|.inr<|.inr ?_,t.aq a⟩,fun n=>?_⟩
 grind
 have I:¬(s=true/\k≠1/\k≠4):=fun h=>by
  rw[Bool.and_eq_false_iff]at n;refine n.elim (fun h2=>?_) (fun h2=>by rw[h.1]at h2;cases h2);have h1:(k==1 ||k==4)=true:=Gd;rw[Bool.or_eq_true]at h1;exact h1.elim (fun h3=>h.2.1<|by simpa using h3) fun h3=>h.2.2 (by simpa using h3)
 have m:¬(k<1\/k>7\/(f≠0/\f≠1)\/(vN k=false/\f≠0)\/(qK k=false/\x≠⟨#[]⟩)\/(s=true/\k≠1/\k≠4)):=Gd
 refine⟨fun o z B a=>⟨?_,t.aq a⟩,fun o z B a=>⟨?_,t.aq a⟩⟩
 have:=of_decide_eq_true o
 unfold qF;rw[if_neg m,if_pos Sy]
 have:=of_decide_eq_false o
 unfold qF;rw[if_neg m,if_neg Sy]
def zBP(l w0):cl 158 #[.agg #[vi l.kind,vi l.ay,vu l.c,vs l.ba,vb l.dz]] w0 (XB fun r w'=>r=qF l/\Pure w0 w'):=by
 refine RO _ _ _ _ _ w0 (fun r w'=>r=qF l/\Pure w0 w') ?_;refine⟨fun D t y d=>⟨?_,d.first⟩,fun D t y d=>?_⟩
 .unfold qF;rw[if_pos];rw[Bool.or_eq_true]at D;exact D.elim Gd fun h=>.inr<|.inl<|of_decide_eq_true h
 have G:1<=l.kind/\l.kind<=7:=Gd;have x:Pure w0 y:=d.first;have yz:∃v:ByteArray,∀w':World,(Instr.index 300 (.agg Fj)<|vi l.kind).run prog w'=.ok (.agg #[vb<|vN l.kind,vb<|qK l.kind,vb<|l.kind==1 ||l.kind==4,vs v]) w':=by
  have:l.kind=1\/l.kind=2\/l.kind=3\/l.kind=4\/l.kind=5\/l.kind=6\/l.kind=7:=Om;rcases this with e|e|e|e|e|e|e<;>rw[e]
  .exact⟨⟨#[112,114,111,109,105,115,101]⟩,fun w'=>Kf⟩
  .exact⟨⟨#[115,105,103,110]⟩,fun w'=>Kf⟩
  .exact⟨⟨#[97,98,111,114,116]⟩,fun w'=>Kf⟩
  .exact⟨⟨#[114,101,115,111,108,118,101]⟩,fun w'=>Kf⟩
  .exact⟨⟨#[116,111,107,101,110]⟩,fun w'=>Kf⟩
  .exact⟨⟨#[105,110,115,116,101,97,100]⟩,fun w'=>Kf⟩
  .exact⟨⟨#[102,117,108,108]⟩,fun w'=>Kf⟩
 have⟨v,yz⟩:=yz;refine⟨fun _=>True,trivial,?_⟩;rintro w M;have m:Pure y w:=by rw[M];exact ab.drew y
 have F:∀b,t b->b<w.heap.size:=fun b N=>Oi (d.lt b N) m.size;refine⟨?_,?_⟩
 .refine(O0 w).mono ?_;rintro _ K ⟨_,rfl,rfl,g⟩;refine⟨_,rfl,trivial,g.bo,_,_,_,_,fun w' _=>yz w',?_⟩;intro z C a;have L:=a.cu;have H:=g.size;have q:¬t z.block:=fun hh=>Oh<|F _ hh;refine⟨trivial,(ai.fp a).uz Sm,q,?_⟩;rintro o s;have X:ab (·=z.block) C o:=by rw[s];exact ab.bb _ _ _
  have B:ai o z [vb<|vN l.kind,vb<|qK l.kind,vb<|l.kind==1 ||l.kind==4,vs v] 299:=by rw[s];exact(ai.fp a).store rfl
  have J:=x.size;have I:=m.size;exact Lh l G z B q<|(((x.trans m).trans g).trans<|ab.aw a).ak Om X
 .intro u j f;refine⟨trivial,?_⟩;have O:=f.cu;have A:Pure w j:=ab.aw f;have q:¬t u.block:=fun hh=>Oh<|F _ hh;refine(O0 j).mono ?_;rintro _ E ⟨_,rfl,rfl,i⟩;have n:=(ai.fp f).pure i;refine⟨_,rfl,trivial,i.bo,_,_,_,_,fun w' _=>yz w',n.uz Sm,q,?_⟩;rintro p k;have X:ab (·=u.block) E p:=by rw[k];exact ab.bb _ _ _
  have B:ai p u [vb<|vN l.kind,vb<|qK l.kind,vb<|l.kind==1 ||l.kind==4,vs v] 299:=by rw[k];exact n.store rfl
  have J:=x.size;have I:=m.size;exact Lh l G u B q<|(((x.trans m).trans A).trans i).ak Om X
abbrev CA(S:NP)(w:World)(T:bt)(e:Ending)(w':World):Prop:=∃s,e=.returned (.agg (tE T s).toArray)/\cr S w' s T/\Pure w w'
def Dd{S}(w){A sa H3 w3 w4 w5 p o}(e:cr S w sa A)(a:af w ar w H3 w3)(n4:au w3 o p w4)(c:af w H3 w4 H3 w5):cr S w5 sa A:=by
 have g:Pure w w3:=a.first;have f:Pure w3 w4:=ab.aw n4;exact(((e.lt.pure g).pure f).ext c.ext fun b d hh=>Oh<|a.old b hh).mono fun b d=>d.1
section
variable {S:NP} (w:World) (hS:∀b,w.heap.size<=b->S b)
include hS
def wM(A B sa sb)(m:cr S w sa A)(hB:cr S w sb B):cl 220 #[.agg (tE A sa).toArray,.agg (tE B sb).toArray] w (CA S w<|uT A B):=by
 have⟨k,f,t,u,x,ks⟩:=A;have⟨i,g,h,e,d,c⟩:=B;refine(jbT k f t u x sa i g h e d sb w (fun k' n p v y s w'=>(⟨k',n,p,v,y,0,0⟩:df)=(uT (.mk k f t u x ks)<|.mk i g h e d c).node/\cr S w' s (uT (.mk k f t u x ks)<|.mk i g h e d c)/\Pure w w') ?_).mono ?_
 .intro D C a q r n4 z b;have b4:=n4.cu;have F:=a.first.size;have j:ai r q (tE (.mk k f t u x ks) sa++tE (.mk i g h e d c) sb) 71:=ai.fp n4;exact⟨rfl,cr.ke (j.ext b.ext fun hh=>Oh<|a.lt _ hh) (hS _ Om) (Dd w m a n4 b)<|Dd w hB a n4 b,(a.first.trans (ab.aw n4)).aq b⟩
 .rintro _ w' ⟨k,f,t,u,y,s,rfl,l,o,E⟩;cases l;exact⟨s,rfl,o,E⟩
def BG(n A sa)(d:cr S w sa A):cl 219 #[vi n,.agg (tE A sa).toArray] w (CA S w<|xE n A):=by
 have⟨k,f,t,u,x,ks⟩:=A;refine(jaW n k f t u x sa w (fun k' i g m y s w'=>(⟨k',i,g,m,y,0,0⟩:df)=(xE n<|.mk k f t u x ks).node/\cr S w' s (xE n<|.mk k f t u x ks)/\Pure w w') ?_).mono ?_
 .intro p o a h c n4 q b;have b4:=n4.cu;have r:=a.first.size;have j:ai c h (tE (.mk k f t u x ks) sa) 71:=ai.fp n4;exact⟨rfl,cr.one (j.ext b.ext fun hh=>Oh<|a.lt _ hh) (hS _ Om)<|Dd w d a n4 b,(a.first.trans (ab.aw n4)).aq b⟩
 .rintro _ w' ⟨k,f,t,u,y,s,rfl,l,e,E⟩;cases l;exact⟨s,rfl,e,E⟩
def IG(n)(c:n=0\/n=1)(fk A sa)(e:cr S w sa A):cl 218 #[vi n,vb fk,.agg (tE A sa).toArray] w (CA S w<|uX n A fk):=by
 have⟨k,f,t,u,x,ks⟩:=A;refine(jbo n fk k f t u x sa w (fun k' j h m y s w'=>(⟨k',j,h,m,y,0,0⟩:df)=(uX n (.mk k f t u x ks) fk).node/\cr S w' s (uX n (.mk k f t u x ks) fk)/\Pure w w') ?_).mono ?_
 .intro p o a i d n4 q b;have b4:=n4.cu;have r:=a.first.size;have l:ai d i (tE (.mk k f t u x ks) sa) 71:=ai.fp n4;refine⟨?_,cr.one (l.ext b.ext fun hh=>Oh<|a.lt _ hh) (hS _ Om)<|Dd w e a n4 b,(a.first.trans (ab.aw n4)).aq b⟩;have:IntKind.i64.wrap (1-n)=1-n:=IntWalk.i64_in _ Om;rw[this];cases fk<;>rfl
 .rintro _ w' ⟨k,f,t,u,y,s,rfl,c,g,E⟩;cases c;exact⟨s,rfl,g,E⟩
def zFB(c x):cl 217 #[vu c,vs x] w (CA S w<|yD c x):=by
 refine(Sx c x w (fun k f t u y s w'=>(⟨k,f,t,u,y,0,0⟩:df)=(yD c x).node/\cr S w' s (yD c x)/\Pure w w') ?_).mono ?_
 .intro r a d;have n:Pure w a:=d.first;have D:=n.size;have B:∀b,r b->b<a.heap.size:=fun b v=>d.lt b v;refine(wM (S:=(a.heap.size<=·)) a (fun _ h=>h) (jz c) (yN x) Sl.nil Sl.nil cr.leaf cr.leaf).mono ?_;rintro _ o ⟨l,rfl,g,i⟩;refine⟨_,_,_,_,_,l,rfl,i.bo,?_⟩;refine(wM (S:=(a.heap.size<=·)) o (fun b h=>by have:=i.size;show a.heap.size<=b;omega) (yN qe) (uT (jz c)<|yN x) Sl.nil l cr.leaf g).mono ?_;rintro _ A ⟨z,rfl,j,m⟩;refine⟨_,_,_,_,_,z,rfl,m.bo,fun C e=>⟨rfl,?_,((n.trans i).trans m).aq e⟩⟩;exact(j.ext e.ext Gd).mono Gd
 .rintro _ w' ⟨k,f,t,u,y,s,rfl,p,q,E⟩;cases p;exact⟨s,rfl,q,E⟩
end
def Vg(l)(hf:l.ay=0\/l.ay=1)(w0):cl 159 #[.agg #[vi l.kind,vi l.ay,vu l.c,vs l.ba,vb l.dz]] w0 (CA (w0.heap.size<=·) w0<|zU l true true):=by
 have⟨kd,f,c,x,fk⟩:=l;simp only at hf;generalize V:zU ⟨kd,f,c,x,fk⟩ true true=R;refine(jas kd f c x fk w0 (fun k f t u y s w'=>(⟨k,f,t,u,y,0,0⟩:df)=R.node/\cr (w0.heap.size<=·) w' s R/\Pure w0 w') ?_).mono ?_
 .intro H2 w2 hs2;have E2:Pure w0 w2:=hs2.first;have z2:=E2.size;refine (zFB (S:=(w2.heap.size<=·)) w2 (fun _ h=>h) c x).mono ?_;rintro _ w3 ⟨W,rfl,hT3,E3⟩;refine⟨_,_,_,_,_,W,rfl,E3.bo,?_⟩;have z3:=E3.size;have U:∀{v:NP} {i:World},af w0 H2 w3 v i->cr (fun b=>w0.heap.size<=b/\¬ v b) i W (yD c x)/\Pure w0 i/\(∀w:World,i.heap.size<=w.heap.size->∀b,w.heap.size<=b->w0.heap.size<=b/\¬ v b):=fun {v i} hs=>by
   have hd:∀b,(w2.heap.size<=b/\b<w3.heap.size)->¬v b:=hs.ja fun b N=>⟨N.2,fun hh=>Oh<|hs2.lt b hh⟩;refine⟨(hT3.lt.ext hs.ext fun b N=>hd b N).mono Gd,(E2.trans E3).aq hs,fun w hw b N=>⟨Oh hs.ext.size,fun hh=>Oh<|hs.lt b hh⟩⟩
  have fin:∀{v:NP} {M L:World} {s:Sl} {T:bt},cr (fun b=>w0.heap.size<=b/\¬v b) M s T->Pure w0 M->af w0 v M v L->T=R->R.node=R.node/\cr (w0.heap.size<=·) L s R/\Pure w0 L:=fun {v M L s T} h E hs e=>by
   subst e;exact⟨rfl,(h.ext hs.ext fun b N=>N.2).mono fun b N=>N.1,E.aq hs⟩
  have r:∀{v:NP} {M L:World} {s:Sl} {T:bt},cr (fun b=>w0.heap.size<=b/\¬v b) M s T->Pure w0 M->af w0 v M v L->R=T->(⟨T.node.kind,T.node.ay,T.node.to,T.node.num,T.node.ba,0,0⟩:df)=R.node/\cr (w0.heap.size<=·) L s R/\Pure w0 L:=fun {v M L s T} h E hs e=>by
   subst e;refine⟨?_,(fin h E hs rfl).2⟩;cases R;rfl
  refine⟨fun n v i g=>?_,fun h1=>⟨fun n v i g=>?_,fun h2=>⟨fun n v i g=>?_,fun h3=>⟨fun n v i g=>?_,fun h4=>⟨fun n v i g=>?_,fun h5=>⟨fun n v i g=>?_,fun h6 v i g=>?_⟩⟩⟩⟩⟩⟩
  .have n:=beq_iff_eq.1 n;have⟨I,H,hS⟩:=U g;refine(IG i (hS i<|Nat.le_refl _) f hf fk _ W I).mono ?_;rintro _ w6 ⟨s6,rfl,P,E6⟩;refine⟨_,_,_,_,_,s6,rfl,E6.bo,fun w7 Q=>r P (H.trans E6) Q ?_⟩;rw[<-V];unfold zU;rw[if_pos n]
  .have n:=beq_iff_eq.1 n;have⟨I,H,hS⟩:=U g;refine(BG i (hS i<|Nat.le_refl _) f _ W I).mono ?_;rintro _ w6 ⟨s6,rfl,P,E6⟩;refine⟨_,_,_,_,_,s6,rfl,E6.bo,fun w7 Q=>r P (H.trans E6) Q ?_⟩;rw[<-V];unfold zU;rw[if_neg Gd,if_pos n]
  .have n:=beq_iff_eq.1 n;have⟨I,H,hS⟩:=U g;refine⟨fun _=>True,trivial,?_⟩;rintro o G;have j:Pure i o:=by rw[G];exact ab.drew i
   refine(wY _ o).mono ?_;rintro _ C ⟨rfl,a⟩;refine⟨_,_,_,_,_,_,rfl,trivial,a.bo,?_⟩;refine(EL _ C).mono ?_;rintro _ B ⟨rfl,p⟩;refine⟨_,_,_,_,_,_,rfl,p.bo,?_⟩;have K:=((j.trans a).trans p).size;refine(wM B (hS B K) (yN qj) (jz c) Sl.nil Sl.nil cr.leaf cr.leaf).mono ?_;rintro _ A ⟨z,rfl,m,d⟩;refine⟨_,_,_,_,_,z,rfl,d.bo,?_⟩;refine(BG A (hS A<|Oh d.size) 0 _ z m).mono ?_;rintro _ w14 ⟨J,rfl,D,F⟩;refine⟨_,_,_,_,_,J,rfl,F.bo,fun Y q=>r D (((((H.trans j).trans a).trans p).trans d).trans F) q ?_⟩;rw[<-V];unfold zU;rw[if_neg fun e=>beq_eq_false_iff_ne.1 h1 e,if_neg Gd,if_pos n]
  .have n:=beq_iff_eq.1 n;have⟨I,H,hS⟩:=U g;refine⟨fun _=>True,trivial,?_⟩;rintro w16 e16;have E16:Pure i w16:=by rw[e16];exact ab.drew i
   refine(wY _ w16).mono ?_;rintro _ w17 ⟨rfl,E17⟩;refine⟨_,_,_,_,_,_,rfl,trivial,E17.bo,?_⟩;have Z:=E16.trans E17;refine(IG w17 (hS w17 Z.size) 0 (.inl rfl) fk _ W<|I.pure Z).mono ?_;rintro _ w18 ⟨s18,rfl,hT18,E18⟩;refine⟨_,_,_,_,_,s18,rfl,trivial,E18.bo,?_⟩;have X:=Z.trans E18;refine(IG w18 (hS w18 X.size) 1 (.inr rfl) fk _ W<|I.pure X).mono ?_;rintro _ w19 ⟨s19,rfl,hT19,O⟩;refine⟨_,_,_,_,_,s19,rfl,trivial,O.bo,?_⟩;have E59:=X.trans O;refine(wM w19 (hS w19 E59.size) _ _ s18 s19 (hT18.pure O) hT19).mono ?_;rintro _ w20 ⟨s20,rfl,hT20,E20⟩;refine⟨_,_,_,_,_,s20,rfl,trivial,E20.bo,?_⟩;have E510:=E59.trans E20;refine(wM w20 (hS w20 E510.size) (yN uJ) _ Sl.nil s20 cr.leaf hT20).mono ?_;rintro _ w21 ⟨s21,rfl,hT21,E21⟩;refine⟨_,_,_,_,_,s21,rfl,trivial,E21.bo,?_⟩;have E511:=E510.trans E21;refine(BG w21 (hS w21 E511.size) f _ s21 hT21).mono ?_;rintro _ w22 ⟨s22,rfl,hT22,E22⟩;refine⟨_,_,_,_,_,s22,rfl,E22.bo,fun w23 hs23=>r hT22 ((H.trans E511).trans E22) hs23 ?_⟩;rw[<-V];unfold zU;rw[if_neg fun e=>beq_eq_false_iff_ne.1 h1 e,if_neg fun e=>beq_eq_false_iff_ne.1 h2 e,if_neg Gd,if_pos n];simp only[Bool.and_true]
  .have n:=beq_iff_eq.1 n;have⟨I,H,hS⟩:=U g;refine⟨fun _=>True,trivial,?_⟩;rintro o G;have j:Pure i o:=by rw[G];exact ab.drew i
   refine(wY _ o).mono ?_;rintro _ C ⟨rfl,a⟩;refine⟨_,_,_,_,_,_,rfl,trivial,a.bo,?_⟩;refine(EL _ C).mono ?_;rintro _ B ⟨rfl,p⟩;refine⟨_,_,_,_,_,_,rfl,p.bo,?_⟩;have K:=((j.trans a).trans p).size;refine(wM B (hS B K) (yN yX) (jz c) Sl.nil Sl.nil cr.leaf cr.leaf).mono ?_;rintro _ A ⟨z,rfl,m,d⟩;refine⟨_,_,_,_,_,z,rfl,d.bo,?_⟩;refine(BG A (hS A<|Oh d.size) 2 _ z m).mono ?_;rintro _ w14 ⟨J,rfl,D,F⟩;refine⟨_,_,_,_,_,J,rfl,F.bo,fun Y q=>r D (((((H.trans j).trans a).trans p).trans d).trans F) q ?_⟩;rw[<-V];unfold zU;rw[if_neg fun e=>beq_eq_false_iff_ne.1 h1 e,if_neg fun e=>beq_eq_false_iff_ne.1 h2 e,if_neg fun e=>beq_eq_false_iff_ne.1 h3 e,if_neg fun e=>beq_eq_false_iff_ne.1 h4 e,if_pos n]
  .have n:=beq_iff_eq.1 n;have⟨I,H,hS⟩:=U g;refine⟨fun _=>True,trivial,?_⟩;rintro o G;have j:Pure i o:=by rw[G];exact ab.drew i
   refine(wY _ o).mono ?_;rintro _ C ⟨rfl,a⟩;refine⟨_,_,_,_,_,_,rfl,trivial,a.bo,?_⟩;have z11:=(j.trans a).size;refine(wM C (hS C z11) (yN uK) _ Sl.nil W cr.leaf<|I.pure<|j.trans a).mono ?_;rintro _ A ⟨z,rfl,m,d⟩;refine⟨_,_,_,_,_,z,rfl,d.bo,?_⟩;refine(BG A (hS A<|Oh d.size) 2 _ z m).mono ?_;rintro _ w14 ⟨J,rfl,D,F⟩;refine⟨_,_,_,_,_,J,rfl,F.bo,fun Y q=>r D ((((H.trans j).trans a).trans d).trans F) q ?_⟩;rw[<-V];unfold zU;rw[if_neg fun e=>beq_eq_false_iff_ne.1 h1 e,if_neg fun e=>beq_eq_false_iff_ne.1 h2 e,if_neg fun e=>beq_eq_false_iff_ne.1 h3 e,if_neg fun e=>beq_eq_false_iff_ne.1 h4 e,if_neg Gd,if_pos n]
  .have⟨I,H,hS⟩:=U g;refine⟨fun _=>True,trivial,?_⟩;rintro o G;have j:Pure i o:=by rw[G];exact ab.drew i
   refine(wY _ o).mono ?_;rintro _ C ⟨rfl,a⟩;refine⟨_,_,_,_,_,_,rfl,trivial,a.bo,?_⟩;refine(EL _ C).mono ?_;rintro _ B ⟨rfl,p⟩;refine⟨_,_,_,_,_,_,rfl,p.bo,?_⟩;have K:=((j.trans a).trans p).size;refine(wM B (hS B K) (yN xz) (jz c) Sl.nil Sl.nil cr.leaf cr.leaf).mono ?_;rintro _ A ⟨z,rfl,m,d⟩;refine⟨_,_,_,_,_,z,rfl,d.bo,fun Y q=>r m ((((H.trans j).trans a).trans p).trans d) q ?_⟩;rw[<-V];unfold zU;rw[if_neg fun e=>beq_eq_false_iff_ne.1 h1 e,if_neg fun e=>beq_eq_false_iff_ne.1 h2 e,if_neg fun e=>beq_eq_false_iff_ne.1 h3 e,if_neg fun e=>beq_eq_false_iff_ne.1 h4 e,if_neg fun e=>beq_eq_false_iff_ne.1 h5 e,if_neg Gd]
 .rintro _ w' ⟨k,f,t,u,y,s,rfl,hn,hT,E⟩;have⟨k2,f2,t2,u2,x2,ks⟩:=R;cases hn;exact⟨s,rfl,hT,E⟩
def LI{l}(h:qF l=0):l.ay=0\/l.ay=1:=by
 unfold qF at h;split at h;cases h;grind
def zH(L:av)(l:eo):Int×Int×av:=if qF l≠0 then(0,qF l,L)else of L (zU l true true)
def YE(p l w0){L F}(s:zD w0 p L F)(n:Ok L):
  cl 104 #[vp<|some p,.agg #[vi l.kind,vi l.ay,vu l.c,vs l.ba,vb l.dz]] w0<|XH fun r1 r2 w'=>r1=(zH L l).1/\r2=(zH L l).2.1/\∃F',zD w' p (zH L l).2.2 F'/\ab F w0 w'/\∀b,F' b->F b\/w0.heap.size<=b:=by
 refine Xr (some p) l.kind l.ay l.c l.ba l.dz w0 _ ?_
 intro M G i
 have J:Pure w0 G:=i.first
 have H:∀b,F b->b<w0.heap.size:=fun b a=>s.lt a
 refine(zBP l G).mono ?_
 rintro _ D ⟨_,rfl,rfl,C⟩
 have d:=J.trans C
 refine⟨_,rfl,C.bo,fun f=>?_,fun f=>⟨fun h=>(by cases h),fun _=>?_⟩⟩
 .have f:=bne_iff_ne.1 f
  have e:zH L l=(0,qF l,L):=by unfold zH;rw[if_pos f]
  rw[e];exact⟨rfl,rfl,F,s.pure d,ab.pure d,fun b a=>.inl a⟩
 .have f:qF l=0:=by simpa using f
  have e:zH L l=of L (zU l true true):=by unfold zH;rw[if_neg<|by simpa using f]
  rw[e]
  refine(Vg l (LI f) D).mono ?_
  rintro _ B ⟨x,r,u,A⟩
  generalize zU l true true=T at *
  have⟨o,k,t,j,w,q⟩:=T
  have r:_=Ending.returned (.agg #[vi o,vi k,vi t,vu j,vs w,x.v]):=r
  refine⟨o,k,t,j,w,x,r,A.bo,?_⟩
  have g:=d.trans A
  refine(QK (S:=fun b=>D.heap.size<=b/\b<B.heap.size) p (.mk o k t j w q) x B u.lt (s.pure g) n (fun b a hh=>Oi (H b a) d.size) fun b a=>a.2).mono ?_
  rintro _ N ⟨r1,r2,rfl,y,F',m,E,z⟩
  have⟨K,I⟩:=Prod.mk.inj y
  refine⟨r1,r2,rfl,E.bl fun b a hh=>Oi (i.old b a)<|H b hh,K,I,F',m,(ab.pure g).trans E,fun b a=>(z b a).imp id fun h=>Oh g.size⟩
end Go.Proofs
end
section
open Go Go.SE List
namespace Go.Proofs
def tJ{L}(h:Wf L)(l):Wf (Go.Proofs.zH L l).2.2:=by
 unfold Go.Proofs.zH;split;exact h;exact Ki h _
def qQ(l:eo):List UInt8×Int:=if(zH [] l).2.1≠0 then([],(zH [] l).2.1)else iv (zH [] l).2.2 (zH [] l).1
def Bv(l:eo):ByteArray:=⟨(qQ l).1.toArray⟩
def wR{k f t u x a}(h:qW u)(b:qt a):qt (.mk k f t u x [a]):=.mk _ _ _ _ _ _ h Gd
def wt{k f t u x a b}(h:qW u)(c:qt a)(d:qt b):qt (.mk k f t u x [a,b]):=.mk _ _ _ _ _ _ h Gd
def uD{k f t u x}(h:qW u):qt (.mk k f t u x []):=.mk _ _ _ _ _ _ h (fun i hi=>by simp at hi)
def ki:qW 0:=⟨De,De⟩
def jZV{c x}(h:qW c):qt (yD c x):=wt ki (uD ki)<|wt ki (uD h)<|uD ki
def jSP{l}(h:qW l.c)(a b):qt (zU l a b):=by
 unfold zU;have d:=jZV (x:=l.ba) h;split;· exact wR ki d
 split;· exact wR ki d
 split;· exact wR ki<|wt ki (uD ki)<|uD h
 split;· exact wR ki<|wt ki (uD ki)<|wt ki (wR ki d)<|wR ki d
 split;· exact wR ki<|wt ki (uD ki)<|uD h
 split;· exact wR ki<|wt ki (uD ki) d
 exact wt ki (uD ki)<|uD h
def Bt{L}(a:yP L){l}(h:qW l.c):yP (zH L l).2.2:=by
 unfold zH;split;exact a;exact a.of<|jSP h _ _
def CB{L}(a:Ok L)(l):∃M,(zH L l).2.2=L++M:=by
 unfold zH;split;exact⟨[],(append_nil L).symm⟩;exact MH a _
end Go.Proofs
end
section
open Go Go.SE List
namespace Go.Proofs
open Classical in
noncomputable def wA(G:List Int):List eo->av->Int×av
 |[],L=>(0,L)
 |l :: ls,L=>if(zH L l).2.1=0/\dr (zH L l).2.2 (mg (zH L l).2.2 G) (zH L l).1 then((zH L l).1,(zH L l).2.2)else wA G ls (zH L l).2.2
def j0(who c:Int)(x:ByteArray):List eo:=[⟨2,who,c,x,false⟩,⟨6,0,c,x,false⟩]
noncomputable def tX(L:av)(G:List Int)(who c:Int)(x:ByteArray):Int×av:=if uC who=true then wA G (j0 who c x) L else(0,L)
def CD{L l}(h:(zH L l).2.1=0)(e:Wf L):qF l=0/\al (zH L l).2.2 (zH L l).1=true/\zA (zH L l).2.2 (zH L l).1=zU l true true:=by
 have a:qF l=0:=by
  unfold zH at h;split at h;exact h;grind
 have d:zH L l=of L (zU l true true):=by unfold zH;rw[if_neg Om]
 obtain⟨c,b,_⟩:=QN e (by rw[<-d];exact h);rw[<-d]at c b;exact⟨a,c,b⟩
inductive pR(a:av->Int->Prop)(G:List Int):List eo->av->Int->av->Prop
 |nil {L:av}:pR a G [] L 0 L
 |iu {l:eo} {ls:List eo} {L:av}:(zH L l).2.1=0->dr (zH L l).2.2 (mg (zH L l).2.2 G) (zH L l).1->pR a G (l :: ls) L (zH L l).1 (zH L l).2.2
 |Db {l:eo} {ls:List eo} {L b:av} {r:Int}:(¬((zH L l).2.1=0/\dr (zH L l).2.2 (mg (zH L l).2.2 G) (zH L l).1)\/a (zH L l).2.2 (zH L l).1)->pR a G ls (zH L l).2.2 r b->pR a G (l :: ls) L r b
def pR.eq{G ls L L' r}(h:pR (fun _ _=>False) G ls L r L'):wA G ls L=(r,L'):=by
 induction h with
 |nil=>rfl
 |iu h1 h2=>rw[wA,if_pos ⟨h1,h2⟩]
 |Db h1 _ a=>rw[wA,if_neg<|h1.resolve_right id,a]
open Classical in
noncomputable def zq(L:av)(G:List Int)(n:Int):Bool:=match find L (zV n)with|some i=>decide (mg L G<|(i:Int)+1)|none=>false
noncomputable def tu(L:av)(G:List Int)(who:Int):Bool:=uC who&&(zq L G who ||zq L G 2)
end Go.Proofs
end
section
open Go Go.SE List
namespace Go.Proofs
open Tryz
set_option maxRecDepth 100000
set_option maxHeartbeats 4000000
attribute [local irreducible] bu ft fg dw Calls
attribute [local irreducible] jq W WV WR yW pv ku jd nz ka lq ky lj mz mo iq fa im mv kq kp uP xG yA bn ub
def px(a:Int):Bool:=(((a==1) ||(a==2)) ||(a==4))
def PI(a:Int)(f:World):cl 166 #[(.int .i64 a)] f (fun e w'=>e=.returned (.bool<|px a)/\Pure f w'):=
 jr func166 [] (fun b=>(vb<|((a==1) ||(a==2)) ||(a==4))) fun h=>pj 1 0 [] [] (fun b=>[(2,(vb<|((a==1) ||(a==2)) ||(a==4)))]) (fun g=>ct 3 3<|pj 0 0 [(a==1)] [0] (fun b=>[(8,(vb<|(b 0) ||(a==2)))]) (fun c=>pb 1 0 0 c (fun c=>pe 3 0 c)<|fun c=>pe 3 0 c)<|ct 1 3<|pj 0 0 [((a==1) ||(a==2))] [] (fun b=>[(12,(vb<|(b 0) ||(a==4)))]) (fun d=>pb 1 0 0 d (fun d=>pe 3 0 d)<|fun d=>pe 3 0 d)<|pe 1 0 g)<|ff 0 h
def jbj(a:Int):Bool:=((px a) ||(a==6))
def jcb(a:Int)(d:World):cl 167 #[(.int .i64 a)] d (fun e w'=>e=.returned (.bool<|jbj a)/\Pure d w'):=
 jr func167 [] (fun b=>(vb<|(px a) ||(a==6))) fun f=>pj 1 0 [] [] (fun b=>[(2,(vb<|(px a) ||(a==6)))]) (fun g=>cp 1 call166 (PI a)<|ct 1 3<|pj 0 0 [(px a)] [] (fun b=>[(8,(vb<|(b 0) ||(a==6)))]) (fun c=>pb 1 0 0 c (fun c=>pe 3 0 c)<|fun c=>pe 3 0 c)<|pe 1 0 g)<|ff 0 f
def CC(a b e:Int)(c:ByteArray)(d:Bool):Int:=(cond ((((((decide (a<1)) ||(decide (a>7))) ||((b !=0)&&(b !=1))) ||((!(px a))&&(b !=0))) ||((!((px a) ||(a==6)))&&(!(decide (c=⟨#[]⟩))))) ||((d&&(a !=1))&&(a !=4))) 110<|cond (decide ((c.size:Int)>64)) 1 0)
def Uk(a c s:Int)(p:ByteArray)(q:Bool)(r:World):cl 168 #[(.agg #[(.int .i64 a),(.int .i64 c),(.int .u64 s),(.string p),(.bool q)])] r (fun e w'=>e=.returned (.int .i64<|CC a c s p q)/\Pure r w'):=
 jr func168 [((((((decide (a<1)) ||(decide (a>7))) ||((c !=0)&&(c !=1))) ||((!(px a))&&(c !=0))) ||((!((px a) ||(a==6)))&&(!(decide (p=⟨#[]⟩))))) ||((q&&(a !=1))&&(a !=4))),(decide ((p.size:Int)>64))] (fun b=>(vi<|cond (b 0) 110<|cond (b 1) 1 0)) fun o=>nh 0<|pj 1 0 [(((((decide (a<1)) ||(decide (a>7))) ||((c !=0)&&(c !=1))) ||((!(px a))&&(c !=0))) ||((!((px a) ||(a==6)))&&(!(decide (p=⟨#[]⟩)))))] [1] (fun b=>[(56,(vb<|(b 0) ||((q&&(a !=1))&&(a !=4))))]) (fun l=>lh 1 0 []<|ct 2 4<|pj 0 0 [(decide (a<1))] [1] (fun b=>[(10,(vb<|(b 0) ||(decide (a>7))))]) (fun d=>pb 1 0 0 d (fun d=>pe 4 0 d)<|fun d=>lh 1 0 []<|pe 2 0 d)<|ct 1 9<|pj 0 0 [((decide (a<1)) ||(decide (a>7)))] [1] (fun b=>[(20,(vb<|(b 0) ||((c !=0)&&(c !=1))))]) (fun f=>pb 1 0 0 f (fun f=>pe 9 0 f)<|fun f=>lh 1 0 [1]<|ct 2 4<|pj 0 0 [(c !=0)] [1,11] (fun b=>[(19,(vb<|(b 0)&&(c !=1)))]) (fun m=>pb 1 0 0 m (fun m=>lh 1 0 [1]<|pe 2 0 m)<|fun m=>pe 4 0 m)<|pe 1 0 f)<|ct 1 10<|pj 0 0 [(((decide (a<1)) ||(decide (a>7))) ||((c !=0)&&(c !=1)))] [1] (fun b=>[(31,(vb<|(b 0) ||((!(px a))&&(c !=0))))]) (fun i=>pb 1 0 0 i (fun i=>pe 10 0 i)<|fun i=>lh 1 0 []<|cp 0 call166 (PI a)<|ct 2 4<|pj 0 0 [(!(px a))] [1,21] (fun b=>[(30,(vb<|(b 0)&&(c !=0)))]) (fun k=>pb 1 0 0 k (fun k=>lh 1 0 [1]<|pe 2 0 k)<|fun k=>pe 4 0 k)<|pe 1 0 i)<|ct 1 10<|pj 0 0 [((((decide (a<1)) ||(decide (a>7))) ||((c !=0)&&(c !=1))) ||((!(px a))&&(c !=0)))] [1] (fun b=>[(42,(vb<|(b 0) ||((!((px a) ||(a==6)))&&(!(decide (p=⟨#[]⟩))))))]) (fun n=>pb 1 0 0 n (fun n=>pe 10 0 n)<|fun n=>lh 1 0 []<|cp 0 call167 (jcb a)<|ct 2 4<|pj 0 0 [(!((px a) ||(a==6)))] [1,32] (fun b=>[(41,(vb<|(b 0)&&(!(decide (p=⟨#[]⟩)))))]) (fun h=>pb 1 0 0 h (fun h=>lh 1 0 [3]<|pe 2 0 h)<|fun h=>pe 4 0 h)<|pe 1 0 n)<|pb 1 1 0 l (fun l=>pe 13 0 l)<|fun l=>lh 1 0 [4]<|ct 1 4<|pj 0 0 [q] [1,43] (fun b=>[(50,(vb<|(b 0)&&(a !=1)))]) (fun j=>pb 1 0 0 j (fun j=>lh 1 0 []<|pe 2 0 j)<|fun j=>pe 4 0 j)<|ct 1 4<|pj 0 0 [(q&&(a !=1))] [1,43] (fun b=>[(55,(vb<|(b 0)&&(a !=4)))]) (fun g=>pb 1 0 0 g (fun g=>lh 1 0 []<|pe 2 0 g)<|fun g=>pe 4 0 g)<|pe 1 0 l)<|pb 0 0 0 o (fun o=>ff 2 o)<|fun o=>lh 2 0 [3]<|pb 0 2 1 o (fun o=>ff 2 o)<|fun o=>ff 2 o
def Kb(r:Option Addr)(j i g:Int)(d:ByteArray)(f:Bool)(c:World)(K:Int->Int->WP):Prop:=Br (((CC j i g d f):Int) !=0) (∀b a,af c ar c b a->K 0 (CC j i g d f) a)<|∀b a,af c ar c b a->cl 25 #[(.agg #[(vi j),(vi i),(vu g),(vs d),(vb f)]),(vb true),(vb true)] a fun e h=>∃o n q l m k,e=.returned (Aa o n q l m k)/\aj b a h/\cl 96 #[(vp r),(.agg #[(vi o),(vi n),(vi q),(vu l),(vs m),k.v])] h (XH fun r1 r2 p=>aj b h p/\K r1 r2 p)
def UB(p1 aA aB aE aC aD w0 K)(h:Kb p1 aA aB aE aC aD w0 K):
  cl 149 #[(vp p1),(.agg #[(vi aA),(vi aB),(vu aE),(vs aC),(vb aD)])] w0<|XH K:=
 dv func149 h<|nh 0<|ij 2 0 [] 5<|cp 0 call168 (Uk aA aB aE aC aD)<|br 0 3 (ah<|rr 4)<|ij 2 0 [] 5<|ah<|ow 0 call25<|il 0 call96<|rr 4
def jcY(n m k:Int)(i:ByteArray)(j:Bool)(f:World)(K:Sl->Int->WP):Prop:=∀a c,af f ar f a c->cl 44 #[] c fun e d=>∃r1,e=.returned (vp r1)/\aj a c d/\cl 149 #[(vp r1),(.agg #[(vi n),(vi m),(vu k),(vs i),(vb j)])] d fun e b=>∃r2 r3,e=.returned (.tuple #[(vi r2),(vi r3)])/\aj a d b/\Br (r3 !=0) (K Sl.nil r3 b) (cl 102 #[(vp r1),(vi r2)] b<|XM fun h l g=>aj a b g/\K h l g)
def SD(aA aB aE aC aD w0 K)(h:jcY aA aB aE aC aD w0 K):
  cl 98 #[(.agg #[(vi aA),(vi aB),(vu aE),(vs aC),(vb aD)])] w0<|XM K:=
 dv func98 h<|nh 0<|ah<|du 2 call44<|ij 2 0 [] 5<|il 0 call149<|br 0 7 (rr 4)<|il 3 call102<|rr 4
end Go.Proofs
end
section
open Go Go.SE List
namespace Go.Proofs
attribute [local irreducible] Calls
def Tt(l):CC l.kind l.ay l.c l.ba l.dz=qF l:=by
 have⟨k,f,c,x,g⟩:=l;unfold CC qF;have j:px k=vN k:=rfl;rw[j];have e:(vN k ||k==6)=qK k:=rfl;rw[e];have d:decide (((x.size:Int))>64)=decide (x.size>64):=decide_eq_decide.2 Om;rw[d];generalize vN k=a;generalize qK k=b;have i:((((((decide (k<1)) ||(decide (k>7))) ||(((f:Int) !=0)&&((f:Int) !=1))) ||((!a)&&((f:Int) !=0))) ||((!b)&&(!(decide (x=(⟨#[]⟩:ByteArray)))))) ||((g&&((k:Int) !=1))&&((k:Int) !=4)))=decide (k<1\/k>7\/(f≠0/\f≠1)\/(a=false/\f≠0)\/(b=false/\x≠⟨#[]⟩)\/(g=true/\k≠1/\k≠4)):=Gd;rw[i];by_cases h:(k<1\/k>7\/(f≠0/\f≠1)\/(a=false/\f≠0)\/(b=false/\x≠⟨#[]⟩)\/(g=true/\k≠1/\k≠4));grind;grind
end Go.Proofs
end
section
open Go Go.SE
namespace Go.Proofs
attribute [local irreducible] Calls
def cr.ue{S w w' s t}(h:cr S w' s t)(d:Pure w w')(e:∀b,S b->b<w.heap.size):cr S w s t:=by
 induction h with
 |mk k f t u x ks s rs len c row fl g =>
  refine .mk k f t u x ks s rs len c (fun i h=>let ⟨a,h1,h2,h3⟩:=row i h;⟨a,h1,h2,fun j l=>?_⟩) g
  rw[<-h3 j l]
  unfold World.cell?
  rw[zC,d.gq _ (e _ h2) fun h=>h]
end Go.Proofs
end
section
open Go Go.SE List
namespace Go.Proofs
attribute [local irreducible] Calls
end Go.Proofs
end
section
open Go Go.SE List
namespace Go.Proofs
open Tryz
attribute [local irreducible] Calls
abbrev Sz(S:Int×Int×av)(p:Addr)(F:NP)(a w':World):Prop:=∃F',vR w' p S.2.2 F'/\ab F a w'/\∀b,F' b->F b\/a.heap.size<=b
def Zt(p l w0){L F}(u:vR w0 p L F)(q:Ok L):
  cl 149 #[vp<|some p,.agg #[vi l.kind,vi l.ay,vu l.c,vs l.ba,vb l.dz]] w0<|XH fun r1 r2 w'=>r1=(zH L l).1/\r2=(zH L l).2.1/\Sz (zH L l) p F w0 w':=by
 refine UB (some p) l.kind l.ay l.c l.ba l.dz w0 _ ?_
 unfold Kb
 rw[Tt l]
 have D:∀b,F b->b<w0.heap.size:=fun b a=>u.lt a
 refine⟨fun g H j hs=>?_,fun g H j hs=>?_⟩
 .have e:zH L l=(0,qF l,L):=by unfold zH;rw[if_pos<|bne_iff_ne.1 g]
  rw[e];exact⟨rfl,rfl,F,u.pure hs.first,ab.pure hs.first,fun b a=>.inl a⟩
 have g:qF l=0:=by simpa using g
 have e:zH L l=of L (zU l true true):=by unfold zH;rw[if_neg<|by simpa using g]
 rw[e]
 have B:=hs.first
 refine(N7 j.heap.size l.kind l.ay l.c l.ba l.dz true true j (Nat.le_refl _)<|LI g).mono ?_
 rintro _ t ⟨k,i,f,A⟩
 have f:cr (j.heap.size<=·) t k (zU l true true):=f
 have i:_=Ending.returned (.agg (tE (zU l true true) k).toArray):=i
 generalize zU l true true=T at *
 have⟨r,n,w,m,x,s⟩:=T
 have i:_=Ending.returned (.agg #[vi r,vi n,vi w,vu m,vs x,k.v]):=i
 refine⟨r,n,w,m,x,k,i,A.bo,?_⟩
 have d:=B.trans A
 refine(ZK (S:=fun b=>j.heap.size<=b/\b<t.heap.size) p (.mk r n w m x s) k t f.lt (u.pure d) q (fun b a hh=>Oi (D b a) B.size) fun b a=>a.2).mono ?_
 rintro _ I ⟨r1,r2,rfl,y,F',o,C,z⟩
 have⟨G,E⟩:=Prod.mk.inj y
 refine⟨r1,r2,rfl,C.bl fun b a hh=>Oi (hs.old b a)<|D b hh,G,E,F',o,(ab.pure d).trans C,fun b a=>(z b a).imp id fun h=>Oh d.size⟩
def jQY(l)(w:qW l.c)(w0):
  cl 98 #[.agg #[vi l.kind,vi l.ay,vu l.c,vs l.ba,vb l.dz]] w0<|XM fun r n w'=>n=(qQ l).2/\fx w0 5 1 (dj (qQ l).1) r w':=by
 refine SD _ _ _ _ _ w0 _ ?_
 intro H D hs
 have v:=hs.first
 refine(HU D).mono ?_
 rintro _ C ⟨_,rfl,p,F,rfl,B,t,u⟩
 refine⟨_,rfl,t.bo,?_⟩
 refine(Zt p l C B Wf.nil.ok).mono ?_
 rintro _ s ⟨r2,r3,rfl,y,k,I,j,q,x⟩
 have m:=v.trans t
 have f:Pure w0 s:=m.cg q fun i hi o=>Oi (u i o) v.size
 refine⟨_,_,rfl,q.bl fun b g o=>Oi (hs.lt b g)<|u b o,fun d=>?_,fun d=>?_⟩
 .have d:=bne_iff_ne.1 d
  have e:qQ l=([],(zH [] l).2.1):=by unfold qQ;rw[if_pos (by rw[<-k];exact d)]
  rw[e]
  exact⟨k,bf.nil _ _ _,fun b g=>(by have⟨a,z,_⟩:=g;cases z),f⟩
 .have d:r3=0:=by simpa using d
  have e:qQ l=iv (zH [] l).2.2 (zH [] l).1:=by unfold qQ;rw[if_neg (by rw[<-k];simpa using d)]
  rw[e,<-y]
  refine(MQ p r2 s (tJ Wf.nil l) (Bt yP.nil w) j).mono ?_
  rintro _ J ⟨E,G,rfl,A,h⟩
  exact⟨_,_,rfl,h.pure.bo,A,h.cj,fun b g=>Oi (h.ak b g) f.size,f.trans h.pure⟩
def H8(l:eo)(b:qW l.c)(w0:World):
  cl 40 #[.agg #[vi l.kind,vi l.ay,vu l.c,vs l.ba,vb l.dz]] w0<|XS fun r w'=>r=Bv l/\Pure w0 w':=by
 refine To _ _ _ _ _ w0 _ ?_
 intro e d hs
 refine(jQY l b d).mono ?_
 rintro _ f ⟨r1,r2,rfl,_,a⟩
 refine⟨_,_,rfl,a.pure.bo,_,Cj underlying59 underlying5 underlying9 a.cj.ei,rfl,hs.first.trans a.pure⟩
def jLK(who c x w0):
  cl 103 #[.agg #[vi who,vu c,vs x]] w0<|XA fun r w'=>fx w0 35 5 ((j0 who c x).map jh) r w':=by
 refine jbA _ _ _ w0 _ ?_
 intro k j hs i n h2
 have d:=hs.first
 have l:=h2.cu
 have m:=d.size
 exact⟨bf.lit (rs:=(j0 who c x).map jh) h2 rfl (by intro q g;obtain⟨t,_,rfl⟩:=mem_map.1 g;rfl) (by simp[j0,maxLen]),fun b h=>(by have⟨a,f,e⟩:=h;cases f;omega),d.trans<|ab.aw h2⟩
def sH(w0:World)(F0 X H:NP)(w:World)(f:Addr)(L:av)(G:List Int)(a b:Bool):Prop:=
 ∃F,gr w f L G a b F/\ab F0 w0 w/\(∀y,F y->(F0 y\/w0.heap.size<=y)/\¬H y/\¬X y)/\(∀y,X y->y<w.heap.size/\¬H y)/\∀y,H y->y<w.heap.size
section
variable {w0 w w' wv:World} {F0 F F' X H H' Hv:NP} {f:Addr} {L L':av} {G G':List Int} {a b a' b':Bool}
def sH.BN(h:sH w0 F0 X H w f L G a b)(E:Pure w w'):sH w0 F0 X H w' f L G a b:=by
 have⟨F,d,e,h1,h2,h3⟩:=h;exact⟨F,d.pure E,e.fb E,h1,fun y c=>⟨Nat.lt_of_lt_of_le (h2 y c).1 E.size,(h2 y c).2⟩,fun y c=>Nat.lt_of_lt_of_le (h3 y c) E.size⟩
def sH.step(h1:∀y,F y->(F0 y\/w0.heap.size<=y)/\¬ H y/\¬ X y)(h2:∀y,X y->y<w.heap.size/\¬ H y)(h3:∀y,H y->y<w.heap.size)(b:ab F0 w0 w)(c:gr w' f L' G' a' b' F')(E:ab F w w')(d:∀y,F' y->F y\/w.heap.size<=y):
  sH w0 F0 X H w' f L' G' a' b'/\aj H w w':=by
 have e:=b.size
 refine⟨⟨F',c,b.cg E Gd,fun y a=>?_,fun y a=>⟨Nat.lt_of_lt_of_le (h2 y a).1 E.size,(h2 y a).2⟩,fun y a=>Nat.lt_of_lt_of_le (h3 y a) E.size⟩,E.bl Gd⟩
 rcases d y a with h|h
 exact h1 y h
 grind
end
abbrev gj(f:Addr)(L:av)(G:List Int)(a b:Bool):pY:=fun w F=>gr w f L G a b F
def vO{f L G a b}:kg (gj f L G a b):=⟨fun h E d=>gr.ext h E d,fun h _ c=>gr.lt h c⟩
structure Kg(P:Program)(f:Addr)(G:List Int)(a b:Bool)(I:pY)(J:av->Int->pY)(d:av->Int->Prop)(c:FuncId)(fs cs:Array Value):Prop where
 cl:kg I
 ent:∀args w,(callFunc c args).run P w=.ok (.enter c args) w
 Tl:∀(w:World) (L:av) (t:Int) (F:NP),ez (gj f L G a b) I w F->al L t=true->dr L (mg L G) t->Calls P c (fs++#[(vi t)]++cs) w (XC fun ok w'=>(ok=true->Tn (ez (gj f L G a b)<|J L t) F w w')/\(ok=false->d L t/\Tn (ez (gj f L G a b) I) F w w'))
def jTN(f who c x fq fs cs){G a b I J Bad}(U:Kg prog f G a b I J Bad fq fs cs)(w0){L F}(h:ez (gj f L G a b) I w0 F):
  cl 48 #[vp<|some f,.agg #[vi who,vu c,vs x],.func (.func fq) fs cs] w0<|XB fun r w'=>∃L',pR Bad G (if uC who=true then j0 who c x else[]) L r L'/\(r=0->Tn (ez (gj f L' G a b) I) F w0 w')/\(r≠0->Tn (ez (gj f L' G a b)<|J L' r) F w0 w'):=by
 suffices key:∀K:Int->WP,(∀r w',(∃L',pR Bad G (if uC who=true then j0 who c x else[]) L r L'/\(r=0->Tn (ez (gj f L' G a b) I) F w0 w')/\(r≠0->Tn (ez (gj f L' G a b)<|J L' r) F w0 w'))->K r w')->Gr (some f) who c x (.func (.func fq) fs cs) w0 K from
  Ut _ _ _ _ _ w0 _<|key _ fun _ _ h=>h
 intro K O
 unfold Gr
 have d:∀{L},kg<|ez (gj f L G a b) I:=vO.vk U.cl
 have T0:=Tk.start h d
 refine⟨fun o=>?_,fun o=>?_⟩
 .intro H2 Y hs
  rw[if_neg (by unfold uC;simpa using o)]at O
  exact O 0 Y ⟨L,.nil,fun _=>(T0.aq d hs).tn,fun h=>absurd rfl h⟩
 intro H2 Y hs
 have hp:uC who=true:=by
  unfold uC;simp at o|-;omega
 rw[if_pos hp]at O
 have T3:=T0.aq d hs
 refine(jLK who c x Y).mono ?_
 rintro _ w5 ⟨r1,rfl,A⟩
 refine⟨_,rfl,A.pure.bo,?_⟩
 have hrl:r1.len=2:=by rw[A.cj.len];rfl
 have hlen:(j0 who c x).length=2:=rfl
 have T5:Tk H2 (ez (sW 35 5 r1<|(j0 who c x).map jh)<|ez (gj f L G a b) I) F w0 w5:=T3.aw d ⟨A.cj,fun _=>Iff.rfl⟩ A.pure A.ak
 generalize j0 who c x=ls at *
 refine⟨fun i H w=>∃n:Nat,i=n/\n<=ls.length/\∃L',(∀r u,pR Bad G (ls.drop n) L' r u->pR Bad G ls L r u)/\Tk H (ez (sW 35 5 r1<|ls.map jh)<|ez (gj f L' G a b) I) F w0 w,fun i _=>((ls.length:Int)-i).toNat,⟨0,rfl,Nat.zero_le _,L,fun _ _ h=>h,T5⟩,?_⟩
 rintro _ Hl wl hsl ⟨n,rfl,hn,L',j,T⟩
 refine⟨fun e=>?_,fun e=>?_⟩
 .have e:n<ls.length:=Oh<|of_decide_eq_true e
  have⟨_,X,_⟩:=T.l yw d
  have⟨a1,hat,_,D⟩:=X.1.ei.mm e
  rw[drop_eq_getElem_cons e]at j
  generalize ls[n]=l at *
  refine⟨a1,hat,l.kind,l.ay,l.c,l.ba,l.dz,D,fun H3 w7 hs7=>⟨fun _=>True,trivial,?_⟩⟩
  rintro w8 rfl
  have T8:=(T.aq (yw.vk d) hs7).pure (yw.vk d)<|ab.drew w7
  generalize w7.drew=w8 at *
  have⟨F1,z,_,k8⟩:=T8.r yw d
  have⟨F2,q,_,Z⟩:=z.one U.cl<|d.lt z
  have⟨k,p,S,FK,FP,q,hF⟩:=q
  refine⟨f,rfl,some p,q.box.cell rfl,?_⟩
  refine(YE p l w8 q.bj q.wf.ok).mono ?_
  rintro _ w9 ⟨r2,r3,rfl,e2,e3,FP',B,E9,C⟩
  have⟨M,hM⟩:=CB q.wf.ok l
  have s:=tJ q.wf l
  have hM':=hM
  rw[hM]at B s
  have g:=q.pW B s E9 C
  rw[<-hM']at g s
  have⟨T9,hk9⟩:=k8 (Z (A':=gj f (zH L' l).2.2 G a b) ⟨_,⟨k,p,S,FK,FP',g,fun _=>Iff.rfl⟩,E9.mono Gd,by
   rintro y (rfl|R|R)
   .grind
   .grind
   .exact(C y R).imp Gd id⟩)
  refine⟨r2,r3,rfl,trivial,hk9,?_⟩
  have Q:dr (zH L' l).2.2 (fun y=>y∈zG S) r2↔dr (zH L' l).2.2 (mg (zH L' l).2.2 G) r2:=
   ⟨dr.mono fun t ht=>(g.ok.wC t).1 ht,dr.mono fun t ht=>(g.ok.wC t).2 ht⟩
  have next : ∀ w, Tk H3 (ez (sW 35 5 r1<|ls.map jh)<|ez (gj f (zH L' l).2.2 G a b) I) F w0 w -> (¬ ((zH L' l).2.1 = 0 /\ dr (zH L' l).2.2 (mg (zH L' l).2.2 G) (zH L' l).1) \/ Bad (zH L' l).2.2 (zH L' l).1) ->
    (∃m:Nat,IntKind.i64.wrap ((n:Int)+1)=m/\m<=ls.length/\∃L',(∀r u,pR Bad G (ls.drop m) L' r u->pR Bad G ls L r u)/\Tk H3 (ez (sW 35 5 r1<|ls.map jh)<|ez (gj f L' G a b) I) F w0 w)/\((ls.length:Int)-IntKind.i64.wrap ((n:Int)+1)).toNat<((ls.length:Int)-(n:Int)).toNat:=by
   intro w h1 h3
   rw[zN e Om]
   exact⟨⟨n+1,rfl,e,_,fun r u h=>j _ _<|.Db h3 h,h1⟩,yY e⟩
  refine⟨fun o=>?_,fun o=>?_⟩
  .have o:r3=0:=beq_iff_eq.1 o
   have P:(zH L' l).2.1=0:=by rw[<-e3];exact o
   refine⟨f,rfl,some k,g.box.bd,?_⟩
   refine(Mk k p r2 w9 g.wf g.ok g.fh g.bj).mono ?_
   rintro _ W ⟨r5,rfl,hr5,E⟩
   refine⟨_,rfl,E.bo,?_⟩
   have N:=T9.pure (yw.vk d) E
   refine⟨fun h5=>?_,fun h5=>?_⟩
   .have hd:=Q.1<|hr5.1 h5
    rw[e2]at hd
    have⟨F3,hs3,_,k3⟩:=N.r yw d
    have⟨_,b2,_⟩:=CD P q.wf
    refine⟨fq,fs,cs,rfl,U.ent,?_⟩
    rw[e2]
    refine(U.Tl W _ _ F3 hs3 b2 hd).mono ?_
    rintro _ w10 ⟨ok,rfl,R,v⟩
    refine⟨ok,rfl,?_,fun h=>?_,fun h=>?_⟩
    .grind
    .subst h
     have V:=(k3<|R rfl).1
     have hr0:(zH L' l).1≠0:=Oh<|(zI.1 b2).1
     exact O _ _ ⟨_,j _ _<|.iu P hd,fun h=>absurd h hr0,fun _=>(V.sT.sub ez.fst).tn⟩
    .subst h
     exact next _ (k3 (v rfl).2).1 (.inr (v rfl).1)
   .exact next _ N (.inl Gd)
  .have o:¬r3=0:=fun h=>by rw[h]at o;cases o
   refine⟨fun h=>(by cases h),fun _=>?_⟩
   exact next _ T9 (.inl Gd)
 .have:n=ls.length:=Oh<|of_decide_eq_false e
  subst this
  rw[drop_length]at j
  exact O 0 wl ⟨L',j _ _ .nil,fun _=>(T.sT.sub ez.fst).tn,fun h=>absurd rfl h⟩
def S9{f:Addr}{G:List Int}{a b:Bool}:Kg prog f G a b BD (fun _ _=>BD) (fun _ _=>False) 51 #[] #[]:=
 ⟨ML,call51,fun w L t F h _ _=>(Xf t w).mono fun e w' ⟨d,E⟩=>⟨true,d,fun _=>⟨F,(vO.vk ML).ext h E fun _ _ h=>h,ab.pure E,fun y c=>.inl c⟩,fun h=>(by cases h)⟩⟩
def Hf(f who c x w0){L G a b F}(h:gr w0 f L G a b F):
  cl 13 #[vp<|some f,.agg #[vi who,vu c,vs x]] w0<|XC fun r w'=>(r=true↔(tX L G who c x).1≠0)/\Tn (gj f (tX L G who c x).2 G a b) F w0 w':=by
 refine Z8 _ _ _ _ w0 _ ?_
 intro o d hs
 have l:=(Tk.start h vO).aq vO hs
 have⟨i,k,_,j⟩:=(l.aw (C:=BD) vO (fun _ h=>h) (ab.refl _) fun _ h=>h.elim).sT.one
 refine(jTN f who c x _ #[] #[] S9 d k).mono ?_
 rintro _ n ⟨r,rfl,L',m,p,h1⟩
 have e:(r,L')=tX L G who c x:=by
  rw[<-m.eq];unfold tX;split<;>rfl
 have t:Tn (ez (gj f L' G a b) BD) i d n:=Gd
 have⟨g,kp⟩:=j t
 rw[<-e]
 exact⟨_,rfl,kp,Sm,(g.sub ez.fst).tn⟩
def Nd(f who w0){L G a b F}(h:gr w0 f L G a b F):
  cl 67 #[vp<|some f,vi who] w0<|XC fun r w'=>r=zq L G who/\Pure w0 w':=by
 refine jcr _ _ w0 _ ?_
 unfold P0
 have⟨k,p,S,g,j,h,l⟩:=h
 refine⟨f,rfl,some p,h.box.cell rfl,?_⟩
 refine(Gp p (zV who) w0 h.bj h.wf.ok).mono ?_
 rintro _ d ⟨r1,r2,rfl,hr,c⟩
 have h1:=h.ext c fun _ _ h=>h
 refine⟨r1,r2,rfl,?_⟩
 unfold zq
 split at hr
 rename_i i hi
 obtain⟨rfl,rfl⟩:=hr
 refine⟨fun _=>?_,fun h=>(by cases h)⟩
 refine⟨f,rfl,some k,h1.box.bd,?_⟩
 refine(LJ k p ((i:Int)+1) d h1.fh).mono ?_
 rintro _ m ⟨r3,rfl,rfl,e⟩
 refine⟨_,rfl,?_,c.trans e⟩
 rw[hi]
 classical
 exact decide_eq_decide.2<|h1.ok.wC _
 rename_i hi
 obtain⟨rfl,rfl⟩:=hr
 refine⟨fun h=>(by cases h),fun _=>⟨?_,c⟩⟩
 rw[hi]
def Hy(f who w0){L G a b F}(h:gr w0 f L G a b F):
  cl 21 #[vp<|some f,vi who] w0<|XC fun r w'=>r=tu L G who/\Pure w0 w':=by
 refine ZE _ _ w0 _ ?_
 refine⟨fun g=>?_,fun g=>?_⟩
 .intro m k hs
  have e:uC who=true:=by unfold uC;simpa using g
  have d:=hs.first
  refine(Nd f who k<|h.pure d).mono ?_
  rintro _ n ⟨r1,rfl,j,c⟩
  refine⟨_,rfl,c.bo,fun h1=>?_,fun h1=>?_⟩
  .refine⟨?_,d.trans c⟩
   unfold tu;rw[e,<-j,h1];rfl
  .refine(Nd f 2 n<|(h.pure d).pure c).mono ?_
   rintro _ o ⟨r2,rfl,l,i⟩
   refine⟨_,rfl,i.bo,?_,(d.trans c).trans i⟩
   unfold tu;rw[e,<-j,h1,l];rfl
 .intro m k hs
  refine⟨?_,hs.first⟩
  have e:uC who=false:=by unfold uC;simpa using g
  unfold tu;rw[e];rfl
section
variable {w0 w:World} {F0 X H:NP} {f:Addr} {L:av} {G:List Int} {a b:Bool}
end
def AT(c c1 c2:Addr):List (Int×Value):=
 [(0,.func (.func 223) #[] #[vp<|some c1]),(1,.func (.func 224) #[] #[vp<|some c2]),(2,.func (.func 226) #[] #[vp<|some c2]),
  (3,.func (.func 228) #[] #[vp<|some c2]),(4,.func (.func 230) #[] #[vp<|some c1,vp<|some c2]),(5,.func (.func 233) #[] #[vp<|some c1,vp<|some c2]),
  (6,.func (.func 235) #[] #[vp<|some c1]),(7,.func (.func 237) #[] #[vp<|some c1]),(8,.func (.func 238) #[vp<|some c] #[]),
  (9,.func (.func 239) #[] #[vp<|some c1,vp<|some c2]),(10,.func (.func 242) #[] #[vp<|some c1,vp<|some c2]),(11,.func (.func 246) #[] #[vp<|some c1,vp<|some c2])]
section
variable {w0:World} {c p c1 c2:Addr} {sg sm:Sl} {G M:List Int} (hC:rD w0 c p sg sm G M)
variable (h1:w0.cell? c1=some (vp<|some c)) (h2:w0.cell? c2=some (vp<|some p))
variable {L:av} {F:NP} (hP:zD w0 p L F) (hok:Ok L)
abbrev jm(p:Addr)(F:NP)(w:World)(R:pU)(r1 r2:Int)(w':World):Prop:=(r1,r2)=(R.1,R.2.1)/\∃F',zD w' p R.2.2 F'/\ab F w w'/\∀b,F' b->F b\/w.heap.size<=b
def jm.az{p F w w1 w' R r1 r2}(E:Pure w w1)(h:jm p F w1 R r1 r2 w'):jm p F w R r1 r2 w':=by
 have⟨h1,F',h2,h3,a⟩:=h;exact⟨h1,F',h2,E.pure.trans h3,fun b c=>(a b c).imp_right fun h=>Oh E.size⟩
include hC h1 hP in
def zIU(o):cl 223 #[pa o,vp<|some c1] w0 (po p F w0<|uR L G o):=by
 have⟨d,oa,g,on,f⟩:=o;refine YM d oa g on f _ w0 (jm p F w0<|uR L G ⟨d,oa,g,on,f⟩) ?_;unfold OP;have s:sg.len=G.length:=by rw[hC.jo.len,vA]
 have no:∀H w,af w0 ar w0 H w->ej G oa=none->jm p F w0 (uR L G ⟨d,oa,g,on,f⟩) 0 90 w:=fun H w hs r=>by
  have e:uR L G ⟨d,oa,g,on,f⟩=j9 L:=by unfold uR;simp only;rw[r]
  rw[e];exact⟨rfl,F,hP.pure hs.first,hs.first.pure,fun b k=>.inl k⟩
 refine⟨fun h=>fun H w hs=>?_,fun h=>fun H w hs=>?_⟩
 .exact Br.t rfl (no H w hs<|uw<|.inl<|of_decide_eq_true h)
 .have h:=of_decide_eq_false h;have C:=hC.pure hs.first;refine⟨some c,(hs.first).cell h1 fun h=>h,c,rfl,sg,C.box.cell rfl,?_⟩;refine⟨fun h3=>no H w hs<|uw<|.inr Gd,fun h3=>?_⟩;have h3:=of_decide_eq_false h3;intro u j;have i:=hs.first.aq j;have l:=hC.pure i;have e:ej G oa=some (G[oa.toNat]' Om):=uh Om Om;have⟨a,n,q⟩:=AU l.jo e;refine⟨some c,i.cell h1 fun h=>h,c,rfl,sg,l.box.cell rfl,a,n,_,q,?_⟩;have m:uR L G ⟨d,oa,g,on,f⟩=(G[oa.toNat]' Om,0,L):=by unfold uR;simp only;rw[e]
  rw[m];exact⟨rfl,F,hP.pure i,i.pure,fun b k=>.inl k⟩
include h2 hP hok in
def UY(o):cl 224 #[pa o,vp<|some c2] w0 (po p F w0<|ax L ⟨1,o.a,0,0,⟨#[]⟩,0,0⟩):=by
 have⟨g,oa,l,on,i⟩:=o;refine jcn _ _ _ _ _ _ w0 (jm p F w0<|ax L ⟨1,oa,0,0,⟨#[]⟩,0,0⟩) ?_;intro j d c;refine⟨some p,c.first.cell h2 fun h=>h,?_⟩;refine(jaE p d (hP.pure c.first) hok oa).mono ?_;rintro _ k ⟨r1,r2,rfl,h⟩;exact⟨r1,r2,rfl,h.2.elim fun F' h=>h.2.1.bl fun b f e=>Oi (c.old b f)<|hP.lt e,jm.az c.first h⟩
include h2 hP hok in
def YP(o):cl 226 #[pa o,vp<|some c2] w0 (po p F w0<|ax L ⟨2,0,0,o.num,⟨#[]⟩,0,0⟩):=by
 have⟨f,oa,k,on,g⟩:=o;refine TC _ _ _ _ _ _ w0 (jm p F w0<|ax L ⟨2,0,0,on,⟨#[]⟩,0,0⟩) ?_;intro i c a;refine⟨some p,a.first.cell h2 fun h=>h,?_⟩;refine(jcK p c (hP.pure a.first) hok on).mono ?_;rintro _ j ⟨r1,r2,rfl,h⟩;exact⟨r1,r2,rfl,h.2.elim fun F' h=>h.2.1.bl fun b e d=>Oi (a.old b e)<|hP.lt d,jm.az a.first h⟩
include h2 hP hok in
def VE(o):cl 228 #[pa o,vp<|some c2] w0 (po p F w0<|ax L ⟨3,0,0,0,o.ba,0,0⟩):=by
 have⟨g,oa,k,on,c⟩:=o;refine Xu _ _ _ _ _ _ w0 (jm p F w0<|ax L ⟨3,0,0,0,c,0,0⟩) ?_;intro i d a;refine⟨some p,a.first.cell h2 fun h=>h,?_⟩;refine(Rh p d (hP.pure a.first) hok c).mono ?_;rintro _ j ⟨r1,r2,rfl,h⟩;exact⟨r1,r2,rfl,h.2.elim fun F' h=>h.2.1.bl fun b f e=>Oi (a.old b f)<|hP.lt e,jm.az a.first h⟩
include hC h1 h2 hP hok in
def zIQ(o):cl 230 #[pa o,vp<|some c1,vp<|some c2] w0 (po p F w0<|rV L M o):=by
 have⟨q,oa,k,on,r⟩:=o;refine TK _ _ _ _ _ _ _ w0 (jm p F w0<|rV L M ⟨q,oa,k,on,r⟩) ?_;intro u l m;have d:=m.first;refine⟨some c,d.cell h1 fun h=>h,?_⟩;refine(CI (hC.pure d) oa).mono ?_;rintro _ l ⟨y,s,rfl,e,rfl⟩;refine⟨_,_,rfl,aj.refl _,some c,d.cell h1 fun h=>h,?_⟩;refine(CI (hC.pure d) k).mono ?_;rintro _ l ⟨rb,v,rfl,g,rfl⟩;refine⟨_,_,rfl,aj.refl _,?_⟩;unfold rV;simp only;have no:∀H w,af w0 u l H w->jm p F w0 (j9 L) 0 90 w:=fun H w hs=>⟨rfl,F,hP.pure<|d.aq hs,(d.aq hs).pure,fun b n=>.inl n⟩;cases j:ej M oa with
 |none =>
  rw[j]at e;obtain⟨rfl,rfl⟩:=e
  exact Br.t Sm fun H w hs=>no H w hs
 |some a =>
  rw[j]at e;obtain⟨rfl,rfl⟩:=e
  simp only
  cases i:ej M k with
  |none =>
   rw[i]at g;obtain⟨rfl,rfl⟩:=g
   exact Br.t Sm fun H w hs=>no H w hs
  |some b =>
   rw[i]at g;obtain⟨rfl,rfl⟩:=g
   simp only
   refine Br.f rfl fun H w hs=>⟨some p,(d.aq hs).cell h2 fun h=>h,?_⟩
   refine(Z6 p w (hP.pure<|d.aq hs) hok y rb).mono ?_
   rintro _ z ⟨r1,r2,rfl,h⟩
   exact⟨r1,r2,rfl,h.2.elim fun F' h=>h.2.1.bl fun b n x=>Oi (hs.old b n)<|hP.lt x,jm.az (d.aq hs) h⟩
include hC h1 h2 hP hok in
def zIP(o):cl 233 #[pa o,vp<|some c1,vp<|some c2] w0 (po p F w0<|sP L M o):=by
 have⟨k,oa,s,on,l⟩:=o;refine jbB _ _ _ _ _ _ _ w0 (jm p F w0<|sP L M ⟨k,oa,s,on,l⟩) ?_;intro u n g;have e:=g.first;refine⟨some c,e.cell h1 fun h=>h,?_⟩;refine(CI (hC.pure e) oa).mono ?_;rintro _ n ⟨r,m,rfl,d,rfl⟩;refine⟨_,_,rfl,aj.refl _,?_⟩;unfold sP;simp only;cases i:ej M oa with
 |none =>
  rw[i]at d;obtain⟨rfl,rfl⟩:=d
  exact Br.t rfl ⟨rfl,F,hP.pure e,e.pure,fun b j=>.inl j⟩
 |some a =>
  rw[i]at d;obtain⟨rfl,rfl⟩:=d
  simp only
  refine Br.f rfl ⟨some p,e.cell h2 fun h=>h,?_⟩
  refine(jbq p _ (hP.pure e) hok r).mono ?_
  rintro _ v ⟨r1,r2,rfl,h⟩
  exact⟨r1,r2,rfl,h.2.elim fun F' h=>h.2.1.bl fun b j q=>Oi (g.old b j)<|hP.lt q,jm.az e h⟩
include hC h1 hP hok in
def We(o):cl 235 #[pa o,vp<|some c1] w0 (po p F w0<|yB L M o false):=by
 have⟨e,oa,f,on,g⟩:=o;refine jcP _ _ _ _ _ _ w0 (jm p F w0<|yB L M ⟨e,oa,f,on,g⟩ false) ?_;intro l k a;have d:=a.first;refine⟨some c,d.cell h1 fun h=>h,?_⟩;refine(Qh (hC.pure d) (hP.pure d) hok ⟨e,oa,f,on,g⟩ false).mono ?_;rintro _ m ⟨r1,r2,rfl,h⟩;exact⟨r1,r2,rfl,h.2.elim fun F' h=>h.2.1.bl fun b j i=>Oi (a.old b j)<|hP.lt i,jm.az d h⟩
include hC h1 hP hok in
def zIN(o):cl 237 #[pa o,vp<|some c1] w0 (po p F w0<|yB L M o true):=by
 have⟨e,oa,f,on,g⟩:=o;refine jcZ _ _ _ _ _ _ w0 (jm p F w0<|yB L M ⟨e,oa,f,on,g⟩ true) ?_;intro l k a;have d:=a.first;refine⟨some c,d.cell h1 fun h=>h,?_⟩;refine(Qh (hC.pure d) (hP.pure d) hok ⟨e,oa,f,on,g⟩ true).mono ?_;rintro _ m ⟨r1,r2,rfl,h⟩;exact⟨r1,r2,rfl,h.2.elim fun F' h=>h.2.1.bl fun b j i=>Oi (a.old b j)<|hP.lt i,jm.az d h⟩
include hC h1 h2 hP hok in
def Rn(o:Op):cl 239 #[pa o,vp<|some c1,vp<|some c2] w0 (po p F w0<|vQ L M o fun k a=>⟨7,k,0,0,⟨#[]⟩,a,0⟩):=by
 have⟨f,oa,i,on,g⟩:=o;refine Wv _ _ _ _ _ _ _ w0 (jm p F w0<|vQ L M ⟨f,oa,i,on,g⟩ fun k a=>⟨7,k,0,0,⟨#[]⟩,a,0⟩) ?_;intro q n e;have d:=e.first;refine⟨some c,d.cell h1 fun h=>h,some p,d.cell h2 fun h=>h,?_⟩;refine(GS (hC.pure d) (hP.pure d) hok ⟨f,oa,i,on,g⟩ 241 #[vp<|some p] #[] (fun k a=>⟨7,k,0,0,⟨#[]⟩,a,0⟩) call241 fun k a w' l=>?_).mono ?_
 .exact jaa p w' ((hP.pure d).pure l) hok k a
 rintro _ r ⟨r1,r2,rfl,h⟩;exact⟨r1,r2,rfl,h.2.elim fun F' h=>h.2.1.bl fun b m j=>Oi (e.old b m)<|hP.lt j,jm.az d h⟩
variable (hd:¬F c2.block)
include hC h1 h2 hP hok hd in
def Xi(o:Op):cl 242 #[pa o,vp<|some c1,vp<|some c2] w0 (po p F w0<|vQ L M o fun k a=>⟨8,k,rQ o.num,0,⟨#[]⟩,a,0⟩):=by
 have⟨j,oa,q,on,t⟩:=o;refine Ta j oa q on t _ _ w0 (jm p F w0<|vQ L M ⟨j,oa,q,on,t⟩ fun k a=>⟨8,k,rQ on,0,⟨#[]⟩,a,0⟩) ?_;intro e A d;have f:Pure w0 A:=ab.aw d;have v:=ai.bh d;refine⟨some c,f.cell h1 fun h=>h,_,_,_,_,_,v.row,?_⟩;refine(GS (hC.pure f) (hP.pure f) hok ⟨j,oa,q,on,t⟩ 243 #[] #[vp<|some c2,vp<|some e] (fun k a=>⟨8,k,rQ on,0,⟨#[]⟩,a,0⟩) call243 fun k a w' s=>?_).mono ?_;refine ZW k a _ _ w' (jm p F w'<|ax L ⟨8,k,rQ on,0,⟨#[]⟩,a,0⟩) ?_;unfold Lw;have r:w'.cell? c2=some (vp<|some p):=(f.trans s).cell h2 fun h=>h;have i:w'.cell? (e.add 3)=some (vu on):=(v.pure s).cell rfl;have m:¬F (e.add 3).block:=fun h=>by rw[zC]at h;have:=hP.lt h;have:=d.cu;omega
 have l:Pure w' w'.drew:=ab.drew w';have gq:∀{X:NP} {a b:World},(a.cell? c2=some (vp<|some p)/\a.cell? (e.add 3)=some (vu on))->ab X a b->(∀b,X b->F b)->b.cell? c2=some (vp<|some p)/\b.cell? (e.add 3)=some (vu on):=fun h E n=>⟨E.cell h.1 fun hh=>hd<|n _ hh,E.cell h.2 fun hh=>m<|n _ hh⟩;have u:=gq ⟨r,i⟩ l fun _ h=>h.elim;refine⟨fun w=>w.cell? c2=some (vp<|some p)/\w.cell? (e.add 3)=some (vu on),u,?_⟩;rintro _ rfl;refine⟨some p,fun _ h=>h.1,on,fun _ h=>h.2,?_⟩;refine(Qk on _).mono ?_;rintro _ x ⟨rfl,g⟩;have y:=gq u g fun _ h=>h.elim;refine⟨_,rfl,y,g.bo,?_⟩;refine(jan p x (hP.pure<|((f.trans s).trans l).trans g) hok k (IW on) a).mono ?_;rintro _ B ⟨r1,r2,rfl,h⟩;exact⟨r1,r2,rfl,h.2.elim Gd,h.2.elim fun F' h=>h.2.1.bl fun b z n=>z.elim,jm.az (l.trans g) h⟩;rintro _ x ⟨r1,r2,rfl,h⟩;exact⟨r1,r2,rfl,jm.az f h⟩
include hC h1 h2 hP hok hd in
def UX(o:Op):cl 246 #[pa o,vp<|some c1,vp<|some c2] w0 (po p F w0<|vQ L M o fun k a=>⟨9,rQ o.num,k,0,⟨#[]⟩,a,0⟩):=by
 have⟨j,oa,q,on,t⟩:=o;refine TF j oa q on t _ _ w0 (jm p F w0<|vQ L M ⟨j,oa,q,on,t⟩ fun k a=>⟨9,rQ on,k,0,⟨#[]⟩,a,0⟩) ?_;intro e A d;have f:Pure w0 A:=ab.aw d;have v:=ai.bh d;refine⟨some c,f.cell h1 fun h=>h,_,_,_,_,_,v.row,?_⟩;refine(GS (hC.pure f) (hP.pure f) hok ⟨j,oa,q,on,t⟩ 247 #[] #[vp<|some c2,vp<|some e] (fun k a=>⟨9,rQ on,k,0,⟨#[]⟩,a,0⟩) call247 fun k a w' s=>?_).mono ?_;refine jbk k a _ _ w' (jm p F w'<|ax L ⟨9,rQ on,k,0,⟨#[]⟩,a,0⟩) ?_;unfold Qq;have r:w'.cell? c2=some (vp<|some p):=(f.trans s).cell h2 fun h=>h;have i:w'.cell? (e.add 3)=some (vu on):=(v.pure s).cell rfl;have m:¬F (e.add 3).block:=fun h=>by rw[zC]at h;have:=hP.lt h;have:=d.cu;omega
 have l:Pure w' w'.drew:=ab.drew w';have gq:∀{X:NP} {a b:World},(a.cell? c2=some (vp<|some p)/\a.cell? (e.add 3)=some (vu on))->ab X a b->(∀b,X b->F b)->b.cell? c2=some (vp<|some p)/\b.cell? (e.add 3)=some (vu on):=fun h E n=>⟨E.cell h.1 fun hh=>hd<|n _ hh,E.cell h.2 fun hh=>m<|n _ hh⟩;have u:=gq ⟨r,i⟩ l fun _ h=>h.elim;refine⟨fun w=>w.cell? c2=some (vp<|some p)/\w.cell? (e.add 3)=some (vu on),u,?_⟩;rintro _ rfl;refine⟨some p,fun _ h=>h.1,on,fun _ h=>h.2,?_⟩;refine(Qk on _).mono ?_;rintro _ x ⟨rfl,g⟩;have y:=gq u g fun _ h=>h.elim;refine⟨_,rfl,y,g.bo,?_⟩;refine(Uv p x (hP.pure<|((f.trans s).trans l).trans g) hok (IW on) k a).mono ?_;rintro _ B ⟨r1,r2,rfl,h⟩;exact⟨r1,r2,rfl,h.2.elim Gd,h.2.elim fun F' h=>h.2.1.bl fun b z n=>z.elim,jm.az (l.trans g) h⟩;rintro _ x ⟨r1,r2,rfl,h⟩;exact⟨r1,r2,rfl,jm.az f h⟩
include hC h1 h2 hP hok hd in
def YW(o:Op):(SE.eu (AT c c1 c2) o.code=none->qZ L G M o=j9 L) /\
  ∀v,SE.eu (AT c c1 c2) o.code=some v->∃(f:FuncId) (fs cs:Array Value),v=.func (.func f) fs cs/\(∀args w,(callFunc f args).run prog w=.ok (.enter f args) w)/\Calls prog f (fs++#[pa o]++cs) w0 (po p F w0<|qZ L G M o):=by
 have d0:=zIU hC h1 hP o
 have d1:=UY h2 hP hok o
 have d2:=YP h2 hP hok o
 have d3:=VE h2 hP hok o
 have m:=zIQ hC h1 h2 hP hok o
 have t:=zIP hC h1 h2 hP hok o
 have r:=We hC h1 hP hok o
 have s:=zIN hC h1 hP hok o
 have j:=jRF hC hP hok o
 have l:=Rn hC h1 h2 hP hok o
 have g:=Xi hC h1 h2 hP hok hd o
 have d:=UX hC h1 h2 hP hok hd o
 generalize q:o.code=k
 unfold qZ AT
 rw[q]
 have step : ∀ (n : Int) (u : Value) (a : List (Int × Value)) (R b : pU), (∃ (f : FuncId) (fs cs : Array Value), u = .func (.func f) fs cs /\ (∀ args w, (callFunc f args).run prog w = .ok (.enter f args) w) /\ Calls prog f (fs ++ #[pa o] ++ cs) w0 (po p F w0 R)) ->
   ((SE.eu a k=none->b=j9 L)/\∀v,SE.eu a k=some v->∃(f:FuncId) (fs cs:Array Value),v=.func (.func f) fs cs/\(∀args w,(callFunc f args).run prog w=.ok (.enter f args) w)/\Calls prog f (fs++#[pa o]++cs) w0 (po p F w0 b)) ->
   ((SE.eu ((n,u) ::a) k=none->(if k=n then R else b)=j9 L)/\∀v,SE.eu ((n,u) ::a) k=some v->∃(f:FuncId) (fs cs:Array Value),v=.func (.func f) fs cs/\(∀args w,(callFunc f args).run prog w=.ok (.enter f args) w)/\Calls prog f (fs++#[pa o]++cs) w0 (po p F w0<|if k=n then R else b)):=by
  intro n u a R b h y
  rw[SE.eu]
  by_cases e:k=n
  rw[if_pos e.symm,if_pos e]
  exact⟨fun h=>(by cases h),fun v i=>by cases i;exact h⟩
  rw[if_neg fun x=>e x.symm,if_neg e]
  exact y
 refine step 0 _ _ _ _ ⟨_,_,_,rfl,call223,d0⟩ ?_
 refine step 1 _ _ _ _ ⟨_,_,_,rfl,call224,d1⟩ ?_
 refine step 2 _ _ _ _ ⟨_,_,_,rfl,call226,d2⟩ ?_
 refine step 3 _ _ _ _ ⟨_,_,_,rfl,call228,d3⟩ ?_
 refine step 4 _ _ _ _ ⟨_,_,_,rfl,call230,m⟩ ?_
 refine step 5 _ _ _ _ ⟨_,_,_,rfl,call233,t⟩ ?_
 refine step 6 _ _ _ _ ⟨_,_,_,rfl,call235,r⟩ ?_
 refine step 7 _ _ _ _ ⟨_,_,_,rfl,call237,s⟩ ?_
 refine step 8 _ _ _ _ ⟨_,_,_,rfl,call238,j⟩ ?_
 refine step 9 _ _ _ _ ⟨_,_,_,rfl,call239,l⟩ ?_
 refine step 10 _ _ _ _ ⟨_,_,_,rfl,call242,g⟩ ?_
 refine step 11 _ _ _ _ ⟨_,_,_,rfl,call246,d⟩ ?_
 exact⟨fun _=>rfl,fun v i=>by cases i⟩
end
def jLL{w0:World}{c p:Addr}{sg sm:Sl}{G M:List Int}(hC:rD w0 c p sg sm G M):cl 163 #[vp<|some c] w0
  (fun e w'=>∃r:Option Nat,e=.returned (.map r)/\∃m c1 c2,r=some m/\fc id w' m (AT c c1 c2)/\ai w' c1 [vp<|some c] 239/\ai w' c2 [vp<|some p] 91/\m≠c1.block/\m≠c2.block/\w0.heap.size<=m/\w0.heap.size<=c1.block/\w0.heap.size<=c2.block/\Pure w0 w'):=by
 refine Ry _ w0 _ ?_
 intro b w1 n1
 have E1:Pure w0 w1:=ab.aw n1
 have I:=ai.bh n1
 refine⟨some c,I.bd,c,rfl,some p,(hC.pure E1).box.bd,?_⟩
 intro a w2 n2
 have W:Pure w1 w2:=ab.aw n2
 have E:=ai.bh n2
 refine⟨E.ia Sm,?_⟩
 intro j f
 have F:ab (·=a.block) w2 j:=by rw[f];exact ab.setCell a _
 have J:ai j a [vp<|some p] 91:=by rw[f];exact E.jb
 clear f
 have z1:=n1.cu
 have z2:=n2.cu
 have s1:=E1.size
 have s2:=W.size
 have s3:=F.size
 have l1:=I.lt
 have l2:=E.lt
 have g:=(I.pure W).ext F (show ¬b.block=a.block by omega)
 have L:Pure w0 j:=(E1.trans W).ak Om F
 intro d w4 n4
 have l:Pure j w4:=ab.aw n4
 have z4:=n4.cu
 have M0:fc id w4 d.block []:=fc.bh n4
 have put:∀{w:World} {M:List (Int×Value)} (k:Int) (v:Value),fc id w d.block M->SE.eu M k=none->∃w',(Instr.mapUpdate 242 (.map<|some d.block) (vi k) v).run prog w=.ok () w'/\fc id w' d.block (M++[(k,v)])/\ab (·=d.block) w w':=fun k v h hn=>h.put (P:=prog) (T:=242) (K:=3) underlying242 underlying3 hn v
 have⟨w5,r5,M5,X5⟩:=put 0 (.func (.func 223) #[] #[vp<|some b]) M0 rfl
 refine⟨w5,r5,?_⟩
 have⟨w6,r6,M6,X6⟩:=put 1 (.func (.func 224) #[] #[vp<|some a]) M5 rfl
 refine⟨w6,r6,?_⟩
 have⟨w7,r7,M7,X7⟩:=put 2 (.func (.func 226) #[] #[vp<|some a]) M6 rfl
 refine⟨w7,r7,?_⟩
 have⟨w8,r8,M8,X8⟩:=put 3 (.func (.func 228) #[] #[vp<|some a]) M7 rfl
 refine⟨w8,r8,?_⟩
 have⟨w9,r9,M9,X9⟩:=put 4 (.func (.func 230) #[] #[vp<|some b,vp<|some a]) M8 rfl
 refine⟨w9,r9,?_⟩
 have⟨H,x,Y,Z⟩:=put 5 (.func (.func 233) #[] #[vp<|some b,vp<|some a]) M9 rfl
 refine⟨H,x,?_⟩
 have⟨A,V,B,y⟩:=put 6 (.func (.func 235) #[] #[vp<|some b]) Y rfl
 refine⟨A,V,?_⟩
 have⟨i,O,M12,q⟩:=put 7 (.func (.func 237) #[] #[vp<|some b]) B rfl
 have X4:ab (·=d.block) w4 i:=((((((X5.trans X6).trans X7).trans X8).trans X9).trans Z).trans y).trans q
 have n:=(g.pure l).ext X4 (show ¬b.block=d.block by omega)
 refine⟨i,O,some c,n.bd,?_⟩
 have⟨t,S,M13,Q⟩:=put 8 (.func (.func 238) #[vp<|some c] #[]) M12 rfl
 refine⟨t,S,?_⟩
 have⟨w14,r14,U,N⟩:=put 9 (.func (.func 239) #[] #[vp<|some b,vp<|some a]) M13 rfl
 refine⟨w14,r14,?_⟩
 have⟨C,r15,s,z⟩:=put 10 (.func (.func 242) #[] #[vp<|some b,vp<|some a]) U rfl
 refine⟨C,r15,?_⟩
 have⟨R,o,u,D⟩:=put 11 (.func (.func 246) #[] #[vp<|some b,vp<|some a]) s rfl
 have X:=((X4.trans Q).trans N).trans<|z.trans D
 refine⟨R,o,d.block,b,a,rfl,u,(g.pure l).ext X<|show ¬b.block=d.block by omega,(J.pure l).ext X<|show ¬a.block=d.block by omega,Om,Om,Om,Om,Om,(L.trans l).ak Om X⟩
structure rE(w0:World)(H:NP)(w:World)(c p c1 c2:Addr)(m:Nat)(sg sm:Sl)(G M:List Int)(L:av)(F F1:NP):Prop where
 ck:rD w c p sg sm G M
 mp:fc id w m (AT c c1 c2)
 b1:ai w c1 [vp<|some c] 239
 b2:ai w c2 [vp<|some p] 91
 bj:zD w p L F1
 fr:ab F w0 w
 hs:af w0 H w H w
 oP:∀b,F1 b->(F b\/w0.heap.size<=b)/\¬H b
 oc:w0.heap.size<=c.block/\¬H c.block/\¬F1 c.block
 o1:w0.heap.size<=c1.block/\¬H c1.block/\¬F1 c1.block/\c1.block≠c.block
 o2:w0.heap.size<=c2.block/\¬H c2.block/\¬F1 c2.block/\c2.block≠c.block
 om:w0.heap.size<=m/\¬H m/\¬F1 m/\m≠c.block
 og:∀b,sg.ao b->w0.heap.size<=b/\¬H b/\¬F1 b/\b≠c.block
 os:∀b,sm.ao b->w0.heap.size<=b/\¬H b/\¬F1 b/\b≠c.block/\b≠c1.block/\b≠c2.block/\b≠m/\¬sg.ao b
section
variable {w0 w w':World} {H H':NP} {c p c1 c2:Addr} {m:Nat} {sg sm:Sl} {G M:List Int} {L L':av} {F F1 F2:NP}
def rE.aq(h:rE w0 H w c p c1 c2 m sg sm G M L F F1)(hs:af w0 H w H' w'):rE w0 H' w' c p c1 c2 m sg sm G M L F F1:=by
 have xc:=hs.ja (G:=fun b=>Il c sg sm b) fun b a=>⟨h.ck.lt a,by rcases a with rfl|a|a;exact h.oc.2.1;exact(h.og b a).2.1;exact(h.os b a).2.1⟩;have d:=hs.ja (G:=F1) fun b a=>⟨h.bj.lt a,(h.oP b a).2⟩;have f:=hs.ja (G:=(·=c1.block)) (fun b a=>by subst a;exact⟨h.b1.lt,h.o1.2.1⟩) _ rfl;have e:=hs.ja (G:=(·=c2.block)) (fun b a=>by subst a;exact⟨h.b2.lt,h.o2.2.1⟩) _ rfl;have g:=hs.ja (G:=(·=m)) (fun b a=>by subst a;exact⟨h.mp.lt,h.om.2.1⟩) _ rfl;exact⟨h.ck.ext hs.ext xc,h.mp.ext hs.ext g,h.b1.ext hs.ext f,h.b2.ext hs.ext e,h.bj.ext hs.ext d,h.fr.aq hs,hs.fi,fun b a=>⟨(h.oP b a).1,d b a⟩,⟨h.oc.1,xc _<|.inl rfl,h.oc.2.2⟩,⟨h.o1.1,f,h.o1.2.2⟩,⟨h.o2.1,e,h.o2.2.2⟩,⟨h.om.1,g,h.om.2.2⟩,
  fun b a=>⟨(h.og b a).1,xc b<|.inr<|.inl a,(h.og b a).2.2⟩,fun b a=>⟨(h.os b a).1,xc b<|.inr<|.inr a,(h.os b a).2.2⟩⟩
def rE.ax(h:rE w0 H w c p c1 c2 m sg sm G M L F F1)(hP:zD w' p L' F2)(E:ab F1 w w')(e:∀b,F2 b->F1 b\/w.heap.size<=b):aj H w w'/\rE w0 H w' c p c1 c2 m sg sm G M L' F F2:=by
 have d:aj H w w':=E.bl fun b a f=>(h.oP b f).2 a;have z:w0.heap.size<=w.heap.size:=h.fr.size;have nf:∀b,b<w.heap.size->¬F1 b->¬F2 b:=fun b a h1 h2=>(e b h2).elim h1 fun h3=>Om;refine⟨d,h.ck.ext E fun b a=>by rcases a with rfl|a|a;exact h.oc.2.2;exact(h.og b a).2.2.1;exact(h.os b a).2.2.1,h.mp.ext E h.om.2.2.1,h.b1.ext E h.o1.2.2.1,h.b2.ext E h.o2.2.2.1,hP,?_,h.hs.gi d,fun b a=>?_,⟨h.oc.1,h.oc.2.1,nf _ h.ck.box.lt h.oc.2.2⟩,⟨h.o1.1,h.o1.2.1,nf _ h.b1.lt h.o1.2.2.1,h.o1.2.2.2⟩,⟨h.o2.1,h.o2.2.1,nf _ h.b2.lt h.o2.2.2.1,h.o2.2.2.2⟩,⟨h.om.1,h.om.2.1,nf _ h.mp.lt h.om.2.2.1,h.om.2.2.2⟩,
  fun b a=>⟨(h.og b a).1,(h.og b a).2.1,nf _ (h.ck.jo.lt a) (h.og b a).2.2.1,(h.og b a).2.2.2⟩,fun b a=>⟨(h.os b a).1,(h.os b a).2.1,nf _ (h.ck.ou.lt a) (h.os b a).2.2.1,(h.os b a).2.2.2⟩⟩
 exact h.fr.cg E fun i hi a=>(h.oP i a).1.elim id fun h=>Om;rcases e b a with h1|h1;exact h.oP b h1;exact⟨.inr Om,fun hh=>Oh<|h.hs.lt b hh⟩
def rE.gn(h:rE w0 H w c p c1 c2 m sg sm G M L F F1){t q w1}(s:au w (.cells #[vi t] 73) q w1)(hn:M.length<=1000000):∃s1 j,(Builtin.append_ #[46,46] 46 #[sm.v,(Sl.mk (some q) 1 1).v]).run prog w1=.ok s1.v j/\aj H w1 j/\zL j (c.add 2) /\
  rE w0 H (j.setCell (c.add 2) s1.v) c p c1 c2 m sg s1 G (M++[t]) L F F1:=by
 have d:Pure w w1:=ab.aw s
 have⟨s1,j,hr,u,f,a⟩:=(h.ck.ou.pure d).append (P:=prog) (ty:=46) (c:=1) te (r:=[vi t]) (ai.bh s).row rfl rfl (by rw[vA];omega) (by rw[vA];simp[maxLen];omega)
 have o:aj H w1 j:=f.bl fun b a hs=>(h.os b hs).2.1 a
 have k:=(h.ck.box.pure d).ext f fun hs=>(h.os _ hs).2.2.2.1 rfl
 have x:=d.size
 have y:=f.size
 have z:w0.heap.size<=w.heap.size:=h.fr.size
 have g:=ab.setCell (w:=j) (c.add 2) s1.v
 rw[zC]at g
 have n:∀b,s1.ao b->w0.heap.size<=b/\¬H b/\¬F1 b/\b≠c.block/\b≠c1.block/\b≠c2.block/\b≠m/\¬sg.ao b:=fun b l=>by
  rcases a b l with h1|h1;exact h.os b h1;have a0:=h.ck.box.lt;have a1:=h.b1.lt;have a2:=h.b2.lt;have a3:=h.mp.lt;exact⟨Om,fun hh=>Oh<|h.hs.lt b hh,fun hh=>Oh<|h.bj.lt hh,Om,Om,Om,Om,fun hh=>Oh<|h.ck.jo.lt hh⟩
 refine⟨s1,j,hr,o,k.ee Sm,⟨k.set 2 s1.v,((h.ck.jo.pure d).ext f fun b a hs=>(h.os b hs).2.2.2.2.2.2.2 a).ext g fun b a e=>(h.og b a).2.2.2 e,?_⟩,((h.mp.pure d).ext f fun hs=>(h.os _ hs).2.2.2.2.2.2.1 rfl).ext g h.om.2.2.2,((h.b1.pure d).ext f fun hs=>(h.os _ hs).2.2.2.2.1 rfl).ext g h.o1.2.2.2,((h.b2.pure d).ext f fun hs=>(h.os _ hs).2.2.2.2.2.1 rfl).ext g h.o2.2.2.2,
  ((h.bj.pure d).ext f fun b a hs=>(h.os b hs).2.2.1 a).ext g fun b a e=>h.oc.2.2<|e▸a,?_,(h.hs.gi<|d.bo).gi o |>.gi (g.bl fun b a e=>h.oc.2.1<|e▸a),h.oP,h.oc,h.o1,h.o2,h.om,h.og,n⟩
 rw[show bz (M++[t])=bz M++[[vi t]] by simp[bz]]
 exact u.ext g Gd
 exact((h.fr.fb d).cg f fun i hi hs=>Oh<|(h.os i hs).1).cg g fun i hi e=>Oh h.oc.1
end
structure LM(w0:World)(p:Addr)(F:NP)(R:List Int×Int×av)(s:Sl)(r2:Int)(w':World):Prop where
 cm:r2=R.2.1
 bj:∃F',zD w' p R.2.2 F'/\(∀b,F' b->F b\/w0.heap.size<=b)/\∀b,s.ao b->¬F' b
 cj:bf w' 73 1 s (bz R.1)
 ak:∀b,s.ao b->w0.heap.size<=b
 fr:ab F w0 w'
def rE.done{w0 w H c p c1 c2 m sg sm G M L F F1}(h:rE w0 H w c p c1 c2 m sg sm G M L F F1){R:List Int×Int×av}{e}(d:R=(M,e,L)):LM w0 p F R sm e w:=by
 subst d;exact⟨rfl,⟨F1,h.bj,fun b a=>(h.oP b a).1,fun b a=>(h.os b a).2.2.1⟩,h.ck.ou,fun b a=>(h.os b a).1,h.fr⟩
def jQV{Sl0:NP}(p k:Addr)(sl:Sl)(l:List Op)(w0:World){L:av}{G:List Int}{S:List gx}{F FK:NP}(hW:Wf L)(hP:zD w0 p L F)(hK:qJ w0 k p G S FK)(hl:dn Sl0 w0 5 sl (l.map pn))(hS0:∀b,Sl0 b->b<w0.heap.size/\¬ F b)(hG:G.length<=1000000)(hn:l.length<=1000):
  cl 108 #[vp<|some p,vp<|some k,sl.v] w0<|XM fun s r2 w'=>LM w0 p F (vC L G [] l) s r2 w':=by
 refine Se _ _ _ w0 _ ?_
 refine(Nj k p w0 hK hG).mono ?_
 rintro _ w1 ⟨sg,rfl,u⟩
 refine⟨sg,rfl,u.bl,?_⟩
 intro c w2 n2
 have E2:Pure w1 w2:=ab.aw n2
 have B2:=ai.bh n2
 have A:∀b,¬Sl.nil.ao b:=fun b i=>by have⟨a,h,_⟩:=i;cases h
 have C2:rD w2 c p sg Sl.nil G []:=⟨B2,u.cj.pure E2,bf.nil _ _ _⟩
 refine(jLL C2).mono ?_
 rintro _ w3 ⟨_,rfl,m,c1,c2,rfl,hM,hb1,U,hm1,hm2,z1,z2,z3,K⟩
 refine⟨_,rfl,K.bo,?_⟩
 have r:Pure w0 w3:=(u.pure.trans E2).trans K
 have q0:=u.pure.size
 have q1:=n2.cu
 have q2:=E2.size
 have q3:=K.size
 have q4:=B2.lt
 have R3:rE w0 ar w3 c p c1 c2 m sg Sl.nil G [] L F F:=by
  refine⟨C2.pure K,hM,hb1,U,hP.pure r,r.pure,(af.start w0).gi r.bo,fun b i=>⟨.inl i,fun h=>h⟩,⟨Om,fun h=>h,fun h=>Oh<|hP.lt h⟩,⟨Om,fun h=>h,fun h=>Oh<|hP.lt h,Om⟩,⟨Om,fun h=>h,fun h=>Oh<|hP.lt h,Om⟩,⟨Om,fun h=>h,fun h=>Oh<|hP.lt h,Om⟩,fun b i=>⟨u.ak b i,fun h=>h,fun h=>Oi (hP.lt h)<|u.ak b i,?_⟩,fun b i=>(A b i).elim⟩;have:=u.cj.lt i;omega
 refine⟨fun x H w=>∃(j:Nat) (M:List Int) (z:av) (sm:Sl) (F1:NP),x=j/\j<=l.length/\M.length=j/\Wf z/\vC L G [] l=vC z G M (l.drop j)/\rE w0 H w c p c1 c2 m sg sm G M z F F1,fun x _=>((l.length:Int)-x).toNat,⟨0,[],L,Sl.nil,F,rfl,Nat.zero_le _,rfl,hW,rfl,R3⟩,?_⟩
 rintro _ H w _ ⟨j,M,z,sm,F1,rfl,hj,W,E,d,R⟩
 unfold JY
 have J:sl.len=l.length:=by rw[hl.len];simp
 refine⟨fun h=>?_,fun h=>?_⟩
 have e:=vW J h
 have⟨a,hat,V,B⟩:=hl.mm e
 have ur:Row w a (pn l[j]):=R.fr.row B (hS0 _ V).2
 refine⟨a,hat,l[j].code,l[j].a,l[j].b,l[j].num,l[j].ba,ur,?_⟩
 intro H1 w5 Y
 have g:=R.aq Y
 rw[JV e]at d
 have I:=E.ok
 have n:=YW g.ck g.b1.bd g.b2.bd g.bj I g.o2.2.2.1 l[j]
 generalize l[j]=o at *
 rcases g.mp.get (P:=prog) (T:=242) underlying242 underlying3 (zeroValue245 _) o.code true with⟨X,Q⟩|⟨v,X,Q⟩
 refine⟨_,_,Q,Br.t rfl ⟨sm,g.ck.box.cell rfl,?_⟩⟩
 rw[n.1 X]at d
 exact g.done d
 obtain⟨f1,fs,cs,rfl,hf,hc⟩:=n.2 v X
 refine⟨_,_,Q,Br.f rfl ⟨f1,fs,cs,rfl,hf,?_⟩⟩
 refine hc.mono ?_
 rintro _ w6 ⟨r3,r4,rfl,hr,F2,N,X2,Z⟩
 have⟨k6,y⟩:=g.ax N X2 Z
 have C:=u6 E G M o
 generalize qZ z G M o=D at *
 have⟨d1,d2,L2⟩:=D
 simp only[Prod.mk.injEq]at hr
 obtain⟨rfl,rfl⟩:=hr
 simp only at d y C
 refine⟨_,_,rfl,k6,fun h=>?_,fun h=>?_⟩
 rw[if_pos<|by simpa using h]at d
 exact⟨sm,y.ck.box.cell rfl,y.done d⟩
 rw[if_neg<|by simpa using h]at d
 refine⟨sm,y.ck.box.cell rfl,?_⟩
 intro q w7 n7
 have⟨s1,w8,O,k8,cw,R9⟩:=y.gn n7 Om
 refine⟨s1,w8,O,k8,cw,by rw[zC];exact y.oc.2.1,?_⟩
 rintro _ rfl
 rw[zN e Om]
 exact⟨⟨j+1,M++[_],L2,s1,F2,rfl,e,by simp[W],C,d,R9⟩,yY e⟩
 have hge:=yJ J hj h
 subst hge
 refine⟨sm,R.ck.box.cell rfl,R.done ?_⟩
 rw[d,drop_length];rfl
def UE{p k sl n}(h:sl.len=n):AX (some p) (some k) sl=(if n>256 then 6 else if n=0 then 3 else 0):=by
 unfold AX;rw[h];simp only[Option.isNone_some,Bool.or_self,cond_false];by_cases h1:n>256;grind;grind
abbrev Qs(w0:World)(p:Addr)(F:NP)(R:Int×Int×Int×av)(r1 r2 r3:Int)(w':World):Prop:=(r1,r2,r3)=(R.1,R.2.1,R.2.2.1)/\∃F',zD w' p R.2.2.2 F'/\ab F w0 w'/\∀b,F' b->F b\/w0.heap.size<=b
section
variable {Sl0:NP} (p k:Addr) (sl:Sl) (l:List Op) (w0:World) {L:av} {G:List Int} {S:List gx} {F FK:NP} (hW:Wf L) (hP:zD w0 p L F) (hK:qJ w0 k p G S FK) (hl:dn Sl0 w0 5 sl (l.map pn)) (hS0:∀b,Sl0 b->b<w0.heap.size/\¬F b) (hG:G.length<=1000000) (hn:l.length<=1000)
include hW hP hK hl hS0 hG hn
def jOF:cl 52 #[vp<|some p,vp<|some k,sl.v] w0 (XJ fun r1 r2 r3 w'=>Qs w0 p F (zM L G l) r1 r2 r3 w'):=by
 refine ZU _ _ _ w0 (Qs w0 p F<|zM L G l) ?_;unfold LD;have y:sl.len=l.length:=by rw[hl.len];simp
 rw[UE y];unfold zM;by_cases h1:l.length>256
 .rw[if_pos h1,if_pos h1];exact Br.t rfl fun w d=>⟨rfl,F,hP.pure d.first,d.first.pure,fun b i=>.inl i⟩
 rw[if_neg h1,if_neg h1];by_cases h2:l.length=0
 .rw[if_pos h2,if_pos h2];exact Br.t rfl fun w d=>⟨rfl,F,hP.pure d.first,d.first.pure,fun b i=>.inl i⟩
 rw[if_neg h2,if_neg h2];refine Br.f rfl fun w d=>?_;have j:=d.first;refine(jQV p k sl l w hW (hP.pure j) (hK.pure j) (hl.pure j) (fun b i=>⟨Oi ((hS0 b i).1) j.size,(hS0 b i).2⟩) hG hn).mono ?_;rintro _ C ⟨s,r2,rfl,D⟩;have⟨z,⟨F',n,u,H⟩,c,A,X⟩:=D;refine⟨s,r2,rfl,X.bl fun b i=>i.elim,?_⟩;have g:=BO G l L [];have m:∃F',zD C p (vC L G [] l).2.2 F'/\ab F w0 C/\∀b,F' b->F b\/w0.heap.size<=b:=⟨F',n,j.pure.trans X,fun b i=>(u b i).imp_right fun h=>Oh j.size⟩;generalize vC L G [] l=R at *;have⟨M,e,J⟩:=R;simp only at z c g m n;subst z;simp only[length_nil,Nat.zero_add]at g;have r:s.len=M.length:=by rw[c.len,vA]
 refine⟨fun h=>?_,fun h=>?_⟩
 .grind
 .have B:r2=0:=by simpa using h
  rw[if_neg<|by simpa using B];have q:=g.2 B;have o:M≠[]:=fun e=>by rw[e]at q;simp at q;omega
  rw[show IntKind.i64.wrap ((s.len:Int)-1)=(((l.length-1:Nat)):Int) by rw[r,q,IntWalk.i64_in _ Om];omega];have x:ej M ((l.length-1:Nat):Int)=some (M.getLast o):=by
   rw[uh Om Om];simp[getLast_eq_getElem,q]
  have⟨a,E,I⟩:=AU c x;refine⟨a,E,_,I,?_,m⟩;rw[getLast?_eq_some_getLast o];rfl
end
end Go.Proofs
end
section
namespace Go.Proofs
def CG(L G M o):(qZ L G M o).2.2.length<=L.length+1:=
 CV (fun r=>r.2.2.length<=L.length+1) (fun _ _=>Nat.le_succ _) (fun n=>Kv L n) G M o
def OD(G):∀(l:List Op) (L:av) (M:List Int),(vC L G M l).2.2.length<=L.length+l.length
 |[],_,_=>Nat.le_refl _
 |o :: os,L,M=>by
  rw[List.length_cons];have:=CG L G M o;unfold vC;split;grind;have:=OD G os (qZ L G M o).2.2<|M++[(qZ L G M o).1];omega
end Go.Proofs
end
section
open Go Go.SE List
namespace Go.Proofs
structure Rl(L M:av)(s t:Int):Prop where
 l:al L s=true
 m:al M t=true
 e:zA L s=zA M t
structure NR(L M:av)(n m:df):Prop where
 k:n.kind=m.kind
 f:n.ay=m.ay
 t:n.to=m.to
 u:n.num=m.num
 x:n.ba=m.ba
 a:n.a=0/\m.a=0\/Rl L M n.a m.a
 b:n.b=0/\m.b=0\/Rl L M n.b m.b
structure LR(L M:av)(A B:List Int):Prop where
 l:∀a∈A,al L a=true
 m:∀b∈B,al M b=true
 e:A.map (zA L)=B.map (zA M)
def EC(L):al L 0=false:=Bool.eq_false_iff.2 fun h=>Oh<|(zI.1 h).1
section
variable {L M X Y:av} {n m:df} {s t:Int} {A B G K:List Int} (hL:Wf L) (hM:Wf M)
def Rl.gn(h:Rl L M s t)(a:Wf (L++X))(b:Wf (M++Y)):Rl (L++X) (M++Y) s t:=
 ⟨uF h.l,uF h.m,by rw[uL a _ s rfl h.l,uL b _ t rfl h.m,h.e]⟩
def LR.gn(h:LR L M A B)(f:Wf (L++X))(g:Wf (M++Y)):LR (L++X) (M++Y) A B:=
 ⟨fun a c=>uF<|h.l a c,fun b d=>uF<|h.m b d,by
  rw[map_congr_left fun a c=>uL f _ a rfl (h.l a c),map_congr_left fun b d=>uL g _ b rfl (h.m b d),h.e]⟩
def LR.sd(h:LR L M A B)(r:Rl L M s t):LR L M (A++[s]) (B++[t]):=
 ⟨fun a c=>by rcases mem_append.1 c with c|c;exact h.l a c;simp at c;rw[c];exact r.l,
 fun b d=>by rcases mem_append.1 d with d|d;exact h.m b d;simp at d;rw[d];exact r.m,by simp[h.e,r.e]⟩
def LR.len(h:LR L M A B):A.length=B.length:=by have:=congrArg List.length h.e;simpa using this
def LR.at_(h:LR L M A B){i}(a:i<A.length)(b:i<B.length):Rl L M A[i] B[i]:=
 ⟨h.l _<|getElem_mem a,h.m _<|getElem_mem b,by
  have:=congrArg (fun l=>l[i]?) h.e;simpa[a,b]using this⟩
def LR.nil:LR L M [] []:=⟨Sm,Sm,rfl⟩
def LR.ej(h:LR L M A B)(i):(ej A i=none/\ej B i=none)\/∃a b,ej A i=some a/\ej B i=some b/\Rl L M a b:=by
 have d:=h.len;by_cases c:0<=i/\i.toNat<A.length;exact .inr ⟨_,_,uh c.1 c.2,uh c.1 Om,h.at_ c.2 Om⟩;exact .inl ⟨uw Om,uw Om⟩
include hL hM in
def LR.ic(h:LR L M G K)(r:Rl L M s t):LR L M (ic G s) (ic K t):=by
 have:s∈G↔t∈K:=by
  constructor;intro hs;obtain⟨i,hi,rfl⟩:=getElem_of_mem hs;have a:i<K.length:=Oh h.len;have r2:=h.at_ hi a;rw[yI hM _ t K[i] rfl r.m r2.m (r.e.symm.trans r2.e)];exact getElem_mem a;intro ht;obtain⟨i,hi,rfl⟩:=getElem_of_mem ht;have a:i<G.length:=Oh h.len;have r2:=h.at_ a hi;rw[yI hL _ s G[i] rfl r.l r2.l (r.e.trans r2.e.symm)];exact getElem_mem a
 unfold Proofs.ic;by_cases hs:s∈G;grind;rw[if_neg hs,if_neg fun h=>hs<|this.2 h];exact h.sd r
def NR.zero:NR L M xC xC:=⟨rfl,rfl,rfl,rfl,rfl,.inl ⟨rfl,rfl⟩,.inl ⟨rfl,rfl⟩⟩
include hL hM
def Rl.node(r:Rl L M s t):NR L M (ad L s) (ad M t):=by
 have⟨k,f,b,u,x,a⟩:=zo hL hM r.l r.m r.e;have⟨_,a1,a2,_,a3,_⟩:=hL.node r.l;have⟨_,b1,b2,_,b3,_⟩:=hM.node r.m;unfold zB at a a3 b3;rw[<-k]at a b1 b2 b3;refine⟨k,f,b,u,x,?_,?_⟩
 all_goals rcases qV (ad L s).kind with e|e|e<;>rw[e]at a a1 a2 a3 b1 b2 b3<;>simp at a a1 a2 a3 b1 b2 b3
 .exact .inl ⟨a1,b1⟩
 .exact .inr ⟨a3.1,b3.1,a⟩
 .exact .inr ⟨a3.1.1,b3.1.1,a.1⟩
 .exact .inl ⟨a2,b2⟩
 .exact .inl ⟨a2,b2⟩
 .exact .inr ⟨a3.2.1,b3.2.1,a.2⟩
def LR.el(h:LR L M A B)(i):NR L M (el L A i) (el M B i):=by
 unfold Proofs.el;rcases h.ej i with⟨d,c⟩|⟨a,b,d,c,r⟩;rw[d,c];exact NR.zero;rw[d,c];exact r.node hL hM
omit hL hM in
def NR.kids{α:Type}{φ ψ:Int->α}(r:NR L M n m)(c:φ n.a=ψ m.a)(d:φ n.b=ψ m.b):(zB n).map φ=(zB m).map ψ:=by
 unfold zB;rw[map_take,map_take,r.k];simp[c,d]
def NR.eh(r:NR L M n m):eh L n=eh M m:=by
 have c:∀{a b:Int},a=0/\b=0\/Rl L M a b->(a !=0)=(b !=0)/\al L a=al M b/\sizeOf L a=sizeOf M b/\cz L a=cz M b:=fun {a b} h=>by
  rcases h with⟨rfl,rfl⟩|r;have h1:=EC L;have h2:=EC M;refine⟨rfl,h1.trans h2.symm,?_,?_⟩;unfold sizeOf;rw[yR h1,yR h2];unfold cz;rw[yR h1,yR h2];have h1:=(zI.1 r.l).1;have h2:=(zI.1 r.m).1;have⟨q1,q2⟩:=Mc hL hM _ a b rfl r.l r.m r.e;exact⟨by rw[bne_iff_ne.2 Om,bne_iff_ne.2 Om],r.l.trans r.m.symm,q1,q2⟩
 have⟨a1,a2,a3,a4⟩:=c r.a;have⟨b1,b2,b3,b4⟩:=c r.b;have s:=r.kids a2 b2;have i:=r.kids a3 b3;have q:=r.kids a4 b4;have j:zO n=zO m:=by unfold zO;rw[r.k,r.f,r.t,r.u,r.x]
 have g:zR (bk m.kind) n=zR (bk m.kind) m:=by unfold zR;rw[r.f,r.t,r.x]
 have o:∀(l:List Int) (P:av),l.any (fun t=>!al P t)=(l.map<|al P).any (!·):=fun l P=>by rw[any_map];rfl
 have p:∀(l:List Int) (P:av),l.foldl (fun d k=>max d<|cz P k) 0=(l.map<|cz P).foldl max 0:=fun l P=>by rw[foldl_map]
 unfold Proofs.eh;simp only[o,p,s,i,q,j,g,a1,b1,r.k]
omit hL hM in
def JH(a:(Proofs.eh L n).2.2=0)(b:L.length<65536):(ax L n).2.1=0:=by
 unfold ax;simp only;rw[if_neg<|by simpa using a];split;rfl;rw[if_neg Om]
def RS(r1 r2:pU):Prop:=r1.2.1=r2.2.1/\(r1.2.1=0->Rl r1.2.2 r2.2.2 r1.1 r2.1)
def NR.ax(r:NR L M n m)(o:L.length<65536)(l:M.length<65536):RS (ax L n) (ax M m):=by
 have g:=r.eh hL hM;by_cases h:(Proofs.eh L n).2.2=0;have h1:=JH h o;have h2:=JH (g▸h) l;refine⟨h1.trans h2.symm,fun _=>?_⟩;have⟨a1,a2,_⟩:=uU h1;have⟨b1,b2,_⟩:=uU h2;have c:=uQ hL n;have d:=uQ hM m;refine⟨a1,b1,?_⟩;rw[zX c a1,zX d b1,a2,b2,r.k,r.f,r.t,r.u,r.x];congr 1;have⟨X,p⟩:=yG L n;have⟨Y,i⟩:=yG M m;rw[p]at c|-;rw[i]at d|-;have key:∀{a b:Int},a=0/\b=0\/Rl L M a b->zA (L++X) a=zA (M++Y) b:=fun {a b} h=>by
  rcases h with⟨rfl,rfl⟩|r;rw[Ha<|EC _,Ha<|EC _];exact(r.gn c d).e
 exact r.kids (key r.a)<|key r.b;have h1:Proofs.ax L n=(0,(Proofs.eh L n).2.2,L):=by unfold Proofs.ax;simp only;rw[if_pos h]
 have h2:Proofs.ax M m=(0,(Proofs.eh L n).2.2,M):=by unfold Proofs.ax;simp only;rw[<-g,if_pos h]
 rw[h1,h2];exact⟨rfl,fun j=>absurd j h⟩
omit hL hM in
def RS.no:RS (j9 L) (j9 M):=⟨rfl,fun h=>by simp[j9]at h⟩
def Qp(y:LR L M G K)(i:LR L M A B)(o)(n:L.length<65536)(m:M.length<65536):RS (qZ L G A o) (qZ M K B o):=by
 have z:∀{x:Int},(x=0/\x=0\/Rl L M x x)\/x≠0:=fun {x}=>by by_cases h:x=0;exact .inl<|.inl ⟨h,h⟩;exact .inr h
 have key:∀mk:Int->Int->df,(∀k a b,Rl L M a b->NR L M (mk k a) (mk k b))->RS (vQ L A o mk) (vQ M B o mk):=fun mk t=>by
  unfold vQ;have g:=i.el hL hM o.b;rcases i.ej o.a with⟨c,d⟩|⟨a,b,c,d,r⟩;rw[c,d];exact RS.no;rw[c,d];simp only;rw[g.k,g.f];split;exact(t _ a b r).ax hL hM n m;exact RS.no
 have j:∀s,RS (yB L A o s)<|yB M B o s:=fun s=>by
  unfold yB;have g:=i.el hL hM o.a;rw[g.k];split;rename_i p;refine⟨rfl,fun _=>?_⟩;have e:(Proofs.el L A o.a).kind=4:=g.k.trans p;have:∃a b,ej A o.a=some a/\ej B o.a=some b/\Rl L M a b:=by
   rcases i.ej o.a with⟨c,d⟩|h;rw[xA c]at e;simp[xC]at e;exact h
  have⟨a,b,c,d,r⟩:=this;have q:Proofs.el L A o.a=ad L a:=by unfold Proofs.el;rw[c]
  have u:Proofs.el M B o.a=ad M b:=by unfold Proofs.el;rw[d]
  rw[q]at g e|-;rw[u]at g p|-;have ka:=wI hL r.l e;have v:=(zI.1 ka.1.1).1;have E:=(zI.1 ka.2.1).1;cases s;exact g.a.resolve_left fun h=>Om;exact g.b.resolve_left fun h=>Om;exact RS.no
 rcases(show o.code=0\/o.code=1\/o.code=2\/o.code=3\/o.code=4\/o.code=5\/o.code=6\/o.code=7\/o.code=8\/o.code=9\/o.code=10\/o.code=11\/(o.code<0\/11<o.code) by omega)with h|h|h|h|h|h|h|h|h|h|h|h|h;rw[Dx h,Dx h];unfold uR;rcases y.ej o.a with⟨c,d⟩|⟨a,b,c,d,r⟩<;>rw[c,d];exact RS.no;exact⟨rfl,fun _=>r⟩;rw[Fv h,Fv h];exact NR.ax hL hM ⟨rfl,rfl,rfl,rfl,rfl,.inl ⟨rfl,rfl⟩,.inl ⟨rfl,rfl⟩⟩ n m;rw[DE h,DE h];exact NR.ax hL hM ⟨rfl,rfl,rfl,rfl,rfl,.inl ⟨rfl,rfl⟩,.inl ⟨rfl,rfl⟩⟩ n m;rw[Fh h,Fh h];exact NR.ax hL hM ⟨rfl,rfl,rfl,rfl,rfl,.inl ⟨rfl,rfl⟩,.inl ⟨rfl,rfl⟩⟩ n m;rw[zb h,zb h];unfold rV;rcases i.ej o.a with⟨c,d⟩|⟨a,b,c,d,r⟩<;>rw[c,d];exact RS.no;simp only;rcases i.ej o.b with⟨c,d⟩|⟨D,C,c,d,w⟩<;>rw[c,d];exact RS.no;exact NR.ax hL hM ⟨rfl,rfl,rfl,rfl,rfl,.inr r,.inr w⟩ n m;rw[Cc h,Cc h];unfold sP;rcases i.ej o.a with⟨c,d⟩|⟨a,b,c,d,r⟩<;>rw[c,d];exact RS.no;exact NR.ax hL hM ⟨rfl,rfl,rfl,rfl,rfl,.inr r,.inl ⟨rfl,rfl⟩⟩ n m;rw[Bm h,Bm h];exact j false;rw[Bl h,Bl h];exact j true;rw[As h,As h];unfold xI;have g:=i.el hL hM o.a;rw[g.k];split;rename_i p;refine⟨rfl,fun _=>?_⟩;have e:qP (Proofs.el L A o.a).kind=true:=by rw[g.k];exact p
 have:∃a b,ej A o.a=some a/\ej B o.a=some b/\Rl L M a b:=by
  rcases i.ej o.a with⟨c,d⟩|h;rw[xA c]at e;cases e;exact h
 have⟨a,b,c,d,r⟩:=this;have q:Proofs.el L A o.a=ad L a:=by unfold Proofs.el;rw[c]
 have u:Proofs.el M B o.a=ad M b:=by unfold Proofs.el;rw[d]
 rw[q]at g e|-;rw[u]at g p|-;have v:=(zI.1 (zh hL r.l e).1).1;exact g.a.resolve_left fun h=>Om;exact RS.no;rw[AH h,AH h];exact key _ fun k a b r=>⟨rfl,rfl,rfl,rfl,rfl,.inr r,.inl ⟨rfl,rfl⟩⟩;rw[y9 h,y9 h];exact key _ fun k a b r=>⟨rfl,rfl,rfl,rfl,rfl,.inr r,.inl ⟨rfl,rfl⟩⟩;rw[ze h,ze h];exact key _ fun k a b r=>⟨rfl,rfl,rfl,rfl,rfl,.inr r,.inl ⟨rfl,rfl⟩⟩;rw[Bk h,Bk h];exact RS.no
end
def QE(q):∀(l:List Int) (L:av) (ak:Int->Int),(zT q l L ak).1.length<=L.length+l.length
 |[],L,_=>Nat.le_refl _
 |z :: l,L,ak=>by
  obtain⟨x,e,c,hm⟩:∃x e c,ax L { ad q z with a:=ak (ad q z).a,b:=ak (ad q z).b }=(x,e,c):=⟨_,_,_,rfl⟩;have h1:=Fy L { ad q z with a:=ak (ad q z).a,b:=ak (ad q z).b };rw[hm]at h1;rw[qG q z l L ak rfl hm,length_cons];simp only at h1;split;simp only;omega;have:=QE q l c fun y=>if y=z then x else ak y;omega
def Ii:∀(l:List Op) {L M:av} {G K A B:List Int},Wf L->Wf M->LR L M G K->LR L M A B->L.length+l.length<=65536->M.length+l.length<=65536 ->
  (vC L G A l).2.1=(vC M K B l).2.1/\(vC L G A l).1.length=(vC M K B l).1.length/\LR (vC L G A l).2.2 (vC M K B l).2.2 G K/\((vC L G A l).2.1=0->LR (vC L G A l).2.2 (vC M K B l).2.2 (vC L G A l).1 (vC M K B l).1)
 |[],_,_,_,_,_,_,_,_,f,a,_,_=>⟨rfl,a.len,f,fun _=>a⟩
 |o :: l,L,M,G,K,A,B,hL,hM,f,a,n,m=>by
  rw[length_cons]at n m;have⟨e,r⟩:=Qp hL hM f a o Om Om;have p:=CG L G A o;have q:=CG M K B o;have b:=u6 hL G A o;have c:=u6 hM K B o;have⟨X,k⟩:=tW L G A o;have⟨Y,j⟩:=tW M K B o;have d:LR (qZ L G A o).2.2 (qZ M K B o).2.2 G K:=by rw[k]at b|-;rw[j]at c|-;exact f.gn b c
  have g:LR (qZ L G A o).2.2 (qZ M K B o).2.2 A B:=by rw[k]at b|-;rw[j]at c|-;exact a.gn b c
  unfold vC;rw[<-e];split;rename_i i;exact⟨rfl,a.len,d,fun h=>absurd h i⟩;rename_i i;exact Ii l b c d (g.sd<|r<|Classical.byContradiction i) Om Om
section
variable {L M:av} {s t:Int} {G K:List Int} (hL:Wf L) (hM:Wf M)
include hL hM
def IK(h:LR L M G K)(l)(k:L.length+l.length<=65536)(j:M.length+l.length<=65536):
  (zM L G l).2.1=(zM M K l).2.1/\(zM L G l).2.2.1=(zM M K l).2.2.1/\LR (zM L G l).2.2.2 (zM M K l).2.2.2 G K/\((zM L G l).2.1=0->Rl (zM L G l).2.2.2 (zM M K l).2.2.2 (zM L G l).1 (zM M K l).1):=by
 have⟨f,c,g,b⟩:=Ii l hL hM h LR.nil k j
 have d:=BO G l L []
 unfold zM
 by_cases h1:l.length>256
 grind
 rw[if_neg h1,if_neg h1]
 by_cases h2:l.length=0
 grind
 rw[if_neg h2,if_neg h2,<-f]
 by_cases h3:(vC L G [] l).2.1≠0
 grind
 rw[if_neg h3,if_neg h3]
 have h3:=Classical.byContradiction h3
 have e:=b h3
 have a:=d.2 h3
 rw[length_nil,Nat.zero_add]at a
 refine⟨rfl,rfl,g,fun _=>?_⟩
 simp only
 generalize (vC L G [] l).1=A at *
 generalize (vC M K [] l).1=B at *
 have hB:B.length=l.length:=by rw[<-c,a]
 rw[getLast?_eq_getElem?,getLast?_eq_getElem?,getElem?_eq_getElem Om,getElem?_eq_getElem Om]
 simp only[Option.getD_some]
 have:=e.at_ (i:=A.length-1) Om Om
 simpa[a,hB]using this
def ZX(r:Rl L M s t):iv L s=iv M t:=by
 unfold iv;rw[if_pos r.l,if_pos r.m,FI hL hM r.l r.m r.e]
omit hM in
def Al{q}(a:Wf q){t}(ht:al q t=true)(e:L.length+q.length<=65536):(vI L q t).2.1=0/\(vI L q t).2.2.length<=L.length+q.length:=by
 have d:=uW a t;have b:=QE q (dc q t) L fun _=>0;rcases D9 a (dc q t) [] L (fun _=>0) (Cp.start hL) (fun z c=>xH a c) (xJ a t)with⟨h,_⟩|⟨_,h⟩;unfold vI;rw[if_pos ht];simp only;rw[if_neg (by rw[h];simp)];exact⟨rfl,Sy⟩;exact absurd Om h
end
def Ks(n):1<=(vF n).length:=by rw[vF];split<;>simp
def WG(n a b f):1<=(bq.bytes n a b f).length:=by
 cases f<;>first|exact Ks _|(show 1<=(vV n.ba).length;unfold vV;rw[length_append];have:=Ks n.ba.size;omega)
def Sv{L}(c:Wf L)(seen){t}(ht:al L t=true):2<=(yF L seen t).length:=by
 have g:=xx c ht;have d:∃f l,qN (ad L t).kind=f ::l:=by
  unfold qN;rcases(show(ad L t).kind=1\/(ad L t).kind=2\/(ad L t).kind=3\/(ad L t).kind=4\/(ad L t).kind=5\/(ad L t).kind=6\/(ad L t).kind=7\/(ad L t).kind=8\/(ad L t).kind=9 by omega)with e|e|e|e|e|e|e|e|e<;>rw[e]<;>exact⟨_,_,rfl⟩
 have⟨f,l,e⟩:=d;have:=WG (ad L t) (c9 seen (ad L t).a) (c9 seen (ad L t).b) f;unfold yF;rw[e,flatMap_cons,length_cons,length_append];omega
def JE{L}(a:Wf L):∀(l seen:List Int),(∀t∈l,al L t=true)->2*l.length<=(fv L seen l).length
 |[],_,_=>Sm
 |t :: l,seen,h=>by
  have h1:=Sv a seen<|h t Sm;have h2:=JE a l (seen++[t]) Gd;rw[fv,length_append,length_cons];omega
def Dz{bs q}(h:(vB bs).1=some q):2*q.length<=bs.length:=by
 unfold vB at h;split at h;cases h;split at h;cases h;have⟨b,_,_,c,_⟩:=Lf bs.length [] ⟨0,0,0⟩ [] q Wf.nil yP.nil rfl rfl (Nat.zero_le _) (Nat.le_refl _) (by simp[lv,fv]) h;have:=JE b (lv q.length) [] fun z a=>zI.2<|FC.1 a;rw[<-c,Ek]at this;exact this
section
variable {L M:av} (hL:Wf L) (hM:Wf M)
include hL
def WO(bs)(d:2*L.length+bs.length<=131072):2*(yM L bs).2.2.2.length<=2*L.length+bs.length:=by
 unfold yM;split;simp only;omega;rename_i q a;have h2:=Dz a;have⟨c,_,b,_,_⟩:=xB a;have:=(Al hL c b Om).2;simp only;omega
include hM
def YB(bs)(j:2*L.length+bs.length<=131072)(i:2*M.length+bs.length<=131072):(yM L bs).2.1=(yM M bs).2.1/\((yM L bs).2.1=0->Rl (yM L bs).2.2.2 (yM M bs).2.2.2 (yM L bs).1 (yM M bs).1):=by
 unfold yM;split;rename_i e;exact⟨rfl,fun h=>absurd h<|xQ e⟩;rename_i q e;have h2:=Dz e;have⟨d,_,c,_,_⟩:=xB e;have a:=(Al hL d c Om).1;have b:=(Al hM d c Om).1;refine⟨a.trans b.symm,fun _=>?_⟩;have⟨_,f,g⟩:=xZ hL d c a;have⟨_,d2,d3⟩:=xZ hM d c b;exact⟨f,d2,g.trans d3.symm⟩
end
def Ik{L n}(e:zO n=0)(f:(bk n.kind).kids<1->n.a=0)(i:(bk n.kind).kids<2->n.b=0)(c:zR (bk n.kind) n=0)(g:∀k∈zB n,al L k=true):
  eh L n=if 1+((zB n).map<|sizeOf L).sum>4096\/(zB n).foldl (fun d t=>max d<|cz L t) 0+1>64 then(0,0,52)else(1+((zB n).map<|sizeOf L).sum,(zB n).foldl (fun d t=>max d<|cz L t) 0+1,0):=by
 unfold eh
 simp only
 rw[if_neg<|by simp[e],if_neg fun h=>?_,if_neg<|by simp[c],if_neg fun h=>?_]
 grind
 grind
def jbY{L n}(x:Wf L)(z:L.length<65536)(w:zO n=0)(s:(bk n.kind).kids<1->n.a=0)(y:(bk n.kind).kids<2->n.b=0)(v:zR (bk n.kind) n=0)(f:∀k∈zB n,al L k=true){sz d}(hs:1+((zB n).map<|sizeOf L).sum=sz)(p:(zB n).foldl (fun d t=>max d<|cz L t) 0+1=d):
  ((sz>4096\/d>64)->(ax L n).2.1=52)/\(¬(sz>4096\/d>64)->∃r M,ax L n=(r,0,L++M)/\al (L++M) r=true/\ad (L++M) r=n/\Wf (L++M)/\sizeOf (L++M) r=sz/\cz (L++M) r=d/\(L++M).length<=L.length+1):=by
 have g:=Ik w s y v f
 rw[hs,p]at g
 refine⟨fun h=>?_,fun h=>?_⟩
 rw[if_pos h]at g
 unfold ax;simp only[g];rfl
 rw[if_neg h]at g
 have q:(ax L n).2.1=0:=by
  unfold ax;simp only[g];rw[if_neg Sm];split;rfl;rw[if_neg Om]
 have⟨M,e⟩:=yG L n
 have⟨j,m,_⟩:=uU q
 have i:=uQ x n
 have c:=Kv L n
 rw[e]at j m i c
 refine⟨(ax L n).1,M,by rw[<-e,<-q],j,m,i,?_,?_,c⟩
 rw[(i.node j).2.2.2.2.2.1,m,<-hs]
 congr 2
 exact map_congr_left fun k o=>I0<|f k o
 rw[(i.node j).2.2.2.2.2.2,m,<-p]
 congr 1
 have:∀(l:List Int) (d:Int),(∀k∈l,al L k=true)->l.foldl (fun d k=>max d<|cz (L++M) k) d=l.foldl (fun d k=>max d<|cz L k) d:=by
  intro l;induction l with
  |nil=>intro d _;rfl
  |cons a l u=>intro d hh;simp only[foldl_cons];rw[Jg<|hh a Sm];exact u _ fun k f=>hh k (by simp[f])
 exact this _ _ f
def AQ{L}(a:Wf L){t}(ht:al L t=true):ax L (ad L t)=(t,0,L):=by
 have⟨h1,h2,h3,g,f,e,d⟩:=a.node ht;have c:=Ik h1 h2 h3 g fun k h=>(f k h).1;rw[<-e,<-d]at c;obtain⟨i,hi,rfl⟩:=si ht;have j:=a.ok.size L[i]<|getElem_mem hi;have l:=a.ok.depth L[i]<|getElem_mem hi;have n:sizeOf L ((i:Int)+1)=L[i].size:=by simp[sizeOf,wS hi]
 have m:cz L ((i:Int)+1)=L[i].depth:=by simp[cz,wS hi]
 rw[if_neg Om]at c;have b:find L (ad L<|(i:Int)+1)=some i:=by rw[qL hi];exact Go.Proofs.D5 a.ok<|getElem?_eq_getElem hi
 unfold ax;simp only[c,b];rw[if_neg Sm]
def Jv(k):(bk k).kids=0\/(bk k).kids=1\/(bk k).kids=2:=by
 unfold bk sw
 repeat' split
 all_goals simp
def zEA{L}(g:Wf L):∀(m:Nat) (t:Int),t.toNat=m->al L t=true->grow L (zA L t)=(t,0,L):=by
 intro m;induction m using Nat.strongRecOn with
 |_ m q =>
 intro t hm ht;have c:=AQ g ht;have⟨h1,h2,h3,v,s,p,o⟩:=g.node ht;have i:=(zI.1 ht).1;have fl:∀k∈zB (ad L t),grow L (zA L k)=(k,0,L):=fun k w=>Gd;rw[zX g ht,grow];generalize ad L t=n at *;have⟨k,f,r,u,x,a,b⟩:=n;unfold zB at fl|-;simp only at *;rcases Jv k with h|h|h;rw[h]at fl|-;have l:=h2 Om;have d:=h3 Om;subst l;subst d;simpa[zZ]using c;rw[h]at fl|-;have d:=h3 Om;subst d;have e:=fl a Sm;simpa[zZ,e]using c;rw[h]at fl|-;have e:=fl a Sm;have j:=fl b Sm;simpa[zZ,e,j]using c
structure LP(T:bt)(sz d:Int):Prop where
 s1:1<=sz
 d1:1<=d
 u9:∀i s,0<=i->0<=s->s+sz<=4096->i+d<=64->qM i s T=(0,s+sz)
 no:∀i s,0<=i->0<=s->(4096<s+sz\/64<i+d)->(qM i s T).1=52
def Ld{k f t u x}(h:yT ⟨k,f,t,u,x,0,0⟩ 0=0):LP (.mk k f t u x []) 1 1:=by
 refine⟨Om,Om,fun i s hi hs h1 h2=>?_,fun i s hi hs h1=>?_⟩;rw[qM,if_neg Om,if_neg Om];simp[vK,h];rw[qM];split;rfl;rw[if_pos Om]
def Jz{k f t u x A sa da}(h:yT ⟨k,f,t,u,x,0,0⟩ 1=0)(a:LP A sa da):LP (.mk k f t u x [A]) (1+sa) (da+1):=by
 have a1:=a.s1;have a2:=a.d1;refine⟨Om,Om,fun i s hi hs h1 h2=>?_,fun i s hi hs h1=>?_⟩;rw[qM,if_neg Om,if_neg Om];simp only[length_cons,length_nil,vK,h,if_pos,a.u9 (i+1) (s+1) Om Om Om Om];simp;omega;rw[qM];split;rfl;split;rfl;simp only[length_cons,length_nil,vK,h,if_pos];simpa using a.no (i+1) (s+1) Om Om Om
def NA{k f t u x A B sa da sb db}(h:yT ⟨k,f,t,u,x,0,0⟩ 2=0)(a:LP A sa da)(hB:LP B sb db):LP (.mk k f t u x [A,B]) (1+(sa+sb)) (max da db+1):=by
 have a1:=a.s1;have a2:=a.d1;have b1:=hB.s1;have b2:=hB.d1;refine⟨Om,Om,fun i s hi hs h1 h2=>?_,fun i s hi hs h1=>?_⟩;rw[qM,if_neg Om,if_neg Om];simp only[length_cons,length_nil,vK,h,if_pos,a.u9 (i+1) (s+1) Om Om Om Om,hB.u9 (i+1) (s+1+sa) Om Om Om Om];simp;omega;rw[qM];split;rfl;split;rfl;simp only[length_cons,length_nil,vK,h,if_pos];by_cases b:s+1+sa<=4096/\i+1+da<=64;rw[a.u9 (i+1) (s+1) Om Om b.1 b.2];simpa using hB.no (i+1) (s+1+sa) Om Om Om;have:=a.no (i+1) (s+1) Om Om Om;rw[this];simp
def jZZ{L}(g:Wf L):∀(m:Nat) (t:Int),t.toNat=m->al L t=true->LP (zA L t) (sizeOf L t) (cz L t):=by
 intro m;induction m using Nat.strongRecOn with
 |_ m s =>
 intro t hm ht;have⟨h1,h2,h3,q,w,p,j⟩:=g.node ht;have d:=(zI.1 ht).1;have fl:∀k∈zB (ad L t),LP (zA L k) (sizeOf L k)<|cz L k:=fun k y=>Gd;have ak:∀len:Nat,(len:Int)=(bk (ad L t).kind).kids->yT ⟨(ad L t).kind,(ad L t).ay,(ad L t).to,(ad L t).num,(ad L t).ba,0,0⟩ len=0:=fun len o=>by
  have r:zO ⟨(ad L t).kind,(ad L t).ay,(ad L t).to,(ad L t).num,(ad L t).ba,0,0⟩=0:=h1;have l:zR (bk (ad L t).kind) ⟨(ad L t).kind,(ad L t).ay,(ad L t).to,(ad L t).num,(ad L t).ba,0,0⟩=0:=q;unfold yT;simp only[r];simp[o,l]
 rw[zX g ht,p,j];generalize ad L t=n at *;have⟨k,f,v,u,x,a,b⟩:=n;unfold zB at fl|-;simp only at *;rcases Jv k with h|h|h;rw[h];simpa using Ld (ak 0 Om);rw[h]at fl|-;have c:=fl a Sm;have:=Jz (ak 1 Om) c;have e:=c.d1;simpa[Int.max_eq_right<|show 0<=cz L a by omega]using this;rw[h]at fl|-;have c:=fl a Sm;have i:=fl b Sm;have:=NA (ak 2 Om) c i;have e:=c.d1;simpa[Int.max_eq_right<|show 0<=cz L a by omega]using this
end Go.Proofs
end
section
namespace Go.Proofs
def yg{L t k}(h:(vE L t k).2=false):al L t=true/\(ad L t).kind=k/\vE L t k=(ad L t,false):=by
 unfold vE at h|-;split at h;grind;cases h
section
variable {L:av} (hW:Wf L) {t:Int} (ht:al L t=true)
include hW ht
def Rc:(ad L t).ba.size<=64:=by
 have:=(hW.node ht).2.2.2.1;unfold zR at this;split at this;cases this;split at this;cases this;omega
def Pe(a:(ad L t).kind=3):zA L t=yN (ad L t).ba:=by
 have h:=(hW.node ht).1;rw[zX hW ht,a,yN];have b:zB (ad L t)=[]:=by unfold zB;rw[a];rfl
 rw[b];unfold zO at h;rw[a]at h;simp[bk,oh]at h;simp[h]
def LU(a:(ad L t).kind=2):zA L t=jz (ad L t).num:=by
 have h:=(hW.node ht).1;rw[zX hW ht,a,jz];have b:zB (ad L t)=[]:=by unfold zB;rw[a];rfl
 rw[b];unfold zO at h;rw[a]at h;simp[bk,oh]at h;simp[h]
def IL(e:(ad L t).kind=4):al L (ad L t).a=true/\al L (ad L t).b=true/\zA L t=uT (zA L (ad L t).a) (zA L (ad L t).b):=by
 have h:=(hW.node ht).1;have d:=(hW.node ht).2.2.2.2.1;have c:zB (ad L t)=[(ad L t).a,(ad L t).b]:=by unfold zB;rw[e];rfl
 rw[c]at d;refine⟨(d _ Sm).1,(d _ Sm).1,?_⟩;rw[zX hW ht,e,uT,c];unfold zO at h;rw[e]at h;simp[bk,oh]at h;simp[h]
def nd7(c:(ad L t).kind=7):al L (ad L t).a=true/\0<=(ad L t).ay/\zA L t=xE (ad L t).ay (zA L (ad L t).a):=by
 have h:=(hW.node ht).1;have d:=(hW.node ht).2.2.2.1;have e:=(hW.node ht).2.2.2.2.1;have b:zB (ad L t)=[(ad L t).a]:=by unfold zB;rw[c];rfl
 rw[b]at e;refine⟨(e _ Sm).1,?_,?_⟩;unfold zR at d;rw[c]at d;split at d;cases d;rename_i hh;simp[bk,rp]at hh;omega;rw[zX hW ht,c,xE,b];unfold zO at h;rw[c]at h;simp[bk,oh]at h;simp[h]
def jbL(b:(ad L t).kind=8\/(ad L t).kind=9):al L (ad L t).a=true/\0<=(ad L t).ay/\(ad L t).ay<16/\((ad L t).to=1-(ad L t).ay->zA L t=uX (ad L t).ay (zA L (ad L t).a) ((ad L t).kind==9)):=by
 have h:=(hW.node ht).1;have e:=(hW.node ht).2.2.2.1;have g:=(hW.node ht).2.2.2.2.1;have d:zB (ad L t)=[(ad L t).a]:=by unfold zB;rcases b with b|b<;>(rw[b];rfl)
 rw[d]at g;have c:0<=(ad L t).ay/\(ad L t).ay<16:=by
  unfold zR at e;rcases b with b|b <;>
  .rw[b]at e;split at e
   .cases e
   .rename_i hh;simp[bk,rp]at hh;omega
 refine⟨(g _ Sm).1,c.1,c.2,fun f=>?_⟩;rw[zX hW ht,uX,d,<-f];unfold zO at h;rcases b with b|b <;>
 .rw[b]at h|-;simp[bk,oh]at h;simp[h]
end
def Uz{n}(h:0<=n/\n<16):IntKind.i64.wrap (1-n)=1-n:=IntWalk.i64_in _ Om
section
variable {L:av} (hW:Wf L) {t:Int}
include hW
def xR(h:(zY L t).2=false):al L t=true/\al L (zY L t).1.2=true/\zA L t=uT (yN (zY L t).1.1) (zA L (zY L t).1.2):=by
 unfold zY at h|-;simp only[Bool.or_eq_false_iff]at h;have⟨ht,e,d⟩:=yg h.1;rw[d]at h|-;simp only at h|-;have⟨c,a,b⟩:=yg h.2;rw[b];have⟨_,h2,h3⟩:=IL hW ht e;exact⟨ht,h2,by rw[h3,Pe hW c a]⟩
def Hi(h:(qE L t).2=false):al L t=true/\zA L t=yD (qE L t).1.1 (qE L t).1.2/\(qE L t).1.2.size<=64:=by
 unfold qE at h|-;simp only[Bool.or_eq_false_iff,Bool.not_eq_false',decide_eq_true_eq]at h;have⟨⟨⟨⟨h1,h2⟩,h3⟩,c⟩,b⟩:=h;have⟨ht,_,e⟩:=xR hW h1;have⟨l,f,j⟩:=yg h2;simp only at h3|-;rw[j]at c b|-;simp only at c b|-;have⟨k,a,i⟩:=yg c;have⟨g,d,m⟩:=yg b;rw[i,m];refine⟨ht,?_,Rc hW g⟩;rw[e,h3,(IL hW l f).2.2,LU hW k a,Pe hW g d];rfl
def Iq(h:(vE L t 2).2=false):al L t=true/\zA L t=jz (vE L t 2).1.num:=by
 have⟨h1,h2,e⟩:=yg h;rw[e];exact⟨h1,LU hW h1 h2⟩
def FW(ht:al L t=true)(h:(zQ L t).2=false):(zQ L t).1.kind=1/\((zQ L t).1.ay=0\/(zQ L t).1.ay=1)/\zA L t=uX (zQ L t).1.ay (yD (zQ L t).1.c (zQ L t).1.ba) (zQ L t).1.dz/\(zQ L t).1.ba.size<=64:=by
 unfold zQ at h|-;simp only at h|-;split at h;cases h;rename_i hh;rw[if_neg hh];simp only[not_or,not_and,Classical.not_not]at hh;have i:(ad L t).kind=8\/(ad L t).kind=9:=Gd;have⟨j,f,b,d⟩:=jbL hW ht i;have a:=hh.2.2;rw[Uz ⟨f,b⟩]at a;have⟨_,e,g⟩:=Hi hW h;simp only;refine⟨trivial,Oh hh.2.1,by rw[d a,e],g⟩
end
def AD(x:bt)(l:eo):Prop:=qF l=0/\∃a b:Bool,(l.kind=4->l.dz=(a ||b))/\x=zU l a b
def OQ{k f c x g}(h:qF ⟨k,f,c,x,g⟩=0):(k=1\/k=2\/k=3\/k=4\/k=5\/k=6\/k=7)/\(f=0\/f=1)/\(vN k=false->f=0)/\(qK k=false->x=⟨#[]⟩)/\(g=true->k=1\/k=4)/\x.size<=64:=by
 unfold qF at h;simp only at h;split at h;cases h;rename_i hh;split at h;cases h;simp only[not_or,not_and,Classical.not_not]at hh;have⟨h1,h2,h3,a,b,d⟩:=hh;refine⟨Om,?_,a,b,?_,Om⟩;grind;grind
def xK{k f c x g}(e:1<=k/\k<=7)(b:f=0\/f=1)(h1:vN k=false->f=0)(h2:qK k=false->x=⟨#[]⟩)(h3:g=true->k=1\/k=4)(h:x.size<=64):qF ⟨k,f,c,x,g⟩=0:=by
 unfold qF;simp only;rw[if_neg,if_neg Om];simp only[not_or,not_and,Classical.not_not];refine⟨Om,Om,fun d=>b.resolve_left d,h1,h2,fun a h1=>(h3 a).resolve_left h1⟩
section
variable {L:av} (hW:Wf L) {t:Int}
include hW
def TQ{who}(h:(qH L who t).2=false):∃c x a b,(qH L who t).1=⟨4,who,c,x,a ||b⟩/\x.size<=64/\zA L t=uT (uX 0 (yD c x) a) (uX 1 (yD c x) b):=by
 unfold qH at h|-;simp only[Bool.or_eq_false_iff,Bool.not_eq_false',decide_eq_true_eq,bne_eq_false_iff_eq]at h;have⟨⟨⟨⟨⟨⟨h1,h2⟩,h3⟩,i⟩,g⟩,f⟩,d⟩:=h;have⟨ht,m,e⟩:=yg h1;simp only;rw[e]at h2 h3 i g f d|-;simp only at h2 h3 i g f d|-;have⟨j,p,k⟩:=IL hW ht m;have⟨_,_,n,o⟩:=FW hW j h2;have⟨_,_,l,_⟩:=FW hW p h3;refine⟨_,_,_,_,rfl,o,?_⟩;rw[k,n,l,i,g,f,d]
def jSK{who}(o:0<=who)(h:(yQ L who t).2=false):AD (xE who<|zA L t) (yQ L who t).1:=by
 unfold yQ at h|-;simp only at h|-;by_cases j:(zY L t).1.1=qj/\who=0;rw[if_pos j]at h|-;simp only[Bool.or_eq_false_iff]at h;have⟨ht,l,e⟩:=xR hW h.1;show AD _ ⟨3,0,_,⟨#[]⟩,false⟩;refine⟨xK Om (.inl rfl) (fun _=>rfl) (fun _=>rfl) (fun h=>nomatch h)<|Nat.zero_le _,false,false,Sm,?_⟩;rw[e,j.1,j.2,(Iq hW h.2).2];rfl;rw[if_neg j]at h|-;by_cases g:(zY L t).1.1=yX/\who=2;rw[if_pos g]at h|-;simp only[Bool.or_eq_false_iff]at h;have⟨ht,l,e⟩:=xR hW h.1;show AD _ ⟨5,0,_,⟨#[]⟩,false⟩;refine⟨xK Om (.inl rfl) (fun _=>rfl) (fun _=>rfl) (fun h=>nomatch h)<|Nat.zero_le _,false,false,Sm,?_⟩;rw[e,g.1,g.2,(Iq hW h.2).2];rfl;rw[if_neg g]at h|-;by_cases i:(zY L t).1.1=uK/\who=2;rw[if_pos i]at h|-;simp only[Bool.or_eq_false_iff]at h;have⟨ht,l,e⟩:=xR hW h.1;have⟨_,d,f⟩:=Hi hW h.2;refine⟨xK Om (.inl rfl) (fun _=>rfl) (by simp[qK]) Sm f,false,false,Sm,?_⟩;rw[e,i.1,i.2,d];rfl;rw[if_neg i]at h|-;by_cases m:(zY L t).1.1=qe/\who<=1;rw[if_pos m]at h|-;simp only[Bool.or_eq_false_iff]at h;have⟨_,d,f⟩:=Hi hW h.2;refine⟨xK Om Om (by simp[vN]) (by simp[qK,vN]) Sm f,false,false,Sm,?_⟩;rw[d];rfl;rw[if_neg m]at h|-;by_cases k:(zY L t).1.1=uJ/\who<=1;rw[if_pos k]at h|-;simp only[Bool.or_eq_false_iff]at h;have⟨ht,l,e⟩:=xR hW h.1;have⟨c,x,a,b,d,f,n⟩:=TQ hW h.2;rw[d];refine⟨xK Om Om (by simp[vN]) (by simp[qK,vN]) Sm f,a,b,Sm,?_⟩;rw[e,k.1,n];cases a<;>cases b<;>rfl;rw[if_neg k]at h;cases h
def Wb(ht:al L t=true)(h:(ui L t).2=false):AD (zA L t) (ui L t).1:=by
 unfold ui at h|-;simp only at h|-;by_cases d:(ad L t).kind=7;rw[if_pos d]at h|-;have⟨h1,h2,h3⟩:=nd7 hW ht d;rw[h3];exact jSK hW h2 h;rw[if_neg d]at h|-;by_cases i:(ad L t).kind=8\/(ad L t).kind=9;rw[if_pos i]at h|-;have⟨h1,h2,h3,j⟩:=FW hW ht h;generalize zQ L t=r at *;have⟨⟨k,f,c,x,g⟩,b⟩:=r;simp only at h1 h2 h3 j|-;subst h1;exact⟨xK Om h2 (by simp[vN]) (by simp[qK,vN]) Sm j,false,false,Sm,h3⟩;rw[if_neg i]at h|-;split at h;cases h;rename_i a;rw[if_neg a];simp only[Bool.or_eq_true,Bool.not_eq_true',decide_eq_false_iff_not,not_or,Classical.not_not,Bool.not_eq_true]at a;have⟨_,l,e⟩:=xR hW a.1;show AD _ ⟨7,0,_,⟨#[]⟩,false⟩;refine⟨xK Om (.inl rfl) (fun _=>rfl) (fun _=>rfl) (fun h=>nomatch h)<|Nat.zero_le _,false,false,Sm,?_⟩;rw[e,a.2,(Iq hW h).2];rfl
end
end Go.Proofs
end
section
open Go Go.SE List
namespace Go.Proofs
def YL{L}(a:Wf L){t}(ht:al L t=true):of L (zA L t)=(t,0,L):=by
 have h:=jZZ a _ t rfl ht;obtain⟨i,hi,rfl⟩:=si ht;have b:=a.ok.size L[i]<|getElem_mem hi;have c:=a.ok.depth L[i]<|getElem_mem hi;have e:sizeOf L ((i:Int)+1)=L[i].size:=by simp[sizeOf,wS hi]
 have d:cz L ((i:Int)+1)=L[i].depth:=by simp[cz,wS hi]
 have:=h.u9 0 0 Om Om Om Om;unfold of;rw[this,if_neg Sm,zEA a _ _ rfl ht];simp
end Go.Proofs
end
section
open Go Go.SE
namespace Go.Proofs
inductive In(T:bt):bt->Prop
 |refl:In T T
 |fst {f t u:Int} {x:ByteArray} {a b:bt}:In T (.mk 4 f t u x [a,b])->In T a
 |snd {f t u:Int} {x:ByteArray} {a b:bt}:In T (.mk 4 f t u x [a,b])->In T b
 |wP {k f t u:Int} {x:ByteArray} {a:bt}:qP k=true->In T (.mk k f t u x [a])->In T a
def In.trans{T y z}(h:In T y)(h2:In y z):In T z:=by
 induction h2 with
 |refl=>exact h
 |fst _ a=>exact .fst a
 |snd _ a=>exact .snd a
 |wP b _ a=>exact .wP b a
def bt.kd:bt->Int|.mk k _ _ _ _ _=>k
def Lo(y:bt):Prop:=∀z,In y z->z.kd≠7/\z.kd≠6
def QF{T}(j:∀f t u x a b,T=.mk 4 f t u x [a,b]->Lo a/\Lo b)(i:∀k f t u x a,T=.mk k f t u x [a]->Lo a){y}(h:In T y):y=T\/Lo y:=by
 induction h with
 |refl=>exact .inl rfl
 |fst _ c =>
  rcases c with e|e
  grind
  exact .inr fun z d=>e z<|(In.fst .refl).trans d
 |snd _ c =>
  rcases c with e|e
  grind
  exact .inr fun z d=>e z<|(In.snd .refl).trans d
 |wP g _ c =>
  rcases c with e|e
  grind
  exact .inr fun z d=>e z<|(In.wP g .refl).trans d
def Ex{T}(c:T.kd≠7/\T.kd≠6)(g:∀f t u x a b,T=.mk 4 f t u x [a,b]->Lo a/\Lo b)(e:∀k f t u x a,T=.mk k f t u x [a]->Lo a):Lo T:=fun z d=>by
 rcases QF g e d with rfl|h;exact c;exact h z .refl
def yd(x):Lo (yN x):=Ex ⟨by simp[yN,bt.kd],by simp[yN,bt.kd]⟩ (fun _ _ _ _ _ _ h=>by simp[yN]at h) (fun _ _ _ _ _ _ h=>by simp[yN]at h)
def DU(c):Lo (jz c):=Ex ⟨by simp[jz,bt.kd],by simp[jz,bt.kd]⟩ (fun _ _ _ _ _ _ h=>by simp[jz]at h) (fun _ _ _ _ _ _ h=>by simp[jz]at h)
def vo{a b}(c:Lo a)(d:Lo b):Lo (uT a b):=Ex ⟨by simp[uT,bt.kd],by simp[uT,bt.kd]⟩ (fun _ _ _ _ _ _ h=>by simp[uT]at h;obtain⟨_,_,_,_,rfl,rfl⟩:=h;exact⟨c,d⟩) (fun _ _ _ _ _ _ h=>by simp[uT]at h)
def HF{n a g}(b:Lo a):Lo (uX n a g):=Ex ⟨by cases g<;>simp[uX,bt.kd],by cases g<;>simp[uX,bt.kd]⟩ (fun _ _ _ _ _ _ h=>by simp[uX]at h) (fun _ _ _ _ _ _ h=>by simp[uX]at h;obtain⟨_,_,_,_,_,rfl⟩:=h;exact b)
def AZ(c x):Lo (yD c x):=vo (yd _)<|vo (DU _)<|yd _
def Cr{n a y}(b:Lo a)(h:In (xE n a) y):y=xE n a\/Lo y:=QF (fun _ _ _ _ _ _ h=>by simp[xE]at h) (fun _ _ _ _ _ _ h=>by simp[xE]at h;obtain⟨_,_,_,_,_,rfl⟩:=h;exact b) h
def zAH(l a b){y}(h:In (zU l a b) y):y=zU l a b\/Lo y:=by
 unfold zU at h|-;split at h;rename_i e;rw[if_pos e];exact .inr fun z c=>HF (AZ _ _) z<|h.trans c;rename_i e;rw[if_neg e];split at h;rename_i e;rw[if_pos e];exact Cr (AZ _ _) h;rename_i e;rw[if_neg e];split at h;rename_i e;rw[if_pos e];exact Cr (vo (yd _)<|DU _) h;rename_i e;rw[if_neg e];split at h;rename_i e;rw[if_pos e];exact Cr (vo (yd _)<|vo (HF<|AZ _ _)<|HF<|AZ _ _) h;rename_i e;rw[if_neg e];split at h;rename_i e;rw[if_pos e];exact Cr (vo (yd _)<|DU _) h;rename_i e;rw[if_neg e];split at h;rename_i e;rw[if_pos e];exact Cr (vo (yd _)<|AZ _ _) h;rename_i e;rw[if_neg e];exact .inr fun z c=>vo (yd _) (DU _) z<|h.trans c
def nj(n:Int):bt:=.mk 6 n 0 0 ⟨#[]⟩ []
def Nh{L G}(i:Wf L)(k:∀g∈G,al L g=true){t}(h:mg L G t):al L t=true/\∃g∈G,In (zA L g)<|zA L t:=by
 induction h with
 |pI d=>exact⟨k _ d,_,d,.refl⟩
 |AJ _ e j =>
  rename_i r u t _
  have⟨f,g,d,hi⟩:=j
  refine⟨(e.gm i f).1,g,d,?_⟩
  rw[zX i f]at hi
  rcases e with⟨_,c,rfl⟩|⟨_,c,rfl⟩|⟨_,c,rfl⟩
  rw[c,show zB (ad L u)=[(ad L u).a,(ad L u).b] by simp[zB,c,bk]]at hi
  exact .fst hi
  rw[c,show zB (ad L u)=[(ad L u).a,(ad L u).b] by simp[zB,c,bk]]at hi
  exact .snd hi
  rw[show zB (ad L u)=[(ad L u).a] by
   simp only[qP,Bool.or_eq_true,beq_iff_eq]at c;rcases c with(c|c)|c<;>simp[zB,c,bk]]at hi
  exact .wP c hi
def Bo{A M}(a:Wf (A++M)){v}(h:al A v=true):zA (A++M) v=zA A v:=uL a _ v rfl h
def tZ:(vB []).1=none:=by unfold vB;simp
def jSZ{L G}(i:Wf L)(u:yP L){l}(s:qW l.c):
  ∃M,(vS L G (qQ l).1).1=L++M/\Wf (L++M)/\yP (L++M)/\(((vS L G (qQ l).1).2.2=false/\(vS L G (qQ l).1).2.1=G) \/
   ((vS L G (qQ l).1).2.2=true/\qF l=0/\∃t,(vS L G (qQ l).1).2.1=ic G t/\al (L++M) t=true/\zA (L++M) t=zU l true true)):=by
 obtain⟨M,f⟩:=DJ L (qQ l).1
 have r:=CP i (qQ l).1
 have n1:=I4 u (qQ l).1
 rw[f]at r n1
 refine⟨M,?_⟩
 unfold vS
 by_cases a:(yM L (qQ l).1).2.1≠0
 grind
 rw[if_neg a]
 have a:(yM L (qQ l).1).2.1=0:=Classical.byContradiction a
 refine⟨f,r,n1,.inr ⟨rfl,?_⟩⟩
 obtain⟨d1,d2,d3,w⟩:=Rm i a
 by_cases b:(zH [] l).2.1≠0
 have e:(qQ l).1=[]:=by unfold qQ;rw[if_pos b]
 rw[e]at a
 have:(yM L []).2.1=(vB []).2.1:=by unfold yM;rw[tZ]
 rw[this]at a
 exact absurd a<|xQ tZ
 have b:(zH [] l).2.1=0:=Classical.byContradiction b
 have m:qF l=0:=by
  unfold zH at b;split at b;exact b;grind
 have p:zH [] l=of [] (zU l true true):=by unfold zH;rw[if_neg Om]
 obtain⟨g,o,_⟩:=QN Wf.nil (by rw[<-p];exact b)
 have k:=tJ Wf.nil l
 have h:=Bt yP.nil s
 rw[<-p]at g o
 have e:qQ l=iv (zH [] l).2.2 (zH [] l).1:=by unfold qQ;rw[if_neg Om]
 have x:iv (zH [] l).2.2 (zH [] l).1=(qD (zH [] l).2.2 (zH [] l).1,0):=by
  unfold iv;rw[if_pos g];split;rename_i d;exfalso;have:(qQ l).1=[]:=by rw[e];unfold iv;rw[if_pos g,if_pos d]
  rw[this]at a;have:(yM L []).2.1=(vB []).2.1:=by unfold yM;rw[tZ]
  rw[this]at a;exact absurd a<|xQ tZ;rfl
 have n:(qQ l).1=qD (zH [] l).2.2 (zH [] l).1:=by rw[e,x]
 obtain⟨q,q1,q2,q3,q4⟩:=Fx k h g (by rw[<-n];exact w)
 rw[<-n]at q1
 have j:yM L (qQ l).1=((vI L q q.length).1,(vI L q q.length).2.1,0,(vI L q q.length).2.2):=by unfold yM;rw[q1]
 rw[j]at a
 obtain⟨z,y,v⟩:=xZ i q2 q3 a
 rw[j]at f d2
 simp only at f d2
 refine⟨m,(vI L q q.length).1,?_,by rw[<-f];exact d2,by rw[<-f,v,q4,o]⟩
 rw[j];simp only
 exact tV d2
section
variable {L M:av} {G:List Int} {ls:List eo} {K:Int->Prop}
end
end Go.Proofs
end
section
open Go Go.SE List
namespace Go.Proofs
def GH{k f t u x len}(h:yT ⟨k,f,t,u,x,0,0⟩ len=0):zO ⟨k,f,t,u,x,0,0⟩=0/\(len:Int)=(bk k).kids/\zR (bk k) ⟨k,f,t,u,x,0,0⟩=0:=by
 unfold yT at h;simp only at h;by_cases h1:zO ⟨k,f,t,u,x,0,0⟩=0;grind;grind
def DW{L n}(j:Wf L)(p:zO n=0)(m:(bk n.kind).kids<1->n.a=0)(u:(bk n.kind).kids<2->n.b=0)(o:zR (bk n.kind) n=0)(q:∀k∈zB n,al L k=true){sz d}(hs:1+((zB n).map<|sizeOf L).sum=sz)(l:(zB n).foldl (fun d t=>max d<|cz L t) 0+1=d)(h:¬ (sz>4096\/d>64)):
  (∃r M,ax L n=(r,0,L++M)/\al (L++M) r=true/\ad (L++M) r=n/\Wf (L++M)/\sizeOf (L++M) r=sz/\cz (L++M) r=d/\(L++M).length<=L.length+1)\/((ax L n).2.1=6/\65536<=L.length):=by
 by_cases v:L.length<65536
 exact .inl<|(jbY j v p m u o q hs l).2 h
 have g:=Ik p m u o q
 rw[hs,l,if_neg h]at g
 cases c:find L n with
 |none =>
  right
  unfold ax;simp only[g,c]
  rw[if_neg Sm,if_pos Om]
  exact⟨rfl,Om⟩
 |some i =>
  left
  have⟨hi,e⟩:=Bj c
  have hm:ax L n=((i:Int)+1,0,L):=by unfold ax;simp only[g,c];rw[if_neg Sm]
  have f:al L ((i:Int)+1)=true:=zI.2 ⟨Om,Om⟩
  have s:ad L ((i:Int)+1)=n:=by rw[qL hi,e]
  have w:=j.node f
  rw[s]at w
  refine⟨_,[],by rw[hm,append_nil],by rw[append_nil];exact f,by rw[append_nil];exact s,by rw[append_nil];exact j,?_,?_,Sm⟩
  grind
  grind
abbrev Tj(L:av)(T:bt)(sz d:Int)(q:Int×Int×av):Prop:=(∃r M,q=(r,0,L++M)/\al (L++M) r=true/\Wf (L++M)/\sizeOf (L++M) r=sz/\cz (L++M) r=d/\((L++M).length:Int)<=L.length+sz)\/(q.2.1=6/\65536<L.length+sz)
structure GP(T:bt)(sz d:Int):Prop extends LP T sz d where
 BP:∀L,Wf L->sz<=4096->d<=64->Tj L T sz d (grow L T)
def Qe{k f t u x}(h:yT ⟨k,f,t,u,x,0,0⟩ 0=0):GP (.mk k f t u x []) 1 1:=by
 refine⟨Ld h,fun L c h1 h2=>?_⟩;have⟨o1,o2,b⟩:=GH h;have a:zB ⟨k,f,t,u,x,0,0⟩=[]:=by simp[zB,<-o2]
 rw[grow,zZ];rcases DW (n:=⟨k,f,t,u,x,0,0⟩) c o1 (fun _=>rfl) (fun _=>rfl) b (by rw[a];simp) (sz:=1) (d:=1) (by rw[a];rfl) (by rw[a];rfl) Om with⟨r,M,e,i,_,w,s,g,l⟩|⟨e,l⟩;grind;exact .inr ⟨e,Om⟩
def Gj{k f t u x A sa da}(h:yT ⟨k,f,t,u,x,0,0⟩ 1=0)(a:GP A sa da):GP (.mk k f t u x [A]) (1+sa) (da+1):=by
 refine⟨Jz h a.toLP,fun L o h1 h2=>?_⟩;have⟨o1,o2,g⟩:=GH h;have s1:=a.s1;have d1:=a.d1;rw[grow];rcases a.BP L o Om Om with⟨r,M,e,i,w,s,m,l⟩|⟨e,l⟩;rw[zZ,e,if_neg Sm,if_pos rfl,zZ];have b:zB ⟨k,f,t,u,x,r,0⟩=[r]:=by simp[zB,<-o2]
 rcases DW (n:=⟨k,f,t,u,x,r,0⟩) w o1 Gd (fun _=>rfl) g Gd (sz:=1+sa) (d:=da+1) (by rw[b];simp[s]) (by rw[b];simp[m];omega) Om with⟨q,v,c,p,_,w',s',j,l'⟩|⟨c,l'⟩;grind;exact .inr ⟨c,Om⟩;rw[zZ,if_pos (by rw[e];decide)];exact .inr ⟨e,Om⟩
def GP2{k f t u x A B sa da sb db}(h:yT ⟨k,f,t,u,x,0,0⟩ 2=0)(c:GP A sa da)(hB:GP B sb db):GP (.mk k f t u x [A,B]) (1+(sa+sb)) (max da db+1):=by
 refine⟨NA h c.toLP hB.toLP,fun L z h1 h2=>?_⟩;have⟨o1,o2,o⟩:=GH h;have s1:=c.s1;have d1:=c.d1;have G:=hB.s1;have d2:=hB.d1;rw[grow];rcases c.BP L z Om Om with⟨r,M,e,i,w,s,q,l⟩|⟨e,l⟩;rw[zZ,e,if_neg Sm,if_pos rfl];simp only;rcases hB.BP (L++M) w Om Om with⟨r2,D,b,i2,y,j,g,v⟩|⟨b,v⟩;rw[zZ,b,if_neg Sm,if_neg Om,zZ];have a:zB ⟨k,f,t,u,x,r,r2⟩=[r,r2]:=by simp[zB,<-o2]
 rcases DW (n:=⟨k,f,t,u,x,r,r2⟩) y o1 Gd (fun hh=>by simp only at hh;omega) o (by rw[a];intro k a;simp at a;rcases a with rfl|rfl;exact uF i;exact i2) (sz:=1+(sa+sb)) (d:=max da db+1) (by rw[a];simp[-append_assoc,I0 i,s,j]) (by rw[a];simp[-append_assoc,Jg i,q,g];omega) Om with⟨E,F,m,C,_,w',s',p,l'⟩|⟨m,l'⟩;grind;exact .inr ⟨m,Om⟩;rw[zZ,if_pos (by rw[b];decide)];exact .inr ⟨b,Om⟩;rw[zZ,if_pos (by rw[e];decide)];exact .inr ⟨e,Om⟩
def GP.of{T sz d}(h:GP T sz d)(hs:sz<=4096)(a:d<=64){L}(b:Wf L):(Proofs.of L T).2.1=0\/(Proofs.of L T=(0,6,L)/\65536<L.length+sz):=by
 unfold Proofs.of;rw[h.u9 0 0 Om Om Om Om,if_neg Sm];rcases h.BP L b hs a with⟨r,M,e,_⟩|⟨e,l⟩;rw[e];simp;grind
def wD{x}(h:x.size<=64):GP (yN x) 1 1:=Qe (by
 have b:zO ⟨3,0,0,0,x,0,0⟩=0:=Kf;have a:zR (bk 3) ⟨3,0,0,0,x,0,0⟩=0:=by show(if false=true then(50:Int)else if x.size>64 then 1 else 0)=0;rw[if_neg Sm,if_neg Om]
 unfold yT;simp only[b];simpa[bk]using a)
def CT(c):GP (jz c) 1 1:=Qe Kf
def vd{a b sa da sb db}(c:GP a sa da)(d:GP b sb db):GP (uT a b) (1+(sa+sb)) (max da db+1):=GP2 Kf c d
def xd{n}(c:n=0\/n=1\/n=2){a sa da}(b:GP a sa da):GP (xE n a) (1+sa) (da+1):=Gj (by rcases c with rfl|rfl|rfl<;>kernel_rfl) b
def Jl{n}(c:n=0\/n=1){a g sa da}(b:GP a sa da):GP (uX n a g) (1+sa) (da+1):=by
 unfold uX;cases g;exact Gj (by rcases c with rfl|rfl<;>kernel_rfl) b;exact Gj (by rcases c with rfl|rfl<;>kernel_rfl) b
def HG(c){x}(h:x.size<=64):GP (yD c x) 5 3:=vd (wD De)<|vd (CT c)<|wD h
def JN{l}(f:l.ay=0\/l.ay=1)(g:l.ba.size<=64)(a b):∃sz d,GP (zU l a b) sz d/\sz<=40/\d<=20:=by
 unfold zU;have e:=HG l.c g;split;· exact⟨_,_,Jl f e,Om,Om⟩
 split;· exact⟨_,_,xd (f.imp id .inl) e,Om,Om⟩
 split;· exact⟨_,_,xd (.inl rfl)<|vd (wD De)<|CT _,Om,Om⟩
 split;· exact⟨_,_,xd (f.imp id .inl)<|vd (wD De)<|vd (Jl (.inl rfl) e)<|Jl (.inr rfl) e,Om,Om⟩
 split;· exact⟨_,_,xd (.inr<|.inr rfl)<|vd (wD De)<|CT _,Om,Om⟩
 split;· exact⟨_,_,xd (.inr<|.inr rfl)<|vd (wD De) e,Om,Om⟩
 exact⟨_,_,vd (wD De)<|CT _,Om,Om⟩
section
variable {L M:av} {G:List Int} {ls:List eo} {K:Int->Prop}
def K0{T sz d}(h:GP T sz d)(hs:sz<=4096)(a:d<=64)(b:Wf L):((of L T).2.2.length:Int)<=L.length+sz:=by
 have:=h.s1;unfold of;rw[h.u9 0 0 Om Om Om Om,if_neg Sm];rcases h.BP L b hs a with⟨r,M,e,_,_,_,_,l⟩|⟨e,l⟩;rw[e];simpa using l;grind
def Tu(i:Wf L)(l):(zH L l).2.2.length<=L.length+40:=by
 unfold zH;split;simp;rename_i h;have h:qF l=0:=Classical.byContradiction h;have⟨k,f,c,x,g⟩:=l;have⟨_,b,_,_,_,e⟩:=OQ h;have⟨sz,d,a,hs,j⟩:=JN (l:=⟨k,f,c,x,g⟩) b e true true;have:=K0 a Om Om i;omega
def OL(c:Wf L)(f:L.length<65536){n}(b:n=0\/n=1\/n=2):(ax L<|zV n).2.1=0/\(ax L<|zV n).2.2.length<=L.length+1:=by
 have a:zB (zV n)=[]:=rfl;rcases DW (n:=zV n) c (by rcases b with rfl|rfl|rfl<;>kernel_rfl) (fun _=>rfl) (fun _=>rfl) (by rcases b with rfl|rfl|rfl<;>kernel_rfl) (by rw[a];simp) (sz:=1) (d:=1) (by rw[a];rfl) (by rw[a];rfl) Om with⟨r,M,e,_,_,_,_,_,l⟩|⟨_,l⟩;rw[e];exact⟨rfl,l⟩;omega
def zDX(b:Wf L){k n}(a:al L k=true)(e:ad L k=zV n):zA L k=nj n:=by
 rw[zX b a,e];rfl
end
def f23:eo:=⟨2,1,7,⟨#[116]⟩,false⟩
def zAN:(vS [] [] (qQ f23).1).2.2=true/\(vS [] [] (qQ f23).1).1.length<=100:=by
 refine⟨Kf,of_decide_eq_true Kf⟩
def jbK(L G):vS L G [120]=(L,G,false):=by
 have a:(vB [120]).1=none:=Kf;have:(vB [120]).2.1≠0:=xQ a;unfold vS yM;rw[a];simp only;rw[if_pos this]
def j8(L M:av):Prop:=∀s,al L s=true->∃t,al M t=true/\zA L s=zA M t
section
variable {L M Y:av}
def j8.nil:j8 [] M:=fun s h=>by have:=zI.1 h;simp at this;omega
def j8.gn(h:j8 L M)(a:Wf (M++Y)):j8 L (M++Y):=fun s hs=>by
 have⟨t,ht,e⟩:=h s hs;exact⟨t,uF ht,by rw[e,Bo a ht]⟩
def j8.fm(n:Wf L)(h:j8 L M){l:List Int}(o:l.Nodup)(hi:∀z∈l,al M z=true)(m:∀z∈l,∀s,al L s=true->zA L s≠zA M z):L.length+l.length<=M.length:=by
 have:∃φ:Int->Int,∀s,al L s=true->al M (φ s)=true/\zA L s=zA M (φ s):=by
  classical
  exact⟨fun s=>if hs:al L s=true then(h s hs).choose else 0,fun s hs=>by simp only[dif_pos hs];exact(h s hs).choose_spec⟩
 have⟨φ,d⟩:=this;have c:∀i∈range L.length,al L ((i:Int)+1)=true:=fun i hi=>zI.2 ⟨Om,Oh<|mem_range.1 hi⟩;have:=tT (L:=M) (l:=l++(range L.length).map fun i:Nat=>φ<|(i:Int)+1) (by
  rw[nodup_append];refine⟨o,?_,fun a k b p e=>?_⟩;refine pairwise_map.2<|List.Pairwise.imp_of_mem ?_ nodup_range;intro i j hi f g e;have a:=d _<|c i hi;have b:=d _<|c j f;have:=yI n _ _ _ rfl (c i hi) (c j f) (by rw[a.2,b.2,e]);omega;obtain⟨i,hi,rfl⟩:=mem_map.1 p;have a2:=d _<|c i hi;exact m a k _ (c i hi)<|by rw[a2.2,e]) Gd
 simp at this;omega
def j8.len(a:Wf L)(h:j8 L M):L.length<=M.length:=by
 have:=h.fm a (l:=[]) nodup_nil Sm Sm;simpa using this
def En(L n){v}(c:al (ax L n).2.2 v=true):al L v=true\/((ax L n).2.1=0/\v=(ax L n).1):=by
 unfold ax at c|-;simp only at c|-;split at c;exact .inl c;rename_i h;rw[if_neg h];split at c;exact .inl c;rename_i h2;split at c;exact .inl c;rename_i h3;rw[if_neg h3];have⟨a,b⟩:=zI.1 c;simp at b;by_cases e:v=(L.length:Int)+1;exact .inr ⟨rfl,e⟩;exact .inl<|zI.2 ⟨a,Om⟩
def zHZ(L G A o){v}:al (qZ L G A o).2.2 v=true->al L v=true\/((qZ L G A o).2.1=0/\v=(qZ L G A o).1):=
 CV (fun r=>al r.2.2 v=true->al L v=true\/(r.2.1=0/\v=r.1)) (fun _ _ h=>.inl h) (fun n h=>En L n h) G A o
def j8.ou{r1 r2}(h:j8 L M)(a:Wf r1.2.2)(b:Wf r2.2.2)(a1:∃X,r1.2.2=L++X)(a2:∃Y,r2.2.2=M++Y)(hr:RS r1 r2)(hi:∀v,al r1.2.2 v=true->al L v=true\/(r1.2.1=0/\v=r1.1)):j8 r1.2.2 r2.2.2:=fun v f=>by
 have⟨X,g⟩:=a1;have⟨Y,c⟩:=a2;rcases hi v f with h1|⟨d,rfl⟩;rw[c]at b|-;rw[g]at a|-;have⟨t,ht,e⟩:=h.gn b v h1;exact⟨t,ht,by rw[Bo a h1,e]⟩;have:=hr.2 d;exact⟨_,this.m,this.e⟩
end
def QD:∀(l:List Op) {L M:av} {G K A B:List Int},Wf L->Wf M->LR L M G K->LR L M A B->j8 L M->L.length+l.length<=65536->M.length+l.length<=65536->j8 (vC L G A l).2.2 (vC M K B l).2.2
 |[],_,_,_,_,_,_,_,_,_,_,hs,_,_=>hs
 |o :: l,L,M,G,K,A,B,j,h,k,g,hs,q,p=>by
  rw[length_cons]at q p;have hr:=Qp j h k g o Om Om;have⟨e,r⟩:=hr;have s:=CG L G A o;have t:=CG M K B o;have a:=u6 j G A o;have b:=u6 h K B o;have c:=hs.ou a b (tW L G A o) (tW M K B o) ⟨e,r⟩ fun v=>zHZ L G A o;have⟨X,m⟩:=tW L G A o;have⟨Y,i⟩:=tW M K B o;have f:LR (qZ L G A o).2.2 (qZ M K B o).2.2 G K:=by rw[m]at a|-;rw[i]at b|-;exact k.gn a b
  have d:LR (qZ L G A o).2.2 (qZ M K B o).2.2 A B:=by rw[m]at a|-;rw[i]at b|-;exact g.gn a b
  unfold vC;rw[<-e];split;exact c;rename_i n;exact QD l a b f (d.sd<|r<|Classical.byContradiction n) c Om Om
def jXM{Lq:av}(g:Wf Lq):∀(l seen:List Int) (L:av) (ak:Int->Int),Cp Lq L ak seen->(∀z∈l,al Lq z=true)->wz Lq seen l->j8 L Lq ->
  (zT Lq l L ak).2.1=0/\j8 (zT Lq l L ak).1 Lq:=by
 intro l
 induction l with
 |nil=>intro seen L ak h _ _ hs;exact⟨rfl,hs⟩
 |cons z l s =>
  intro seen L ak h r p hs
  have f:=r z Sm
  have i:=h.A7 g f p.1
  generalize j:({ ad Lq z with a:=ak (ad Lq z).a,b:=ak (ad Lq z).b }:df)=n at i
  have o:=i.cm g h.wf f
  have aq:=fun m=>h.step g f p.1 i m
  have c:=fun m=>i.ou g h.wf f m
  have d:=fun v=>En L n (v:=v)
  obtain⟨x,e,q,hm⟩:∃x e q,ax L n=(x,e,q):=⟨_,_,_,rfl⟩
  rw[qG Lq z l L ak j hm]
  rw[hm]at o aq c d
  simp only at o aq c d
  rcases o with rfl|⟨_,A,k⟩
  rw[if_neg Sm]
  have⟨_,B,w,y⟩:=c rfl
  refine s _ _ _ (aq rfl) Gd p.2 fun v u=>?_
  rcases d v u with h1|⟨_,rfl⟩
  have⟨t,ht,e⟩:=hs v h1
  exact⟨t,ht,by rw[(y v h1).2,e]⟩
  exact⟨z,f,w⟩
  have:=hs.fm h.wf (l:=[z]) Sm (by simpa using f) (by simpa using k)
  have:=g.ok.fm
  simp at *
  omega
def VH{L Lq}(e:Wf L)(c:Wf Lq)(hs:j8 L Lq){t}(ht:al Lq t=true):(vI L Lq t).2.1=0/\j8 (vI L Lq t).2.2 Lq:=by
 have⟨a,b⟩:=jXM c (dc Lq t) [] L (fun _=>0) (Cp.start e) (fun z d=>xH c d) (xJ c t) hs;unfold vI;rw[if_pos ht];simp only;rw[if_neg (by rw[a];simp)];exact⟨rfl,b⟩
def Mo{Lq}(i:Wf Lq):∀(l seen:List Int) (L:av) (ak:Int->Int),Cp Lq L ak seen->(∀z∈l,al Lq z=true)->wz Lq seen l->L.length+l.length<=65536 ->
  ∀v,al (zT Lq l L ak).1 v=true->(al L v=true/\zA (zT Lq l L ak).1 v=zA L v)\/∃z∈l,zA (zT Lq l L ak).1 v=zA Lq z:=by
 intro l
 induction l with
 |nil=>intro seen L ak h _ _ _ v m;exact .inl ⟨m,rfl⟩
 |cons z l u =>
  intro seen L ak h s q w
  have j:=s z Sm
  have g:=h.A7 i j q.1
  generalize k:({ ad Lq z with a:=ak (ad Lq z).a,b:=ak (ad Lq z).b }:df)=n at g
  have o:=g.cm i h.wf j
  have aq:=fun p=>h.step i j q.1 g p
  have c:=fun p=>g.ou i h.wf j p
  have d:=fun v=>En L n (v:=v)
  have f:=Fy L n
  obtain⟨x,e,r,hm⟩:∃x e r,ax L n=(x,e,r):=⟨_,_,_,rfl⟩
  rw[qG Lq z l L ak k hm]
  rw[hm]at o aq c d f
  simp only at o aq c d f
  rw[length_cons]at w
  rcases o with rfl|⟨_,B,t⟩
  rw[if_neg Sm]
  have⟨_,C,E,A⟩:=c rfl
  intro v m
  rcases u _ _ _ (aq rfl) Gd q.2 Om v m with⟨h1,h2⟩|⟨y,D,h2⟩
  grind
  grind
  omega
def Sd{L M q}(l:Wf L)(f:Wf M)(c:Wf q)(hs:j8 L M){t}(ht:al q t=true)(r:L.length+q.length<=65536)(o:M.length+q.length<=65536):j8 (vI L q t).2.2 (vI M q t).2.2:=by
 have a:=(Al l c ht r).1;have b:=(Al f c ht o).1;have s:=uW c t;have⟨j,_⟩:=xZ f c ht b;have⟨Y,m⟩:=EK M q t;have hi:=Mo c (dc q t) [] L (fun _=>0) (Cp.start l) (fun z d=>xH c d) (xJ c t) Om;have g:=D9 c (dc q t) [] M (fun _=>0) (Cp.start f) (fun z d=>xH c d)<|xJ c t;have n:(vI L q t).2.2=(zT q (dc q t) L fun _=>0).1:=by
  unfold vI at a|-;rw[if_pos ht]at a|-;simp only at a|-;split;grind;rfl
 have h:(vI M q t).2.2=(zT q (dc q t) M fun _=>0).1/\(zT q (dc q t) M fun _=>0).2.1=0:=by
  unfold vI at b|-;rw[if_pos ht]at b|-;simp only at b|-;split;grind;grind
 rcases g with⟨_,g⟩|⟨i,_⟩;intro v k;rw[n]at k|-;rcases hi v k with⟨h1,h2⟩|⟨z,d,h2⟩;rw[m]at j|-;have⟨u,p,e⟩:=hs.gn j v h1;exact⟨u,p,h2.trans e⟩;have:=g.at_ z (by simpa using d);rw[h.1];exact⟨_,this.1,h2.trans this.2.symm⟩;rw[h.2]at i;cases i
structure ll(L M:av)(G K:List Int):Prop where
 wl:Wf L
 wm:Wf M
 nl:yP L
 nm:yP M
 g:LR L M G K
 s:j8 L M
def ll.nil:ll [] [] [] []:=⟨Wf.nil,Wf.nil,yP.nil,yP.nil,LR.nil,j8.nil⟩
section
variable {L M:av} {G K:List Int} (h:ll L M G K)
include h
def ll.len:L.length<=M.length:=h.s.len h.wl
def ll.yj(bs)(f:2*M.length+bs.length<=131072):
  (vS L G bs).2.2=(vS M K bs).2.2/\ll (vS L G bs).1 (vS M K bs).1 (vS L G bs).2.1 (vS M K bs).2.1/\2*(vS M K bs).1.length<=2*M.length+bs.length:=by
 have t:=h.len
 have⟨e,r⟩:=YB h.wl h.wm bs Om f
 have d:=WO h.wm bs f
 have a:=CP h.wl bs;have b:=CP h.wm bs
 have n1:=I4 h.nl bs;have n2:=I4 h.nm bs
 have hs:j8 (yM L bs).2.2.2 (yM M bs).2.2.2:=by
  unfold yM;split;exact h.s;rename_i q i;have h2:=Dz i;have⟨n,_,j,_,_⟩:=xB i;exact Sd h.wl h.wm n h.s j Om Om
 have⟨X,p⟩:=DJ L bs
 have⟨Y,k⟩:=DJ M bs
 have c:LR (yM L bs).2.2.2 (yM M bs).2.2.2 G K:=by rw[p]at a|-;rw[k]at b|-;exact h.g.gn a b
 unfold vS
 rw[<-e]
 split
 exact⟨rfl,⟨a,b,n1,n2,c,hs⟩,d⟩
 rename_i o
 have r:=r<|Classical.byContradiction o
 rw[tV r.l,tV r.m]
 exact⟨rfl,⟨a,b,n1,n2,c.ic a b r,hs⟩,d⟩
def ll.Es(a b who)(n:M.length<65536):
  (zS L G a b who).1=(zS M K a b who).1/\ll (zS L G a b who).2.1 (zS M K a b who).2.1 (zS L G a b who).2.2.1 (zS M K a b who).2.2.1/\(zS L G a b who).2.2.2=(zS M K a b who).2.2.2/\(zS M K a b who).2.1.length<=M.length+1:=by
 have q:=h.len
 have o:NR L M (zV who) (zV who):=⟨rfl,rfl,rfl,rfl,rfl,.inl ⟨rfl,rfl⟩,.inl ⟨rfl,rfl⟩⟩
 have⟨e,r⟩:=o.ax h.wl h.wm Om n
 have c:=uQ h.wl<|zV who;have d:=uQ h.wm<|zV who
 have n1:yP (ax L<|zV who).2.2:=h.nl.ax ki
 have n2:yP (ax M<|zV who).2.2:=h.nm.ax ki
 have hs:=h.s.ou c d (yG L _) (yG M _) ⟨e,r⟩ fun v=>En L _
 have i:=Fy M<|zV who
 have⟨X,p⟩:=yG L<|zV who
 have⟨Y,j⟩:=yG M<|zV who
 have f:LR (ax L<|zV who).2.2 (ax M<|zV who).2.2 G K:=by rw[p]at c|-;rw[j]at d|-;exact h.g.gn c d
 unfold zS
 split
 grind
 rw[<-e]
 split
 exact⟨rfl,⟨c,d,n1,n2,f,hs⟩,rfl,i⟩
 rename_i k
 have r:=r<|Classical.byContradiction k
 rw[tV r.l,tV r.m]
 exact⟨rfl,⟨c,d,n1,n2,f.ic c d r,hs⟩,rfl,i⟩
end
end Go.Proofs
end
section
namespace Go.Proofs
def xX{L t}(h:(ad L t).kind≠0):al L t=true:=by
 cases hi:al L t with
 |true=>rfl
 |false=>rw[Of hi]at h;exact absurd rfl h
def Mi{L M n i}(h:find L n=some i):find (L++M) n=some i:=by
 unfold find at h|-;rw[List.findIdx?_append,h];rfl
def US{k}(h:sB k=true):k≠0:=by
 rintro rfl;cases h
def dr.gn{L M K t}(h:dr L K t):dr (L++M) K t:=by
 induction h with
 |seen h=>exact .seen h
 |free h=>exact .free (by rw[zF<|xX<|US h];exact h)
 |@ke t h _ _ c a =>
  have e:ad (L++M) t=ad L t:=zF<|xX Om
  exact .ke (by rw[e];exact h) (by rw[e];exact c) (by rw[e];exact a)
 |@ov t h _ b =>
  have e:ad (L++M) t=ad L t:=zF<|xX Om
  exact .ov (by rw[e];exact h) (by rw[e];exact b)
 |@ng t i h _ f d b =>
  have e:ad (L++M) t=ad L t:=zF (xX fun g=>by rw[g]at h;cases h)
  exact .ng (by rw[e];exact h) (by rw[e];exact b) (by rw[e];exact Mi f) d
def Rs{L}(d:Wf L){t}(c:(ad L t).kind=6):ad L t=zV (ad L t).ay:=by
 have ht:=xX (L:=L) (t:=t) Om;have⟨h1,h2,h3,_⟩:=d.node ht;generalize ad L t=n at *;have⟨k,f,to,u,x,a,b⟩:=n;simp only at c;subst c;unfold zO at h1;simp[bk,oh]at h1;simp[bk]at h2 h3;unfold zV;simp only[df.mk.injEq,true_and];exact⟨h1.1.1,h1.1.2,h1.2,h2,h3⟩
def NM{L}(a:Wf L){t}(b:(ad L t).kind=6):∃i:Nat,find L (zV (ad L t).ay)=some i/\t=(i:Int)+1:=by
 have ht:=xX (L:=L) (t:=t) Om;obtain⟨i,hi,rfl⟩:=si ht;refine⟨i,?_,rfl⟩;rw[<-Rs a b,qL hi];exact Go.Proofs.D5 a.ok<|List.getElem?_eq_getElem hi
section
variable {L:av} {G M:List Int} {S:List gx}
def ZT(H:Wf L)(D:ny L G S)(E:∀t∈M,dr L (·∈zG S) t)(o)(c:(qZ L G M o).2.1=0):dr (qZ L G M o).2.2 (·∈zG S) (qZ L G M o).1:=by
 have f:∀{i t},ej M i=some t->dr L (·∈zG S) t:=fun h=>by
  obtain⟨_,h1,rfl⟩:=EM h;exact E _<|List.getElem_mem h1
 have q:∀r u t,u∈zG S->xD L r u t->t∈zG S:=fun r u t N d=>D.rW u N r t d;have j:(j9 L).2.1=0->False:=fun h=>by simp[j9]at h
 have l:∀n,(ax L n).2.1=0->(∀X,ad (L++X) (ax L n).1=n->dr (L++X) (·∈zG S) (ax L n).1)->dr (ax L n).2.2 (·∈zG S) (ax L n).1:=fun n h hh=>by
  have⟨X,F⟩:=yG L n;have:=uU h;rw[F]at this|-;exact hh X this.2.1
 have p:∀mk:Int->Int->df,(∀k a,qP (mk k a).kind=true/\(mk k a).a=a/\oo (mk k a)=k)->(vQ L M o mk).2.1=0->dr (vQ L M o mk).2.2 (·∈zG S) (vQ L M o mk).1:=fun mk z h=>by
  unfold vQ at h|-;cases d:ej M o.a with
  |none=>rw[d]at h;exact(j h).elim
  |some a =>
   rw[d]at h
   simp only at h|-
   by_cases v:(el L M o.b).kind=6
   rw[if_pos v]at h|-
   cases w:ej M o.b with
   |none=>rw[xA w]at v;simp[xC]at v
   |some b =>
    have B:el L M o.b=ad L b:=by unfold el;rw[w]
    rw[B]at v h|-
    obtain⟨i,K,rfl⟩:=NM H v
    have C:((i:Int)+1)∈zG S:=by
     rcases(f w).pD with h|h|⟨h,_⟩|⟨h,_⟩|⟨h,_⟩;exact h;rw[v]at h;cases h;omega;omega;rw[v]at h;cases h
    have⟨s1,I,J⟩:=z (ad L<|(i:Int)+1).ay a
    exact l _ h fun X g=>.ng (by rw[g];exact s1) (by rw[g,I];exact(f d).gn) (by rw[g,J];exact Mi K) C
   grind
 have m:∀s,(yB L M o s).2.1=0->dr (yB L M o s).2.2 (·∈zG S) (yB L M o s).1:=fun s h=>by
  unfold yB at h|-;by_cases y:(el L M o.a).kind=4;rw[if_pos y];cases d:ej M o.a with
  |none=>rw[xA d]at y;simp[xC]at y
  |some a =>
   have x:el L M o.a=ad L a:=by unfold el;rw[d]
   rw[x]at y|-
   cases s with
   |false=>exact(f d).Ji q (r:=1)<|.inl ⟨rfl,y,rfl⟩
   |true=>exact(f d).Ji q (r:=2)<|.inr<|.inl ⟨rfl,y,rfl⟩
  grind
 by_cases A:o.code<0\/11<o.code;rw[Bk A]at c;exact(j c).elim;rcases(show o.code=0\/o.code=1\/o.code=2\/o.code=3\/o.code=4\/o.code=5\/o.code=6\/o.code=7\/o.code=8\/o.code=9\/o.code=10\/o.code=11 by omega)with e|e|e|e|e|e|e|e|e|e|e|e;rw[Dx e]at c|-;unfold uR at c|-;cases d:ej G o.a with
 |none=>rw[d]at c;exact(j c).elim
 |some a =>
  obtain⟨_,h1,rfl⟩:=EM d
  exact .seen<|D.jo _<|List.getElem_mem h1
 rw[Fv e]at c|-;exact l _ c fun X g=>.free (by rw[g];rfl);rw[DE e]at c|-;exact l _ c fun X g=>.free (by rw[g];rfl);rw[Fh e]at c|-;exact l _ c fun X g=>.free (by rw[g];rfl);rw[zb e]at c|-;unfold rV at c|-;cases d:ej M o.a with
 |none=>rw[d]at c;exact(j c).elim
 |some a =>
  rw[d]at c
  cases w:ej M o.b with
  |none=>simp only[w]at c;exact(j c).elim
  |some b =>
   simp only[w]at c
   exact l _ c fun X g=>.ke (by rw[g]) (by rw[g];exact(f d).gn) (by rw[g];exact(f w).gn)
 rw[Cc e]at c|-;unfold sP at c|-;cases d:ej M o.a with
 |none=>rw[d]at c;exact(j c).elim
 |some a =>
  rw[d]at c
  exact l _ c fun X g=>.ov (by rw[g]) (by rw[g];exact(f d).gn)
 rw[Bm e]at c|-;exact m _ c;rw[Bl e]at c|-;exact m _ c;rw[As e]at c|-;unfold xI at c|-;by_cases hs:qP (el L M o.a).kind=true;rw[if_pos hs];cases d:ej M o.a with
 |none=>rw[xA d]at hs;cases hs
 |some a =>
  have x:el L M o.a=ad L a:=by unfold el;rw[d]
  rw[x]at hs|-
  exact(f d).Ji q (r:=3)<|.inr<|.inr ⟨rfl,hs,rfl⟩
 grind;rw[AH e]at c|-;exact p _ (fun k a=>⟨rfl,rfl,rfl⟩) c;rw[y9 e]at c|-;exact p _ (fun k a=>⟨rfl,rfl,rfl⟩) c;rw[ze e]at c|-;exact p _ (fun k a=>⟨rfl,rfl,rfl⟩) c
end
def KE{G S}:∀(l:List Op) (L:av) (M:List Int),Wf L->ny L G S->(∀t∈M,dr L (·∈zG S) t)->∀t∈(vC L G M l).1,dr (vC L G M l).2.2 (·∈zG S) t
 |[],_,_,_,_,b=>b
 |o :: os,L,M,d,c,b=>by
  have⟨X,e⟩:=tW L G M o;have a:∀t∈M,dr (qZ L G M o).2.2 (·∈zG S) t:=fun t ht=>by rw[e];exact(b t ht).gn
  unfold vC;split;exact a;rename_i f;refine KE os _ _ (u6 d G M o) (by rw[e];exact c.gn) fun t ht=>?_;rcases List.mem_append.1 ht with h|h;exact a t h;rw[List.mem_singleton]at h;subst h;exact ZT d c b o (by simpa using f)
def N0(L G l):∃X,(zM L G l).2.2.2=L++X:=by
 unfold zM;split;exact⟨[],Sm⟩;split;exact⟨[],Sm⟩;split<;>exact Nu G l L []
def jTG{L G S}(g:Wf L)(f:ny L G S)(l)(c:(zM L G l).2.1=0):dr (zM L G l).2.2.2 (·∈zG S) (zM L G l).1:=by
 have hr:=KE l L [] g f (fun t h=>by cases h);have d:=(BO G l L []).2;unfold zM at c|-;by_cases h1:l.length>256;grind;rw[if_neg h1]at c|-;by_cases h2:l.length=0;grind;rw[if_neg h2]at c|-;by_cases h3:(vC L G [] l).2.1≠0;grind;rw[if_neg h3];have a:=d (by simpa using h3);have b:(vC L G [] l).1≠[]:=fun e=>by rw[e]at a;simp at a;omega
 simp only;rw[List.getLast?_eq_some_getLast b];exact hr _<|List.getLast_mem b
end Go.Proofs
end
section
open Go Go.SE List
namespace Go.Proofs
def mw(a:List bt)(y:bt):Prop:=∃g∈a,In g y
inductive iz(c:List bt):bt->Prop
 |seen {y:bt}:mw c y->iz c y
 |free {k f t u:Int} {x:ByteArray} {ks:List bt}:sB k=true->iz c (.mk k f t u x ks)
 |ke {f t u:Int} {x:ByteArray} {a b:bt}:iz c a->iz c b->iz c (.mk 4 f t u x [a,b])
 |ov {f t u:Int} {x:ByteArray} {a:bt}:iz c a->iz c (.mk 5 f t u x [a])
 |ng {k f t u:Int} {x:ByteArray} {a:bt}:qP k=true->iz c a->mw c (nj<|if k=9 then t else f)->iz c (.mk k f t u x [a])
def D7{n}(h:n.kind=4):zB n=[n.a,n.b]:=by simp[zB,h,bk]
def PV{n}(h:n.kind=5):zB n=[n.a]:=by simp[zB,h,bk]
def Gk{n}(h:qP n.kind=true):zB n=[n.a]:=by
 simp only[qP,Bool.or_eq_true,beq_iff_eq]at h;rcases h with(h|h)|h<;>simp[zB,h,bk]
section
variable {L:av} {G:List Int} (hW:Wf L) (hG:∀g∈G,al L g=true)
include hW hG
def KN{g}(i:g∈G){y}(h:In (zA L g) y):∃t,al L t=true/\zA L t=y/\mg L G t:=by
 induction h with
 |refl=>exact⟨g,hG g i,rfl,.pI i⟩
 |fst _ d =>
  have⟨u,c,e,hs⟩:=d
  rw[zX hW c]at e
  injection e with b _ _ _ _ a
  rw[D7 b]at a
  simp at a
  exact⟨_,(wI hW c b).1.1,a.1,.AJ hs<|.inl ⟨rfl,b,rfl⟩⟩
 |snd _ d =>
  have⟨u,c,e,hs⟩:=d
  rw[zX hW c]at e
  injection e with b _ _ _ _ a
  rw[D7 b]at a
  simp at a
  exact⟨_,(wI hW c b).2.1,a.2,.AJ hs<|.inr<|.inl ⟨rfl,b,rfl⟩⟩
 |wP f _ d =>
  have⟨u,c,e,hs⟩:=d
  rw[zX hW c]at e
  injection e with b _ _ _ _ a
  rw[<-b]at f
  rw[Gk f]at a
  simp at a
  exact⟨_,(zh hW c f).1,a,.AJ hs<|.inr<|.inr ⟨rfl,f,rfl⟩⟩
def BV{t}(ht:al L t=true):mg L G t↔mw (G.map<|zA L) (zA L t):=by
 constructor;intro h;have⟨_,g,a,hi⟩:=Nh hW hG h;exact⟨_,mem_map.2 ⟨g,a,rfl⟩,hi⟩;rintro⟨_,hm,hi⟩;obtain⟨g,a,rfl⟩:=mem_map.1 hm;have⟨v,b,e,hs⟩:=KN hW hG a hi;rw[yI hW _ v t rfl b ht e]at hs;exact hs
def Io{y}(h:mw (G.map<|zA L) y):∃t,al L t=true/\zA L t=y/\mg L G t:=by
 have⟨_,hm,hi⟩:=h;obtain⟨g,a,rfl⟩:=mem_map.1 hm;exact KN hW hG a hi
omit hG in
def Oy{v n}(a:al L v=true)(e:zA L v=nj n):∃i:Nat,find L (zV n)=some i/\v=(i:Int)+1:=by
 rw[zX hW a]at e;injection e with c b;have⟨i,h1,h2⟩:=NM hW c;rw[b]at h1;exact⟨i,h1,h2⟩
omit hG in
def Mv{i n}(h:find L (zV n)=some i):al L ((i:Int)+1)=true/\zA L ((i:Int)+1)=nj n:=by
 have⟨h1,h2⟩:=JW h;have hi:al L ((i:Int)+1)=true:=zI.2 ⟨Om,Om⟩;exact⟨hi,by rw[zX hW hi,h2];rfl⟩
def FJ{t}(ht:al L t=true):dr L (mg L G) t↔iz (G.map<|zA L) (zA L t):=by
 constructor;intro h;induction h with
 |seen h=>exact .seen<|(BV hW hG ht).1 h
 |free h=>rw[zX hW ht];exact .free h
 |ke h _ _ f j =>
  have⟨a,b⟩:=wI hW ht h
  rw[zX hW ht,D7 h,h];exact .ke (f a.1)<|j b.1
 |ov h _ f =>
  have a:=L6 hW ht h
  rw[zX hW ht,PV h,h];exact .ov<|f a.1
 |ng h _ o g f =>
  have a:=zh hW ht h
  rw[zX hW ht,Gk h]
  have⟨n,k⟩:=Mv hW o
  rw[BV hW hG n,k]at g
  exact .ng h (f a.1) g
 intro h;have key:∀y,iz (G.map<|zA L) y->∀t,al L t=true->zA L t=y->dr L (mg L G) t:=by
  intro y h;induction h with
  |seen h=>rintro t ht rfl;exact .seen<|(BV hW hG ht).2 h
  |free h=>intro t ht e;rw[zX hW ht]at e;injection e with d;exact .free (by rw[d];exact h)
  |ke _ _ f j =>
   intro t ht e
   rw[zX hW ht]at e;injection e with d _ _ _ _ c
   rw[D7 d]at c;simp at c
   have⟨a,b⟩:=wI hW ht d
   exact .ke d (f _ a.1 c.1)<|j _ b.1 c.2
  |ov _ f =>
   intro t ht e
   rw[zX hW ht]at e;injection e with d _ _ _ _ c
   rw[PV d]at c;simp at c
   exact .ov d<|f _ (L6 hW ht d).1 c
  |ng g _ hs f =>
   intro t ht e
   rw[zX hW ht]at e;injection e with d p l _ _ c
   rw[<-d]at g
   rw[Gk g]at c;simp at c
   have⟨v,q,r,sv⟩:=Io hW hG hs
   obtain⟨i,m,rfl⟩:=Oy hW q r
   refine .ng g (f _ (zh hW ht g).1 c) (i:=i) ?_ sv
   unfold oo
   rw[d,p,l];exact m
 exact key _ h t ht rfl
def Mj(n):zq L G n=true↔mw (G.map<|zA L) (nj n):=by
 unfold Proofs.zq;constructor;intro h;split at h;rename_i i hi;have⟨c,a⟩:=Mv hW hi
 classical
 have:=of_decide_eq_true h;rw[BV hW hG c,a]at this;exact this;cases h;intro h;have⟨v,d,e,sv⟩:=Io hW hG h;obtain⟨i,b,rfl⟩:=Oy hW d e;rw[b]
 classical
 exact decide_eq_true sv
end
def yx(a:List bt)(l:eo):Prop:=qF l=0/\iz a (zU l true true)
def Gf{l}(h:qF l=0):(l.ay=0\/l.ay=1)/\l.ba.size<=64:=by
 have⟨k,f,c,x,g⟩:=l;have⟨_,b,_,_,_,a⟩:=OQ h;exact⟨b,a⟩
def Iy{L}(hW:Wf L){l}(c:L.length<=65000):(zH L l).2.1=qF l:=by
 unfold zH;split;rfl;rename_i h;have a:qF l=0:=Classical.byContradiction h;have⟨h1,h2⟩:=Gf a;have⟨sz,d,g,b,f⟩:=JN h1 h2 true true;rw[a];rcases g.of Om Om hW with e|⟨_,e⟩;exact e;grind
def Jm{L M}{G:List Int}(hW:Wf (L++M))(hG:∀g∈G,al L g=true):G.map (zA<|L++M)=G.map (zA L):=map_congr_left fun g a=>Bo hW<|hG g a
section
variable {L:av} {G:List Int} (hW:Wf L) (hG:∀g∈G,al L g=true)
include hW hG
def Jx{l:eo}(b:L.length<=65000):((zH L l).2.1=0/\dr (zH L l).2.2 (mg (zH L l).2.2 G) (zH L l).1)↔yx (G.map<|zA L) l:=by
 rw[Iy hW b];unfold yx;refine and_congr_right fun e=>?_;obtain⟨M,d⟩:=CB hW.ok l;have a:=tJ hW l;obtain⟨_,b2,b3⟩:=CD (by rw[Iy hW b];exact e) hW;rw[d]at a b2 b3|-;rw[FJ a (fun g c=>uF<|hG g c) b2,b3,Jm a hG]
end
def CH(G):∀(ls:List eo) (L:av),pR (fun _ _=>False) G ls L (wA G ls L).1 (wA G ls L).2
 |[],_=>.nil
 |l :: ls,L=>by
  rw[wA];split;rename_i h;exact .iu h.1 h.2;rename_i h;exact .Db (.inl h)<|CH G ls _
structure jcD(b:av->Int->Prop)(G:List Int)(ls:List eo)(L:av)(r:Int)(a:av):Prop where
 wf:Wf a
 gn:∃X,a=L++X
 fm:a.length<=L.length+8*ls.length
 re:yP L->(∀l∈ls,qW l.c)->yP a
 no:r=0->∀l∈ls,yx (G.map<|zA L) l->∃d t,b d t/\d.length<=L.length+8*ls.length
 u9:r≠0->∃l∈ls,yx (G.map<|zA L) l/\al a r=true/\zA a r=zU l true true/\dr a (mg a G) r
def G4(l:eo):Prop:=qF l=0->∃sz d,GP (zU l true true) sz d/\sz<=8/\d<=20
def Qi{L}(hW:Wf L){l}(a:G4 l):(zH L l).2.2.length<=L.length+8:=by
 unfold zH;split;simp;rename_i h;have⟨sz,d,g,h1,h2⟩:=a<|Classical.byContradiction h;have:=K0 g Om Om hW;omega
def pR.yo{a:av->Int->Prop}{G ls L b r}(h:pR a G ls L r b):Wf L->(∀g∈G,al L g=true)->(∀l∈ls,G4 l)->L.length+8*ls.length<=65000->jcD a G ls L r b:=by
 induction h with
 | nil=>intro hW _ _ _;exact⟨hW,⟨[],Sm⟩,Sm,fun h _=>h,fun _=>Sm,fun h=>absurd rfl h⟩
 | @iu l ls L h1 h2 =>
  intro hW hG c i
  rw[length_cons] at i
  have⟨b1,b2,b3⟩:=CD h1 hW
  have o:=Qi hW<|c l Sm
  refine⟨tJ hW l,CB hW.ok l,by rw[length_cons];omega,fun h f=>Bt h<|f l Sm,fun h=>?_,fun _=>⟨l,Sm,(Jx hW hG Om).1 ⟨h1,h2⟩,b2,b3,h2⟩⟩
  have:=(zI.1 b2).1;omega
 | @Db l ls L b r h1 _ k =>
  intro hW hG c i
  rw[length_cons] at i
  have⟨M,d⟩:=CB hW.ok l
  have e:=tJ hW l
  have o:=Qi hW<|c l Sm
  have hm:G.map (zA (zH L l).2.2)=G.map (zA L):=by rw[d] at e |-;exact Jm e hG
  have⟨i1,⟨X,i2⟩,t,n,q,p⟩:=k e (by rw[d];exact fun g j=>uF<|hG g j) Gd Om
  rw[hm] at q p
  refine⟨i1,⟨M++X,by rw[i2,d,append_assoc]⟩,by rw[length_cons];omega,fun h f=>n (Bt h<|f l Sm) Gd,fun h m hm hs=>?_,fun h=>?_⟩
  rcases mem_cons.1 hm with rfl | hm
  have s:=(Jx hW hG (l:=m) Om).2 hs
  exact⟨_,_,h1.resolve_left fun h=>h s,by rw[length_cons];omega⟩
  grind
  grind
def CR{who c x}:∀l∈j0 who c x,G4 l:=by
 intro l a b;have⟨h1,h2⟩:=Gf b;simp[j0]at a;rcases a with rfl|rfl;exact⟨_,_,xd (h1.imp id .inl)<|HG c h2,Om,Om⟩;exact⟨_,_,xd (.inr<|.inr rfl)<|vd (wD De)<|HG c h2,Om,Om⟩
def vc(a:List bt)(who c:Int)(x:ByteArray):Prop:=uC who=true/\∃l∈j0 who c x,yx a l
def Bz{L G}(hW:Wf L)(hG:∀g∈G,al L g=true)(a:L.length<=64900)(who c x):(tX L G who c x).1≠0↔vc (G.map<|zA L) who c x:=by
 unfold tX vc;split;rename_i h;have R:=(CH G (j0 who c x) L).yo hW hG CR (by simp[j0];omega);refine⟨fun b=>?_,fun⟨_,l,a,hs⟩ b=>?_⟩;have⟨l,a,hs,_⟩:=R.u9 b;exact⟨h,l,a,hs⟩;have⟨_,_,d,_⟩:=R.no b l a hs;exact d;rename_i h;simp[h]
def wo(a:List bt)(who:Int):Prop:=uC who=true/\(mw a (nj who)\/mw a (nj 2))
def DH{L G}(hW:Wf L)(hG:∀g∈G,al L g=true)(who):tu L G who=true↔wo (G.map<|zA L) who:=by
 unfold tu wo;rw[Bool.and_eq_true,Bool.or_eq_true,Mj hW hG,Mj hW hG]
def N3(gs c x):iz gs (yD c x):=.ke (.free rfl)<|.ke (.free rfl)<|.free rfl
def Zx{gs n D}:iz gs (xE n D)↔mw gs (xE n D)\/(iz gs D/\mw gs (nj n)):=by
 constructor;intro h;generalize e:xE n D=y at h;cases h with
 |seen h=>exact .inl h
 |free h=>unfold xE at e;injection e with e;rw[<-e]at h;cases h
 |ke _ _=>simp[xE]at e
 |ov _=>simp[xE]at e
 |ng a h1 h2 =>
  simp only[xE,bt.mk.injEq,List.cons.injEq,and_true]at e
  obtain⟨rfl,rfl,rfl,rfl,rfl,rfl⟩:=e
  exact .inr ⟨h1,h2⟩
 rintro(h|⟨h1,h2⟩);exact .seen h;exact .ng rfl h1 h2
def Gm{gs who c x}(b:uC who=true)(e:x.size<=64):vc gs who c x↔wo gs who\/∃l∈j0 who c x,qF l=0/\mw gs (zU l true true):=by
 have a:who=0\/who=1:=by unfold uC at b;simpa using b
 have g:qF ⟨2,who,c,x,false⟩=0:=xK Om a (by simp[vN]) (by simp[qK,vN]) Sm e;have f:qF ⟨6,0,c,x,false⟩=0:=xK Om (.inl rfl) (by simp[vN]) (by simp[qK,vN]) Sm e;have h:zU ⟨2,who,c,x,false⟩ true true=xE who (yD c x):=rfl;have d:∃D,zU ⟨6,0,c,x,false⟩ true true=xE 2 D/\iz gs D:=⟨_,rfl,.ke (.free rfl)<|N3 gs c x⟩;have⟨D,d,d2⟩:=d;have d1:=N3 gs c x;unfold vc wo yx;simp only[b,true_and,j0,mem_cons,not_mem_nil,or_false,exists_eq_or_imp,exists_eq_left,g,f,h,d,Zx,d1,d2];constructor;grind;grind
structure Gs(L:av)(G:List Int)(a:List bt):Prop where
 wf:Wf L
 gm:∀g∈G,al L g=true
 e:G.map (zA L)=a
def Gs.gn{L X:av}{G gs}(h:Gs L G gs)(w:Wf (L++X)):Gs (L++X) G gs:=⟨w,fun g a=>uF<|h.gm g a,by rw[Jm w h.gm,h.e]⟩
def Gs.Fl{L G gs}(h:Gs L G gs)(b:L.length<=64900)(who c x):Gs (tX L G who c x).2 G gs/\(tX L G who c x).2.length<=L.length+16:=by
 unfold tX;split;obtain⟨w,⟨X,a⟩,f,_⟩:=(CH G (j0 who c x) L).yo h.wf h.gm CR (by simp[j0];omega);rw[a]at w f|-;exact⟨h.gn w,by simpa[j0]using f⟩;exact⟨h,Sm⟩
def Pp{y:bt}(h:mw [zU f23 true true] y):y=zU f23 true true\/Lo y:=by
 have⟨g,a,hi⟩:=h;simp at a;subst a;exact zAH _ _ _ hi
def Jh(n:Int):¬mw [zU f23 true true] (nj n):=fun h=>by
 rcases Pp h with e|e;have:(nj n).kd=(zU f23 true true).kd:=by rw[e]
 simp[nj,bt.kd,zU,f23,xE]at this;exact(e _ .refl).2 rfl
def W4:∃L G,vS [] [] (qQ f23).1=(L,G,true)/\Gs L G [zU f23 true true]/\L.length<=100:=by
 have⟨h1,h2⟩:=zAN;obtain⟨M,b,d,n1,h|⟨_,f,t,e,ht,a⟩⟩:=jSZ (G:=[]) Wf.nil yP.nil (l:=f23) ⟨De,De⟩;rw[h1]at h;cases h.1;rw[nil_append]at b d ht a;exact⟨M,ic [] t,Prod.ext b<|Prod.ext e h1,⟨d,fun g c=>by simp[ic]at c;rw[c];exact ht,by simp[ic,a]⟩,by rw[b]at h2;exact h2⟩
def xO(L:av)(G:List Int)(l:List Op):List UInt8×Int×Int×av:=
 if(zM L G l).2.1≠0 then([],(zM L G l).2.1,(zM L G l).2.2.1,(zM L G l).2.2.2)
 else((iv (zM L G l).2.2.2 (zM L G l).1).1,(iv (zM L G l).2.2.2 (zM L G l).1).2,0,(zM L G l).2.2.2)
def zAP{L}(h:yP L)(G M){o}(a:qW o.num):yP (qZ L G M o).2.2:=
 JT (fun r=>yP r.2.2) (fun _ _=>h) G M o fun n b=>h.ax (by rcases b with e|e<;>rw[e];exact ki;exact a)
def OB(G):∀(l:List Op) (L:av) (M:List Int),yP L->(∀o∈l,qW o.num)->yP (vC L G M l).2.2
 |[],_,_,h,_=>h
 |o :: l,L,M,h,a=>by
  have h1:=zAP h G M<|a o Sm;unfold vC;split;exact h1;exact OB G l _ _ h1 Gd
def Vl(L G l):(zM L G l).2.2.2=L\/(zM L G l).2.2.2=(vC L G [] l).2.2:=by
 unfold zM;split;exact .inl rfl;grind
def uG{L}(h:yP L)(G){l}(a:∀o∈l,qW o.num):yP (zM L G l).2.2.2:=by
 rcases Vl L G l with e|e<;>rw[e];exact h;exact OB G l L [] h a
def Nb(L G l):(zM L G l).2.2.2.length<=L.length+min 256 l.length:=by
 unfold zM;split;simp;rename_i a;have:=OD G l L [];split;simp;grind
def jXG{L}(b:Wf L){G}(c:∀g∈G,al L g=true)(l)(a:L.length+l.length<=65536)(d:(zM L G l).2.1=0):al (zM L G l).2.2.2 (zM L G l).1=true:=
 ((IK b b (G:=G) (K:=G) ⟨c,c,rfl⟩ l a a).2.2.2 d).l
def MF{L t}(h:(iv L t).2=0):al L t=true/\(qD L t).length<=4096/\(iv L t).1=qD L t:=by
 unfold iv at h|-;split;grind;grind
def Hk{L}(f:Wf L)(b:yP L)(G){l}(d:∀o∈l,qW o.num)(a:(xO L G l).2.1=0):
  (zM L G l).2.1=0/\al (xO L G l).2.2.2 (zM L G l).1=true/\vS (xO L G l).2.2.2 G (xO L G l).1=((xO L G l).2.2.2,ic G (zM L G l).1,true):=by
 have c:=zy f G l
 have n1:=uG b G d
 unfold xO at a|-
 split at a
 grind
 rename_i h
 rw[if_neg h]
 have⟨i1,i2,e⟩:=MF a
 refine⟨Classical.byContradiction h,i1,?_⟩
 simp only
 unfold vS
 rw[e,(PX c n1 i1 i2).1]
 simp only[ne_eq,not_true_eq_false,if_false]
 rw[tV i1]
section
variable {L M:av} {G K:List Int}
def ll.Ko(h:ll L M G K){l}(c:∀o∈l,qW o.num)(a:M.length+l.length<=65536):
  (xO L G l).1=(xO M K l).1/\(xO L G l).2.1=(xO M K l).2.1/\(xO L G l).2.2.1=(xO M K l).2.2.1/\ll (xO L G l).2.2.2 (xO M K l).2.2.2 G K/\(xO M K l).2.2.2.length<=M.length+min 256 l.length:=by
 have p:=h.len
 have⟨m,i,j,e⟩:=IK h.wl h.wm h.g l Om a
 have b:=zy h.wl G l;have d:=zy h.wm K l
 have n1:=uG h.nl G c;have n2:=uG h.nm K c
 have f:=Nb M K l
 have hs:j8 (zM L G l).2.2.2 (zM M K l).2.2.2:=by
  have:=QD l h.wl h.wm h.g LR.nil h.s Om a;have n:=(Ii l h.wl h.wm h.g LR.nil Om a).1;unfold zM;by_cases h1:l.length>256;rw[if_pos h1,if_pos h1];exact h.s;rw[if_neg h1,if_neg h1];by_cases h2:l.length=0;rw[if_pos h2,if_pos h2];exact h.s;rw[if_neg h2,if_neg h2,<-n];split<;>exact this
 have S:ll (zM L G l).2.2.2 (zM M K l).2.2.2 G K:=⟨b,d,n1,n2,j,hs⟩
 unfold xO
 rw[<-m]
 split
 exact⟨rfl,rfl,i,S,f⟩
 rename_i k
 have r:=e<|Classical.byContradiction k
 rw[ZX b d r]
 exact⟨rfl,rfl,rfl,S,f⟩
def ll.jcx(h:ll L M G K){l}(a:∀o∈l,qW o.num)(c:M.length+l.length<=65536)(b:(xO M K l).2.1=0):
  (vS (xO L G l).2.2.2 G (xO M K l).1).2.2=true/\(vS (xO M K l).2.2.2 K (xO M K l).1).2.2=true /\
  ll (vS (xO L G l).2.2.2 G (xO M K l).1).1 (vS (xO M K l).2.2.2 K (xO M K l).1).1 (vS (xO L G l).2.2.2 G (xO M K l).1).2.1 (vS (xO M K l).2.2.2 K (xO M K l).1).2.1 /\
  (vS (xO M K l).2.2.2 K (xO M K l).1).1.length<=M.length+min 256 l.length:=by
 have⟨e,d,_,S,f⟩:=h.Ko a c
 have i:=h.len
 have⟨a1,a2,a3⟩:=Hk h.wl h.nl G a<|d.trans b
 have⟨b1,b2,b3⟩:=Hk h.wm h.nm K a b
 have⟨_,_,_,r⟩:=IK h.wl h.wm h.g l Om c
 have ep:∀(L:av) (G:List Int),(xO L G l).2.2.2=(zM L G l).2.2.2:=fun L G=>by unfold xO;split<;>rfl
 have r:=r a1
 rw[<-ep,<-ep]at r
 rw[e]at a3
 rw[a3,b3]
 exact⟨rfl,rfl,⟨S.wl,S.wm,S.nl,S.nm,S.g.ic S.wl S.wm r,S.s⟩,f⟩
end
def YC{l}(g:qW l.c):(vB (qQ l).1).1=none\/(qF l=0/\∃q,vB (qQ l).1=(some q,0,0)/\Wf q/\al q q.length=true/\zA q q.length=zU l true true):=by
 by_cases b:(zH [] l).2.1≠0;have e:(qQ l).1=[]:=by unfold qQ;rw[if_pos b]
 rw[e];exact .inl tZ;have b:(zH [] l).2.1=0:=Classical.byContradiction b;have⟨f,d,h⟩:=CD b Wf.nil;have e:qQ l=iv (zH [] l).2.2 (zH [] l).1:=by unfold qQ;rw[if_neg Om]
 by_cases a:(qD (zH [] l).2.2 (zH [] l).1).length>4096;have:(qQ l).1=[]:=by rw[e];unfold iv;rw[if_pos d,if_pos a]
 rw[this];exact .inl tZ;have i:(qQ l).1=qD (zH [] l).2.2 (zH [] l).1:=by rw[e];unfold iv;rw[if_pos d,if_neg a]
 have⟨q,q1,q2,q3,q4⟩:=Fx (tJ Wf.nil l) (Bt yP.nil g) d Om;rw[i];exact .inr ⟨f,q,q1,q2,q3,by rw[q4,h]⟩
def OU(l):(qQ l).1.length<=4096:=by
 unfold qQ;split;simp;unfold iv;split;grind;simp
def U3{M}(b:Wf M)(K){l}(j:qW l.c)(s:M.length<=60000):(vS M K (qQ l).1).1.length<=M.length+40:=by
 have e:(vS M K (qQ l).1).1=(yM M (qQ l).1).2.2.2:=by unfold vS;split<;>rfl
 rw[e];rcases YC j with h|⟨f,q,q1,q2,q3,q4⟩;have:(yM M (qQ l).1).2.2.2=M:=by unfold yM;rw[h]
 rw[this];exact Nat.le_add_right _ _;have:(yM M (qQ l).1).2.2.2=(vI M q q.length).2.2:=by unfold yM;rw[q1]
 rw[this];have m:2*q.length<=(qQ l).1.length:=Dz (by rw[q1]);have n:=OU l;have a:=(Al b q2 q3 Om).1;have b1:=Iy b (l:=l) Om;obtain⟨_,b2,b3⟩:=CD (by rw[b1];exact f) b;have d:=tJ b l;have t:=Tu b l;obtain⟨X,r⟩:=CB b.ok l;obtain⟨k,_⟩:=xZ b q2 q3 a;have hi:=Mo q2 (dc q q.length) [] M (fun _=>0) (Cp.start b) (fun z g=>xH q2 g) (xJ q2 _) (by have:=uW q2 (q.length:Int);omega);have p:(vI M q q.length).2.2=(zT q (dc q q.length) M fun _=>0).1:=by
  unfold vI at a|-;rw[if_pos q3]at a|-;simp only at a|-;split;grind;rfl
 have:j8 (vI M q q.length).2.2 (zH M l).2.2:=by
  intro v i;rw[p]at i|-;rcases hi v i with⟨h1,h2⟩|⟨z,g,h2⟩;rw[r]at d|-;exact⟨v,uF h1,by rw[h2,Bo d h1]⟩;obtain⟨v',h3,o⟩:=LS d q2 ((zt q2).1 g).2 q3 _ b2 (by rw[b3,q4]);exact⟨v',h3,by rw[h2,o]⟩
 have:=this.len k;omega
def Cq(Lq:av)(q:av×List Int)(t:Int):av×List Int:=((vI q.1 Lq t).2.2,if(vI q.1 Lq t).2.1=0 then pd (vI q.1 Lq t).2.2 q.2 (vI q.1 Lq t).1 else q.2)
def vL(Lq:av)(G:List Int):av×List Int:=G.foldl (Cq Lq) ([],[])
def HK(Lq G t):vL Lq (G++[t])=Cq Lq (vL Lq G) t:=by unfold vL;rw[foldl_append];rfl
def zHD{P:List Int->Prop}(a:P [])(h1:∀l t,P l->P (l++[t]))(l):P l:=by
 have:∀m:List Int,P m.reverse:=fun m=>by
  induction m with
  |nil=>exact a
  |cons x m b=>rw[reverse_cons];exact h1 _ _ b
 have:=this l.reverse;rwa [reverse_reverse]at this
def IN{Lq}(c:Wf Lq)(j:yP Lq):∀(G:List Int),G.Nodup->(∀g∈G,al Lq g=true)->Wf (vL Lq G).1/\yP (vL Lq G).1/\j8 (vL Lq G).1 Lq/\LR (vL Lq G).1 Lq (vL Lq G).2 G:=by
 refine zHD (fun _ _=>⟨Wf.nil,yP.nil,j8.nil,LR.nil⟩) fun G t k o hi=>?_;have⟨n1,_,n2⟩:=nodup_append.1 o;have⟨w,n,s,g⟩:=k n1 Gd;have ht:=hi t Sm;rw[HK];generalize vL Lq G=q at *;have⟨e,s'⟩:=VH w c s ht;have⟨a,f,m⟩:=xZ w c ht e;have i:=Np n j t;have⟨X,p⟩:=EK q.1 Lq t;have l:LR (vI q.1 Lq t).2.2 Lq q.2 G:=by
  rw[p]at a|-;have:=g.gn (Y:=[]) a Gd;rwa [append_nil]at this
 have d:=l.ic a c (s:=(vI q.1 Lq t).1) (t:=t) ⟨f,ht,m⟩;have b:t∉G:=fun h=>n2 t h t Sm rfl;unfold Cq;rw[if_pos e,tV f];rw[show ic G t=G++[t] by unfold Proofs.ic;rw[if_neg b]]at d;exact⟨a,i,s',d⟩
def ll.jaI{L M G K}(h:ll L M G K)(d:G.Nodup):ll (vL L G).1 M (vL L G).2 K:=by
 have⟨w,n,s,g⟩:=IN h.wl h.nl G d h.g.l;refine⟨w,h.wm,n,h.nm,⟨g.l,h.g.m,g.e.trans h.g.e⟩,fun v c=>?_⟩;have⟨t,ht,e⟩:=s v c;have⟨u,b,a⟩:=h.s t ht;exact⟨u,b,e.trans a⟩
end Go.Proofs
end
section
open Go Go.SE List
namespace Go.Proofs
open Tryz
attribute [local irreducible] Calls
def gr.fm{w f L G a b F}(h:gr w f L G a b F):G.length<=1000000:=by
 have:=tT h.pI.1 h.pI.2;have:=h.wf.ok.fm;omega
abbrev EA(A:World->av->NP->Prop)(S:List UInt8×Int×Int×av)(F:NP)(a:World)(r1:ByteArray)(r2 r3:Int)(w':World):Prop:=r1=⟨S.1.toArray⟩/\r2=S.2.1/\r3=S.2.2.1/\∃F',A w' S.2.2.2 F'/\ab F a w'/\∀y,F' y->F y\/a.heap.size<=y
def MZ{D:NP}(f:Addr)(sl:Sl)(l:List Op)(c:World){L:av}{G:List Int}{a b:Bool}{F:NP}(h:gr c f L G a b F)(u:yP (zM L G l).2.2.2)(H:dn D c 5 sl (l.map pn))(M:∀y,D y->y<c.heap.size/\¬ F y)(I:l.length<=1000):
  cl 14 #[vp<|some f,sl.v] c<|XU fun r1 r2 r3 w'=>EA (fun w L F=>gr w f L G a b F) (xO L G l) F c r1 r2 r3 w':=by
 refine U6 _ _ c (EA (fun w L F=>gr w f L G a b F) (xO L G l) F c) ?_
 unfold NF
 have O:=h.fm
 have⟨k,p,S,A,U,C,W⟩:=h
 refine Br.f rfl ⟨fun _=>True,trivial,?_⟩
 rintro V rfl
 have o:Pure c c.drew:=ab.drew c
 have h1:=C.ext o fun _ _ h=>h
 have Y:=o.size
 refine⟨f,rfl,some p,h1.box.cell rfl,f,rfl,some k,h1.box.bd,?_⟩
 refine(jOF p k sl l c.drew h1.wf h1.bj h1.fh (H.pure o) Gd O I).mono ?_
 rintro _ E ⟨r1,r2,r3,rfl,J,d,t,z,x⟩
 have⟨P,r⟩:=Prod.mk.inj J
 have⟨q,N⟩:=Prod.mk.inj r
 have⟨X,B⟩:=N0 L G l
 have n:=zy C.wf G l
 have s:=B
 rw[B]at t n
 have h2:=h1.pW t n z x
 rw[<-s]at h2 t n
 have i:ab F c E:=(ab.pure o).trans<|z.mono Gd
 have g:∀y,(y=f.block\/A y\/d y)->F y\/c.heap.size<=y:=Gd
 refine⟨_,_,_,rfl,trivial,z.bl fun _ h=>h.elim,fun e=>?_,fun e=>?_⟩
 have e:=bne_iff_ne.1 e
 rw[q]at e
 unfold xO
 rw[if_pos e]
 exact⟨rfl,q,N,_,⟨k,p,S,A,d,h2,fun _=>Iff.rfl⟩,i,g⟩
 have j:r2=0:=by simpa using e
 rw[q]at j
 unfold xO
 rw[if_neg<|by simpa using j,<-P]
 refine⟨f,rfl,some p,h2.box.cell rfl,?_⟩
 refine(Vw p r1 E n u h2.bj).mono ?_
 rintro _ T ⟨Q,R,rfl,K,m⟩
 refine⟨_,_,rfl,m.pure.bo,_,Cj underlying59 underlying5 underlying9 m.cj.ei,rfl,K,rfl,_,⟨k,p,S,A,d,h2.ext m.pure fun _ _ h=>h,fun _=>Iff.rfl⟩,i.fb m.pure,g⟩
def OR(f w0){L G a b F}(h:gr w0 f L G a b F)(hN:yP L):
  cl 22 #[vp<|some f] w0<|XD fun r w'=>∃c F',r=some c/\gr w' c (vL L G).1 (vL L G).2 a b F'/\Pure w0 w'/\∀y,F' y->w0.heap.size<=y:=by
 suffices key:∀K:Option Addr->WP,(∀c w',(∃F',gr w' c (vL L G).1 (vL L G).2 a b F'/\Pure w0 w'/\∀y,F' y->w0.heap.size<=y)->K (some c) w')->Gb (some f) w0 K from
  YG _ w0 _<|key _ Gd
 intro K hK
 unfold Gb
 have hG:=h.fm
 have hg:=h.pI
 have hFl:∀y,F y->y<w0.heap.size:=fun y g=>h.lt g
 have hwf:=h.wf
 have⟨k,p,S,FK,FP,hA0,hF⟩:=h
 refine Br.f rfl ?_
 refine(G5 w0).mono ?_
 rintro _ P ⟨_,rfl,c,Fc,rfl,R,E1,hn1⟩
 have z1:=E1.size
 have hA:=hA0.ext E1 fun _ _ h=>h
 have⟨kc,pc,Sc,W,T,o,M⟩:=R
 refine⟨_,rfl,E1.bo,f,rfl,a,b,fun i hi=>?_,c,rfl,fun j hj=>?_,id,?_⟩
 .rw[yL]
  rcases(show i=0\/i=1 by simp at hi;omega)with rfl|rfl
  .exact hA.box.cell rfl
  .exact hA.box.cell rfl
 .rw[yL];exact o.box.ee So
 rintro O rfl
 have Bc:=ai.storeAt [vb a,vb b] 0 2 P _ o.box Sm
 have X2:ab (·=c.block) P (bb P (c.add 2) [vb a,vb b]):=by
  have:=ab.bb P (c.add 2) [vb a,vb b];rw[zC]at this;exact this
 have Bc:ai (bb P (c.add 2) [vb a,vb b]) c [vp<|some kc,vp<|some pc,vb a,vb b] 98:=Bc
 generalize bb P (c.add 2) [vb a,vb b]=O at *
 have z:rS O c [] [] a b kc pc Sc W T:=⟨Bc,o.fh.ext X2 fun y g e=>o.dk<|e▸g,o.bj.ext X2 fun y g e=>o.dp<|e▸g,o.wf,o.ok,o.d,o.dk,o.dp⟩
 have cn:w0.heap.size<=c.block:=hn1 _<|(M _).2<|.inl rfl
 have E2:Pure w0 O:=E1.cg X2 Gd
 have hA2:rS O f L G a b k p S FK FP:=hA.ext X2 Gd
 clear o hA Bc
 refine⟨f,rfl,some k,hA2.box.bd,?_⟩
 refine(Nj k p O hA2.fh hG).mono ?_
 rintro _ w3 ⟨r2,rfl,D⟩
 have z2:=E2.size
 have E3:=E2.trans D.pure
 have z3:=D.pure.size
 refine⟨_,rfl,D.pure.bo,?_⟩
 have hlen:r2.len=G.length:=by rw[D.cj.len,vA]
 have C:sH w0 ar r2.ao ar w3 c [] [] a b:=by
  have l:∀y,Fc y->y<O.heap.size:=fun y g=>by
   rcases(M y).1 g with rfl|g|g
   .exact z.box.lt
   .exact z.fh.lt g
   .exact z.bj.lt g
  refine⟨Fc,⟨kc,pc,Sc,W,T,z.ext D.pure fun _ _ h=>h,M⟩,E3,fun y g=>⟨.inr<|hn1 y g,id,fun hb=>?_⟩,fun y g=>⟨D.cj.lt g,id⟩,fun y g=>g.elim⟩;have:=D.ak y hb;have:=l y g;omega
 have B:ju ar w3 73 1 r2 (bz G):=⟨D.cj,fun _ _ h=>h⟩
 refine⟨fun i H w=>∃n:Nat,i=n/\n<=G.length/\H=ar/\sH w0 ar r2.ao ar w c (vL L<|G.take n).1 (vL L<|G.take n).2 a b/\ju ar w 73 1 r2 (bz G),fun i _=>((G.length:Int)-i).toNat,⟨0,rfl,Nat.zero_le _,rfl,C,B⟩,?_⟩
 clear C B
 rintro _ Hl wl hsl ⟨n,rfl,hn,rfl,x,ho⟩
 refine⟨fun l=>?_,fun l=>?_⟩
 .have l:n<G.length:=Oh<|of_decide_eq_true l
  have s:G.take (n+1)=G.take n++[G[n]]:=by rw[take_succ_eq_append_getElem l]
  have hGn:=hg.2 _<|getElem_mem l
  have⟨a4,hat,Cu⟩:=AU ho.cj (i:=(n:Int)) (t:=G[n]) (by rw[uh Om<|by simpa using l];simp)
  generalize G[n]=t at *
  have hw1:=(IN hwf hN (G.take<|n+1) (hg.1.sublist<|take_sublist _ G) Gd).1
  rw[s,HK]at hw1
  refine⟨a4,hat,t,Cu,fun _=>True,trivial,?_⟩
  rintro w4 rfl
  have N:=x.BN<|ab.drew wl
  have ho4:=ho.pure<|ab.drew wl
  generalize wl.drew=w4 at *
  have⟨F4,N,E4,d1,d2,d3⟩:=N
  have⟨k4,U,S4,FK4,FP4,h4,v⟩:=N
  have I:=hA0.ext E4 fun _ _ h=>h
  have EJ:∀y,F4 y->w0.heap.size<=y:=fun y g=>(d1 y g).1.elim False.elim id
  refine⟨c,rfl,some U,h4.box.cell rfl,f,rfl,some p,I.box.cell rfl,?_⟩
  refine(Lp U p t w4 h4.wf I.wf h4.bj I.bj Gd).mono ?_
  rintro _ w5 ⟨r3,r4,rfl,e3,e4,Y,V,Q,hF5⟩
  have next : ∀ w, sH w0 ar r2.ao ar w c (vL L<|G.take<|n + 1).1 (vL L<|G.take<|n + 1).2 a b -> ju ar w 73 1 r2 (bz G) ->
    (∃m:Nat,IntKind.i64.wrap ((n:Int)+1)=m/\m<=G.length/\ar=ar/\sH w0 ar r2.ao ar w c (vL L<|G.take m).1 (vL L<|G.take m).2 a b/\ju ar w 73 1 r2 (bz G))/\((G.length:Int)-IntKind.i64.wrap ((n:Int)+1)).toNat<((G.length:Int)-(n:Int)).toNat:=by
   intro w g1 g2
   rw[zN l Om]
   exact⟨⟨n+1,rfl,l,rfl,g1,g2⟩,yY l⟩
  rw[s,HK]at next
  generalize vL L (G.take n)=q at *
  have⟨X,hX⟩:=EK q.1 L t
  have hX':=hX
  have J:Wf (vI q.1 L t).2.2:=hw1
  rw[hX]at V J
  have A:=h4.pW V J Q hF5
  rw[<-hX']at A J
  have Z:=ho4.ext (Q.mono Gd) fun y g hf=>(d1 y hf).2.2 g
  refine⟨_,_,rfl,trivial,Q.bl fun _ h=>h.elim,fun R=>?_,fun R=>?_⟩
  .have u:r4=0:=by simpa using R
   rw[e4]at u
   refine⟨c,rfl,some k4,A.box.bd,?_⟩
   refine(Gx k4 U r3 w5 A.fh A.bj A.wf A.d A.ok).mono ?_
   rintro _ w6 ⟨r5,rfl,_,S6,FK6,hK6,ok6,E6,hF6⟩
   have h6:=A.Hg hK6 ok6 E6 hF6
   refine⟨_,rfl,E6.bl fun _ h=>h.elim,?_⟩
   have X46:ab F4 w4 w6:=(Q.mono fun y _ g=>(v y).2<|.inr<|.inr g).trans<|E6.mono Gd
   have z5:=Q.size
   refine next _ (sH.step d1 d2 d3 E4 ⟨k4,U,S6,FK6,Y,?_,fun _=>Iff.rfl⟩ X46 ?_).1 (Z.ext (E6.mono fun y _ g=>(v y).2<|.inr<|.inl g) fun y g hf=>(d1 y hf).2.2 g)
   .unfold Cq
    rw[if_pos u,<-e3];exact h6
   .grind
  .have u:¬r4=0:=by simpa using R
   rw[e4]at u
   refine next _ (sH.step d1 d2 d3 E4 ⟨k4,U,S4,FK4,Y,?_,fun _=>Iff.rfl⟩ (Q.mono fun y _ g=>(v y).2<|.inr<|.inr g) ?_).1 Z
   .unfold Cq
    rw[if_neg u];exact A
   .grind
 .have:n=G.length:=Oh<|of_decide_eq_false l
  subst this
  rw[take_length]at x
  have⟨F',x,E,h1,_⟩:=x
  exact hK c wl ⟨F',x,E,fun y g=>(h1 y g).1.elim False.elim id⟩
structure tk(w:World)(r x q:Addr)(M:av)(K:List Int)(a b:Bool)(FK FP:NP):Prop where
 box:ai w r [vp<|some x,vb a,vb b] 52
 fh:sS w x q K FK
 bj:vR w q M FP
 d:∀y,FK y->¬FP y
 dk:¬FK r.block
 dp:¬FP r.block
def rf(r:Addr)(M:av)(K:List Int)(a b:Bool):pY:=fun w F=>∃x q FK FP,tk w r x q M K a b FK FP/\∀y,F y↔y=r.block\/FK y\/FP y
section
variable {w w':World} {f r x q:Addr} {L M:av} {G K:List Int} {a b:Bool} {FK FP F:NP}
def tk.ext{X}(h:tk w r x q M K a b FK FP)(E:ab X w w')(c:∀y,y=r.block\/FK y\/FP y->¬X y):tk w' r x q M K a b FK FP:=
 ⟨h.box.ext E<|c _<|.inl rfl,h.fh.ext E fun b e=>c _<|.inr<|.inl e,h.bj.ext E fun b e=>c _<|.inr<|.inr e,h.d,h.dk,h.dp⟩
def qw:kg (rf r M K a b):=by
 refine⟨fun⟨x,q,FK,FP,h,e⟩ E d=>⟨x,q,FK,FP,h.ext E fun y c=>d y<|(e y).2 c,e⟩,fun⟨x,q,FK,FP,h,e⟩ y c=>?_⟩;rcases(e y).1 c with rfl|c|c;exact h.box.lt;exact h.fh.lt c;exact h.bj.lt c
def tk.pW{M' FP'}(h:tk w r x q M K a b FK FP)(g:vR w' q M' FP')(E:ab FP w w')(f:∀y,FP' y->FP y\/w.heap.size<=y):tk w' r x q M' K a b FK FP':=
 ⟨h.box.ext E h.dp,h.fh.ext E fun y c=>h.d y c,g,fun y c e=>(f y e).elim (h.d y c) fun i=>Oh<|h.fh.lt c,h.dk,fun c=>(f _ c).elim h.dp fun i=>Oh h.box.lt⟩
def tk.pI{K' FK'}(h:tk w r x q M K a b FK FP)(g:sS w' x q K' FK')(E:ab FK w w')(f:∀y,FK' y->FK y\/w.heap.size<=y):tk w' r x q M K' a b FK' FP:=
 ⟨h.box.ext E h.dk,g,h.bj.ext E fun y e c=>h.d y c e,fun y e=>(f y e).elim (h.d y) fun i c=>Oh<|h.bj.lt c,fun e=>(f _ e).elim h.dk fun i=>Oh h.box.lt,h.dp⟩
end
def sS.box{w x q G F}(h:sS w x q G F):∃sg:Sl,w.cell? x=some (vp<|some q)/\w.cell? (x.add 1)=some sg.v/\bf w 73 1 sg (bz G)/\∀y,sg.ao y->F y:=by
 have⟨sg,h,b⟩:=h;exact⟨sg,h.box.bd,h.box.cell rfl,h.jo,fun y a=>(b y).2<|.inr a⟩
def Vr(w0):cl 10 #[] w0 (XD fun r w'=>∃c F,r=some c/\rf c [] [] false false w' F/\Pure w0 w'/\∀y,F y->w0.heap.size<=y):=by
 refine Yx w0 (fun r w'=>∃c F,r=some c/\rf c [] [] false false w' F/\Pure w0 w'/\∀y,F y->w0.heap.size<=y) ?_;refine(HU w0).mono ?_;rintro _ l ⟨_,rfl,q,FP,rfl,f,i,m⟩;refine⟨_,rfl,fun g j h2 k n h3=>?_⟩;have e:Pure l j:=ab.aw h2;have d:Pure j n:=ab.aw h3;have s:=i.size;have t:=e.size;have b1:=h2.cu;have b2:=h3.cu;have p:=(ai.fp h2).lt;have a:∀y,¬Sl.nil.ao y:=fun y o=>by have⟨_,h,_⟩:=o;cases h
 refine⟨k,_,rfl,⟨g,q,fun y=>y=g.block,FP,⟨ai.fp h3,⟨Sl.nil,⟨(ai.fp h2).pure d,bf.nil _ _ _,a _⟩,fun y=>by simp[a]⟩,(f.pure e).pure d,?_,?_,?_⟩,fun _=>Iff.rfl⟩,(i.trans e).trans d,?_⟩;rintro y rfl b;have:=f.lt b;omega;omega;intro b;have:=f.lt b;omega;rintro y (rfl|rfl|b);omega;omega;exact m y b
section
variable (r:Addr) (w0:World) {M:av} {K:List Int} {a b:Bool} {F:NP} (h:rf r M K a b w0 F) (hW:Wf M)
include h hW
def L8(body:ByteArray)(z:K.length<=100000):cl 45 #[vp<|some r,vs body] w0 (XC fun o w'=>o=(vS M K body.data.toList).2.2/\Tn (rf r (vS M K body.data.toList).1 (vS M K body.data.toList).2.1 a b) F w0 w'):=by
 refine jcM _ _ w0 (fun o w'=>o=(vS M K body.data.toList).2.2/\Tn (rf r (vS M K body.data.toList).1 (vS M K body.data.toList).2.1 a b) F w0 w') ?_;unfold Kw;have⟨x,q,FK,FP,h,g⟩:=h;have⟨sg,C,H,_⟩:=h.fh.box;refine⟨r,rfl,some x,h.box.bd,x,rfl,some q,C,?_⟩;have⟨s,w,hr,n,hs,_⟩:=Ie (P:=prog) (src:=9) (dst:=59) underlying9 underlying59 underlying5 w0 body;refine⟨s,w,hr,?_⟩;have h1:=h.ext n fun _ _ h=>h;refine(zBI q s body.data.toList w hW h1.bj hs).mono ?_;rintro _ v ⟨t,e,y,rfl,rfl,rfl,rfl,f,A,m,k⟩;have h2:=h1.pW A m k;have I:=n.size;have E:=m.size;have i:ab F w0 v:=(ab.pure n).trans<|m.mono fun y _ c=>(g y).2<|.inr<|.inr c;have u:∀y,f y->F y\/w0.heap.size<=y:=fun y c=>(k y c).imp (fun h=>(g y).2<|.inr<|.inr h) fun h=>Om;refine⟨_,_,_,rfl,fun d=>?_,fun d=>?_⟩;have d:=bne_iff_ne.1 d;unfold vS;rw[if_pos d];refine⟨rfl,_,⟨x,q,FK,f,h2,fun _=>Iff.rfl⟩,i,?_⟩;rintro y (rfl|c|c);exact .inl<|(g _).2<|.inl rfl;exact .inl<|(g y).2<|.inr<|.inl c;exact u y c;have d:(yM M body.data.toList).2.1=0:=by simpa using d
 refine⟨r,rfl,some x,h2.box.bd,?_⟩;refine(K6 x q (yM M body.data.toList).1 v h2.fh h2.bj z).mono ?_;rintro _ G ⟨D,rfl,l,B,p,j⟩;refine⟨_,rfl,?_⟩;unfold vS;rw[if_neg<|by simpa using d];refine⟨rfl,_,⟨x,q,l,f,h2.pI B p j,fun _=>Iff.rfl⟩,i.trans<|p.mono fun y _ c=>(g y).2<|.inr<|.inl c,?_⟩;rintro y (rfl|c|c);exact .inl<|(g _).2<|.inl rfl;exact(j y c).imp (fun h=>(g y).2<|.inr<|.inl h) fun h=>Om;exact u y c
def jQO(who)(B:K.length<=100000)(A:M.length<65536):cl 46 #[vp<|some r,vi who] w0 (XB fun o w'=>o=(zS M K a b who).1/\Tn (rf r (zS M K a b who).2.1 (zS M K a b who).2.2.1 (zS M K a b who).2.2.2.1 (zS M K a b who).2.2.2.2) F w0 w'):=by
 refine jaS _ _ w0 (fun o w'=>o=(zS M K a b who).1/\Tn (rf r (zS M K a b who).2.1 (zS M K a b who).2.2.1 (zS M K a b who).2.2.2.1 (zS M K a b who).2.2.2.2) F w0 w') ?_;refine⟨fun j=>?_,fun j=>?_⟩;have e:zS M K a b who=(2,M,K,a,b):=by
  unfold zS uC;rw[if_pos (by simp only[Bool.and_eq_true,bne_iff_ne]at j;simpa using j)]
 rw[e];exact⟨rfl,F,h,ab.refl _,fun y c=>.inl c⟩;have O:who=0\/who=1:=by
  simp only[Bool.and_eq_false_iff,bne_eq_false_iff_eq]at j;exact j
 have⟨x,q,FK,FP,h,f⟩:=h;have⟨sg,G,P,_⟩:=h.fh.box;refine⟨r,rfl,some x,h.box.bd,x,rfl,some q,G,?_⟩;refine(vZ q (zV who) w0 h.bj hW.ok).mono ?_;rintro _ I ⟨r1,r2,rfl,C,u,D,s,k⟩;have⟨J,N⟩:=Prod.mk.inj C;have⟨H,_⟩:=OL hW A (n:=who) Om;have h2:=h.pW D s k;refine⟨_,_,rfl,r,rfl,some x,h2.box.bd,?_⟩;refine(K6 x q r1 I h2.fh h2.bj B).mono ?_;rintro _ l ⟨r3,rfl,m,E,v,g⟩;have h3:=h2.pI E v g;have L:=s.size;obtain⟨i,rfl,hi⟩:∃i:Nat,who=(i:Int)/\i<2:=⟨who.toNat,Om,Om⟩;refine⟨_,rfl,r,rfl,(r.add 1).add i,⟨Om,Om,Sm⟩,?_⟩;rw[yL];refine⟨h3.box.ee So,?_⟩;rintro _ rfl;have z:=h3.box.set (1+i)<|vb true;have t:ab (·=r.block) l (l.setCell (r.add<|1+i)<|vb true):=by
  have:=ab.setCell (w:=l) (r.add<|1+i)<|vb true;rw[zC]at this;exact this
 unfold zS;rw[if_neg (by unfold uC;rcases(show i=0\/i=1 by omega)with rfl|rfl<;>simp),if_neg (by rw[H];simp),<-J];have p:ai (l.setCell (r.add<|1+i)<|vb true) r [vp<|some x,vb<|a ||((i:Int)==0),vb<|b ||((i:Int)==1)] 52:=by
  rcases(show i=0\/i=1 by omega)with rfl|rfl;simpa using z;simpa using z
 refine⟨rfl,_,⟨x,q,m,u,⟨p,h3.fh.ext t fun y c e=>h3.dk<|e▸c,h3.bj.ext t fun y c e=>h3.dp<|e▸c,h3.d,h3.dk,h3.dp⟩,fun _=>Iff.rfl⟩,((s.mono fun y _ c=>(f y).2<|.inr<|.inr c).trans<|v.mono fun y _ c=>(f y).2<|.inr<|.inl c).trans (t.mono fun y _ c=>(f y).2<|.inl c),?_⟩;rintro y (rfl|c|c);exact .inl<|(f _).2<|.inl rfl;exact(g y c).imp (fun h=>(f y).2<|.inr<|.inl h) fun h=>Om;exact(k y c).imp (fun h=>(f y).2<|.inr<|.inr h) id
def zEX{J:NP}(sl:Sl)(l:List Op)(N:yP M)(Y:∀o∈l,qW o.num)(u:dn J w0 5 sl (l.map pn))(m:∀y,J y->y<w0.heap.size/\¬ F y)(P:l.length<=1000):
  cl 47 #[vp<|some r,sl.v] w0<|XU fun r1 r2 r3 w'=>EA (fun w M F=>rf r M K a b w F) (xO M K l) F w0 r1 r2 r3 w':=by
 refine Xq _ _ w0 (EA (fun w M F=>rf r M K a b w F) (xO M K l) F w0) ?_
 unfold Pb
 have⟨x,q,FK,FP,h,p⟩:=h
 refine⟨fun _=>True,trivial,?_⟩
 rintro w1 rfl
 have t:Pure w0 w0.drew:=ab.drew w0
 have h1:=h.ext t fun _ _ h=>h
 have Z:=t.size
 have⟨sg,U,W,H,ks⟩:=h1.fh.box
 refine⟨r,rfl,some x,h1.box.bd,x,rfl,some q,U,r,rfl,some x,h1.box.bd,x,rfl,sg,W,?_⟩
 refine(UW q sg sl K l w0.drew hW h1.bj H.ei (u.pure t) (fun y e=>⟨H.lt e,h1.d y<|ks y e⟩) (fun y e=>⟨Nat.lt_of_lt_of_le (m y e).1 Z,fun R=>(m y e).2<|(p y).2<|.inr<|.inr R⟩) P).mono ?_
 rintro _ L ⟨r1,r2,r3,rfl,S,g,T,G,n⟩
 have⟨X,B⟩:=Prod.mk.inj S
 have⟨A,V⟩:=Prod.mk.inj B
 have E:=zy hW K l
 have D:=uG N K Y
 have h2:=h1.pW T G n
 have k:ab F w0 L:=(ab.pure t).trans<|G.mono fun y _ e=>(p y).2<|.inr<|.inr e
 have j:∀y,(y=r.block\/FK y\/g y)->F y\/w0.heap.size<=y:=by
  rintro y (rfl|e|e);exact .inl<|(p _).2<|.inl rfl;exact .inl<|(p y).2<|.inr<|.inl e;exact(n y e).imp (fun h=>(p y).2<|.inr<|.inr h) fun h=>Om
 refine⟨_,_,_,rfl,trivial,G.bl fun _ h=>h.elim,fun c=>?_,fun c=>?_⟩
 have c:=bne_iff_ne.1 c
 rw[A]at c
 unfold xO
 rw[if_pos c]
 exact⟨rfl,A,V,_,⟨x,q,FK,g,h2,fun _=>Iff.rfl⟩,k,j⟩
 have f:r2=0:=by simpa using c
 rw[A]at f
 unfold xO
 rw[if_neg<|by simpa using f,<-X]
 have⟨Q,z,_⟩:=h2.fh.box
 refine⟨r,rfl,some x,h2.box.bd,x,rfl,some q,z,?_⟩
 refine(MQ q r1 L E D h2.bj).mono ?_
 rintro _ I ⟨r4,O,rfl,C,s⟩
 have i:∃F',rf r (zM M K l).2.2.2 K a b I F'/\ab F w0 I/\∀y,F' y->F y\/w0.heap.size<=y:=⟨_,⟨x,q,FK,g,h2.ext s.pure fun _ _ h=>h,fun _=>Iff.rfl⟩,k.fb s.pure,j⟩
 refine⟨_,_,rfl,s.pure.bo,fun c=>?_,fun c=>?_⟩
 have c:=bne_iff_ne.1 c
 refine⟨?_,C,rfl,i⟩
 have:(iv (zM M K l).2.2.2 r1).1=[]:=by
  rw[C]at c;unfold iv at c|-;split;rename_i hi;rw[if_pos hi]at c;split;rfl;rename_i u;rw[if_neg u]at c;exact absurd rfl c;rfl
 rw[this]
 have f:O=0:=by simpa using c
 exact⟨_,Cj underlying59 underlying5 underlying9 s.cj.ei,rfl,by rw[<-C,f],rfl,i⟩
end
def Gq(l:eo):(Bv l).data.toList=(qQ l).1:=by unfold Bv;simp
section
variable {w0 w:World} {F0 H:NP} {f:Addr} {L:av} {G:List Int} {a b:Bool} (T:Tk H (gj f L G a b) F0 w0 w)
include T
def _root_.Go.SE.Tk.binds(who c x):cl 13 #[vp<|some f,.agg #[vi who,vu c,vs x]] w (XC fun r w'=>(r=true↔(tX L G who c x).1≠0)/\Tk H (gj f (tX L G who c x).2 G a b) F0 w0 w'/\aj H w w'):=by
 have⟨F,d,_,k⟩:=T.one;exact(Hf f who c x w d).mono fun e w' ⟨r,g,hr,t⟩=>⟨r,g,hr,k t⟩
def _root_.Go.SE.Tk.yj(body):cl 23 #[vp<|some f,vs body] w (XC fun r w'=>r=(vS L G body.data.toList).2.2/\Tk H (gj f (vS L G body.data.toList).1 (vS L G body.data.toList).2.1 a b) F0 w0 w'/\aj H w w'):=by
 have⟨F,c,_,k⟩:=T.one;exact(Cs f body w c).mono fun e w' ⟨r,d,hr,t⟩=>⟨r,d,hr,k (A':=gj _ _ _ _ _) t⟩
def _root_.Go.SE.Tk.Es(who):cl 41 #[vp<|some f,vi who] w (XB fun r w'=>r=(zS L G a b who).1/\Tk H (gj f (zS L G a b who).2.1 (zS L G a b who).2.2.1 (zS L G a b who).2.2.2.1 (zS L G a b who).2.2.2.2) F0 w0 w'/\aj H w w'):=by
 have⟨F,c,_,k⟩:=T.one;exact(Ih f who w c).mono fun e w' ⟨r,d,hr,t⟩=>⟨r,d,hr,k (A':=gj _ _ _ _ _) t⟩
def _root_.Go.SE.Tk.free(who):cl 21 #[vp<|some f,vi who] w (XC fun r w'=>r=tu L G who/\Tk H (gj f L G a b) F0 w0 w'/\aj H w w'):=by
 have c:=T;have⟨F,d,_⟩:=T;exact(Hy f who w d).mono fun e w' ⟨r,g,hr,E⟩=>⟨r,g,hr,c.pure vO E,E.bo⟩
end
def jRB(w0):cl 8 #[] w0 (XC fun r w'=>r=true/\Pure w0 w'):=by
 refine TH w0 (fun r w'=>r=true/\Pure w0 w') ?_;refine(G5 w0).mono ?_;rintro _ O ⟨_,rfl,f,F,rfl,Q,P,E⟩;refine⟨some f,rfl,P.bo,fun h=>(by cases h),fun _=>?_⟩;have D:Tk ar (gj f [] [] false false) ar w0 O:=⟨F,Q,P,fun y hy=>⟨.inr<|E y hy,id⟩,fun _ h=>h.elim⟩;clear Q E;refine(H8 f23 ⟨De,De⟩ O).mono ?_;rintro _ w2 ⟨_,rfl,rfl,M⟩;refine⟨_,rfl,M.bo,?_⟩;refine((D.pure vO M).yj<|Bv f23).mono ?_;rintro _ w3 ⟨_,rfl,rfl,v,N⟩;have⟨L,G,e,b,d⟩:=W4;rw[Gq,e]at v;refine⟨_,rfl,N,fun h=>?_,fun _=>?_⟩;rw[Gq,e]at h;cases h;refine(v.yj ⟨#[120]⟩).mono ?_;rintro _ w4 ⟨_,rfl,rfl,B,J⟩;have ex:vS L G (ByteArray.mk #[120]).data.toList=(L,G,false):=jbK L G;rw[ex]at B;refine⟨_,rfl,J,?_⟩;rw[ex];refine⟨fun h=>(by cases h),fun _=>?_⟩;clear D v N J;refine(B.binds 1 7 ⟨#[116]⟩).mono ?_;rintro _ w5 ⟨S,rfl,h5,V,k5⟩;have⟨k,l5⟩:=b.Fl Om 1 7 ⟨#[116]⟩;have t5:S=true:=h5.2 ((Bz b.wf b.gm Om 1 7 _).2 (by
  rw[b.e];exact(Gm rfl De).2<|.inr ⟨f23,by simp[j0,f23],Kf,_,Sm,.refl⟩))
 subst t5;refine⟨_,rfl,k5,fun _=>?_,fun h=>(by cases h)⟩;generalize (tX L G 1 7 ⟨#[116]⟩).2=L2 at *;refine(V.binds 0 7 ⟨#[116]⟩).mono ?_;rintro _ w6 ⟨r6,rfl,h6,T6,Y⟩;have⟨c,l6⟩:=k.Fl Om 0 7 ⟨#[116]⟩;have t6:r6=false:=Bool.eq_false_iff.2 (fun h=>by
  have:=(Bz k.wf k.gm Om 0 7 _).1<|h6.1 h;rw[k.e]at this;rcases(Gm rfl De).1 this with⟨_,h|h⟩|⟨l,d,_,hs⟩;exact Jh _ h;exact Jh _ h;rcases Pp hs with e|e;simp[j0]at d;rcases d with rfl|rfl<;>simp[zU,f23,xE]at e;simp[j0]at d;rcases d with rfl|rfl<;>exact(e _ .refl).1 rfl)
 subst t6;refine⟨_,rfl,Y,?_⟩;generalize (tX L2 G 0 7 ⟨#[116]⟩).2=a at *;refine⟨fun _=>?_,fun h=>(by cases h)⟩;refine(T6.free 1).mono ?_;rintro _ w7 ⟨_,rfl,rfl,T7,k7⟩;refine⟨_,rfl,k7,?_⟩;have t7:tu a G 1=false:=Bool.eq_false_iff.2 (fun h=>by
  have:=(DH c.wf c.gm 1).1 h;rw[c.e]at this;rcases this.2 with h|h<;>exact Jh _ h)
 rw[t7];refine⟨fun _=>?_,fun h=>(by cases h)⟩;have⟨K,ml⟩:=OL c.wf Om (n:=0)<|.inl rfl;have⟨u,m2,_⟩:=uU K;have s:=uQ c.wf<|zV 0;have⟨X,W⟩:=yG a<|zV 0;have C:zS a G false false 0=(0,(ax a<|zV 0).2.2,ic G (ax a<|zV 0).1,true,false):=by
  unfold zS;rw[if_neg De,if_neg (by rw[K];simp),tV u];rfl
 refine(T7.Es 0).mono ?_;rintro _ w8' ⟨_,rfl,rfl,A,T⟩;rw[C]at A;refine⟨_,rfl,T,fun w9 w=>?_⟩;have T9:=A.aq vO w;rw[C];have hs:mw ((ic G (ax a<|zV 0).1).map<|zA (ax a<|zV 0).2.2) (nj 0):=⟨_,mem_map.2 ⟨_,y8.2<|.inr rfl,rfl⟩,by rw[zDX s u m2];exact .refl⟩;have H:∀g∈ic G (ax a<|zV 0).1,al (ax a<|zV 0).2.2 g=true:=fun g b=>by
  rcases y8.1 b with h|rfl;rw[W];exact uF<|c.gm g h;exact u
 generalize (ax a<|zV 0).2.2=t,(ax a<|zV 0).1=kk at *;generalize ic G kk=z at *;refine⟨fun _=>?_,fun h=>(by cases h)⟩;have I:zS t z true false 2=(2,t,z,true,false):=by unfold zS;rw[if_pos De]
 refine(T9.Es 2).mono ?_;rintro _ w10 ⟨_,rfl,rfl,j,x⟩;rw[I]at j;refine⟨_,rfl,x,fun U i=>?_⟩;rw[I];refine⟨fun _=>?_,fun h=>(by cases h)⟩;refine((j.aq vO i).free 0).mono ?_;rintro _ Z ⟨_,rfl,rfl,m,q⟩;refine⟨_,rfl,q,?_⟩;have fr:wo (z.map<|zA t) 0:=⟨rfl,.inl hs⟩;rw[(DH s H 0).2 fr];refine⟨fun _=>?_,fun h=>(by cases h)⟩;refine(m.binds 0 9 ⟨#[120]⟩).mono ?_;rintro _ R ⟨r,rfl,hr,o,p⟩;exact⟨_,rfl,p,hr.2<|(Bz s H Om 0 9 _).2<|(Gm rfl De).2<|.inl fr,o.fr⟩
def RU(l:List Op):∀q∈l.map pn,q.length=5:=by intro q a;obtain⟨o,_,rfl⟩:=mem_map.1 a;rfl
def SM(l:List Op):∀q∈l.map pn,q.all vG=true:=by intro q a;obtain⟨o,_,rfl⟩:=mem_map.1 a;rfl
def jah:j1 prog 36 88 5 48:=by
 refine⟨underlying36,⟨t88,_,Kf,(by kernel_rfl:t88.zero=some (.agg #[vi 0,vi 0,vi 0,vu 0,vs ⟨#[]⟩])),Kf,Kf,rfl⟩,Om⟩
def NY{So:NP}{so:Sl}{ops:List Op}{w d:World}{f:Addr}(j:dn So w 5 so (ops.map pn))(m:ops.length<=1000)(n3:au w (.cells #[] 88) f d):∃s1 c,(Builtin.append_ #[36,36] 36 #[(Sl.mk (some f) 0 0).v,so.v]).run prog d=.ok s1.v c/\bf c 88 5 s1 (ops.map pn)/\Pure w c/\Pure w d/\(∀b,s1.ao b->w.heap.size<=b)/\∀H:NP,(∀b,H b->b<w.heap.size)->aj H d c:=by
 have g:Pure w d:=ab.aw n3;have n:=n3.cu;have⟨s1,c,hr,R,X,b4⟩:=(bf.empty (sz:=5) n3).Bb (P:=prog) (ty:=36) jah (j.pure g) (RU _) (SM _) (by simp;omega) (by simp[maxLen];omega);have l:∀b,(Sl.mk (some f) 0 0).ao b->b=f.block:=fun b ⟨a,i,e⟩=>by cases i;exact e.symm
 refine⟨s1,c,hr,by simpa using R,g.cg X<|by grind,g,fun b h=>(b4 b h).elim (by grind) fun h=>by have:=g.size;omega,fun H k=>X.bl<|by grind⟩
end Go.Proofs
end
