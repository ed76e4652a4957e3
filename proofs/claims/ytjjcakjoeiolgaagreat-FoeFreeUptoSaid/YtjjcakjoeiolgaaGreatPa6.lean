import Derived.Test.YtjjcakjoeiolgaaGreatPa5
import Derived.Test.YtjjcakjoeiolgaaGreatPa4
import Derived.Test.YtjjcakjoeiolgaaGreatPa3
import Derived.Test.YtjjcakjoeiolgaaGreatProg
import Derived.KernelRfl
set_option linter.defProp false
section
open Go Go.SE
namespace Go.Proofs
open Tryz
attribute [local irreducible] Calls
def Hh{P t ty e sz bytes}(T:km P t e sz bytes){w p c Tp}(hB:ai w p c Tp){s rs}(l:bg w e sz s rs)(i:¬ s.aq p.block){a r}(hr:Row w a r)(k:r.length=sz)(h1:r.all vJ=true)(m:(rs.length+1)*bytes<=140737488355328)(hm:rs.length+1<=maxLen):
  ∃s' w',(Builtin.append_ #[t,t] ty #[s.v,(Sl.mk (some a) 1 1).v]).run P w=.ok s'.v w'/\bg w' e sz s' (rs++[r])/\ai w' p c Tp/\¬s'.aq p.block/\ab s.aq w w'/\(∀b,s'.aq b->s.aq b\/w.heap.size<=b):=by
 have⟨s',w',g,f,j,d⟩:=l.append T (ty:=ty) (c:=1) hr k h1 m hm
 exact⟨s',w',g,f,hB.ext j i,fun h=>(d _ h).elim i fun h=>Oh hB.lt,j,d⟩
def NU(n):zO n=53\/zO n=0:=by
 unfold zO;simp only;split;exact .inl rfl;exact .inr rfl
def vZ(p n w0){L F}(R:vP w0 p L F)(l:Ok L):cl 60 #[vp<|some p,mc n] w0
  (XH fun r1 r2 w'=>(r1,r2)=((ay L n).1,(ay L n).2.1)/\∃F',vP w' p (ay L n).2.2 F'/\ab F w0 w'/\∀b,F' b->F b\/w0.heap.size<=b):=by
 have⟨k,f,t,u,x,a,b⟩:=n
 generalize hn:(⟨k,f,t,u,x,a,b⟩:di)=n
 have hnk:mc n=.agg #[vi k,vi f,vi t,vu u,vs x,vi a,vi b]:=by rw[<-hn];rfl
 rw[hnk]
 suffices key:∀K:Int->Int->WP,(∀r1 r2 w',((r1,r2)=((ay L n).1,(ay L n).2.1)/\∃F',vP w' p (ay L n).2.2 F'/\ab F w0 w'/\∀b,F' b->F b\/w0.heap.size<=b)->K r1 r2 w')->Hf (some p) k f t u x a b w0 K from
  w_V _ _ _ _ _ _ _ _ w0 _<|key _ fun _ _ _ h=>h
 intro K hK
 have W:=Ll n
 have hkd:=yZ k
 rw[<-hn]at W
 simp only at W
 rw[hn]at W
 have hna:n.a=a:=by rw[<-hn]
 have hnb:n.b=b:=by rw[<-hn]
 have J:n.kind=k:=by rw[<-hn]
 have hk:=yM k
 have jSJ:∀(r1 r2:Int) (w':World),Pure w0 w'->ay L n=(r1,r2,L)->K r1 r2 w':=fun r1 r2 w' E h=>hK _ _ _ ⟨by rw[h],F,by rw[h];exact R.pure E,E.pure,fun b h=>.inl h⟩
 have bad:∀(er:Int) (w':World),er≠0->Pure w0 w'->ej L n=(0,0,er)->K 0 er w':=fun er w' h0 E h=>jSJ 0 er w' E (by unfold ay;simp[h,h0])
 unfold Hf
 rw[W,hkd]
 have good:qz n=0->ej L n=(if(zB n).any (fun t=>!al L t)then(0,0,51)else if 1+((zB n).map<|sizeOf L).sum>4096\/(zB n).foldl (fun d t=>max d<|c9 L t) 0+1>64 then(0,0,52)else(1+((zB n).map<|sizeOf L).sum,(zB n).foldl (fun d t=>max d<|c9 L t) 0+1,0)):=by
  intro h;unfold qz at h;unfold ej;split at h
  .cases h
  .grind
 refine⟨fun h=>?_,fun h=>?_⟩
 .intro H1 w2 hs2
  have h:qz n≠0:=by simpa using h
  refine bad _ _ h hs2.first ?_
  unfold qz at h|-
  unfold ej
  by_cases h1:zO n≠0
  .rw[if_pos h1,if_pos h1]
   have:zO n=53:=(NU n).resolve_right h1
   rw[this]
  .grind
 have h0:qz n=0:=by simpa using h
 have j:=good h0
 have g:((bq k).kids<1->a=0)/\((bq k).kids<2->b=0):=by
  unfold qz at h0;split at h0
  .cases h0
  .grind
 have hz0:al L 0=false:=by simp[al]
 have hs0:sizeOf L 0=0:=by simp[sizeOf,get,hz0]
 have hd0:c9 L 0=0:=by simp[c9,get,hz0]
 have hsa:=l.sizeOf a
 have hsb:=l.sizeOf b
 have hda:=l.c9 a
 have hdb:=l.c9 b
 have hany:(zB n).any (fun t=>!al L t)=((decide (1<=(bq k).kids)&&!al L a) ||(decide ((bq k).kids=2)&&!al L b)):=by
  unfold zB;rw[J,hna,hnb];rcases hk with h|h|h<;>rw[h]<;>simp
 have hsum:((zB n).map<|sizeOf L).sum=sizeOf L a+sizeOf L b:=by
  unfold zB;rw[J,hna,hnb];rcases hk with h|h|h<;>rw[h]<;>simp
  .rw[g.1 Om,g.2 Om,hs0];rfl
  .rw[g.2 Om,hs0];omega
 have hmax:(zB n).foldl (fun d t=>max d<|c9 L t) 0=max (c9 L a) (c9 L b):=by
  unfold zB;rw[J,hna,hnb];rcases hk with h|h|h<;>rw[h]<;>simp
  .rw[g.1 Om,g.2 Om,hd0];omega
  .rw[g.2 Om,hd0];omega
  .omega
 rw[hany,hsum,hmax]at j
 have J1:∀(x1:Bool) (H:NP) (w:World),af w0 H w H w->Pure w0 w->x1=((decide (1<=(bq k).kids)&&!al L a) ||(decide ((bq k).kids=2)&&!al L b))->Cu (some p) k f t u x a b x1 w0 H w K:=by
  intro x1 H w hs E hx;rw[<-hx]at j;refine⟨fun h=>bad 51 w Om E (by rw[j,h];rfl),fun h=>?_⟩;rw[h,if_neg Sm]at j;refine⟨fun _=>True,trivial,?_⟩;rintro _ rfl;have Ed:Pure w0 w.drew:=E.trans<|ab.drew w;refine(PA p a w.drew (R.pure Ed) l).mono ?_;rintro _ _ ⟨_,rfl,rfl,rfl⟩;refine⟨_,rfl,trivial,aj.refl _,?_⟩;refine(PA p b w.drew (R.pure Ed) l).mono ?_;rintro _ _ ⟨_,rfl,rfl,rfl⟩;refine⟨_,rfl,trivial,aj.refl _,fun _=>True,trivial,?_⟩;rintro _ rfl;have T:Pure w0 w.drew.drew:=Ed.trans<|ab.drew w.drew;refine(PE p a w.drew.drew (R.pure T) l).mono ?_;rintro _ _ ⟨_,rfl,rfl,rfl⟩;refine⟨_,rfl,trivial,aj.refl _,?_⟩;refine(PE p b w.drew.drew (R.pure T) l).mono ?_;rintro _ _ ⟨_,rfl,rfl,rfl⟩;refine⟨_,rfl,trivial,aj.refl _,_,fun w' _=>run_max_int2 _ _ _ _ _ _ _,?_⟩;have hmx:(if c9 L b>c9 L a then c9 L b else c9 L a)=max (c9 L a) (c9 L b):=by
   split<;>omega
  generalize hz:(if c9 L b>c9 L a then c9 L b else c9 L a)=z at *;have hz64:0<=z/\z<=64:=by rw[hmx];omega
  have e1:IntKind.i64.wrap (IntKind.i64.wrap (1+sizeOf L a)+sizeOf L b)=1+(sizeOf L a+sizeOf L b):=by
   rw[i64 (n:=1+sizeOf L a) Om Om,i64 Om Om];omega
  have e2:IntKind.i64.wrap (1+z)=z+1:=by rw[i64 Om Om];omega
  rw[e1,e2];rw[<-hmx]at j;rintro y1 rfl;have hsx:af w0 H w.drew.drew H w.drew.drew:=(hs.drew.fm.drew).fm;refine⟨fun h=>?_,fun h=>?_⟩
  .intro H2 w10 s;refine bad 52 w10 Om (T.au s) ?_;rw[j,if_pos<|by simpa using h]
  .intro H2 w10 s;have hck:ej L n=(1+(sizeOf L a+sizeOf L b),z+1,0):=by rw[j,if_neg (by simp at h;omega)]
   have E10:=T.au s;rw[<-hnk];refine(Tr p n w10 (R.pure E10) l).mono ?_;rintro _ B ⟨r,ok,rfl,V,E11⟩;refine⟨_,_,rfl,E11.bz,?_⟩;have E11':=E10.trans E11;have hs11:af w0 H2 B H2 B:=s.ib E11.bz;cases hf:find L n with
   |some i =>
    rw[hf]at V
    obtain⟨rfl,rfl⟩:=V
    exact Br.t rfl (jSJ _ _ _ E11' (by unfold ay;simp[hck,hf]))
   |none =>
    rw[hf]at V
    obtain⟨rfl,rfl⟩:=V
    refine Br.f rfl ?_
    have⟨s1,s2,s3,hS,hF⟩:=R.pure E11'
    have hlen:s1.len=L.length:=by rw[hS.r1.len];simp
    refine⟨p,rfl,s1,hS.box.bf,fun h=>?_,fun h=>?_⟩
    .have h2:65536<=L.length:=by have h:=of_decide_eq_true h;omega
     exact jSJ _ _ _ E11' (by unfold ay;simp[hck,hf,h2])
    .have h2:¬65536<=L.length:=by have h:=of_decide_eq_false h;omega
     have hmk:ay L n=((L.length:Int)+1,0,L++[⟨n,1+(sizeOf L a+sizeOf L b),z+1⟩]):=by unfold ay;simp[hck,hf,h2]
     have y:∀b,F b->¬H2 b:=fun b c h2=>Oi (R.lt c)<|hs11.old b h2
     have Z:F p.block:=(hF _).2<|.inl rfl
     refine⟨fun w'=>w'.cell? p=some s1.v,hS.box.bf,?_⟩
     rintro _ rfl
     have E12:Pure B B.drew:=ab.drew B
     refine⟨p,rfl,s1,fun w' h'=>h',?_⟩
     intro p3 w13 h13
     have m:Pure B w13:=E12.trans<|ab.ax h13
     have B13:=hS.box.pure m
     refine⟨B13.bf,?_⟩
     have⟨C,w14,hr14,R14,B14,np1,M,nb1⟩:=Hh (P:=prog) (ty:=41) Qq B13 (hS.r1.pure m) hS.n1 (a:=p3) (r:=tI n) (by rw[<-hn];exact(ai.bj h13).row) rfl rfl So (by simp[maxLen];omega)
     refine⟨C,w14,hr14,B14.bf,M.bk fun b c h=>y b ((hF b).2<|.inr<|.inl h) c,p,rfl,B14.gx Sm,y _ Z,?_⟩
     rintro w15 N
     have B15:ai w15 p [C.v,s2.v,s3.v] 44:=by rw[N];exact B14.jh
     have Q:ab (·=p.block) w14 w15:=by rw[N];exact ab.setCell p _
     clear N
     have R15:=R14.ext Q fun b c e=>np1<|e▸c
     have R2:=((hS.r2.pure m).ext M fun b h2 h1=>hS.DI b h1 h2).ext Q fun b c e=>hS.n2<|e▸c
     have R3:=((hS.r3.pure m).ext M fun b h2 h1=>hS.Ej b h1 h2).ext Q fun b c e=>hS.n3<|e▸c
     have d12':∀b,C.aq b->¬s2.aq b:=fun b c h2=>(nb1 b c).elim (fun h=>hS.DI b h h2) fun h=>Oi (hS.r2.lt h2) m.size
     have d13':∀b,C.aq b->¬s3.aq b:=fun b c h2=>(nb1 b c).elim (fun h=>hS.Ej b h h2) fun h=>Oi (hS.r3.lt h2) m.size
     refine⟨p,rfl,s2,B15.cell rfl,?_⟩
     intro p4 w16 h16
     have q:Pure w15 w16:=ab.ax h16
     have B16:=B15.pure q
     have⟨Y,w17,hr17,R17,B17,np2,I,nb2⟩:=Hh (P:=prog) (ty:=42) yb B16 (R2.pure q) hS.n2 (a:=p4) (r:=[vi<|1+(sizeOf L a+sizeOf L b)]) (ai.bj h16).row rfl rfl So (by simp[maxLen];omega)
     refine⟨Y,w17,hr17,I.bk Gd,p,rfl,B17.eh Sm,by rw[zC];exact y _ Z,?_⟩
     rintro w18 D
     have B18:ai w18 p [C.v,Y.v,s3.v] 44:=by rw[D];exact B17.set 1 _
     have O:ab (·=p.block) w17 w18:=by rw[D];have:=ab.setCell (w:=w17) (p.add 1) Y.v;rw[zC]at this;exact this
     clear D
     have Q1:=((R15.pure q).ext I fun b h1 h2=>d12' b h1 h2).ext O fun b c e=>np1<|e▸c
     have Q2:=R17.ext O fun b c e=>np2<|e▸c
     have Q3:=((R3.pure q).ext I fun b h3 h2=>hS.CF b h2 h3).ext O fun b c e=>hS.n3<|e▸c
     have d12'':∀b,C.aq b->¬Y.aq b:=fun b c h2=>(nb2 b h2).elim (fun h=>d12' b c h) fun h=>Oh<|(R15.pure q).lt c
     have d23':∀b,Y.aq b->¬s3.aq b:=fun b c h2=>(nb2 b c).elim (fun h=>hS.CF b h h2) fun h=>Oh<|(R3.pure q).lt h2
     refine⟨p,rfl,s3,B18.cell rfl,?_⟩
     intro p5 w19 h19
     have o:Pure w18 w19:=ab.ax h19
     have B19:=B18.pure o
     have⟨t3,U,hr20,R20,B20,np3,X,nb3⟩:=Hh (P:=prog) (ty:=42) yb B19 (Q3.pure o) hS.n3 (a:=p5) (r:=[vi<|z+1]) (ai.bj h19).row rfl rfl So (by simp[maxLen];omega)
     refine⟨t3,U,hr20,X.bk Gd,p,rfl,B20.eh Sm,by rw[zC];exact y _ Z,?_⟩
     rintro w21 G
     have B21:ai w21 p [C.v,Y.v,t3.v] 44:=by rw[G];exact B20.set 2 _
     have S:ab (·=p.block) U w21:=by rw[G];have:=ab.setCell (w:=U) (p.add 2) t3.v;rw[zC]at this;exact this
     clear G
     have d13'':∀b,C.aq b->¬t3.aq b:=fun b c h2=>(nb3 b h2).elim (fun h=>d13' b c h) fun h=>Oh<|(Q1.pure o).lt c
     have d23'':∀b,Y.aq b->¬t3.aq b:=fun b c h2=>(nb3 b h2).elim (fun h=>d23' b c h) fun h=>Oh<|(Q2.pure o).lt c
     have Z1:=((Q1.pure o).ext X fun b h1 h2=>d13' b h1 h2).ext S fun b c e=>np1<|e▸c
     have Z2:=((Q2.pure o).ext X fun b h1 h2=>d23' b h1 h2).ext S fun b c e=>np2<|e▸c
     have Z3:=R20.ext S fun b c e=>np3<|e▸c
     have hl1:(C.len:Int)=L.length+1:=by rw[R14.len];simp
     refine⟨p,rfl,C,B21.bf,?_⟩
     rw[hl1]
     refine hK _ _ _ ⟨by rw[hmk],fun b=>b=p.block\/C.aq b\/Y.aq b\/t3.aq b,?_,?_,?_⟩
     .rw[hmk]
      exact⟨C,Y,t3,⟨B21,by simpa[Ek]using Z1,by simpa[Fz]using Z2,by simpa[If]using Z3,np1,np2,np3,d12'',d13'',d23''⟩,fun _=>Iff.rfl⟩
     .have a1:ab F w0 w14:=(E11'.trans m).pure.cg M fun i _ h=>(hF i).2<|.inr<|.inl h
      have a2:ab F w0 w15:=a1.cg Q fun i _ h=>(hF i).2<|.inl h
      have a3:ab F w0 w17:=(a2.fb q).cg I fun i _ h=>(hF i).2<|.inr<|.inr<|.inl h
      have a4:ab F w0 w18:=a3.cg O fun i _ h=>(hF i).2<|.inl h
      have a5:ab F w0 U:=(a4.fb o).cg X fun i _ h=>(hF i).2<|.inr<|.inr<|.inr h
      exact a5.cg S fun i _ h=>(hF i).2<|.inl h
     .have z13:w0.heap.size<=w13.heap.size:=(E11'.trans m).size
      have z16:w0.heap.size<=w16.heap.size:=by have:=M.size;have:=Q.size;have:=q.size;omega
      have z19:w0.heap.size<=w19.heap.size:=by have:=I.size;have:=O.size;have:=o.size;omega
      rintro b (rfl|c|c|c)
      .exact .inl Z
      .grind
      .grind
      .grind
 have J2:∀(x2:Bool) (H:NP) (w:World),af w0 H w H w->Pure w0 w->x2=(decide (1<=(bq k).kids)&&!al L a)->BN (some p) k f t u x a b x2 w0 H w K:=by
  intro x2 H w hs E hx;unfold BN;rw[hkd];refine⟨fun h=>J1 true H w hs E (by rw[<-hx,h];rfl),fun h=>⟨fun h2=>?_,fun h2=>J1 false H w hs E ?_⟩⟩
  .refine(uR p b w<|R.pure E).mono ?_;rintro _ _ ⟨_,rfl,rfl,rfl⟩;refine⟨_,rfl,aj.refl _,J1 _ H _ hs E ?_⟩;have h2:(bq k).kids=2:=by simpa using h2
   rw[<-hx,h];simp[h2]
  .grind
 refine⟨fun h=>?_,fun h=>?_⟩
 .intro H1 w3 A
  refine(uR p a w3<|R.pure A.first).mono ?_
  rintro _ _ ⟨_,rfl,rfl,rfl⟩
  refine⟨_,rfl,aj.refl _,J2 _ H1 _ A.fm A.first ?_⟩
  have:1<=(bq k).kids:=Oh<|of_decide_eq_true h
  simp[this]
 .intro H1 w3 A
  refine J2 _ H1 _ A.fm A.first ?_
  have:¬1<=(bq k).kids:=Oh<|of_decide_eq_false h
  simp[this]
end Go.Proofs
end
section
open Go Go.SE List
namespace Go.Proofs
open Tryz
attribute [local irreducible] Calls
def jZW(k f t u x len):yW ⟨k,f,t,u,x,0,0⟩ len=(if(qz ⟨k,f,t,u,x,0,0⟩≠53/\(len:Int)≠(bq k).kids)then 53 else qz ⟨k,f,t,u,x,0,0⟩):=by
 unfold yW qz;simp only;rcases NU ⟨k,f,t,u,x,0,0⟩with h|h;rw[h];simp;grind
def jLE{S}(q)(hq:¬ S q.block)(T t):∀(s:Sl) (c seen:Int) (o:World),0<=c->0<=seen->cz S o s t->(∀b,S b->b<o.heap.size)->ai o q [vi seen] T ->
  cl 210 #[.agg (fy t s).toArray,vi c,vp<|some q] o
   (XB fun r w'=>r=(qO c seen t).1/\ai w' q [vi (qO c seen t).2] T/\ab (·=q.block) o w'):=by
 induction t using bt.ind with
 |h k f t u x g ih =>
 intro s c seen o hi0 hn0 W A hB
 suffices key:∀K:Int->WP,(∀r w',(r=(qO c seen<|.mk k f t u x g).1/\ai w' q [vi (qO c seen<|.mk k f t u x g).2] T/\ab (·=q.block) o w')->K r w')->Lv k f t u x s c (some q) o K from
  jcq _ _ _ _ _ _ _ _ o _<|key _ fun _ _ h=>h
 intro K V
 have hql:=hB.lt
 refine⟨q,rfl,?_⟩
 intro H1 w1 O
 have Z:=hB.pure O.first
 refine⟨seen,Z.bf,?_⟩
 intro H5 w13 P
 have z:=O.first.au P
 have m:=hB.pure z
 have p:∀{H w' H' w''},af o H w' H' w''->¬H' q.block:=fun h hh=>Oh<|h.old _ hh
 refine⟨fun h=>?_,fun h=>?_⟩
 .have : qO c seen (.mk k f t u x g) = (52, seen):=by
   rw[qO];simp only[Bool.or_eq_true,decide_eq_true_eq]at h;by_cases h1:4096<=seen
   .rw[if_pos h1]
   .grind
  rw[this]at V;exact V _ _ ⟨rfl,m,z.pure⟩
 .have h1:¬4096<=seen/\¬64<=c:=Gd
  have hsp:qO c seen (.mk k f t u x g)=vK (c+1) (yW ⟨k,f,t,u,x,0,0⟩ g.length) (seen+1) g:=by rw[qO,if_neg h1.1,if_neg h1.2]
  rw[hsp]at V
  have y:s.len=g.length:=by cases W;assumption
  have hfit:g.length<=9223372036854775807:=by cases W;assumption
  refine⟨q,rfl,seen,m.bf,q,rfl,m.gx Sm,p P,?_⟩
  rw[i64 (n:=seen+1) Om Om]
  rintro w2 E
  have hB2:ai w2 q [vi<|seen+1] T:=by rw[E];exact m.jh
  have E2:ab (·=q.block) o w2:=by rw[E];exact z.pure.trans<|ab.setCell q _
  clear E
  rintro y1 rfl
  have L:=Ll ⟨k,f,t,u,x,0,0⟩
  simp only at L
  rw[L,yZ,y]
  have N:cond ((qz ⟨k,f,t,u,x,0,0⟩ !=53)&&((g.length:Int) !=(bq k).kids)) 53 (qz ⟨k,f,t,u,x,0,0⟩)=yW ⟨k,f,t,u,x,0,0⟩ g.length:=by
   rw[jZW];by_cases h2:qz ⟨k,f,t,u,x,0,0⟩=53
   .simp[h2]
   .grind
  rw[N]
  intro H3 w10 D
  have Y:ab (·=q.block) o w10:=E2.au D
  have R:=hB2.ext D.ext<|p D
  refine⟨fun e i H w'=>∃j:Nat,i=j/\j<=g.length/\∃n:Int,0<=n/\ab (·=q.block) o w'/\ai w' q [vi n] T/\vK (c+1) e n (g.drop j)=vK (c+1) (yW ⟨k,f,t,u,x,0,0⟩ g.length) (seen+1) g,fun _ i _=>((g.length:Int)-i).toNat,⟨0,rfl,Nat.zero_le _,seen+1,Om,Y,R,rfl⟩,?_⟩
  rintro e1 _ Hl wl hl ⟨j,rfl,hj,n,hn,El,J,v⟩
  unfold Ld
  have hTl:=W.ext El fun b C e=>hq<|e▸C
  refine⟨fun hc=>?_,fun hc=>?_⟩
  .simp only[Bool.and_eq_true,beq_iff_eq]at hc
   have⟨X,l⟩:=hc
   have l:=vQ y l
   subst X
   cases hTl with
   |mk _ _ _ _ _ _ _ rs len fit row fj =>
   have⟨a,hat,ha,hr⟩:=row j l
   refine⟨a,hat,?_⟩
   intro H4 w d
   have B:=El.au d
   have hT11:=W.ext B fun b C e=>hq<|e▸C
   have Q:Row w a (fy g[j]<|rs j):=d.ext.row hr fun hh=>Oi (d.old _ hh)<|A _ ha
   have I:cz S w (rs j) g[j]:=(fj j l).ext d.ext fun b C hh=>Oi (d.old _ hh)<|A _ C
   have F:=J.ext d.ext<|p d
   refine⟨_,_,_,_,_,rs j,Q,?_⟩
   rw[i64 (n:=c+1) Om Om]
   refine(ih j l (rs j) (c+1) n w Om hn I (fun b C=>Oi (A b C) B.size) F).mono ?_
   rintro _ w12 ⟨r,rfl,rfl,M,U⟩
   refine⟨_,rfl,U.bk Gd,?_⟩
   rw[zM l Om]
   refine⟨⟨j+1,rfl,l,_,O6 g[j] (c+1) n hn,B.trans U,M,?_⟩,yQ l⟩
   rw[<-v];exact(MZ l (c+1) n).symm
  .intro H4 w d
   have G:vK (c+1) e1 n (g.drop j)=(e1,n):=by
    by_cases X:e1=0
    .have hge:j=g.length:=Gd;rw[hge,drop_length];rfl
    .exact OY X _ _
   rw[G]at v
   refine V _ _ ⟨by rw[<-v],?_,El.au d⟩
   rw[<-v];exact J.ext d.ext<|p d
def jNY{S}(t s w0)(o:cz S w0 s t)(g:∀b,S b->b<w0.heap.size):
  cl 152 #[.agg (fy t s).toArray] w0<|XB fun r w'=>r=(qO 0 0 t).1/\Pure w0 w':=by
 have⟨k,f,to,u,x,w⟩:=t
 refine jcb _ _ _ _ _ _ w0 _ ?_
 intro m v c p q h2
 have b2:=ai.bj h2
 have n:Pure w0 q:=c.first.trans (ab.ax h2)
 have o2:=av.ak c.first h2
 have d:¬m p.block:=fun hh=>Oi (c.lt _ hh) h2.cu
 refine⟨b2.gx Sm,d,?_⟩
 rintro i a
 have b3:ai i p [vi 0] 3:=by rw[a];exact b2.jh
 have j:Pure w0 i:=by rw[a];exact n.ak o2<|ab.setCell p _
 clear a
 refine(jLE p Gd _ _ s 0 0 i (Int.le_refl _) (Int.le_refl _) (o.pure j) (fun b h=>Oi (g b h) j.size) b3).mono ?_
 rintro _ y ⟨r,rfl,rfl,_,l⟩
 exact⟨_,rfl,l.bk fun b h e=>d<|e▸h,rfl,j.ak o2 l⟩
def Pc(p n w0){L F}(R:vP w0 p L F)(z:n<=L.length):
  cl 154 #[vp<|some p,vi n] w0<|fun e w'=>e=.returned (.tuple #[])/\vP w' p (L.take n) F/\ab F w0 w':=by
 suffices key:∀K:WP,(∀w',vP w' p (L.take n) F/\ab F w0 w'->K w')->HP (some p) n w0 K from
  U3 _ _ w0 _<|key _ fun _ h=>h
 intro K I
 unfold HP
 have⟨s1,G,x,hS,J⟩:=R
 have⟨l,y,O,a⟩:=bg.hi (P:=prog) Qq hS.r1 (k:=.i64) (n:=n) Om (by simpa using z)
 refine⟨p,rfl,s1,hS.box.bf,l,y,p,rfl,hS.box.gx Sm,?_⟩
 rintro o j
 have C:ai o p [l.v,G.v,x.v] 44:=by rw[j];exact hS.box.jh
 have t:ab (·=p.block) w0 o:=by rw[j];exact ab.setCell p _
 clear j
 have⟨m,s,Q,c⟩:=bg.hi (P:=prog) yb (hS.r2.ext t fun b f e=>hS.n2<|e▸f) (k:=.i64) (n:=n) Om (by simpa using z)
 refine⟨p,rfl,G,C.cell rfl,m,s,p,rfl,C.eh Sm,?_⟩
 rintro r i
 have u:ai r p [l.v,m.v,x.v] 44:=by rw[i];exact C.set 1 _
 have D:ab (·=p.block) o r:=by rw[i];have:=ab.setCell (w:=o) (p.add 1) m.v;rw[zC]at this;exact this
 clear i
 have⟨q,B,N,d⟩:=bg.hi (P:=prog) yb (hS.r3.ext (t.trans D) fun b f e=>hS.n3<|e▸f) (k:=.i64) (n:=n) Om (by simpa using z)
 refine⟨p,rfl,x,u.cell rfl,q,B,p,rfl,u.eh Sm,?_⟩
 rintro H g
 have M:ai H p [l.v,m.v,q.v] 44:=by rw[g];exact u.set 2 _
 have A:ab (·=p.block) r H:=by rw[g];have:=ab.setCell (w:=r) (p.add 2) q.v;rw[zC]at this;exact this
 clear g
 have E:=(t.trans D).trans A
 refine I _ ⟨⟨l,m,q,⟨M,?_,?_,?_,fun h=>hS.n1<|(a _).1 h,fun h=>hS.n2<|(c _).1 h,fun h=>hS.n3<|(d _).1 h,fun b h1 h2=>hS.DI b ((a b).1 h1)<|(c b).1 h2,fun b h1 h2=>hS.Ej b ((a b).1 h1)<|(d b).1 h2,fun b h1 h2=>hS.CF b ((c b).1 h1)<|(d b).1 h2⟩,fun b=>by rw[J b,a b,c b,d b]⟩,E.mono Gd⟩
 have:=O.ext E fun b f e=>hS.n1<|(a _).1<|e▸f
 rw[map_take];simpa using this
 have:=Q.ext (D.trans A) fun b f e=>hS.n2<|(c _).1<|e▸f
 rw[map_take];simpa using this
 have:=N.ext A fun b f e=>hS.n3<|(d _).1<|e▸f
 rw[map_take];simpa using this
def TN{S}(p t):∀(s:Sl) (d:World) (L:aw) (F:NP),bt.u9 t->cz S d s t->vP d p L F->Ok L->(∀b,F b->¬ S b)->(∀b,S b->b<d.heap.size) ->
  cl 153 #[vp<|some p,.agg (fy t s).toArray] d
   (XH fun r1 r2 w'=>(r1,r2)=((grow L t).1,(grow L t).2.1)/\∃F',vP w' p (grow L t).2.2 F'/\ab F d w'/\∀b,F' b->F b\/d.heap.size<=b):=by
 induction t using bt.ind with
 |h k f t u x c ih =>
 intro s d L F h2 hT hP hok hFS hSw
 suffices key:∀K:Int->Int->WP,(∀r1 r2 w',((r1,r2)=((grow L<|.mk k f t u x c).1,(grow L<|.mk k f t u x c).2.1)/\∃F',vP w' p (grow L<|.mk k f t u x c).2.2 F'/\ab F d w'/\∀b,F' b->F b\/d.heap.size<=b)->K r1 r2 w')->Jq (some p) k f t u x s d K from
  Rs _ _ _ _ _ _ _ d _<|key _ fun _ _ _ h=>h
 intro K Q
 have⟨hk2,C⟩:=Hd.1 h2
 have Z:grow L (.mk k f t u x c)=zZ ⟨k,f,t,u,x,0,0⟩ 0 L c:=by rw[grow]
 rw[Z]at Q
 have q:s.len=c.length:=by cases hT;assumption
 intro H2 w4 w
 refine⟨fun i a1 a2 a3 a4 a5 V P H w'=>∃j:Nat,i=j/\j<=c.length/\∃(n:aw) (F':NP),zZ ⟨k,f,t,u,x,0,0⟩ 0 L c=zZ ⟨a1,a2,a3,a4,a5,V,P⟩ j n (c.drop j)/\Ok n/\vP w' p n F'/\(∀b,F' b->F b\/d.heap.size<=b)/\(∀b,F' b->¬H b)/\ab F d w',fun i _ _ _ _ _ _ _ _=>((c.length:Int)-i).toNat,
  ⟨0,rfl,Nat.zero_le _,L,F,Sm,hok,hP.pure w.first,fun b h=>.inl h,w.PL fun b m=>hP.lt m,w.first.pure⟩,?_⟩
 rintro _ a1 a2 a3 a4 a5 V P Hl wl hl ⟨j,rfl,hj,n,F',g,l,N,y,X,M⟩
 refine⟨fun h=>?_,fun h=>?_⟩
 .have e:=vQ q h
  have hTl:cz S wl s (.mk k f t u x c):=hT.ext M fun b hs hf=>hFS b hf hs
  have I:∃a r,At s j 6 a/\Row wl a (fy c[j] r)/\cz S wl r c[j]:=by
   cases hTl with
   |mk _ _ _ _ _ _ _ rs len fit row fj=>exact let ⟨a,h1,_,h3⟩:=row j e;⟨a,rs j,h1,h3,fj j e⟩
  have⟨a,r,hat,J,hTk⟩:=I
  refine⟨a,hat,_,_,_,_,_,r,J,?_⟩
  have hsz:d.heap.size<=wl.heap.size:=M.size
  refine(ih j e r wl n F' (J0 C e) hTk N l Gd Gd).mono ?_
  rintro _ w8 ⟨r1,r2,rfl,hr,O,A,E8,E⟩
  have e1:r1=(grow n c[j]).1:=congrArg Prod.fst hr
  have e2:r2=(grow n c[j]).2.1:=congrArg Prod.snd hr
  rw[drop_eq_getElem_cons e]at g
  have o:∀b,O b->F b\/d.heap.size<=b:=fun b m=>(E b m).elim (y b) (fun h=>by right;omega)
  have G:ab F d w8:=M.cg E8 Gd
  refine⟨_,_,rfl,E8.bk fun b B U=>X b U B,fun h=>?_,fun h=>?_⟩
  .have h:(grow n c[j]).2.1≠0:=by rw[<-e2];simpa using h
   rw[Oo h]at g
   refine Q _ _ _ ?_
   rw[g];exact⟨by rw[e2],O,A,G,o⟩
  .have h:(grow n c[j]).2.1=0:=by rw[<-e2];simpa using h
   rw[Ov h]at g
   intro H3 w9 z
   have W:∀b,O b->¬Hl b:=fun b m B=>(E b m).elim (fun h=>X b h B) fun h=>Oh<|hl.lt b B
   have D:∀b,O b->¬H3 b:=z.ji fun b m=>⟨A.lt m,W b m⟩
   rw[zM e Om]
   refine⟨⟨j+1,rfl,e,_,O,?_,(tX c[j] n l).1,A.ext z.ext D,o,D,G.au z⟩,yQ e⟩
   rw[g,e1]
   have R:(((j:Int))==0)=decide (j=0):=by rw[Bool.eq_iff_iff];simp
   rw[R]
   by_cases v:j=0
   .subst v;rfl
   .simp[v]
 .have Y:=qU q hj h
  rw[Y,drop_length,zZ]at g
  refine(vZ p ⟨a1,a2,a3,a4,a5,V,P⟩ wl N l).mono ?_
  rintro _ w9 ⟨r1,r2,rfl,hr,F9,hP9,E9,T⟩
  have hsz:d.heap.size<=wl.heap.size:=M.size
  refine⟨_,_,rfl,E9.bk fun b B U=>X b U B,Q _ _ _ ?_⟩
  rw[g]
  exact⟨hr,F9,hP9,M.cg E9 fun i hi h=>(y i h).elim id fun h=>Om,fun b m=>(T b m).elim (y b) fun h=>by right;omega⟩
def Yv(t):∀L,(grow L t).2.1≠0->(grow L t).1=0:=by
 induction t using bt.ind with
 |h k f t u x a d =>
  have c:∀L n,(ay L n).2.1≠0->(ay L n).1=0:=by
   intro L n h;unfold ay at h|-;simp only at h|-;split at h;grind;grind
  have:∀(a:List bt),(∀i (hi:i<a.length),∀L,(grow L a[i]).2.1≠0->(grow L a[i]).1=0)->∀n i L,(zZ n i L a).2.1≠0->(zZ n i L a).1=0:=by
   intro a;induction a with
   |nil=>intro _ n i L h;unfold zZ at h|-;exact c L n h
   |cons t ts b =>
    intro hh n i L h
    unfold zZ at h|-
    split at h
    rename_i h1;rw[if_pos h1]
    rename_i h1;rw[if_neg h1];exact b (fun i hi=>hh (i+1)<|by simpa using hi) _ _ _ h
  intro L h
  unfold grow at h|-
  exact this a d _ _ L h
def ZK{S}(p t s w0){L F}(U:cz S w0 s t)(G:vP w0 p L F)(m:Ok L)(H:∀b,F b->¬ S b)(j:∀b,S b->b<w0.heap.size):
  cl 96 #[vp<|some p,.agg (fy t s).toArray] w0
   (XH fun r1 r2 w'=>(r1,r2)=((of L t).1,(of L t).2.1)/\∃F',vP w' p (of L t).2.2 F'/\ab F w0 w'/\∀b,F' b->F b\/w0.heap.size<=b):=by
 have⟨k,f,to,u,x,y⟩:=t
 suffices key:∀K:Int->Int->WP,(∀r1 r2 w',((r1,r2)=((of L<|.mk k f to u x y).1,(of L<|.mk k f to u x y).2.1)/\∃F',vP w' p (of L<|.mk k f to u x y).2.2 F'/\ab F w0 w'/\∀b,F' b->F b\/w0.heap.size<=b)->K r1 r2 w')->Pg (some p) k f to u x s w0 K from
  jbl _ _ _ _ _ _ _ w0 _<|key _ fun _ _ _ h=>h
 intro K A
 intro P Z g
 have C:=g.first
 generalize ht:bt.mk k f to u x y=t at *
 have I:(Value.agg #[vi k,vi f,vi to,vu u,vs x,s.v])=.agg (fy t s).toArray:=by rw[<-ht];rfl
 rw[I]
 refine(jNY t s Z (U.pure C) fun b d=>Oi (j b d) C.size).mono ?_
 rintro _ Y ⟨r1,rfl,rfl,N⟩
 have a:=C.trans N
 refine⟨_,rfl,N.bz,fun h=>?_,fun h=>?_⟩
 .have h:(qO 0 0 t).1≠0:=by simpa using h
  have:of L t=(0,(qO 0 0 t).1,L):=by rw[of,if_pos h]
  refine A _ _ _ ?_
  rw[this];exact⟨rfl,F,G.pure a,a.pure,fun _ h=>.inl h⟩
 .have h:(qO 0 0 t).1=0:=by simpa using h
  have n:=G.pure a
  have R:∀b,F b->¬P b:=g.PL fun b d=>G.lt d
  have⟨s1,s2,s3,hS,hF0⟩:=id n
  have E:s1.len=L.length:=by rw[hS.r1.len];simp
  refine⟨p,rfl,s1,hS.box.bf,?_⟩
  refine(TN p t s Y L F (MN t _ _ h) (U.pure a) n m H fun b d=>Oi (j b d) a.size).mono ?_
  rintro _ V ⟨r1,r2,rfl,hr,w,o,W,q⟩
  have X:r1=(grow L t).1:=congrArg Prod.fst hr
  have z:r2=(grow L t).2.1:=congrArg Prod.snd hr
  have hs4:w0.heap.size<=Y.heap.size:=a.size
  have r:ab F w0 V:=a.pure.trans W
  have e:∀b,w b->F b\/w0.heap.size<=b:=fun b d=>(q b d).elim .inl fun h=>.inr Om
  have D:=g.ib N.bz
  have J:∀b,w b->¬P b:=fun b d i=>(q b d).elim (fun h=>R b h i) fun h=>Oh<|D.lt b i
  refine⟨_,_,rfl,W.bk fun b i B=>R b B i,fun c=>?_,fun c=>?_⟩
  .have c:(grow L t).2.1≠0:=by rw[<-z];simpa using c
   have⟨O,M,Q⟩:=tX t L m
   rw[E]
   refine(Pc p L.length V o (by rw[Q];simp)).mono ?_
   rintro _ w6 ⟨rfl,l,T⟩
   have:of L t=(0,(grow L t).2.1,L):=by rw[of,if_neg<|by simp[h],if_pos c]
   refine⟨rfl,T.bk fun b i B=>J b B i,A _ _ _ ?_⟩
   rw[this]
   rw[Q,take_left]at l
   exact⟨by rw[X,z,Yv t L c],w,l,r.cg T Gd,e⟩
  .have c:(grow L t).2.1=0:=by rw[<-z];simpa using c
   have:of L t=((grow L t).1,0,(grow L t).2.2):=by rw[of,if_neg<|by simp[h],if_neg<|by simp[c]]
   refine A _ _ _ ?_
   rw[this]
   exact⟨by rw[X,z,c],w,o,r,e⟩
end Go.Proofs
end
section
namespace Go.Proofs
def Bu{L n i}(h:find L n=some i):∃hi:i<L.length,L[i].node=n:=by
 unfold find at h;rw[List.findIdx?_eq_some_iff_getElem]at h;have⟨hi,h1,_⟩:=h;exact⟨hi,by simpa using h1⟩
def xH{L n}(h:(ay L n).2.1=0):al (ay L n).2.2 (ay L n).1=true/\ad (ay L n).2.2 (ay L n).1=n/\(ej L n).2.2=0:=by
 unfold ay at h|-;simp only at h|-;by_cases a:(ej L n).2.2≠0;grind;rw[if_neg a]at h|-;have a:(ej L n).2.2=0:=by simpa using a
 cases b:find L n with
 |some i =>
  have⟨hi,c⟩:=Bu b
  simp only
  exact⟨zI.2 ⟨Om,Om⟩,by rw[qN hi,c],a⟩
 |none =>
  rw[b]at h
  simp only at h|-
  split at h
  simp at h
  rename_i d
  rw[if_neg d]
  simp only
  have hi:L.length<(L++[(⟨n,(ej L n).1,(ej L n).2.1⟩:tf)]).length:=Sm
  refine⟨zI.2 ⟨Om,Sm⟩,?_,a⟩
  rw[qN hi]
  simp
def yU(L n):∃M,(ay L n).2.2=L++M:=IG L n
inductive tv:bt->Prop
 |mk (k f t u:Int) (x:ByteArray) (a:List bt) (ak:yW ⟨k,f,t,u,x,0,0⟩ a.length=0) (kids:∀i (hi:i<a.length),tv a[i]):tv (.mk k f t u x a)
def jXG(t):∀i n:Int,(qO i n t).1=0->tv t:=by
 induction t using bt.ind with
 |h k f t u x a d =>
  have l:∀(a:List bt),(∀i (hi:i<a.length),∀j n:Int,(qO j n a[i]).1=0->tv a[i])->∀i e n:Int,(vK i e n a).1=0->e=0/\∀i (hi:i<a.length),tv a[i]:=by
   intro a;induction a with
   |nil=>intro _ i e n h;exact⟨by simpa[vK]using h,fun i hi=>by simp at hi⟩
   |cons t ts b =>
    intro hh i e n h
    unfold vK at h
    split at h
    rename_i c
    have:=b (fun i hi=>hh (i+1)<|by simpa using hi) _ _ _ h
    refine⟨c,fun j g=>?_⟩
    cases j with
    |zero=>exact hh 0 Sm i n this.1
    |succ j=>exact this.2 j (by simpa using g)
    grind
  intro i n h
  unfold qO at h
  split at h
  cases h
  split at h
  cases h
  have:=l a d _ _ _ h
  exact .mk _ _ _ _ _ _ this.1 this.2
def tv.qf{k f t u x ks}(h:tv (.mk k f t u x ks)):zO ⟨k,f,t,u,x,0,0⟩=0/\(ks.length:Int)=(bq k).kids/\zQ (bq k) ⟨k,f,t,u,x,0,0⟩=0/\∀i (hi:i<ks.length),tv ks[i]:=by
 cases h with
 |mk _ _ _ _ _ _ ak kids =>
  unfold yW at ak
  simp only at ak
  by_cases a:zO ⟨k,f,t,u,x,0,0⟩=0
  grind
  grind
def zAP(x):∀L,Wf L->tv x->(grow L x).2.1=0->al (grow L x).2.2 (grow L x).1=true/\zA (grow L x).2.2 (grow L x).1=x:=by
 induction x using bt.ind with
 |h k f t u x D r =>
  intro L A I e
  have⟨_,d,_,p⟩:=I.qf
  have g:∀(n:di) (j:aw),Wf j->n.kind=k->n.az=f->n.to=t->n.num=u->n.bb=x->(ay j n).2.1=0->(zB n).map (zA j)=D->al (ay j n).2.2 (ay j n).1=true/\zA (ay j n).2.2 (ay j n).1=.mk k f t u x D:=by
   intro n j v Q O P N R hm E;have⟨z,o,K⟩:=xH hm;refine⟨z,?_⟩;rw[zW (uT v n) z,o,Q,O,P,N,R,<-E];congr 1;refine List.map_congr_left fun q J=>?_;have⟨M,B⟩:=yU j n;have F:=(Kr K).2.2.2.2.1 q J;rw[B];have w:=uT v n;rw[B]at w;exact uO w _ q rfl F
  rw[grow]at e|-
  match D,r,d,p,g,e with
  |[],_,d,_,g,e =>
   rw[zZ]at e|-
   have s:(bq k).kids=0:=by simpa using d.symm
   exact g _ L A rfl rfl rfl rfl rfl e (by simp[zB,s])
  |[a],r,d,p,g,e =>
   have s:(bq k).kids=1:=by simpa using d.symm
   rw[zZ]at e|-
   by_cases i:(grow L a).2.1≠0
   grind
   rw[if_neg i]at e|-
   have i:(grow L a).2.1=0:=by simpa using i
   have⟨i1,y⟩:=r 0 Sm L A (p 0 Sm) i
   simp only[List.getElem_cons_zero]at i1 y
   rw[zZ]at e|-
   exact g _ _ (Eg a L A) rfl rfl rfl rfl rfl e (by simp[zB,s,y])
  |[a,b],r,d,p,g,e =>
   have s:(bq k).kids=2:=by simpa using d.symm
   rw[zZ]at e|-
   by_cases i:(grow L a).2.1≠0
   rw[if_pos i]at e;exact absurd e i
   rw[if_neg i]at e|-
   have i:(grow L a).2.1=0:=by simpa using i
   have m:=Eg a L A
   have⟨i1,y⟩:=r 0 Sm L A (p 0 Sm) i
   simp only[List.getElem_cons_zero]at i1 y
   rw[zZ]at e|-
   by_cases C:(grow (grow L a).2.2 b).2.1≠0
   grind
   rw[if_neg C]at e|-
   have C:(grow (grow L a).2.2 b).2.1=0:=by simpa using C
   have l:=Eg b _ m
   have⟨i2,H⟩:=r 1 Sm (grow L a).2.2 m (p 1 Sm) C
   simp only[List.getElem_cons_succ,List.getElem_cons_zero]at i2 H
   have⟨M,B⟩:=(tX b (grow L a).2.2 m.ok).2
   have G:zA (grow (grow L a).2.2 b).2.2 (grow L a).1=a:=by
    rw[B]at l|-;exact(uO l _ _ rfl i1).trans y
   rw[zZ]at e|-
   exact g _ _ l rfl rfl rfl rfl rfl e (by simp[zB,s,G,H])
  |a :: b :: c :: D,_,d,_,_,_ =>
   have:=yM k
   simp only[List.length_cons]at d
   omega
def OV{L}(b:Wf L){x}(h:(of L x).2.1=0):al (of L x).2.2 (of L x).1=true/\zA (of L x).2.2 (of L x).1=x/\tv x:=by
 unfold of at h|-;by_cases h1:(qO 0 0 x).1≠0;grind;rw[if_neg h1]at h|-;have a:=jXG x 0 0 (by simpa using h1);by_cases h2:(grow L x).2.1≠0;grind;rw[if_neg h2]at h|-;have:=zAP x L b a (by simpa using h2);exact⟨this.1,this.2,a⟩
def yL{L}(k:Wf L):∀(n:Nat) (s t:Int),s.toNat+t.toNat=n->al L s=true->al L t=true->zA L s=zA L t->s=t:=by
 intro n;induction n using Nat.strongRecOn with
 |_ n E =>
  intro s t K hs ht y
  rw[zW k hs,zW k ht]at y
  injection y with m p q o r l
  obtain⟨i,hi,rfl⟩:=rV hs
  obtain⟨j,H,rfl⟩:=rV ht
  have e:=(k.node hs)
  have d:=(k.node ht)
  rw[qN hi]at m p q o r l e
  rw[qN H]at m p q o r l d
  generalize x:L[i].node=g at *
  generalize v:L[j].node=u at *
  have c:∀a∈zB g,∀b∈zB u,zA L a=zA L b->a=b:=by
   intro a G b F f;have h1:=e.2.2.2.2.1 a G;have h2:=d.2.2.2.2.1 b F;have I:=zI.1 h1.1;have J:=zI.1 h2.1;exact E (a.toNat+b.toNat) Om a b rfl h1.1 h2.1 f
  have f:g.a=u.a/\g.b=u.b:=by
   have B:=e.2.1;have D:=e.2.2.1;have z:=d.2.1;have A:=d.2.2.1;unfold zB at l c;rw[<-m]at l c z A;rcases yM g.kind with h|h|h<;>rw[h]at l c B D z A;grind;grind;grind
  have C:L[i].node=L[j].node:=by
   rw[x,v];have⟨_,_,_,_,_,_,_⟩:=g;have⟨_,_,_,_,_,_,_⟩:=u;simp at m p q o r f;simp[m,p,q,o,r,f]
  have:=List.pairwise_iff_getElem.1 k.ok.oE
  have w:i=j:=Gd
  rw[w]
end Go.Proofs
end
section
namespace Go.Proofs
mutual
def cnt:bt->Nat
 |.mk _ _ _ _ _ ks=>1+zGO ks
def zGO:List bt->Nat
 |[]=>0
 |t :: ts=>cnt t+zGO ts
end
mutual
def parts (most:Int):bt->Int
 |.mk _ _ _ _ _ ks=>jUZ most 1 ks
def jUZ (most n:Int):List bt->Int
 |[]=>n
 |t :: ts=>if n<=most then jUZ most (n+parts (most-n) t) ts else n
end
mutual
def jSJ:bt->bt->Bool
 |.mk k f t u x ks,.mk k' f' t' u' x' ks'=>decide (k=k')&&decide (f=f')&&decide (t=t')&&decide (u=u')&&decide (x=x')&&jZL ks ks'
def jZL:List bt->List bt->Bool
 |[],[]=>true
 |t :: ts,t' :: ts'=>jSJ t t'&&jZL ts ts'
 |_,_=>false
end
end Go.Proofs
end
section
open Go Go.SE List
namespace Go.Proofs
attribute [local irreducible] Calls
def cz.au{S w0 w w' H H' s t}(h:cz S w s t)(hs:af w0 H w H' w')(a:∀b,S b->b<w.heap.size/\¬H b):cz S w' s t:=
 h.ext hs.ext fun b c hh=>hs.ji (G:=S) a b c hh
end Go.Proofs
end
section
open Go Go.SE List
namespace Go.Proofs
open Tryz
attribute [local irreducible] Calls
def Hi(p w){L F}(a:zD w p L F):cl 136 #[vp<|some p] w (XB fun r w'=>r=L.length/\w'=w):=by
 refine Zf _ w (fun r w'=>r=L.length/\w'=w) ?_;unfold Ko;have⟨s,m,h,_⟩:=a;refine Br.f rfl ⟨p,rfl,s,h.box.bf,?_,rfl⟩;have:=h.cm.len;rw[this];simp
def QV(p t w){L F}(Z:zD w p L F)(C:Ok L):cl 268 #[vp<|some p,vi t] w (XA fun s w'=>dr (fun b=>w.heap.size<=b/\b<w'.heap.size) w' 1 s (cd<|zB<|ad L t)/\Pure w w'):=by
 refine jaj _ _ w (fun s w'=>dr (fun b=>w.heap.size<=b/\b<w'.heap.size) w' 1 s (cd<|zB<|ad L t)/\Pure w w') ?_;refine(tj p t w Z C).mono ?_;rintro _ w1 ⟨k,f,t',u,x,a,b,r,rfl,⟨X,_⟩,I⟩;refine⟨_,_,_,_,_,_,_,_,rfl,?_⟩;intro R w2 h2;have S:Pure w w2:=I.trans<|ab.ax h2;have o2:=av.ak I h2;refine bx 7 (ai.bj h2) rfl rfl fun O b2 E=>?_;have J:Pure w O:=S.ak o2 E;refine⟨k,b2.bf,?_⟩;refine(Pj k O).mono ?_;rintro _ w4 ⟨s1,P,V,T,c,ok,rfl,⟨hs,_⟩,n⟩;refine⟨_,_,_,_,_,_,rfl,?_⟩;have h:=b2.pure n;intro W M m;have N:Pure w4 M:=ab.ax m;have B:=h.pure N;have ne:R.block≠W.block:=m.ne h.aq;have D:Pure w M:=(J.trans n).trans N;have Q:=av.ak (J.trans n) m;refine bx 5 (ai.bj m) rfl rfl fun H b3 E=>?_;have g:=B.ext E ne;have l:Pure w H:=D.ak Q E;refine⟨a,g.cell rfl,b,g.cell rfl,?_⟩;intro v G q;have K:Pure H G:=ab.ax q;have b4:=ai.bj q;have e:bq k=⟨s1,P,V,T,c⟩:=hs.symm;have d:c=0\/c=1\/c=2:=by have:=yM k;rw[e]at this;exact this
 refine⟨c,(b3.pure K).cell rfl,_,Jj v c G d,?_,l.trans K⟩;have A:zB (ad L t)=[a,b].take c.toNat:=by rw[<-X];simp[zB,e]
 rw[A];have z:=q.cu;have z6:=l.size;have zl:=b4.lt;refine⟨by rcases d with rfl|rfl|rfl<;>rfl,fun i hi=>?_⟩;rw[vA]at hi;have U:i<c.toNat:=by simp at hi;omega
 refine⟨v.add<|i*1,⟨Om,by show(i:Int)<(c.toNat:Int);omega,v,rfl,rfl⟩,by rw[zC];omega,?_⟩;intro j hj;have Y:j<1:=by simp only[cd,getElem_map,length_cons,length_nil]at hj;omega
 have o:j=0:=Om;subst o;rw[yO];have y:i=0\/i=1:=Om;rcases y with rfl|rfl;rw[b4.cell (i:=0*1+0) rfl];simp[cd];rw[b4.cell (i:=1*1+0) rfl];simp[cd]
end Go.Proofs
end
section
namespace Go.Proofs
def toNat_ofNat{n:Nat}(h:n<256):(UInt8.ofNat n).toNat=n:=by simp[UInt8.toNat_ofNat];omega
def jas{i m}(hi:i<=9)(h:m*128^i<18446744073709551616):i=9->m<2:=by
 rintro rfl;omega
def Wz:∀(m i a:Nat) (c:List UInt8),i<=9->m*128^i<18446744073709551616->(0<i->0<m)->xS i a (vF m++c)=.ok (a+m*128^i,i+(vF m).length):=by
 intro m;induction m using Nat.strongRecOn with
 |ind m b =>
  intro i a c hi hm g
  have j:=jas hi hm
  by_cases h:m<128
  rw[tB h,List.singleton_append,xR,toNat_ofNat Om,if_neg Om,if_pos h,if_neg Om,List.length_singleton]
  rw[Ao Om,List.cons_append,xR,toNat_ofNat Om,if_neg Om,if_neg Om]
  have e:m/128*128^(i+1)=m/128*128*128^i:=by rw[Nat.pow_succ,Nat.mul_assoc,Nat.mul_comm 128]
  have le:m/128*128*128^i<=m*128^i:=Nat.mul_le_mul_right _ Om
  rw[b (m/128) Om (i+1) _ c Om Om Om,e,List.length_cons]
  have f:(m%128+128)%128=m%128:=Om
  have d:m*128^i=m%128*128^i+m/128*128*128^i:=by rw[<-Nat.add_mul];congr 1;omega
  rw[f,d]
  congr 2
  omega
  omega
def La{n}(h:n<18446744073709551616)(c):xS 0 0 (vF n++c)=.ok (n,(vF n).length):=by
 rw[Wz n 0 0 c Om (by simpa using h) Om];simp
def QP{i y m}(hi:i<=8)(d:y<=127)(a:m*128^(i+1)<18446744073709551616):(y+128*m)*128^i<18446744073709551616:=by
 rw[Nat.pow_succ]at a;obtain⟨q,c⟩:∃q,18446744073709551616=q*(128^i*128):=by
  refine⟨2^(64-7*(i+1)),?_⟩;rw[show 128^i*128=2^(7*(i+1)) by rw[Nat.pow_mul];rfl,<-Nat.pow_add,show 64-7*(i+1)+7*(i+1)=64 by omega]
 have b:0<128^i:=Nat.pow_pos Om;generalize 128^i=P at *;rw[c]at a|-;have hm:m<q:=Nat.lt_of_mul_lt_mul_right a;have h1:(y+128*m)*P<128*(m+1)*P:=Nat.mul_lt_mul_of_pos_right Om b;have h2:128*(m+1)*P<=128*q*P:=Nat.mul_le_mul_right _<|Nat.mul_le_mul_left _ hm;have h3:q*(P*128)=128*q*P:=by rw[Nat.mul_comm P,<-Nat.mul_assoc,Nat.mul_comm q]
 omega
def WL:∀(l:List UInt8) (i b n k:Nat),i<=9->xS i b l=.ok (n,k)->∃m c,l=vF m++c/\n=b+m*128^i/\k=i+(vF m).length/\(0<i->0<m)/\m*128^i<18446744073709551616:=by
 intro l;induction l with
 |nil=>intro i b n k _ h;simp[xS]at h
 |cons x l p =>
  intro i b n k hi h
  have t:=x.toNat_lt
  have d:UInt8.ofNat x.toNat=x:=Sm
  rw[xR]at h
  split at h
  cases h
  rename_i u
  split at h
  rename_i a
  split at h
  cases h
  rename_i s
  cases h
  refine⟨x.toNat,l,by rw[tB a,d];rfl,rfl,by rw[tB a];rfl,Om,?_⟩
  have:i=0\/i=1\/i=2\/i=3\/i=4\/i=5\/i=6\/i=7\/i=8\/i=9:=Om
  rcases this with rfl|rfl|rfl|rfl|rfl|rfl|rfl|rfl|rfl|rfl<;>omega
  rename_i a
  have g:i<=8:=Om
  obtain⟨m,c,rfl,rfl,rfl,o,q⟩:=p _ _ _ _ Om h
  have o:=o Om
  have f:0<x.toNat%128+128*m:=Om
  have e:x.toNat%128+128*m=x.toNat%128+128*m:=rfl
  refine⟨x.toNat%128+128*m,c,?_,?_,?_,fun _=>f,?_⟩
  rw[Ao (n:=x.toNat%128+128*m) Om,List.cons_append]
  have r:(x.toNat%128+128*m)%128+128=x.toNat:=Om
  have j:(x.toNat%128+128*m)/128=m:=Om
  rw[r,j,d]
  grind
  rw[Ao (n:=x.toNat%128+128*m) Om,List.length_cons]
  have j:(x.toNat%128+128*m)/128=m:=Om
  rw[j];omega
  exact QP g Om q
def Ou{l n k}(h:xS 0 0 l=.ok (n,k)):∃c,l=vF n++c/\k=(vF n).length/\n<18446744073709551616:=by
 have⟨m,c,h1,h2,h3,_,a⟩:=WL l 0 0 n k Om h;simp at h2 h3 a;subst h2;exact⟨c,h1,h3,a⟩
end Go.Proofs
end
section
namespace Go.Proofs
def uE(L:aw):Prop:=∀e∈L,yY e.node.num
def uE.nil:uE []:=fun _ h=>(by cases h)
def uE.ay{L}(h:uE L){n}(b:yY n.num):uE (ay L n).2.2:=by
 rcases Ex L n with e|⟨_,e⟩;rw[e];exact h;rw[e];intro x a;rcases List.mem_append.1 a with a|a;exact h x a;grind
def uE.grow(t):∀L,uE L->ru t->uE (grow L t).2.2:=by
 induction t using bt.ind with
 |h k f t u x a g =>
  have:∀(a:List bt),(∀i (hi:i<a.length),∀L,uE L->ru a[i]->uE (Proofs.grow L a[i]).2.2)->(∀i (hi:i<a.length),ru a[i])->∀(n:di) i L,yY n.num->uE L->uE (zZ n i L a).2.2:=by
   intro a;induction a with
   |nil=>intro _ _ n i L d h;unfold zZ;exact h.ay d
   |cons t ts c =>
    intro hh e n i L d h
    have b:=hh 0 Sm L h<|e 0 Sm
    simp only[List.getElem_cons_zero]at b
    unfold zZ
    split
    exact b
    exact c (fun i hi=>hh (i+1)<|by simpa using hi) (fun i hi=>e (i+1)<|by simpa using hi) _ _ _ (by split<;>exact d) b
  intro L h j
  cases j with
  |mk _ _ _ _ _ _ ak kids =>
   unfold Proofs.grow
   exact this a g kids _ _ L ak h
def uE.of{L}(h:uE L){t}(a:ru t):uE (of L t).2.2:=by
 unfold Proofs.of;split;exact h;split;exact h;exact uE.grow t L h a
def uE.node{L}(h:uE L)(t):yY (ad L t).num:=by
 cases ht:al L t with
 |true=>have⟨e,a,hm,_⟩:=Ay ht;simp only[ad,a,Option.map_some,Option.getD_some];exact h e hm
 |false=>simp only[ad,yI ht,Option.map_none,Option.getD_none];exact⟨De,De⟩
def xm{L}(e:Wf L){t}(ht:al L t=true):1<=(ad L t).kind/\(ad L t).kind<=9/\0<=(ad L t).az/\(ad L t).az<16/\0<=(ad L t).to/\(ad L t).to<16/\(ad L t).bb.size<=64:=by
 have⟨h1,_,_,d,_⟩:=e.node ht;generalize ad L t=n at *;have a:ou n.kind=true/\((bq n.kind).az=false->n.az=0)/\((bq n.kind).to=false->n.to=0):=by
  unfold zO at h1;simp only at h1;split at h1;cases h1;grind
 have c:=a.1;simp only[ou,Bool.and_eq_true,decide_eq_true_eq]at c;have b:((bq n.kind).az=true->qw n.az=true)/\((bq n.kind).to=true->qw n.to=true)/\n.bb.size<=64:=by
  unfold zQ at d;split at d;cases d;grind
 refine⟨c.1,c.2,?_⟩;have n1:0<=n.az/\n.az<16:=by
  cases hs:(bq n.kind).az with
  |true=>have:=b.1 hs;simpa[qw]using this
  |false=>rw[a.2.1 hs];decide
 have n2:0<=n.to/\n.to<16:=by
  cases hs:(bq n.kind).to with
  |true=>have:=b.2.1 hs;simpa[qw]using this
  |false=>rw[a.2.2 hs];decide
 exact⟨n1.1,n1.2,n2.1,n2.2,b.2.2⟩
end Go.Proofs
namespace Go.Proofs
def FX(k):(qP k).length<=3:=by
 unfold qP;repeat' split
 all_goals decide
def KU(n:di)(b a:Nat)(f:bo)(h1:n.az<16)(h2:n.to<16)(h3:yY n.num)(e:n.bb.size<=64)(d:b<65537)(c:a<65537):(f.bytes n b a).length<=74:=by
 have h3:=h3.2;cases f<;>simp only[bo.bytes,vU,List.length_append];have:=vT (n:=n.az.toNat) Om;omega;have:=vT (n:=n.to.toNat) Om;omega;have:=vT (n:=n.num.toNat) Om;omega;have:=vT (n:=n.bb.size) Om;have:n.bb.data.toList.length=n.bb.size:=Array.length_toList;omega;have:=vT (n:=b) Om;omega;have:=vT (n:=a) Om;omega
def OH{α β:Type}(f:α->List β)(c):∀l:List α,(∀x∈l,(f x).length<=c)->(l.flatMap f).length<=c*l.length:=by
 intro l;induction l with
 |nil=>intro _;simp
 |cons a l b =>
  intro h
  have h1:=h a Sm
  have h2:=b Gd
  rw[List.flatMap_cons,List.length_append,List.length_cons,Nat.mul_succ];omega
def tR(l t):dc l t<=l.length:=List.idxOf_le_length
def W5{L}(c:Wf L)(d:uE L){seen t}(ht:al L t=true)(hs:seen.length<=65536):(yH L seen t).length<=300:=by
 have⟨_,_,_,h1,_,h2,e⟩:=xm c ht;have:=OH (bo.bytes (ad L t) (dc seen (ad L t).a)<|dc seen (ad L t).b) 74 (qP (ad L t).kind) fun f _=>KU _ _ _ f h1 h2 (d.node t) e (Oh<|tR seen (ad L t).a)<|Oh<|tR seen (ad L t).b;have h3:=FX (ad L t).kind;have:74*(qP (ad L t).kind).length<=74*3:=Nat.mul_le_mul_left _ h3;unfold yH;rw[List.length_cons];omega
def Pv{L}(b:Wf L)(c:uE L):∀(l seen:List Int),(∀t∈l,al L t=true)->seen.length+l.length<=65536->(fx L seen l).length<=300*l.length:=by
 intro l;induction l with
 |nil=>intro seen _ _;simp[fx]
 |cons t l a =>
  intro seen h d
  rw[List.length_cons]at d
  have h1:=W5 b c (seen:=seen) (h t Sm) Om
  have h2:=a (seen++[t]) Gd Gd
  rw[fx,List.length_append,List.length_cons,Nat.mul_succ];omega
end Go.Proofs
end
section
namespace Go.Proofs
def zDZ{L}(c:Wf L){t}(ht:al L t=true):
  (bo.mv∈qP (ad L t).kind\/(ad L t).az=0)/\(bo.oD∈qP (ad L t).kind\/(ad L t).to=0)/\(bo.num∈qP (ad L t).kind\/(ad L t).num=0) /\
  (bo.bb∈qP (ad L t).kind\/(ad L t).bb=⟨#[]⟩)/\(bo.fst∈qP (ad L t).kind\/(ad L t).a=0)/\(bo.snd∈qP (ad L t).kind\/(ad L t).b=0):=by
 have⟨h1,h2,h3,_⟩:=c.node ht
 have⟨e,d,_⟩:=xm c ht
 generalize ad L t=n at *
 have⟨k,f,t,u,x,a,b⟩:=n
 simp only at *
 unfold zO at h1
 have:k=1\/k=2\/k=3\/k=4\/k=5\/k=6\/k=7\/k=8\/k=9:=Om
 rcases this with rfl|rfl|rfl|rfl|rfl|rfl|rfl|rfl|rfl<;>simp[qP,bq,ou]at*<;>simp_all
def Hb{n}(h:bo.fst∈qP n.kind):n.a∈zB n:=by
 unfold qP at h;unfold zB bq
 repeat' split at h
 all_goals first|(exfalso;revert h;decide)|skip
 all_goals (rename_i h1;rw[h1];simp)
def Gj{n}(h:bo.snd∈qP n.kind):n.b∈zB n:=by
 unfold qP at h;unfold zB bq
 repeat' split at h
 all_goals first|(exfalso;revert h;decide)|skip
 all_goals (rename_i h1;rw[h1];simp)
def jXF{L}(b:Wf L){s t}(hs:al L s=true)(ht:al L t=true)(h:ad L s=ad L t):s=t:=by
 obtain⟨i,hi,rfl⟩:=rV hs;obtain⟨j,a,rfl⟩:=rV ht;rw[qN hi,qN a]at h;have:=b.ok.oE;have e:i=j:=by
  refine(List.getElem_inj (h₀:=by simpa using hi) (h₁:=by simpa using a) this).1 ?_;simpa using h
 rw[e]
def wt(L:aw):List Int->List Int->Prop
 |_,[]=>True
 |seen,z :: l=>(∀k∈zB (ad L z),k∈seen)/\wt L (seen++[z]) l
def YQ{L}:∀(l seen:List Int),(∀ba z a,l=ba++z ::a->∀k∈zB (ad L z),k∈seen++ba)->wt L seen l:=by
 intro l;induction l with
 |nil=>intro _ _;trivial
 |cons z l c =>
  intro seen h
  refine⟨fun k b=>by simpa using h [] z l rfl k b,c _ fun ba y a e k b=>?_⟩
  have:=h (z ::ba) y a (by rw[e];rfl) k b
  simpa using this
def xG{L}(b:Wf L)(t):wt L [] (dd L t):=YQ _ _ (fun ba z a e k c=>by rw[List.nil_append];exact Gb b t ba z a e k c)
def xE{L}(a:Wf L){t u}(h:u∈dd L t):al L u=true:=have h:=(y8 a).1 h;(ja.le a h.1 h.2).1
def Dm{L}(a:Wf L){t}(h:al L t=true):t∈dd L t:=(y8 a).2 ⟨h,.refl _⟩
def Er{α β γ δ:Type}{f:α->γ}{g:β->γ}{e:α->δ}{i:β->δ}:∀{d:List α} {c:List β},d.map f=c.map g->(∀a∈d,∀b∈c,f a=g b->e a=i b)->d.map e=c.map i:=by
 intro d;induction d with
 |nil=>intro c h _;cases c with
  |nil=>rfl
  |cons b c=>simp at h
 |cons a d j=>intro c h hh;cases c with
  |nil=>simp at h
  |cons b c =>
   simp only[List.map_cons,List.cons.injEq]at h|-
   exact⟨hh a Sm b Sm h.1,j h.2 Gd⟩
def zt{L M}(hL:Wf L)(a:Wf M){s t}(hs:al L s=true)(ht:al M t=true)(h:zA L s=zA M t):
  (ad L s).kind=(ad M t).kind/\(ad L s).az=(ad M t).az/\(ad L s).to=(ad M t).to/\(ad L s).num=(ad M t).num/\(ad L s).bb=(ad M t).bb/\(zB<|ad L s).map (zA L)=(zB<|ad M t).map (zA M):=by
 rw[zW hL hs,zW a ht]at h
 simpa using h
def L6{L M}(hL:Wf L)(i:Wf M):∀(n:Nat) (s t:Int),s.toNat=n->al L s=true->al M t=true->zA L s=zA M t->sizeOf L s=sizeOf M t/\c9 L s=c9 M t:=by
 intro n;induction n using Nat.strongRecOn with
 |_ n p =>
 intro s t r hs ht h;have m:=(zt hL i hs ht h).2.2.2.2.2;have⟨_,_,_,_,g,q,o⟩:=hL.node hs;have⟨_,_,_,_,d1,d2,d3⟩:=i.node ht;have key:∀a∈zB (ad L s),∀b∈zB (ad M t),zA L a=zA M b->sizeOf L a=sizeOf M b/\c9 L a=c9 M b:=fun a c b f e=>by
  have:=zI.1 (g a c).1;exact p a.toNat (Oh<|(g a c).2) a b rfl (g a c).1 (d1 b f).1 e
 refine⟨?_,?_⟩;rw[q,d2,Er m fun a c b f e=>(key a c b f e).1];have e:=Er m fun a c b f e=>(key a c b f e).2;rw[o,d3];have j:∀(l:List Int) (P:aw),l.foldl (fun d k=>max d<|c9 P k) 0=(l.map<|c9 P).foldl max 0:=fun l P=>by rw[List.foldl_map]
 rw[j,j,e]
def Ph{L}(hL:Wf L):∀{d c:List Int},(∀k∈d,al L k=true)->(∀k∈c,al L k=true)->d.map (zA L)=c.map (zA L)->d=c:=by
 intro d;induction d with
 |nil=>intro c _ _ h;cases c with
  |nil=>rfl
  |cons b c=>simp at h
 |cons a d e=>intro c h1 h2 h;cases c with
  |nil=>simp at h
  |cons b c =>
   simp only[List.map_cons,List.cons.injEq]at h
   rw[yL hL _ a b rfl (h1 a Sm) (h2 b Sm) h.1,e Gd Gd h.2]
structure Ren(L q:aw)(z:Int)(n:di):Prop where
 kind:n.kind=(ad L z).kind
 az:n.az=(ad L z).az
 to:n.to=(ad L z).to
 num:n.num=(ad L z).num
 bb:n.bb=(ad L z).bb
 Dn:∀k∈zB n,al q k=true
 kids:(zB n).map (zA q)=(zB<|ad L z).map (zA L)
 a0:(bq n.kind).kids<1->n.a=0
 b0:(bq n.kind).kids<2->n.b=0
def zAJ{n m}(c:n.kind=m.kind)(h:zB n=zB m)(a1:(bq n.kind).kids<1->n.a=0)(b1:(bq n.kind).kids<2->n.b=0)(a2:(bq m.kind).kids<1->m.a=0)(b2:(bq m.kind).kids<2->m.b=0):n.a=m.a/\n.b=m.b:=by
 unfold zB at h;rw[<-c]at h a2 b2;rcases yM n.kind with e|e|e;grind;rw[e]at h;simp at h;exact⟨h,by rw[b1 Om,b2 Om]⟩;rw[e]at h;simpa using h
section
variable {L q:aw} (hL:Wf L) (hq:Wf q) {z:Int} (hz:al L z=true) {n:di} (h:Ren L q z n)
include hL hq hz h
def Ren.ej:ej q n=(sizeOf L z,c9 L z,0):=by
 have⟨m,x,y,u,t,j,v⟩:=hL.node hz;have p:zO n=0:=by
  have:zO n=zO (ad L z):=by unfold zO;rw[h.kind,h.az,h.to,h.num,h.bb]
  rw[this,m]
 have s:zQ (bq n.kind) n=0:=by
  have:zQ (bq n.kind) n=zQ (bq (ad L z).kind) (ad L z):=by unfold zQ;rw[h.kind,h.az,h.to,h.bb]
  rw[this,u]
 have key:∀a∈zB n,∀b∈zB (ad L z),zA q a=zA L b->sizeOf q a=sizeOf L b/\c9 q a=c9 L b:=fun a f b c e=>L6 hq hL _ a b rfl (h.Dn a f) (t b c).1 e;have o:=Er h.kids fun a f b c e=>(key a f b c e).1;have r:=Er h.kids fun a f b c e=>(key a f b c e).2;have g:∀(l:List Int) (P:aw),l.foldl (fun d k=>max d<|c9 P k) 0=(l.map<|c9 P).foldl max 0:=fun l P=>by rw[List.foldl_map]
 have s1:1+((zB n).map<|sizeOf q).sum=sizeOf L z:=by rw[o,j]
 have i:(zB n).foldl (fun d k=>max d<|c9 q k) 0+1=c9 L z:=by rw[g,r,<-g,v]
 have b1:=hL.ok.sizeOf z;have b2:=hL.ok.c9 z;unfold Proofs.ej;simp only;rw[if_neg<|by simpa using p,if_neg,if_neg<|by simpa using s,if_neg,s1,i,if_neg Om];simp only[List.any_eq_true,not_exists,not_and];intro k w;rw[h.Dn k w];decide;have a0:=h.a0;have b0:=h.b0;simp only[Bool.or_eq_true,Bool.and_eq_true,decide_eq_true_eq,bne_iff_ne,ne_eq,not_or,not_and,Decidable.not_not];exact⟨a0,b0⟩
omit hq in
def Ren.Bd{v M}(c:Wf M)(a:al M v=true)(b:ad M v=n)(d:∀k∈zB n,zA M k=zA q k):zA M v=zA L z:=by
 rw[zW c a,zW hL hz,b,h.kind,h.az,h.to,h.num,h.bb,<-h.kids];congr 1;exact List.map_congr_left d
def Ren.node{v}(b:al q v=true)(ht:zA q v=zA L z):ad q v=n:=by
 have⟨f,u,x,p,l,e⟩:=zt hq hL b hz ht;have⟨_,g,c,_,i,_⟩:=hq.node b;have a:=Ph hq (fun k d=>(i k d).1) h.Dn<|e.trans h.kids.symm;have⟨j,t⟩:=zAJ (f.trans h.kind.symm) a g c h.a0 h.b0;have s:=h.kind;have A:=h.az;have y:=h.to;have w:=h.num;have r:=h.bb;generalize ad q v=m at *;generalize ad L z=o at *;cases m;cases n;simp_all
def Ren.wZ(b:∀v,al q v=true->zA q v≠zA L z):find q n=none:=by
 cases c:find q n with
 |none=>rfl
 |some i =>
  exfalso
  have⟨hi,e⟩:=Bu c
  have a:al q ((i:Int)+1)=true:=zI.2 ⟨Om,Om⟩
  exact b _ a<|h.Bd hL hz hq a (by rw[qN hi,e]) fun _ _=>rfl
def Ren.jbU{v}(b:al q v=true)(ht:zA q v=zA L z):find q n=some (v-1).toNat:=by
 have c:=h.node hL hq hz b ht;cases a:find q n with
 |none =>
  exfalso
  unfold find at a
  rw[List.findIdx?_eq_none_iff]at a
  obtain⟨i,hi,rfl⟩:=rV b
  rw[qN hi]at c
  have:=a q[i]<|List.getElem_mem hi
  simp at this;exact this c
 |some i =>
  have⟨hi,e⟩:=Bu a
  have d:al q ((i:Int)+1)=true:=zI.2 ⟨Om,Om⟩
  have:=Go.Proofs.jXF hq d b (by rw[qN hi,e,c])
  rw[<-this];simp
def Ren.By{v}(a:al q v=true)(ht:zA q v=zA L z):ay q n=(v,0,q):=by
 have c:=h.ej hL hq hz;have b:=h.jbU hL hq hz a ht;have h1:=(zI.1 a).1;unfold ay;simp only[c,b];rw[if_neg Sm];simp only[Prod.mk.injEq,and_true];omega
def Ren.AT(a:∀v,al q v=true->zA q v≠zA L z)(d:q.length<65536):ay q n=((q.length:Int)+1,0,q++[⟨n,sizeOf L z,c9 L z⟩]):=by
 have c:=h.ej hL hq hz;have b:=h.wZ hL hq hz a;unfold ay;simp only[c,b];rw[if_neg Sm,if_neg Om]
def Ren.Sw(d:¬q.length<65536)(a:∀v,al q v=true->zA q v≠zA L z):ay q n=(0,6,q):=by
 have c:=h.ej hL hq hz;have b:=h.wZ hL hq hz a;unfold ay;simp only[c,b];rw[if_neg Sm,if_pos Om]
def Ren.nq(f:(ay q n).2.1=0):Wf (ay q n).2.2/\al (ay q n).2.2 (ay q n).1=true/\zA (ay q n).2.2 (ay q n).1=zA L z/\∀v,al q v=true->al (ay q n).2.2 v=true/\zA (ay q n).2.2 v=zA q v:=by
 have b:=uT hq n;have⟨M,e⟩:=yU q n;have⟨d,g,_⟩:=xH f;have a:∀v,al q v=true->al (ay q n).2.2 v=true/\zA (ay q n).2.2 v=zA q v:=fun v c=>by
  rw[e]at b|-;exact⟨uD c,uO b _ v rfl c⟩
 exact⟨b,d,h.Bd hL hz b d g fun k i=>(a k<|h.Dn k i).2,a⟩
def Ren.cq:(ay q n).2.1=0\/(ay q n).2.1=6/\65536<=q.length/\∀v,al q v=true->zA q v≠zA L z:=by
 by_cases a:∃v,al q v=true/\zA q v=zA L z;have⟨v,b,ht⟩:=a;rw[h.By hL hq hz b ht];exact .inl rfl;have a:∀v,al q v=true->zA q v≠zA L z:=fun v b e=>a ⟨v,b,e⟩;by_cases c:q.length<65536;rw[h.AT hL hq hz a c];exact .inl rfl;rw[h.Sw hL hq hz c a];exact .inr ⟨rfl,Om,a⟩
end
structure Cp(Lq L:aw)(ak:Int->Int)(seen:List Int):Prop where
 wf:Wf L
 D8:∀s∈seen,al Lq s=true
 at_:∀s∈seen,al L (ak s)=true/\zA L (ak s)=zA Lq s
 iw:∀x,x∉seen->ak x=0
def Ls(n)(ak:Int->Int):zB { n with a:=ak n.a,b:=ak n.b }=(zB n).map ak:=by
 unfold zB;simp only[List.map_take,List.map_cons,List.map_nil]
def Cp.AZ{Lq L}{ak:Int->Int}{seen}(h:Cp Lq L ak seen)(n:Wf Lq){z}(l:al Lq z=true)(g:∀k∈zB (ad Lq z),k∈seen):
  Ren Lq L z { ad Lq z with a:=ak (ad Lq z).a,b:=ak (ad Lq z).b }:=by
 have⟨_,m,j,_⟩:=n.node l
 have f:ak 0=0:=h.iw 0 fun i=>Oh<|(zI.1<|h.D8 0 i).1
 refine⟨rfl,rfl,rfl,rfl,rfl,?_,?_,fun e=>by simp only;rw[m e,f],fun e=>by simp only;rw[j e,f]⟩
 intro k c
 rw[Ls]at c
 obtain⟨x,d,rfl⟩:=List.mem_map.1 c
 exact(h.at_ x<|g x d).1
 rw[Ls,List.map_map]
 exact List.map_congr_left fun x d=>(h.at_ x<|g x d).2
def Cp.step{Lq L}{ak:Int->Int}{seen}(h:Cp Lq L ak seen)(g:Wf Lq){z}(d:al Lq z=true)(j:∀k∈zB (ad Lq z),k∈seen){n}(f:Ren Lq L z n)(c:(ay L n).2.1=0):
  Cp Lq (ay L n).2.2 (fun x=>if x=z then(ay L n).1 else ak x) (seen++[z]):=by
 have⟨i,m,l,b⟩:=f.nq g h.wf d c
 refine⟨i,fun s hs=>?_,fun s hs=>?_,fun x a=>?_⟩
 rcases List.mem_append.1 hs with hs|hs
 exact h.D8 s hs
 grind
 by_cases e:s=z
 grind
 simp only[if_neg e]
 have hs:s∈seen:=(List.mem_append.1 hs).resolve_right Gd
 have⟨a1,a2⟩:=h.at_ s hs
 exact⟨(b _ a1).1,(b _ a1).2.trans a2⟩
 simp only[List.mem_append,List.mem_singleton,not_or]at a
 rw[if_neg a.2];exact h.iw x a.1
def BG(L n):(ay L n).2.2.length<=L.length+1:=by
 rcases Ex L n with e|⟨_,e⟩<;>rw[e]<;>simp
def qG(Lq z l L)(ak:Int->Int){n}(c:{ ad Lq z with a:=ak (ad Lq z).a,b:=ak (ad Lq z).b }=n){x e L'}(hm:ay L n=(x,e,L')):
  zU Lq (z ::l) L ak=if e≠0 then(L,e,ak)else zU Lq l L' (fun y=>if y=z then x else ak y):=by
 subst c
 show(if(ay L _).2.1≠0 then _ else _)=_
 rw[hm]
def Dv{Lq}(k:Wf Lq):∀(l seen:List Int) (L:aw) (ak:Int->Int),Cp Lq L ak seen->(∀z∈l,al Lq z=true)->wt Lq seen l ->
  ((zU Lq l L ak).2.1=0/\Cp Lq (zU Lq l L ak).1 (zU Lq l L ak).2.2 (seen++l))\/((zU Lq l L ak).2.1=6/\¬(L.length+l.length<=65536)):=by
 intro l
 induction l with
 |nil=>intro seen L ak h _ _;exact .inl ⟨rfl,by rw[List.append_nil];exact h⟩
 |cons z l t =>
  intro seen L ak h s d
  have g:=s z Sm
  have j:=h.AZ k g d.1
  generalize f:({ ad Lq z with a:=ak (ad Lq z).a,b:=ak (ad Lq z).b }:di)=n at j
  have p:=BG L n
  have c:=j.cq k h.wf g
  have hs:=fun r=>h.step k g d.1 j r
  obtain⟨x,e,m,hm⟩:∃x e m,ay L n=(x,e,m):=⟨_,_,_,rfl⟩
  rw[qG Lq z l L ak f hm]
  rw[hm]at p c hs
  simp only at p c hs
  rcases c with rfl|⟨rfl,u,_⟩
  rw[if_neg Sm]
  rcases t _ _ _ (hs rfl) Gd d.2 with⟨o,q⟩|⟨o,q⟩
  grind
  refine .inr ⟨o,fun i=>q ?_⟩
  rw[List.length_cons]at i;omega
  grind
def jXS{Lq}(c:Wf Lq):∀(l seen:List Int) (L:aw) (ak:Int->Int),Cp Lq L ak seen->(∀z∈l,al Lq z=true)->wt Lq seen l->(∀z∈l,∃v,al L v=true/\zA L v=zA Lq z) ->
  (zU Lq l L ak).2.1=0/\(zU Lq l L ak).1=L:=by
 intro l
 induction l with
 |nil=>intro seen L ak h _ _ _;exact⟨rfl,rfl⟩
 |cons z l f =>
  intro seen L ak h e a i
  have b:=e z Sm
  have d:=h.AZ c b a.1
  have⟨v,j,g⟩:=i z Sm
  have hm:=d.By c h.wf b j g
  have hs:=h.step c b a.1 d (by rw[hm])
  rw[qG Lq z l L ak rfl hm]
  rw[hm]at hs
  rw[if_neg Sm]
  exact f _ _ _ hs Gd a.2 Gd
def Cp.start{Lq L}(a:Wf L):Cp Lq L (fun _=>0) []:=⟨a,fun _ h=>(by cases h),fun _ h=>(by cases h),fun _ _=>rfl⟩
def ZC{L Lq}(a:Wf L)(b:Wf Lq)(t):(vH L Lq t).2.1=0\/((vH L Lq t).1=0/\(vH L Lq t).2.2=L):=by
 unfold vH;split;grind;exact .inr ⟨rfl,rfl⟩
def xX{L Lq}(b:Wf L)(a:Wf Lq){t}(ht:al Lq t=true)(c:(vH L Lq t).2.1=0):
  Wf (vH L Lq t).2.2/\al (vH L Lq t).2.2 (vH L Lq t).1=true/\zA (vH L Lq t).2.2 (vH L Lq t).1=zA Lq t:=by
 have h:=Dv a (dd Lq t) [] L (fun _=>0) (Cp.start b) (fun z d=>xE a d)<|xG a t
 unfold vH at *
 rw[if_pos ht]at *
 simp only at *
 split at c
 grind
 rename_i h1
 rw[if_neg h1]
 simp only
 rcases h with⟨_,h⟩|⟨e,_⟩
 rw[List.nil_append]at h
 have:=h.at_ t<|Dm a ht
 exact⟨h.wf,this.1,this.2⟩
 grind
def Py{L Lq}(d:Wf L)(f:Wf Lq){t z}(h:ja Lq t z):al Lq t=true->∀v,al L v=true->zA L v=zA Lq t->∃v',al L v'=true/\zA L v'=zA Lq z:=by
 intro ht v l e;induction h with
 |refl=>exact⟨v,l,e⟩
 |@fj u k h1 m i =>
  have⟨v',a,g⟩:=i
  have h1:=(ja.le f ht h1).1
  have⟨_,_,_,_,_,c⟩:=zt d f a h1 g
  have hm:zA Lq k∈(zB<|ad L v').map (zA L):=by rw[c];exact List.mem_map_of_mem m
  have⟨x,j,b⟩:=List.mem_map.1 hm
  exact⟨x,((d.node a).2.2.2.2.1 x j).1,b⟩
def VV{L Lq}(b:Wf L)(a:Wf Lq){t v}(ht:al Lq t=true)(j:al L v=true)(e:zA L v=zA Lq t):vH L Lq t=(v,0,L):=by
 have h:=jXS a (dd Lq t) [] L (fun _=>0) (Cp.start b) (fun z c=>xE a c) (xG a t) fun z c=>Py b a ((y8 a).1 c).2 ht v j e;have d:(vH L Lq t).2.1=0:=by unfold vH;rw[if_pos ht];simp only;rw[if_neg (by rw[h.1];simp)]
 have g:(vH L Lq t).2.2=L:=by unfold vH;rw[if_pos ht];simp only;rw[if_neg (by rw[h.1];simp)];exact h.2
 have⟨_,f,i⟩:=xX b a ht d;rw[g]at f i;have k:=yL b _ _ v rfl f j (i.trans e.symm);refine Prod.ext k<|Prod.ext d g
def W9{Lq}(a:Wf Lq){t}(ht:al Lq t=true):(vH [] Lq t).2.1=0:=by
 have c:=uW a t;have:=a.ok.ft;rcases Dv a (dd Lq t) [] [] (fun _=>0) (Cp.start Wf.nil) (fun z b=>xE a b) (xG a t)with⟨h,_⟩|⟨_,h⟩;unfold vH;rw[if_pos ht];simp only;rw[if_neg (by rw[h];simp)];grind
structure FJ(L M:aw)(s1 a:(Int->Bool)×List Int):Prop where
 pW:s1.2.map (zA L)=a.2.map (zA M)
 i1:∀x∈s1.2,al L x=true
 i2:∀x∈a.2,al M x=true
 mark:∀x y,al L x=true->al M y=true->zA L x=zA M y->s1.1 x=a.1 y
def Yf{L M}(l:Wf L)(o:Wf M):∀(n:Nat) (m:Nat) (s t:Int) (qh j6:(Int->Bool)×List Int),s.toNat<n->t.toNat<m->((al L s=false/\al M t=false)\/(al L s=true/\al M t=true/\zA L s=zA M t))->FJ L M qh j6->FJ L M (yX L n s qh) (yX M m t j6):=by
 intro n;induction n with
 |zero=>intro m s t qh j6 h;omega
 |succ n p =>
  intro m s t qh j6 D hm au j
  cases m with
  |zero=>omega
  |succ m =>
  rw[yX,yX]
  rcases au with⟨G,E⟩|⟨hs,ht,e⟩
  grind
  have k:=j.mark s t hs ht e
  rw[hs,ht]
  cases q:qh.1 s with
  |true=>rw[if_neg Sm,if_neg (by rw[<-k,q];simp)];exact j
  |false =>
   rw[if_pos ⟨rfl,rfl⟩,if_pos ⟨rfl,by rw[<-k,q]⟩]
   have⟨C,_,_,_,_,g⟩:=zt l o hs ht e
   have⟨_,F,w,_,f,_⟩:=l.node hs
   have⟨_,d2,d3,_,d,_⟩:=o.node ht
   have v:FJ L M (gu qh.1 s true,qh.2) (gu j6.1 t true,j6.2):=⟨j.pW,j.i1,j.i2,fun x y c u i=>by
    simp only[gu];by_cases ex:x=s;subst ex;have:y=t:=yL o _ y t rfl u ht (i.symm.trans e);rw[if_pos rfl,if_pos this];have:y≠t:=fun A=>ex<|yL l _ x s rfl c hs (by rw[i,A,e]);rw[if_neg ex,if_neg this];exact j.mark x y c u i⟩
   have B:=(zI.1 hs).1
   have z:=(zI.1 ht).1
   have fj : (((al L (ad L s).a = false /\ al M (ad M t).a = false) \/ (al L (ad L s).a = true /\ al M (ad M t).a = true /\ zA L (ad L s).a = zA M (ad M t).a)) /\
     ((al L (ad L s).b=false/\al M (ad M t).b=false)\/(al L (ad L s).b=true/\al M (ad M t).b=true/\zA L (ad L s).b=zA M (ad M t).b))) /\
     ((ad L s).a.toNat<n/\(ad L s).b.toNat<n)/\(ad M t).a.toNat<m/\(ad M t).b.toNat<m:=by
    have r:∀P:aw,al P 0=false:=fun P=>by simp[al]
    unfold zB at g f d
    rw[<-C]at g d2 d3 d
    rcases yM (ad L s).kind with h|h|h
    grind
    rw[w Om,d3 Om]
    rw[h]at g f d
    simp at g f d
    have:=zI.1 f.1;have:=zI.1 d.1
    exact⟨⟨.inr ⟨f.1,d.1,g⟩,.inl ⟨r _,r _⟩⟩,⟨Om,Om⟩,Om,Om⟩
    rw[h]at g f d
    simp at g f d
    have:=zI.1 f.1.1;have:=zI.1 d.1.1;have:=zI.1 f.2.1;have:=zI.1 d.2.1
    exact⟨⟨.inr ⟨f.1.1,d.1.1,g.1⟩,.inr ⟨f.2.1,d.2.1,g.2⟩⟩,⟨Om,Om⟩,Om,Om⟩
   have r1:=p m _ _ _ _ fj.2.1.1 fj.2.2.1 fj.1.1 v
   have r2:=p m _ _ _ _ fj.2.1.2 fj.2.2.2 fj.1.2 r1
   refine⟨?_,?_,?_,r2.mark⟩
   simp only[List.map_append,List.map_cons,List.map_nil,r2.pW,e]
   intro x c
   rcases List.mem_append.1 c with c|c
   exact r2.i1 x c
   grind
   intro x c
   rcases List.mem_append.1 c with c|c
   exact r2.i2 x c
   grind
def JZ{L M}(a:Wf L)(b:Wf M){s t}(hs:al L s=true)(ht:al M t=true)(e:zA L s=zA M t):(dd L s).map (zA L)=(dd M t).map (zA M):=
 (Yf a b (s.toNat+1) (t.toNat+1) s t (fun _=>false,[]) (fun _=>false,[]) Om Om (.inr ⟨hs,ht,e⟩) ⟨rfl,Sm,Sm,fun _ _ _ _ _=>rfl⟩).pW
def Qe{L M}(g:Wf L)(i:Wf M){a b}(l:al L a=true)(k:al M b=true)(e:zA L a=zA M b):∀(d c:List Int),(∀x∈d,al L x=true)->(∀x∈c,al M x=true)->d.map (zA L)=c.map (zA M)->dc d a=dc c b:=by
 intro d;induction d with
 |nil=>intro c _ _ h;cases c with
  |nil=>rfl
  |cons y c=>simp at h
 |cons x d j=>intro c h1 h2 h;cases c with
  |nil=>simp at h
  |cons y c =>
   simp only[List.map_cons,List.cons.injEq]at h
   have hi:=j c Gd Gd h.2
   have f:(x==a)=(y==b):=by
    by_cases ex:x=a;have:y=b:=yL i _ y b rfl (h2 y Sm) k (by rw[<-h.1,ex,e]);simp[ex,this];have:y≠b:=fun m=>ex<|yL g _ x a rfl (h1 x Sm) l (by rw[h.1,m,e]);rw[beq_false_of_ne ex,beq_false_of_ne this]
   unfold dc at *
   rw[List.idxOf_cons,List.idxOf_cons,f,hi]
def N6{L M}(m:Wf L)(o:Wf M):∀(k i s1 d:List Int),(∀x∈k,al L x=true)->(∀x∈i,al M x=true)->(∀x∈s1,al L x=true)->(∀x∈d,al M x=true)->k.map (zA L)=i.map (zA M)->s1.map (zA L)=d.map (zA M)->fx L s1 k=fx M d i:=by
 intro k;induction k with
 |nil=>intro i s1 d _ _ _ _ h _;cases i with
  |nil=>rfl
  |cons y i=>simp at h
 |cons x k G=>intro i s1 d h1 h2 h3 p h q;cases i with
  |nil=>simp at h
  |cons y i =>
   simp only[List.map_cons,List.cons.injEq]at h
   have z:=h1 x Sm
   have A:=h2 y Sm
   have⟨l,H,I,F,D,g⟩:=zt m o z A h.1
   have⟨_,_,_,_,C,_⟩:=m.node z
   have⟨_,_,_,_,B,_⟩:=o.node A
   have hi:=G i (s1++[x]) (d++[y]) Gd Gd
    Gd
    Gd h.2 (by simp[q,h.1])
   rw[fx,fx,hi]
   congr 1
   unfold yH
   rw[l]
   congr 1
   have c:∀f∈qP (ad M y).kind,f.bytes (ad L x) (dc s1 (ad L x).a) (dc s1 (ad L x).b)=f.bytes (ad M y) (dc d (ad M y).a) (dc d (ad M y).b):=by
    intro f c;have t:bo.fst∈qP (ad M y).kind->dc s1 (ad L x).a=dc d (ad M y).a:=fun c=>by
     have j:=Hb (n:=ad L x) (by rw[l];exact c);have v:=Hb c;refine Qe m o (C _ j).1 (B _ v).1 ?_ s1 d h3 p q;unfold zB at g j;rw[l]at g j;rcases yM (ad M y).kind with e|e|e<;>rw[e]at g j<;>simp at g j
     .exact g
     .exact g.1
    have u:bo.snd∈qP (ad M y).kind->dc s1 (ad L x).b=dc d (ad M y).b:=fun c=>by
     have j:=Gj (n:=ad L x) (by rw[l];exact c);have v:=Gj c;have e:(bq (ad M y).kind).kids=2:=by
      unfold qP at c
      repeat' split at c
      all_goals first|(exfalso;revert c;decide)|skip
      all_goals (rename_i p;rw[p];rfl)
     refine Qe m o (C _ j).1 (B _ v).1 ?_ s1 d h3 p q;unfold zB at g;rw[l,e]at g;simp at g;exact g.2
    cases f
    .simp only[bo.bytes,H]
    .simp only[bo.bytes,I]
    .simp only[bo.bytes,F]
    .simp only[bo.bytes,D]
    .simp only[bo.bytes,t c]
    .simp only[bo.bytes,u c]
   have E:∀(fs:List bo) (s w:bo->List UInt8),(∀f∈fs,s f=w f)->fs.flatMap s=fs.flatMap w:=by
    intro fs s w;induction fs with
    |nil=>intro _;rfl
    |cons f fs r=>intro hh;rw[List.flatMap_cons,List.flatMap_cons,hh f Sm,r Gd]
   exact E _ _ _ c
def LX{L M}(a:Wf L)(b:Wf M){s t}(hs:al L s=true)(ht:al M t=true)(e:zA L s=zA M t):qL L s=qL M t:=
 N6 a b _ _ [] [] (fun _ h=>xE a h) (fun _ h=>xE b h) Sm Sm (JZ a b hs ht e) rfl
def _root_.Go.Proofs.bo.tt(n:di)(d c:Nat)(x:gm):bo->gm
 |.mv=>{ x with az:=n.az.toNat }
 |.oD=>{ x with to:=n.to.toNat }
 |.num=>{ x with num:=n.num.toNat }
 |.bb=>{ x with bb:=n.bb.data.toList }
 |.fst=>{ x with a:=d,kids:=1 }
 |.snd=>{ x with b:=c,kids:=2 }
def Ba{bs r}(a:r.cq=0){m}(hm:m<18446744073709551616){rest}(h:bs.drop r.at_=vF m++rest):vY bs r=(m,⟨r.at_+(vF m).length,0,r.spot⟩):=by
 unfold vY;rw[if_pos a,h,La hm]
def Ya{bs r}(c:r.cq=0){s}(hs:s.size<=64){rest}(h:bs.drop r.at_=vU s++rest):qH bs 64 r=(s.data.toList,⟨r.at_+(vU s).length,0,r.spot⟩):=by
 have b:s.data.toList.length=s.size:=Array.length_toList;have a:=congrArg List.length h;unfold vU at h a|-;rw[List.append_assoc]at h;rw[List.length_drop,List.length_append,List.length_append,b]at a;unfold qH;rw[if_pos c,h,La Om];simp only;have e:0<(vF s.size).length:=by unfold vF;split<;>simp
 rw[if_neg Om,if_neg Om];have d:bs.drop (r.at_+(vF s.size).length)=s.data.toList++rest:=by
  rw[<-List.drop_drop,h,List.drop_left]
 rw[d,<-b,List.take_left,List.length_append];simp only[Prod.mk.injEq,Rd.mk.injEq,and_true,true_and];omega
def VX{bs n na nb}(h1:n.az<16)(h2:n.to<16)(h3:yY n.num)(i:n.bb.size<=64)(k:na<65537)(j:nb<65537):∀(fs:List bo) (x:gm) (r:Rd) (b:List UInt8),r.cq=0->bs.drop r.at_=fs.flatMap (bo.bytes n na nb)++b ->
  vD bs fs (x,r)=(fs.foldl (fun x f=>f.tt n na nb x) x,⟨r.at_+(fs.flatMap<|bo.bytes n na nb).length,0,r.spot⟩):=by
 intro fs
 induction fs with
 |nil=>intro x r b c _;rw[vD];have⟨a,e,s⟩:=r;simp only at c;subst c;rfl
 |cons f fs d =>
  intro x r b c h
  rw[List.flatMap_cons,List.append_assoc]at h
  have g:=h3.2
  have key:f.pa bs r x=f.tt n na nb x/\f.rd bs r=⟨r.at_+(f.bytes n na nb).length,0,r.spot⟩:=by
   cases f;have:=Ba c (m:=n.az.toNat) Om h;simp only[bo.pa,bo.rd,bo.tt,bo.bytes,this,and_self];have:=Ba c (m:=n.to.toNat) Om h;simp only[bo.pa,bo.rd,bo.tt,bo.bytes,this,and_self];have:=Ba c (m:=n.num.toNat) Om h;simp only[bo.pa,bo.rd,bo.tt,bo.bytes,this,and_self];have:=Ya c i h;simp only[bo.pa,bo.rd,bo.tt,bo.bytes,this,and_self];have:=Ba c (m:=na) Om h;simp only[bo.pa,bo.rd,bo.tt,bo.bytes,this,and_self];have:=Ba c (m:=nb) Om h;simp only[bo.pa,bo.rd,bo.tt,bo.bytes,this,and_self]
  rw[vD,key.1,key.2,d _ _ b rfl (by simp only;rw[<-List.drop_drop,h,List.drop_left]),List.foldl_cons,List.flatMap_cons,List.length_append,Nat.add_assoc]
def uX(seen:List Int)(x:Int):Int:=if x∈seen then(dc seen x:Int)+1 else 0
def jXB{seen z}(h:z∉seen):uX (seen++[z])=fun x=>if x=z then((seen.length:Int)+1)else uX seen x:=by
 funext x;unfold uX;by_cases e:x=z;subst e;simp only[List.mem_append,List.mem_singleton,or_true,if_true];rw[DK h];rw[if_neg e];by_cases a:x∈seen;rw[if_pos<|List.mem_append_left _ a,if_pos a,IB a];grind
def Q8{L}(c:Wf L)(v:uE L){z}(d:al L z=true){seen}(F:(0:Int) ∉ seen)(l:∀k∈zB (ad L z),k∈seen):
  let x:=(qP (ad L z).kind).foldl (fun x f=>f.tt (ad L z) (dc seen (ad L z).a) (dc seen (ad L z).b) x) yF
  x.node (ad L z).kind.toNat={ ad L z with a:=uX seen (ad L z).a,b:=uX seen (ad L z).b }/\lf (ad L z).kind.toNat seen.length x 0=0:=by
 have⟨R,P,O,K,Q,M,N⟩:=xm c d
 have⟨d1,d2,d3,J,I,y⟩:=zDZ c d
 have⟨_,_,_,j,_⟩:=c.node d
 have w:=v.node z
 have s:=Hb (n:=ad L z)
 have hs:=Gj (n:=ad L z)
 generalize ad L z=n at *
 have⟨k,f,t,u,m,a,b⟩:=n
 simp only at *
 have o:=w.1
 have H:uX seen 0=0:=by unfold uX;rw[if_neg F]
 have G:bo.fst∈qP k->uX seen a=(dc seen a:Int)+1/\dc seen a<seen.length:=fun h=>by
  have:=l _<|s h;unfold uX;rw[if_pos this];exact⟨rfl,CK this⟩
 have E:bo.snd∈qP k->uX seen b=(dc seen b:Int)+1/\dc seen b<seen.length:=fun h=>by
  have:=l _<|hs h;unfold uX;rw[if_pos this];exact⟨rfl,CK this⟩
 have D:(f.toNat:Int)=f:=Om
 have B:(t.toNat:Int)=t:=Om
 have A:(u.toNat:Int)=u:=Om
 have q:¬16<=f.toNat:=Om
 have g:¬16<=t.toNat:=Om
 have C:(⟨m.data.toList.toArray⟩:ByteArray)=m:=by cases m;simp
 have r:f.toNat=t.toNat->f=t:=fun h=>Om
 have p:k=8\/k=9->f.toNat≠t.toNat:=fun i e=>by
  have:=r e;subst this;unfold zQ at j;rcases i with rfl|rfl<;>simp[bq]at j
 clear j s hs l w o c v
 have:k=1\/k=2\/k=3\/k=4\/k=5\/k=6\/k=7\/k=8\/k=9:=Om
 rcases this with rfl|rfl|rfl|rfl|rfl|rfl|rfl|rfl|rfl <;>
  simp[qP,bq,yF,bo.tt,gm.node,lf,H,D,B,A,q,g,C]at d1 d2 d3 J I y G E p|-<;>simp_all<;>omega
def Yy{L q seen}(h:Cp L q (uX seen) seen)(f:q.length=seen.length)(e:seen.Nodup){v}(d:al q v=true):∃s∈seen,uX seen s=v/\zA q v=zA L s:=by
 have⟨h1,h2⟩:=zI.1 d;have hi:(v-1).toNat<seen.length:=Om;have hm:seen[(v-1).toNat]∈seen:=List.getElem_mem hi;have c:dc seen seen[(v-1).toNat]=(v-1).toNat:=by
  have a:=CK hm;refine(List.getElem_inj (h₀:=a) (h₁:=hi) e).1 ?_;exact List.getElem_idxOf a
 have b:uX seen seen[(v-1).toNat]=v:=by unfold uX;rw[if_pos hm,c];omega
 refine⟨_,hm,b,?_⟩;have:=(h.at_ _ hm).2;rw[b]at this;exact this
def LO(L seen z):0<(yH L seen z).length:=by unfold yH;simp
def UV{L}(u:Wf L)(X:uE L){bs}:∀(l seen:List Int) (q:aw) (r:Rd) (C:List Nat) (c:Nat),Cp L q (uX seen) seen->q.length=seen.length->C.length=seen.length->wt L seen l->(seen++l).Nodup->(∀z∈l,al L z=true) ->
  r.cq=0->r.at_<=bs.length->bs.drop r.at_=fx L seen l->bs.length-r.at_<=c->seen.length+l.length<=65535 ->
  ∃I j,oB bs c q r C=pZ I j/\Cp L I (uX<|seen++l) (seen++l)/\I.length=(seen++l).length/\j.length=(seen++l).length:=by
 intro l
 induction l with
 |nil =>
  intro seen q r C c m B O _ _ _ _ S F _ _
  refine⟨q,C,DH ?_ c,by rw[List.append_nil];exact m,by rw[List.append_nil];exact B,by rw[List.append_nil];exact O⟩
  have:=congrArg List.length F
  simp[fx]at this;omega
 |cons z l ih =>
  intro seen q r C c m B O J w hl he S F hfu Q
  have p:=hl z Sm
  have H:z∉seen:=fun h=>(List.nodup_append.1 w).2.2 z h z Sm rfl
  have M:seen.Nodup:=(List.nodup_append.1 w).1
  have h0:(0:Int)∉seen:=fun h=>Oh<|(zI.1<|m.D8 0 h).1
  rw[fx]at F
  have Z:=LO L seen z
  have R:=congrArg List.length F
  rw[List.length_drop,List.length_append]at R
  have y:r.at_<bs.length:=Om
  obtain⟨c,rfl⟩:∃k,c=k+1:=⟨c-1,Om⟩
  rw[List.length_cons]at Q
  have⟨k1,k9,f0,f1,t0,t1,x1⟩:=xm u p
  have D:=X.node z
  have A:bs.drop r.at_=bs[r.at_] ::bs.drop (r.at_+1):=List.drop_eq_getElem_cons y
  have f:=F
  rw[A]at f
  unfold yH at f
  rw[List.cons_append,List.cons.injEq]at f
  have⟨hb,d⟩:=f
  have T:bs[r.at_].toNat=(ad L z).kind.toNat:=by rw[hb,toNat_ofNat Om]
  have N:(((ad L z).kind.toNat:Nat):Int)=(ad L z).kind:=Om
  have V:=VX f1 t1 D x1 (Oh<|tR seen (ad L z).a) (Oh<|tR seen (ad L z).b) (qP (ad L z).kind) yF ⟨r.at_+1,0,r.spot⟩ (fx L (seen++[z]) l) rfl d
  have⟨o,E⟩:=Q8 u X p h0 J.1
  have g:=m.AZ u p J.1
  have n:∀v,al q v=true->zA q v≠zA L z:=fun v hv e=>by
   have⟨s,hs,_,e2⟩:=Yy m B M hv;have:=yL u _ s z rfl (m.D8 s hs) p (e2.symm.trans e);exact H<|this▸hs
  have i:=g.AT u m.wf p n Om
  have U:=g.wZ u m.wf p n
  have au:=m.step u p J.1 g (by rw[i])
  have t:vS bs q r=((ay q { ad L z with a:=uX seen (ad L z).a,b:=uX seen (ad L z).b }).2.2,0,⟨r.at_+1+((qP (ad L z).kind).flatMap<|bo.bytes (ad L z) (dc seen (ad L z).a)<|dc seen (ad L z).b).length,0,r.spot⟩):=by
   rw[Ar bs q r y he,T,N,V,if_pos (by unfold uL;simp;omega)];unfold jo;simp only at o E|-;rw[o,B,E,U,if_neg Sm,if_neg Sm,i]
  have W:(ay q { ad L z with a:=uX seen (ad L z).a,b:=uX seen (ad L z).b }).2.2.length=(seen++[z]).length:=by rw[i];simp[B]
  have G:(fun x=>if x=z then(ay q { ad L z with a:=uX seen (ad L z).a,b:=uX seen (ad L z).b }).1 else uX seen x)=uX (seen++[z]):=by rw[jXB H,i,B]
  rw[G]at au
  have K:bs.drop (r.at_+1+((qP (ad L z).kind).flatMap<|bo.bytes (ad L z) (dc seen (ad L z).a)<|dc seen (ad L z).b).length)=fx L (seen++[z]) l:=by
   rw[<-List.drop_drop,d,List.drop_left]
  have P:r.at_+1+((qP (ad L z).kind).flatMap<|bo.bytes (ad L z) (dc seen (ad L z).a)<|dc seen (ad L z).b).length<=bs.length:=by
   have:=congrArg List.length d;rw[List.length_drop,List.length_append]at this;omega
  rw[oB,if_pos y,t]
  simp only
  rw[if_neg Sm]
  have⟨I,j,g1,g2,g3,Y⟩:=ih (seen++[z]) _ ⟨_,0,r.spot⟩ (C++[r.at_]) c au W (by simp[O]) J.2 (by simpa using w) Gd rfl P K Sy Gd
  rw[List.append_assoc,List.singleton_append]at g2 g3 Y
  exact⟨I,j,g1,g2,g3,Y⟩
def ZD:∀(l:List Int) (i:Nat),(∀j (h:j<l.length),l[j]=((i+j:Nat):Int)+1)->ia i l=i+l.length:=by
 intro l;induction l with
 |nil=>intro i _;rfl
 |cons s l b =>
  intro i h
  have a:=h 0 Sm
  simp only[List.getElem_cons_zero,Nat.add_zero]at a
  rw[ia,if_pos a,b (i+1) fun j c=>by have:=h (j+1) (by simpa using c);simp only[List.getElem_cons_succ]at this;rw[this];congr 2;omega,List.length_cons]
  omega
def ZB{L t}(h:al L t=true):∃ba,dd L t=ba++[t]:=by
 unfold dd;rw[yX,if_pos ⟨h,rfl⟩];exact⟨_,rfl⟩
def FF{L}(f:Wf L)(F:uE L){t}(ht:al L t=true)(G:(qL L t).length<=4096):
  ∃q:aw,vB (qL L t)=(some q,0,0)/\Wf q/\al q q.length=true/\zA q q.length=zA L t:=by
 have a:=Dm f ht
 have c:=AW f t
 have w:(dd L t).length<=(qL L t).length:=by
  have:∀(l seen:List Int),l.length<=(fx L seen l).length:=by
   intro l;induction l with
   |nil=>intro _;simp
   |cons z l B=>intro seen;have:=LO L seen z;have:=B<|seen++[z];rw[fx,List.length_append,List.length_cons];omega
  exact this _ _
 have E:0<(dd L t).length:=List.length_pos_of_mem a
 have⟨q, C, D, d, y, s⟩:=UV f F (bs:=qL L t) (dd L t) [] [] ⟨0, 0, 0⟩ [] (qL L t).length (by
   have:=Cp.start (Lq:=L) Wf.nil;have e:uX []=fun _=>0:=by funext x;simp[uX]
   rw[e];exact this) rfl rfl (xG f t) (by simpa using c) (fun z A=>xE f A) rfl (Nat.zero_le _) rfl (Nat.le_refl _) So
 rw[List.nil_append]at d y s
 have i:uX (dd L t) t=q.length:=by
  have⟨ba,n⟩:=ZB ht;have r:t∉ba:=by rw[n]at c;exact fun h=>(List.nodup_append.1 c).2.2 t h t Sm rfl
  unfold uX;rw[if_pos a,y,n,DK r];simp
 have⟨a1,a2⟩:=d.at_ t a
 rw[i]at a1 a2
 have b:dd q q.length=(dd L t).map (uX<|dd L t):=by
  refine Ph d.wf (fun k p=>xE d.wf p) (fun k p=>?_) ?_;obtain⟨x,o,rfl⟩:=List.mem_map.1 p;exact(d.at_ x o).1;rw[JZ d.wf f a1 ht a2,List.map_map];exact List.map_congr_left fun x o=>((d.at_ x o).2).symm
 have u:ia 0 (dd q q.length)=C.length:=by
  rw[ZD,b,List.length_map,Nat.zero_add,s];intro j v;have g:j<(dd L t).length:=by rw[b,List.length_map]at v;exact v
  simp only[b,List.getElem_map,Nat.zero_add];have hm:(dd L t)[j]∈dd L t:=List.getElem_mem g;have n:dc (dd L t) (dd L t)[j]=j:=by
   have m:=CK hm;exact(List.getElem_inj (h₀:=m) (h₁:=g) c).1<|List.getElem_idxOf m
  unfold uX;rw[if_pos hm,n]
 refine⟨q,?_,d.wf,a1,a2⟩
 unfold vB
 rw[if_neg Om,if_neg Om,D]
 unfold pZ
 simp only
 rw[dif_neg Om]
def RW{L}(b:Wf L)(d:uE L){t}(ht:al L t=true)(e:(qL L t).length<=4096):
  yP L (qL L t)=(t,0,0,L)/\(yP []<|qL L t).2.1=0/\zA (yP []<|qL L t).2.2.2 (yP []<|qL L t).1=zA L t:=by
 have⟨q,h1,h2,h3,c⟩:=FF b d ht e
 refine⟨?_,?_⟩
 unfold yP;rw[h1];simp only
 rw[VV b h2 h3 ht c.symm]
 unfold yP;rw[h1];simp only
 have a:=W9 h2 h3
 exact⟨a,by rw[(xX Wf.nil h2 h3 a).2.2,c]⟩
def mi:Nat->List Int
 |0=>[]
 |n+1=>mi n++[(n:Int)+1]
def CQ(n):(mi n).length=n:=by induction n with
 |zero=>rfl
 |succ n a=>simp[mi,a]
def C8{n x}:x∈mi n↔1<=x/\x<=n:=by
 induction n with
 |zero=>simp[mi];omega
 |succ n a=>simp only[mi,List.mem_append,a,List.mem_singleton];omega
def MF{n:Nat}:∀{x:Int},1<=x->x<=n->dc (mi n) x=(x-1).toNat:=by
 induction n with
 |zero=>intro x h1 h2;omega
 |succ n a =>
  intro x h1 h2
  rw[mi]
  by_cases h:x<=n
  rw[IB<|C8.2 ⟨h1,h⟩,a h1 h]
  have:x=(n:Int)+1:=Om
  subst this
  rw[DK (by rw[C8];omega),CQ];omega
def zDV{n j}(h:j<(mi n).length):(mi n)[j]=(j:Int)+1:=by
 induction n with
 |zero=>simp[mi]at h
 |succ n a =>
  simp only[mi]
  rw[List.getElem_append]
  split
  exact a _
  rename_i h1
  have:j=n:=by rw[CQ]at h h1;omega
  subst this;simp
def _root_.Go.Proofs.bo.rP(x:gm):bo->List UInt8
 |.mv=>vF x.az|.oD=>vF x.to|.num=>vF x.num|.bb=>vU ⟨x.bb.toArray⟩|.fst=>vF x.a|.snd=>vF x.b
def Gy:∀{l:List UInt8} {i n x:Nat},xS i n l=.error x->x≠0:=by
 intro l;induction l with
 |nil=>intro i n x h;simp[xS]at h;omega
 |cons c l a =>
  intro i n x h
  rw[xR]at h
  split at h
  cases h;decide
  grind
def uQ{bs r}(h:(vY bs r).2.cq=0):r.cq=0/\bs.drop r.at_=vF (vY bs r).1++bs.drop (vY bs r).2.at_/\(vY bs r).1<18446744073709551616:=by
 unfold vY at h|-;by_cases a:r.cq=0;rw[if_pos a]at h|-;cases hr:xS 0 0 (bs.drop r.at_)with
 |error x =>
  rw[hr]at h
  simp only at h
  exact absurd h<|Gy hr
 |ok p =>
  have⟨n,k⟩:=p
  have⟨c,h1,h2,h3⟩:=Ou hr
  refine⟨a,?_,h3⟩
  simp only
  rw[<-List.drop_drop,h1,h2,List.drop_left]
 grind
def jZS{bs r}(h:(qH bs 64 r).2.cq=0):r.cq=0/\bs.drop r.at_=vU ⟨(qH bs 64 r).1.toArray⟩++bs.drop (qH bs 64 r).2.at_:=by
 have a:=@uQ bs r;unfold vY at a;unfold qH at h|-;by_cases g:r.cq=0;rw[if_pos g]at h a|-;cases hr:xS 0 0 (bs.drop r.at_)with
 |error x =>
  rw[hr]at h a
  simp only at h a
  exact absurd (a h).2.1 (by
   have:=(a h).2.1;intro _;have i:=congrArg List.length this;rw[List.length_append,tB Om]at i;simp at i)
 |ok p =>
  have⟨n,k⟩:=p
  rw[hr]at h a
  simp only at h a|-
  have⟨c,h1,h2,h3⟩:=Ou hr
  split at h
  simp at h
  rename_i e
  rw[if_neg e]
  split at h
  simp at h
  rename_i b
  rw[if_neg b]
  refine⟨g,?_⟩
  simp only
  have d:bs.drop (r.at_+k)=c:=by rw[<-List.drop_drop,h1,h2,List.drop_left]
  have j:n<=c.length:=by rw[<-d,List.length_drop];omega
  have hs:(ByteArray.mk (c.take n).toArray).size=n:=by show(c.take n).toArray.size=n;simp;omega
  have f:bs.drop (r.at_+k+n)=c.drop n:=by rw[<-List.drop_drop,d]
  rw[d,f]
  unfold vU
  rw[hs,h1,List.append_assoc]
  congr 1
  simp
 grind
def zIL{bs:List UInt8}{r:Rd}{x:gm}(f:bo)(h:(f.rd bs r).cq=0):r.cq=0/\bs.drop r.at_=f.rP (f.pa bs r x)++bs.drop (f.rd bs r).at_:=by
 cases f;exact⟨(uQ h).1,(uQ h).2.1⟩;exact⟨(uQ h).1,(uQ h).2.1⟩;exact⟨(uQ h).1,(uQ h).2.1⟩;exact jZS h;exact⟨(uQ h).1,(uQ h).2.1⟩;exact⟨(uQ h).1,(uQ h).2.1⟩
def Zj{bs:List UInt8}{r:Rd}{x:gm}{f g:bo}(h:f≠g):f.rP (g.pa bs r x)=f.rP x:=by
 cases f<;>cases g<;>first|rfl|exact absurd rfl h
def Ua{bs f}:∀(fs:List bo) (x:gm) (r:Rd),f∉fs->f.rP (vD bs fs (x,r)).1=f.rP x:=by
 intro fs;induction fs with
 |nil=>intro x r _;rfl
 |cons g fs a =>
  intro x r h
  simp only[List.mem_cons,not_or]at h
  rw[vD,a _ _ h.2,Zj h.1]
def W0{bs:List UInt8}:∀(fs:List bo) (x:gm) (r:Rd),fs.Nodup->(vD bs fs (x,r)).2.cq=0->r.cq=0/\bs.drop r.at_=fs.flatMap (fun f=>f.rP (vD bs fs (x,r)).1)++bs.drop (vD bs fs (x,r)).2.at_:=by
 intro fs;induction fs with
 |nil=>intro x r _ h;exact⟨h,rfl⟩
 |cons f fs b =>
  intro x r a h
  rw[vD]at h|-
  rw[List.nodup_cons]at a
  have⟨h1,h2⟩:=b _ _ a.2 h
  have⟨h3,c⟩:=zIL (x:=x) f h1
  refine⟨h3,?_⟩
  rw[List.flatMap_cons,c,h2,Ua fs _ _ a.1,List.append_assoc]
def jXN(k):(qP k).Nodup:=by
 unfold qP;repeat' split
 all_goals decide
def Ww{bs}:∀(fs:List bo) (x:gm) (r:Rd),(x.num<18446744073709551616)->(vD bs fs (x,r)).1.num<18446744073709551616:=by
 intro fs;induction fs with
 |nil=>intro x r h;exact h
 |cons f fs b =>
  intro x r h
  rw[vD]
  refine b _ _ ?_
  cases f<;>try exact h
  simp only[bo.pa]
  by_cases a:(vY bs r).2.cq=0
  .exact(uQ a).2.2
  .unfold vY at a|-
   split
   .grind
   .simp
def LM{bs k}(h1:1<=k)(a:k<=9)(r):(vD bs (qP k) (yF,r)).1.kids=(bq k).kids.toNat/\(bo.fst∈qP k↔0<(bq k).kids)/\(bo.snd∈qP k↔1<(bq k).kids):=by
 have:k=1\/k=2\/k=3\/k=4\/k=5\/k=6\/k=7\/k=8\/k=9:=Om;rcases this with rfl|rfl|rfl|rfl|rfl|rfl|rfl|rfl|rfl<;>simp[qP,vD,bo.pa,yF,bq]
def jWW{bs:List UInt8}{q:aw}{r:Rd}(U:Wf q)(O:uE q)(A:r.at_<bs.length)(K:r.cq=0)(j:(vS bs q r).2.1=0):
  Wf (vS bs q r).1/\uE (vS bs q r).1/\(vS bs q r).1.length=q.length+1/\(∀v,al q v=true->al (vS bs q r).1 v=true/\zA (vS bs q r).1 v=zA q v) /\
  bs.drop r.at_=yH (vS bs q r).1 (mi q.length) ((q.length:Int)+1)++bs.drop (vS bs q r).2.2.at_:=by
 rw[Ar bs q r A K]at j|-
 have h:bs.drop r.at_=bs[r.at_] ::bs.drop (r.at_+1):=List.drop_eq_getElem_cons A
 have t:UInt8.ofNat bs[r.at_].toNat=bs[r.at_]:=Sm
 generalize bs[r.at_]=c at *
 split at j
 rename_i m
 rw[if_pos m]
 have Q:1<=c.toNat/\c.toNat<=9:=by unfold uL at m;simpa using m
 have g:=@W0 bs (qP c.toNat) yF ⟨r.at_+1,0,r.spot⟩<|jXN _
 have B:=@Ww bs (qP c.toNat) yF ⟨r.at_+1,0,r.spot⟩ De
 have⟨V,w,u⟩:=@LM bs (c.toNat:Int) Om Om ⟨r.at_+1,0,r.spot⟩
 generalize vD bs (qP c.toNat) (yF,⟨r.at_+1,0,r.spot⟩)=s at *
 have⟨x,S⟩:=s
 simp only at *
 have⟨H,F,G,e,I⟩:=GW j
 simp only at H F G e I
 rw[I]
 simp only
 have⟨_,g⟩:=g H
 have⟨W,J,T⟩:=xH e
 have z:=uT U<|x.node c.toNat
 have k:uE (ay q<|x.node c.toNat).2.2:=O.ay (by simp only[gm.node,yY];omega)
 have i:(ay q<|x.node c.toNat).1=(q.length:Int)+1/\(ay q<|x.node c.toNat).2.2.length=q.length+1:=by
  have P:=T;unfold ay at e|-;simp only[G]at e|-;rw[if_neg (by rw[P];simp)]at e|-;split at e;simp at e;grind
 have⟨M,N⟩:=yU q<|x.node c.toNat
 refine⟨z,k,i.2,fun v D=>?_,?_⟩
 rw[N]at z|-;exact⟨uD D,uO z _ v rfl D⟩
 rw[i.1]at J
 rw[h,g]
 unfold yH
 rw[J]
 have n:(x.node c.toNat).kind=c.toNat:=rfl
 rw[n,Int.toNat_natCast,t,List.cons_append]
 congr 1
 congr 1
 have d:lf c.toNat q.length x S.cq=0:=F
 unfold lf at d
 rw[if_neg Om]at d
 split at d
 simp at d
 split at d
 simp at d
 rename_i E
 have L:∀(fs:List bo) (p y:bo->List UInt8),(∀f∈fs,p f=y f)->fs.flatMap p=fs.flatMap y:=by
  intro fs p y;induction fs with
  |nil=>intro _;rfl
  |cons f fs o=>intro hh;rw[List.flatMap_cons,List.flatMap_cons,hh f Sm,o Gd]
 refine L _ _ _ fun f C=>?_
 cases f
 simp[bo.rP,bo.bytes,gm.node]
 simp[bo.rP,bo.bytes,gm.node]
 simp[bo.rP,bo.bytes,gm.node]
 simp[bo.rP,bo.bytes,gm.node]
 have h2:=w.1 C
 have l:0<x.kids:=Om
 have R:x.a<q.length:=Om
 simp only[bo.rP,bo.bytes,gm.node,if_pos l]
 rw[MF Om Om]
 congr 1;omega
 have h2:=u.1 C
 have l:1<x.kids:=Om
 have R:x.b<q.length:=Om
 simp only[bo.rP,bo.bytes,gm.node,if_pos l]
 rw[MF Om Om]
 congr 1;omega
 simp at j
def PO{bs}:∀(b:Nat) (q:aw) (r:Rd) (c:List Nat) (a:aw),Wf q->uE q->c.length=q.length->r.cq=0->r.at_<=bs.length->bs.length - r.at_<=b->bs.take r.at_=fx q [] (mi q.length)->(oB bs b q r c).1=some a ->
  Wf a/\uE a/\q.length<=a.length/\bs=fx a [] (mi a.length)/\a.length<=ia 0 (dd a a.length):=by
 have e:∀(q:aw) (c:List Nat) (a:aw),c.length=q.length->(pZ q c).1=some a->q=a/\q.length<=ia 0 (dd q q.length):=by
  intro q c a i h;unfold pZ at h;simp only at h;split at h;cases h;grind
 intro b
 induction b with
 |zero =>
  intro q r c a l n i o s x ht h
  obtain⟨rfl,h2⟩:=e q c a i h
  rw[List.take_of_length_le Om]at ht
  exact⟨l,n,Nat.le_refl _,ht,h2⟩
 |succ b y =>
  intro q r c a l n i o s x ht h
  by_cases m:r.at_<bs.length
  rw[oB,if_pos m]at h
  by_cases p:(vS bs q r).2.1=0
  rw[if_neg<|by simpa using p]at h
  have⟨s1,v,t,E,u⟩:=jWW l n m o p
  have⟨a1,a2,a3⟩:=IY bs q r m o p
  have g:bs.take (vS bs q r).2.2.at_=fx (vS bs q r).1 [] (mi (vS bs q r).1.length):=by
   have k:∀z∈mi q.length,al q z=true:=fun z w=>zI.2<|C8.1 w;have f:fx q [] (mi q.length)=fx (vS bs q r).1 [] (mi q.length):=
    N6 l s1 _ _ [] [] k Gd Sm Sm (List.map_congr_left Gd) rfl
   rw[t,mi,FM,List.nil_append,<-f,<-ht];have d:bs.take (vS bs q r).2.2.at_=bs.take r.at_++(bs.drop r.at_).take ((vS bs q r).2.2.at_-r.at_):=by
    rw[<-List.take_add];congr 1;omega
   rw[d];congr 1;have j:=congrArg List.length u;rw[List.length_drop,List.length_append,List.length_drop]at j;rw[u,List.take_append_of_le_length Om,List.take_of_length_le Om]
  have⟨B,D,F,C,A⟩:=y _ _ _ a s1 v (by simp[i,t]) a3 a2 Om g h
  exact⟨B,D,Om,C,A⟩
  grind
  rw[DH m]at h
  obtain⟨rfl,h2⟩:=e q c a i h
  rw[List.take_of_length_le Om]at ht
  exact⟨l,n,Nat.le_refl _,ht,h2⟩
def MI:∀(l:List Int) (i m:Nat),i+m<=ia i l->m<=l.length/\∀j (h:j<l.length),j<m->l[j]=((i+j:Nat):Int)+1:=by
 intro l;induction l with
 |nil=>intro i m h;rw[ia]at h;exact⟨So,fun j h=>(by simp at h)⟩
 |cons s l b =>
  intro i m h
  rw[ia]at h
  split at h
  rename_i hs
  cases m with
  |zero=>exact⟨Sm,fun j _ a=>Om⟩
  |succ m =>
   have⟨h1,h2⟩:=b (i+1) m Om
   refine⟨by rw[List.length_cons];omega,fun j a c=>?_⟩
   cases j with
   |zero=>simp[hs]
   |succ j=>simp only[List.getElem_cons_succ];rw[h2 j (by simpa using a) Om];congr 2;omega
  exact⟨So,fun j _ a=>Om⟩
def xB{bs q}(h:(vB bs).1=some q):Wf q/\uE q/\al q q.length=true/\qL q q.length=bs/\bs.length<=4096:=by
 unfold vB at h;split at h;cases h;split at h;cases h;rename_i h1 h2;have⟨f,i,_,a,l⟩:=PO bs.length [] ⟨0,0,0⟩ [] q Wf.nil uE.nil rfl rfl (Nat.zero_le _) (Nat.le_refl _) (by simp[mi,fx]) h;have c:0<q.length:=by
  rcases Nat.eq_zero_or_pos q.length with e|e;rw[e,mi,fx]at a;rw[a]at h2;simp at h2;exact e
 have b:al q q.length=true:=zI.2 ⟨Om,Om⟩;have⟨k,g⟩:=MI (dd q q.length) 0 q.length Om;have d:=uW f q.length;have hs:dd q q.length=mi q.length:=by
  refine List.ext_getElem (by rw[CQ];omega) fun j h1 h2=>?_;rw[g j h1 Gd,zDV];simp
 refine⟨f,i,b,?_,Om⟩;unfold qL;rw[hs];exact a.symm
def jTN{Lq}(f:uE Lq):∀(l:List Int) (L:aw) (ak:Int->Int),uE L->uE (zU Lq l L ak).1:=by
 intro l;induction l with
 |nil=>intro L ak h;exact h
 |cons z l d =>
  intro L ak h
  obtain⟨x,e,c,hm⟩:∃x e c,ay L { ad Lq z with a:=ak (ad Lq z).a,b:=ak (ad Lq z).b }=(x,e,c):=⟨_,_,_,rfl⟩
  have h2:=h.ay (n:={ ad Lq z with a:=ak (ad Lq z).a,b:=ak (ad Lq z).b })<|f.node z
  rw[qG Lq z l L ak rfl hm]
  rw[hm]at h2
  split
  exact h
  exact d _ _ h2
def KI{L Lq}(h:uE L)(a:uE Lq)(t):uE (vH L Lq t).2.2:=by
 unfold vH;split;simp only;split;exact h;exact jTN a _ _ _ h;exact h
def HO{L}(h:uE L)(bs):uE (yP L bs).2.2.2:=by
 unfold yP;cases a:(vB bs).1 with
 |none=>exact h
 |some q=>exact KI h (xB a).2.1 _
def DU{L}(h:Wf L)(bs):Wf (yP L bs).2.2.2:=by
 unfold yP;cases d:(vB bs).1 with
 |none=>exact h
 |some q =>
  have⟨b,_,c,_⟩:=xB d
  by_cases a:(vH L q q.length).2.1=0
  exact(xX h b c a).1
  simp only;rw[((ZC h b _).resolve_left a).2];exact h
def xO{bs}(h:(vB bs).1=none):(vB bs).2.1≠0:=by
 have c:∀(q:aw) (b:List Nat),(pZ q b).1=none->(pZ q b).2.1≠0:=by
  intro q b h;unfold pZ at h|-;simp only at h|-;split at h;grind;cases h
 have d:∀(bs:List UInt8) (a:Nat) (q:aw) (r:Rd) (b:List Nat),(oB bs a q r b).1=none->(oB bs a q r b).2.1≠0:=by
  intro bs a;induction a with
  |zero=>intro q r b h;exact c _ _ h
  |succ a e =>
   intro q r b h
   rw[oB]at h|-
   split at h
   grind
   grind
 unfold vB at h|-;split at h;grind;grind
def MV{bs q}(h:(vB bs).1=some q):(vB bs).2.1=0:=by
 have c:∀(q:aw) (b:List Nat) (x:aw),(pZ q b).1=some x->(pZ q b).2.1=0:=by
  intro q b x h;unfold pZ at h|-;simp only at h|-;split at h;cases h;grind
 have d:∀(a:Nat) (q:aw) (r:Rd) (b:List Nat) (x:aw),(oB bs a q r b).1=some x->(oB bs a q r b).2.1=0:=by
  intro a;induction a with
  |zero=>intro q r b x h;exact c _ _ _ h
  |succ a e =>
   intro q r b x h
   rw[oB]at h|-
   split at h
   grind
   grind
 unfold vB at h|-;split at h;cases h;grind
def QO{L}(j:Wf L){bs}(a:(yP L bs).2.1=0):Wf (yP L bs).2.2.2/\al (yP L bs).2.2.2 (yP L bs).1=true/\qL (yP L bs).2.2.2 (yP L bs).1=bs/\bs.length<=4096:=by
 cases b:(vB bs).1 with
 |none =>
  unfold yP at a;rw[b]at a
  exact absurd a<|xO b
 |some q =>
  have⟨f,k,e,h,i⟩:=xB b
  unfold yP at a|-
  rw[b]at a|-
  simp only at a|-
  have⟨c,d,g⟩:=xX j f e a
  exact⟨c,d,by rw[LX c f d e g,h],i⟩
end Go.Proofs
end
section
open Go Go.SE
namespace Go.Proofs
open Tryz
attribute [local irreducible] Calls CallsD
def gm.cells(k:Nat)(x:gm):List Value:=[vi k,vi 0,vi 0,vu x.num,vs ⟨x.bb.toArray⟩,vi 0,vi 0,vu x.az,vu x.to,vu x.a,vu x.b,vi x.kids]
def jYZ(bs:List UInt8)(r:Rd)(k:Nat)(x:gm)(f:bo):f.rK bs r (x.cells k)=(f.pa bs r x).cells k:=by cases f<;>rfl
def VG(bs):∀(a b:List bo) (s:gm×Rd),vD bs (a++b) s=vD bs b (vD bs a s):=by
 intro a;induction a with
 |nil=>intro b s;rfl
 |cons f a c=>intro b s;have⟨x,r⟩:=s;rw[List.cons_append,vD,vD,c]
def TL(bs)(fs:List bo)(j)(a:j<fs.length)(s:gm×Rd):vD bs (fs.take<|j+1) s=(fs[j].pa bs (vD bs (fs.take j) s).2 (vD bs (fs.take j) s).1,fs[j].rd bs (vD bs (fs.take j) s).2):=by
 rw[List.take_succ_eq_append_getElem a,VG];have⟨x,r⟩:=vD bs (fs.take j) s;rfl
def Rn(f:bo):∀args w,(callFunc f.get args).run prog w=.ok (.enter f.get args) w:=by
 cases f;exact call251;exact call254;exact call256;exact call259;exact call262;exact call264
structure pt(w:World)(q a:Addr)(s:Sl)(bs:List UInt8)(L:aw)(r:Rd)(m:Nat)(S c F:NP):Prop where
 bl:zD w q L c
 rd:fi S w a s bs r
 mq:pS w m F
 lS:∀b,S b->b<w.heap.size
 la:a.block<w.heap.size
 dP:∀b,c b->b≠a.block/\¬S b/\¬F b/\b≠m
 dF:∀b,F b->b≠a.block/\¬S b
 dm:m≠a.block/\¬S m
def pt.ext{w w' q a s bs L r m S FP F G}(h:pt w q a s bs L r m S FP F)(E:ab G w w')(d:∀b,b<w.heap.size->¬G b):pt w' q a s bs L r m S FP F:=
 ⟨h.bl.ext E fun b c=>d b<|h.bl.lt c,h.rd.ext E (fun b c=>d b<|h.lS b c)<|d _ h.la,h.mq.ext E fun b c=>d b<|c.elim (h.mq.lt b) fun e=>e▸h.mq.ze,fun b c=>Nat.lt_of_lt_of_le (h.lS b c) E.size,Nat.lt_of_lt_of_le h.la E.size,h.dP,h.dF,h.dm⟩
def pt.pure{w w' q a s bs L r m S FP F}(h:pt w q a s bs L r m S FP F)(E:Pure w w'):pt w' q a s bs L r m S FP F:=h.ext E fun _ _ h=>h
def tZ{n:Nat}(h:n<9223372036854775808):IntKind.i64.wrap (n:Int)=(n:Int):=IntWalk.i64_in _ Om
def D7(n:Nat):py (n:Int)=if 2147483647<n then -1 else(n:Int):=by
 unfold py;by_cases h:2147483647<n;grind;rw[if_neg h,show decide ((n:Int)>2147483647)=false by simp;omega];exact tZ Om
def jWG(k f t:Nat)(u:Int)(x:ByteArray)(a b:Int):BJ (k:Int) (py (f:Int)) (py (t:Int)) u x a b=if 16<=f\/16<=t\/((k=8\/k=9)/\f=t)then 50 else 0:=by
 unfold BJ;rw[D7,D7];have key:((((decide ((if 2147483647<f then -1 else(f:Int))<0) ||decide ((if 2147483647<f then -1 else(f:Int))>=16)) ||decide ((if 2147483647<t then -1 else(t:Int))<0)) ||decide ((if 2147483647<t then -1 else(t:Int))>=16)) ||((((k:Int)==8) ||((k:Int)==9))&&((if 2147483647<f then -1 else(f:Int))==(if 2147483647<t then -1 else(t:Int)))))=decide (16<=f\/16<=t\/((k=8\/k=9)/\f=t)):=Gd;rw[key];by_cases h:16<=f\/16<=t\/((k=8\/k=9)/\f=t);grind;grind
def Io{w p n cs T}(h:ai w p (tI n++cs) T):Row w p (tI n):=fun i hi=>by
 have:=h.row i Gd;rw[List.getElem?_append_left hi]at this;exact this
def jac(q a s bs r m){S FP F L}(p n cs){w}(h:pt w q a s bs L r m S FP F)(g:Ok L)(hB:ai w p (tI n++cs) 314)(y:¬ FP p.block)(K:Int->WP)(i:∀x w',x=(if (find L n).isSome=true then 72 else (ay L n).2.1)->(∃F',zD w' q (if (find L n).isSome=true then L else (ay L n).2.2) F'/\fi S w' a s bs r/\ab FP w w'/\∀b,F' b->FP b\/w.heap.size<=b)->K x w'):
  BV (some q) p ar w K:=by
 refine⟨n.kind,n.az,n.to,n.num,n.bb,n.a,n.b,Io hB,?_⟩
 refine(Gt q n w h.bl g).mono ?_
 rintro _ v ⟨x,ok,rfl,z,c⟩
 refine⟨_,_,rfl,c.bz,fun e=>?_,fun e=>?_⟩
 have:(find L n).isSome=true:=Gd
 rw[if_pos this,if_pos this]at i
 exact i _ _ rfl ⟨FP,h.bl.pure c,h.rd.pure c,ab.pure c,fun b d=>.inl d⟩
 have:¬(find L n).isSome=true:=Gd
 rw[if_neg this,if_neg this]at i
 refine⟨n.kind,n.az,n.to,n.num,n.bb,n.a,n.b,Io<|hB.pure c,?_⟩
 refine(rR q n.kind n.az n.to n.num n.bb n.a n.b v (h.bl.pure c) g).mono ?_
 rintro _ A ⟨t,o,rfl,l,F',u,k,j⟩
 have f:=congrArg Prod.snd l
 simp only at f
 refine⟨t,o,rfl,k.bk fun b d=>d.elim,i _ _ f ⟨F',u,(h.rd.pure c).ext k (fun b d hh=>(h.dP b hh).2.1 d) fun hh=>(h.dP _ hh).1 rfl,(ab.pure c).trans k,fun b d=>(j b d).elim .inl fun d=>.inr<|Oh c.size⟩⟩
def U7(k:Nat)(x:gm):(((x.cells k).set 1<|vi<|py x.az).set 2<|vi<|py x.to)=tI ⟨k,py x.az,py x.to,x.num,⟨x.bb.toArray⟩,0,0⟩++[vu x.az,vu x.to,vu x.a,vu x.b,vi x.kids]:=rfl
def zDM(n cs v):(tI n++cs).set 5 (vi v)=tI { n with a:=v }++cs:=rfl
def Ru(n cs v):(tI n++cs).set 6 (vi v)=tI { n with b:=v }++cs:=rfl
def jba(q a:Addr)(s:Sl)(bs:List UInt8)(r:Rd)(m:Nat){S l F:NP}{L:aw}(p:Addr)(k:Nat)(x:gm){w:World}(h:pt w q a s bs L r m S l F)(A:Ok L)(h1:x.az<16)(h2:x.to<16)(R:0<x.kids->x.a<L.length)(u:1<x.kids->x.b<L.length)(hB:ai w p (tI ⟨k,py x.az,py x.to,x.num,⟨x.bb.toArray⟩,0,0⟩++[vu x.az,vu x.to,vu x.a,vu x.b,vi x.kids]) 314)(z:p.block≠a.block/\¬ S p.block/\¬ l p.block/\¬ F p.block/\p.block≠m)(K:Int->WP)(P:∀y w',y=(if (find L<|x.node k).isSome=true then 72 else (ay L<|x.node k).2.1)->(∃F',zD w' q (if (find L<|x.node k).isSome=true then L else (ay L<|x.node k).2.2) F'/\fi S w' a s bs r/\ab (fun b=>l b\/b=p.block) w w'/\∀b,F' b->l b\/w.heap.size<=b)->K y w'):
  zk (some q) p false ar w K:=by
 have N:=A.ft
 have fs:py (x.az:Int)=(x.az:Int):=by rw[D7,if_neg Om]
 have ts:py (x.to:Int)=(x.to:Int):=by rw[D7,if_neg Om]
 rw[fs,ts]at hB
 have t:∀{w w':World} {i:Nat} {v:Value},pt w q a s bs L r m S l F->w'=w.setCell (p.add i) v->pt w' q a s bs L r m S l F/\ab (·=p.block) w w':=fun {w w' i v} h e=>by
  have E:ab (·=p.block) w w':=by rw[e];exact qT
  refine⟨⟨h.bl.ext E Gd,h.rd.ext E Gd fun e=>z.1 e.symm,h.mq.ext E Gd,fun b u=>Nat.lt_of_lt_of_le (h.lS b u) E.size,Nat.lt_of_lt_of_le h.la E.size,h.dP,h.dF,h.dm⟩,E⟩
 have O:∀n:Nat,n<L.length->IntKind.i64.wrap (IntKind.u64.wrap<|(n:Int)+1)=(n:Int)+1:=fun n M=>by
  rw[show(n:Int)+1=((n+1:Nat):Int) by omega,qD Om,tZ Om]
 have D : ∀ (j vb : Int) (f : World), pt f q a s bs L r m S l F -> ai f p (tI ⟨k, x.az, x.to, x.num, ⟨x.bb.toArray⟩, j, vb⟩ ++ [vu x.az, vu x.to, vu x.a, vu x.b, vi x.kids]) 314 -> ab (· = p.block) w f ->
   j=(if 0<x.kids then(x.a:Int)+1 else 0)->vb=(if 1<x.kids then(x.b:Int)+1 else 0)->BV (some q) p ar f K:=by
  intro j vb f h1 d C o G
  have M:(⟨k,x.az,x.to,x.num,⟨x.bb.toArray⟩,j,vb⟩:di)=x.node k:=by subst o G;rfl
  rw[M]at d
  refine jac q a s bs r m p (x.node k) _ h1 A d z.2.2.1 K fun y w' U ⟨F',Q,W,V,T⟩=>P y w' U ⟨F',Q,W,(C.mono fun b _ h=>.inr h).trans<|V.mono fun b _ h=>.inl h,fun b u=>(T b u).imp id fun h=>Oh C.size⟩
 refine⟨fun c=>(by cases c),fun _=>⟨x.kids,hB.cell (i:=11) rfl,?_⟩⟩
 have J : ∀ (j : Int) (f : World), pt f q a s bs L r m S l F -> ai f p (tI ⟨k, x.az, x.to, x.num, ⟨x.bb.toArray⟩, j, 0⟩ ++ [vu x.az, vu x.to, vu x.a, vu x.b, vi x.kids]) 314 -> ab (· = p.block) w f ->
   j=(if 0<x.kids then(x.a:Int)+1 else 0)->DC (some q) p ar f K:=by
  intro j f h1 d C o
  refine⟨x.kids,d.cell (i:=11) rfl,fun c=>?_,fun c=>?_⟩
  have c:1<x.kids:=Oh<|of_decide_eq_true c
  refine⟨x.b,d.cell (i:=10) rfl,d.eh (i:=6)<|by simp[tI],id,?_⟩
  rintro I B
  have⟨h2,H⟩:=t h1 B
  have g:=d.set 6<|vi<|IntKind.i64.wrap<|IntKind.u64.wrap<|(x.b:Int)+1
  rw[<-B,Ru,O _<|u c]at g
  exact D j _ I h2 g (C.trans H) o (by rw[if_pos c])
  grind
 refine⟨fun c=>?_,fun c=>?_⟩
 have c:0<x.kids:=Oh<|of_decide_eq_true c
 refine⟨x.a,hB.cell (i:=9) rfl,hB.eh (i:=5)<|by simp[tI],id,?_⟩
 rintro I B
 have⟨h2,H⟩:=t h B
 have g:=hB.set 5<|vi<|IntKind.i64.wrap<|IntKind.u64.wrap<|(x.a:Int)+1
 rw[<-B,zDM,O _<|R c]at g
 exact J _ I h2 g H (by rw[if_pos c])
 have c:¬0<x.kids:=Oh<|of_decide_eq_false c
 exact J 0 w h hB (ab.refl _) (by rw[if_neg c])
def Te(q a s bs r m){S FP F L w0}(h:pt w0 q a s bs L r m S FP F)(Y:Ok L)(N:r.at_<bs.length)(he:r.cq=0):
  cl 185 #[vp<|some q,vp<|some a,.map<|some m] w0<|XB fun y w'=>y=(vS bs L r).2.1/\∃F',zD w' q (vS bs L r).1 F'/\fi S w' a s bs (vS bs L r).2.2/\ab (fun b=>FP b\/b=a.block) w0 w'/\∀b,F' b->FP b\/w0.heap.size<=b:=by
 refine RO (some q) (some a) (some m) w0 _ ?_
 refine(jaU a s bs r w0 h.rd (Nat.le_of_lt N) h.lS).mono ?_
 rintro _ w1 ⟨_,rfl,rfl,J,O⟩
 refine⟨_,rfl,O.bk fun b c=>c.elim,?_⟩
 rw[Ar bs L r N he]
 rw[Li bs r N he]at J|-
 simp only at J|-
 generalize hk:bs[r.at_].toNat=k at *
 have hk256:k<256:=by rw[<-hk];exact bs[r.at_].toNat_lt
 have S1:pt w1 q a s bs L ⟨r.at_+1,0,r.spot⟩ m S FP F:=⟨h.bl.ext O fun b c e=>(h.dP b c).1 e,J,h.mq.ext O fun b c e=>c.elim (fun c=>(h.dF b c).1 e) fun c=>h.dm.1<|c.symm.trans e,fun b c=>Nat.lt_of_lt_of_le (h.lS b c) O.size,Nat.lt_of_lt_of_le h.la O.size,h.dP,h.dF,h.dm⟩
 intro l w2 n2
 rw[tZ Om]at n2
 have E2:Pure w1 w2:=ab.ax n2
 have Z:=S1.pure E2
 have B2:ai w2 l (yF.cells k) 314:=ai.fp n2
 have bp:=n2.cu
 have z1:=O.size
 have Q:ab (·=a.block) w0 w2:=O.fb E2
 refine⟨k,B2.bf,?_⟩
 by_cases p:uL k=true
 have hk19:1<=k/\k<=9:=by unfold uL at p;simpa using p
 have⟨v2,I,T⟩:=Z.mq.get (k:Int) Om Om true
 refine⟨v2,true,I,fun d=>(by cases d),fun _=>?_⟩
 rw[if_pos p]
 generalize hfs:qP (k:Int)=fs at *
 have hf3:fs.length<=3:=by rw[<-hfs];exact FX _
 have hrat:∀j,(vD bs (fs.take j) (yF,⟨r.at_+1,0,r.spot⟩)).2.at_<=bs.length:=fun j=>(Nj bs (fs.take j) yF ⟨r.at_+1,0,r.spot⟩ Sy).2
 refine⟨fun x1 Hl w=>∃j:Nat,x1=j/\j<=fs.length/\Hl=ar/\pt w q a s bs L (vD bs (fs.take j) (yF,⟨r.at_+1,0,r.spot⟩)).2 m S FP F/\ai w l ((vD bs (fs.take j) (yF,⟨r.at_+1,0,r.spot⟩)).1.cells k) 314/\dr F w 2 v2 (fs.map bo.row)/\ab (·=a.block) w0 w,fun x1 _=>((fs.length:Int)-x1).toNat,⟨0,rfl,Nat.zero_le _,rfl,Z,B2,T,Q⟩,?_⟩
 rintro _ _ wl _ ⟨j,rfl,hj,rfl,hS,hB,hL,hE⟩
 unfold LB
 have H:v2.len=fs.length:=by rw[hL.len,List.length_map]
 have ple:l.block<wl.heap.size:=hB.lt
 have zE:=hE.size
 have nS:¬S l.block:=fun hh=>Oh<|h.lS _ hh
 have nF:¬F l.block:=fun hh=>Oh<|h.mq.lt _ hh
 have nP:¬FP l.block:=fun hh=>Oh<|h.bl.lt hh
 have na:l.block≠a.block:=fun hh=>Oh h.la
 have nm:l.block≠m:=fun hh=>Oh h.mq.ze
 refine⟨fun d=>?_,fun d=>?_⟩
 have d:=vQ H d
 have⟨a1,hat,_,hrow⟩:=hL.kg d
 refine⟨a1,hat,_,_,hrow,?_⟩
 intro p2 w3 n3
 have E3:Pure wl w3:=ab.ax n3
 refine⟨⟨rfl,fun i hi=>(ai.fp n3).eh<|by simpa using hi⟩,id,?_⟩
 rintro w4 e4
 have X4:ab (·=p2.block) w3 w4:=by rw[e4];exact ab.bd _ _ _
 have B4:ai w4 p2 [.func (.func fs[j].put) #[] #[],.func (.func fs[j].get) #[] #[]] 255:=by rw[e4];exact(ai.fp n3).store rfl
 have hp2:=n3.cu
 have A:Pure wl w4:=E3.ak Gd X4
 have S4:=hS.pure A
 refine⟨_,B4.cell (i:=1) rfl,fs[j].get,#[],#[],rfl,Rn fs[j],?_⟩
 refine(jbh fs[j] a l s bs _ _ w4 S4.rd (hrat j) S4.lS (hB.pure A) rfl (fun e=>na e.symm) fun b c e=>nS<|e▸c).mono ?_
 rintro _ w5 ⟨rfl,hR5,X,M⟩
 rw[jYZ]at X
 have R:=TL bs fs j d (yF,⟨r.at_+1,0,r.spot⟩)
 refine⟨rfl,M.bk fun b c=>c.elim,⟨j+1,zM d Om,d,rfl,?_,?_,?_,?_⟩,by rw[zM d Om];exact yQ d⟩
 rw[R]
 exact⟨S4.bl.ext M fun b c e=>e.elim (fun e=>(h.dP b c).1 e) fun e=>nP<|e▸c,hR5,S4.mq.ext M fun b c e=>c.elim (fun c=>e.elim (fun e=>(h.dF b c).1 e) fun e=>nF<|e▸c) fun c=>e.elim (fun e=>h.dm.1<|c.symm.trans e) fun e=>nm<|e.symm.trans c,fun b c=>Nat.lt_of_lt_of_le (S4.lS b c) M.size,Nat.lt_of_lt_of_le S4.la M.size,h.dP,h.dF,h.dm⟩
 rw[R];exact X
 exact(hL.pure A).ext M fun b c e=>e.elim (fun e=>(h.dF b c).1 e) fun e=>nF<|e▸c
 exact(hE.fb A).cg M Gd
 have d:=qU H hj d
 subst d
 rw[List.take_length]at hS hB
 have V:=(@LM bs (k:Int) Om Om ⟨r.at_+1,0,r.spot⟩).1
 rw[hfs]at V
 generalize vD bs fs (yF,⟨r.at_+1,0,r.spot⟩)=st at *
 have⟨x,f⟩:=st
 simp only at hS hB V
 have fin : ∀ (y : Int) (w : World) (F' : NP), zD w q (jo L k (x, f)).1 F' -> fi S w a s bs (jo L k (x, f)).2.2 -> ab (fun b => FP b \/ b = a.block) w0 w -> (∀ b, F' b -> FP b \/ w0.heap.size <= b) -> y = (jo L k (x, f)).2.1 ->
   y=(jo L k (x,f)).2.1/\∃F',zD w q (jo L k (x,f)).1 F'/\fi S w a s bs (jo L k (x,f)).2.2/\ab (fun b=>FP b\/b=a.block) w0 w/\∀b,F' b->FP b\/w0.heap.size<=b:=fun y w F' a1 a2 a3 a4 a5=>⟨a5,F',a1,a2,a3,a4⟩
 have hEo:ab (fun b=>FP b\/b=a.block) w0 wl:=hE.mono fun b _ h=>.inr h
 have K:∀(e:Nat) (w:World),lf k L.length x f.cq=e->e≠0->ab (·=l.block) wl w->(((e:Nat):Int)=(jo L k (x,f)).2.1/\∃F',zD w q (jo L k (x,f)).1 F'/\fi S w a s bs (jo L k (x,f)).2.2/\ab (fun b=>FP b\/b=a.block) w0 w/\∀b,F' b->FP b\/w0.heap.size<=b):=by
  intro e w G h0 E;have hr:jo L k (x,f)=(L,(e:Int),f):=by
   unfold jo;simp only;rw[if_pos (by rw[G];exact h0),G]
  rw[hr];exact⟨rfl,FP,hS.bl.ext E fun b c e=>nP<|e▸c,hS.rd.ext E (fun b c e=>nS<|e▸c) fun e=>na e.symm,hEo.cg E fun i hi e=>Om,fun b c=>.inl c⟩
 refine(S2 a s bs f wl hS.rd).mono ?_
 rintro _ w6 ⟨_,_,rfl,rfl,rfl,U⟩
 have S6:=hS.pure U
 have B6:=hB.pure U
 refine⟨_,_,rfl,U.bz,fun d=>?_,fun d=>?_⟩
 have d:f.cq≠0:=Oh<|bne_iff_ne.1 d
 exact K f.cq w6 (by unfold lf;rw[if_pos d]) d<|ab.pure U
 have d:f.cq=0:=Gd
 refine⟨fun w'=>w'.cell? (l.add 8)=some (vu x.to),(B6.pure<|ab.drew w6).cell (i:=8) rfl,?_⟩
 rintro w7 e7
 have E7:Pure w6 w7:=by rw[e7];exact ab.drew w6
 have B7:=B6.pure E7
 refine⟨x.az,B7.cell (i:=7) rfl,x.to,fun w' hw'=>hw',?_⟩
 refine(MX (x.az:Int) w7).mono ?_
 rintro _ w8 ⟨rfl,E8⟩
 have B8:=B7.pure E8
 refine⟨_,rfl,B8.cell (i:=8) rfl,E8.bz,?_⟩
 refine(MX (x.to:Int) w8).mono ?_
 rintro _ w9 ⟨rfl,E9⟩
 have B9:=B8.pure E9
 refine⟨_,rfl,B9.cell (i:=8) rfl,E9.bz,B9.eh (i:=1)<|by simp[gm.cells],id,?_⟩
 rintro w10 e10
 have X10:ab (·=l.block) w9 w10:=by rw[e10];exact qT
 have D:=B9.set 1<|vi<|py x.az
 rw[<-e10]at D
 refine⟨D.cell (i:=8) rfl,D.eh (i:=2)<|by simp[gm.cells],id,?_⟩
 rintro B W
 have X11:ab (·=l.block) w10 B:=by rw[W];exact qT
 have P:=D.set 2<|vi<|py x.to
 rw[<-W,U7]at P
 have g:ab (·=l.block) wl B:=((ab.pure<|((U.trans E7).trans E8).trans E9).trans X10).trans X11
 have S11:pt B q a s bs L f m S FP F:=⟨hS.bl.ext g fun b c e=>nP<|e▸c,hS.rd.ext g (fun b c e=>nS<|e▸c) fun e=>na e.symm,hS.mq.ext g Gd,fun b c=>Nat.lt_of_lt_of_le (hS.lS b c) g.size,Nat.lt_of_lt_of_le hS.la g.size,h.dP,h.dF,h.dm⟩
 refine⟨k,py x.az,py x.to,x.num,⟨x.bb.toArray⟩,0,0,Io P,?_⟩
 rw[jWG]
 by_cases t:16<=x.az\/16<=x.to\/((k=8\/k=9)/\x.az=x.to)
 rw[if_pos t]
 refine⟨fun _ C o=>?_,fun d=>(by cases d)⟩
 exact K 50 C (by unfold lf;rw[if_neg Om,if_pos t]) De<|g.fb o.ext
 rw[if_neg t]
 refine⟨fun d=>(by cases d),fun _ C o=>?_⟩
 have z:Pure B C:=o.ext
 have S12:=S11.pure z
 refine(Hi q C S12.bl).mono ?_
 rintro _ n ⟨_,rfl,rfl,rfl⟩
 have v:=P.pure z
 have hLs:=Y.ft
 refine⟨_,rfl,aj.refl _,x.kids,v.cell (i:=11) rfl,?_⟩
 rw[qD Om]
 have u:((0<x.kids/\L.length<=x.a)\/(1<x.kids/\L.length<=x.b))->((71:Int)=(jo L k (x,f)).2.1/\∃F',zD n q (jo L k (x,f)).1 F'/\fi S n a s bs (jo L k (x,f)).2.2/\ab (fun b=>FP b\/b=a.block) w0 n/\∀b,F' b->FP b\/w0.heap.size<=b):=fun hh =>
  K 71 n (by unfold lf;rw[if_neg Om,if_neg t,if_pos hh]) De<|g.fb z
 have good:¬((0<x.kids/\L.length<=x.a)\/(1<x.kids/\L.length<=x.b))->zk (some q) l false ar n (fun y w'=>y=(jo L k (x,f)).2.1/\∃F',zD w' q (jo L k (x,f)).1 F'/\fi S w' a s bs (jo L k (x,f)).2.2/\ab (fun b=>FP b\/b=a.block) w0 w'/\∀b,F' b->FP b\/w0.heap.size<=b):=fun hh=>by
  have hr:jo L k (x,f)=(if(find L<|x.node k).isSome=true then L else(ay L<|x.node k).2.2,if(find L<|x.node k).isSome=true then 72 else(ay L<|x.node k).2.1,f):=by
   have G:lf k L.length x f.cq=0:=by unfold lf;rw[if_neg Om,if_neg t,if_neg hh]
   unfold jo;simp only;rw[if_neg (by rw[G];simp)];split<;>rfl
  rw[hr];refine jba q a s bs f m l k x S12 Y Om Om Om Om v ⟨na,nS,nP,nF,nm⟩ _ ?_;rintro y w' hy ⟨F',g1,g2,g3,g4⟩;exact⟨hy,F',g1,g2,(hEo.cg (g.fb z) fun i hi e=>Om).cg g3 Gd,fun b c=>(g4 b c).imp id fun hh=>Oi g.size z.size⟩
 have j5:∀x3:Bool,x3=decide (0<x.kids/\L.length<=x.a)->CI (some q) l (L.length:Int) x3 ar n (fun y w'=>y=(jo L k (x,f)).2.1/\∃F',zD w' q (jo L k (x,f)).1 F'/\fi S w' a s bs (jo L k (x,f)).2.2/\ab (fun b=>FP b\/b=a.block) w0 w'/\∀b,F' b->FP b\/w0.heap.size<=b):=by
  intro x3 h3;refine⟨fun d=>?_,fun d=>?_⟩;rw[d]at h3;have h3:=of_decide_eq_true h3.symm;exact⟨fun _=>u<|.inl h3,fun d=>(by cases d)⟩;rw[d]at h3;have h3:=of_decide_eq_false h3.symm;refine⟨x.kids,v.cell (i:=11) rfl,fun d=>?_,fun d=>?_⟩;have d:=of_decide_eq_true d;refine⟨x.b,v.cell (i:=10) rfl,?_⟩;rw[qD Om];by_cases c:L.length<=x.b;rw[decide_eq_true<|show(x.b:Int)>=(L.length:Int) by omega];exact⟨fun _=>u<|.inr ⟨Om,c⟩,fun d=>(by cases d)⟩;grind;grind
 refine⟨fun d=>?_,fun d=>?_⟩
 have d:=of_decide_eq_true d
 refine⟨x.a,v.cell (i:=9) rfl,j5 _ ?_⟩
 rw[decide_eq_decide];omega
 have d:=of_decide_eq_false d
 refine j5 _ ?_
 rw[decide_eq_false];omega
 have hnk:¬(1<=(k:Int)/\(k:Int)<=9):=fun hh=>p (by unfold uL;simp;omega)
 refine⟨_,false,Z.mq.none (k:Int) hnk,fun _=>?_,fun d=>(by cases d)⟩
 rw[if_neg p]
 exact⟨rfl,FP,Z.bl,Z.rd,Q.mono fun b _ h=>.inr h,fun b c=>.inl c⟩
end Go.Proofs
end
section
open Go Go.SE List
open Go.IntKind renaming i64 -> q6
namespace Go.Proofs
open Tryz
set_option maxRecDepth 100000
set_option maxHeartbeats 4000000
attribute [local irreducible] bu fw fg dv Calls
attribute [local irreducible] jq W WV WR uC pv ku jn oe ka mm kq ll np my iy ez ij nn kz kp uS xD yC bn ub
def WB(p1:Option Addr)(aA:Option Addr)(t1:Int)(L:World)(K:Int->Int->WP):Prop:=∀O w1,av L (.cells #[(vp p1)] 91) O w1->∀p3 w2,av w1 (.cells #[(vp aA)] 91) p3 w2->∀f w3,av w2 (.cells #[(vi 0)] 73) f w3->∀g A,av w3 (.cells #[(vi 0)] 54) g A->∃v1,A.cell? O=some (vp v1)/\Br (Option.isNone v1) (zL A f/\¬ar f.block/\∀w5,w5=A.setCell f (vi 0)->zL w5 g/\¬ar g.block/\∀w6,w6=w5.setCell g (vi 0)->∃aB,w6.cell? f=some (vi aB)/\∃aC,w6.cell? g=some (vi aC)/\K aB aC w6) (∃v2,A.cell? p3=some (vp v2)/\cl 130 #[(vp v2),(vi t1)] A fun e J=>∃r1,e=.returned (vb r1)/\aj ar A J/\Br (!r1) (zL J f/\¬ar f.block/\∀w8,w8=J.setCell f (vi 0)->zL w8 g/\¬ar g.block/\∀w9,w9=w8.setCell g (vi 51)->∃aD,w9.cell? f=some (vi aD)/\∃aE,w9.cell? g=some (vi aE)/\K aD aE w9) (∃v3,J.cell? O=some (vp v3)/\∃a1,v3=some a1/\∃v4:Sl,J.cell? a1=some v4.v/\∀Z F,av J (.cells #[(vi 0)] 3) Z F->zL F Z/\¬ar Z.block/\∀V,V=F.setCell Z (vi (v4.len:Int))->∀p7 W,av V (.map #[] 0) p7 W->∀r I,av W (.cells #[(.map none)] 197) r I->zL I r/\¬ar r.block/\∀n,n=I.setCell r (.map<|some p7.block)->∃v5,n.cell? p3=some (vp v5)/\cl 131 #[(vp v5),(vi t1)] n fun e q=>∃r2:Value,e=.returned r2/\aj ar n q/\∃(f1:FuncId) (Q:Array Value),r2=.func (.func f1) #[] Q/\(∀args w,(callFunc f1 args).run prog w=.ok (.enter f1 args) w)/\∃(z:List (Int)) (P:WP),sK prog f1 Q (fun(u:Int)=>#[(vi u)]) z P q/\∃(I1 H:List (Int)->NP->WP),AA L P I1 (fun _ _ _=>False) H/\I1 [] ar q/\(∀(h:List (Int)) (u:Int) (y:NP) (s:World),I1 h y s->af L y s y s->(∃R,z=h++u ::R)->∃v6,s.cell? p3=some (vp v6)/\cl 109 #[(vp v6),(vi u)] s fun e w17=>∃aF aG aH aI aJ aK aL r3,e=.returned (.tuple #[(Ac aF aG aH aI aJ aK aL),(vb r3)])/\aj ar s w17/\∀i C,av w17 (.cells #[(vi 0),(vi 0),(vi 0),(vu 0),ve,(vi 0),(vi 0)] 119) i C->(∀j,j<7->zL C (i.add j))/\¬ar i.block/\∀G,G=bd C i (Ab aF aG aH aI aJ aK aL)->∃C1:WP,C1 G.drew/\∀c,c=G.drew->∃v7:Option Nat,c.cell? r=some (.map v7)/\∃v8,c.cell? (i.add 5)=some (vi v8)/\∃v9,(Instr.lookup 197 (.map v7) (vi v8) false).run prog c=.ok (vi v9) c/\∃S:Option Nat,(∀w',C1 w'->w'.cell? r=some (.map S))/\∃v11,c.cell? (i.add 6)=some (vi v11)/\∃v12,(∀w',C1 w'->(Instr.lookup 197 (.map S) (vi v11) false).run prog w'=.ok (vi v12) w')/\zL c (i.add 5)/\¬ar (i.add 5).block/\∀m,m=c.setCell (i.add 5) (vi v9)->C1 m/\zL m (i.add 6)/\¬ar (i.add 6).block/\∀l,l=m.setCell (i.add 6) (vi v12)->∃U,l.cell? O=some (vp U)/\∃aQ aR aS aT aU aV aW,Row l i (Ab aQ aR aS aT aU aV aW)/\cl 132 #[(vp U),(.agg #[(vi aQ),(vi aR),(vi aS),(vu aT),(vs aU),(vi aV),(vi aW)])] l fun e d=>∃r4 r5,e=.returned (.tuple #[(vi r4),(vi r5)])/\aj ar l d/\Br (r5 !=0) (∃Y,d.cell? O=some (vp Y)/\∃X,d.cell? Z=some (vi X)/\cl 126 #[(vp Y),(vi X)] d fun e B=>e=.returned (.tuple #[])/\aj ar d B/\zL B f/\¬ar f.block/\∀D,D=B.setCell f (vi 0)->zL D g/\¬ar g.block/\∀x,x=D.setCell g (vi r5)->aj y s x/\H (h++[u]) y x) (∃v16:Option Nat,d.cell? r=some (.map v16)/\∃o:World,(Instr.mapUpdate 197 (.map v16) (vi u)<|vi r4).run prog d=.ok () o/\aj ar d o/\aj y s o/\I1 (h++[u]) y o))/\(∀t a,af L t a t a->(∀b,ar b->t b)->aj ar q a->I1 z t a->∃M:Option Nat,a.cell? r=some (.map M)/\∃N,(Instr.lookup 197 (.map M) (vi t1) false).run prog a=.ok (vi N) a/\zL a f/\¬t f.block/\∀E,E=a.setCell f (vi N)->zL E g/\¬t g.block/\∀T,T=E.setCell g (vi 0)->∀p,af L t T t p->∃aM,p.cell? f=some (vi aM)/\∃aN,p.cell? g=some (vi aN)/\K aM aN p)/\(∀(pre2:List (Int)) (H2:NP) (k:World),af L H2 k H2 k->H pre2 H2 k->∃aO,k.cell? f=some (vi aO)/\∃aP,k.cell? g=some (vi aP)/\K aO aP k)))
def jcS(p1 aA t1 w0 K)(h:WB p1 aA t1 w0 K):
  cl 69 #[(vp p1),(vp aA),(vi t1)] w0<|XH K:=by
 refine cw (args:=[(vp p1),(vp aA),(vi t1)]) func69 ntmps69 ?_
 have⟨hs,a⟩:=su w0
 refine eg (sq hs a h xb fun p2 w1 hs a h=>sq hs a h xb fun p3 w2 hs a h=>sq hs a h (uI (zeroValue73 _) rfl) fun X w3 hs a h=>sq hs a h (uI (zeroValue54 _) rfl) fun Y w4 hs a h=>ln<|zK<|eg<|ql (isAgg91 _) h fun v1 h=>q2 (vb<|Option.isNone v1) (EU Kf rfl underlying91)<|ln<|gw h ?_ ?_)<;>intro h
 refine eg<|j6 (sizeOf73 _) hs a h fun w5 hs a h=>j6 (sizeOf54 _) hs a h fun w6 hs a h=>ln<|er<|l0 ?_
 have⟨aB,hv1,h⟩:=h
 have⟨aC,hv2,h⟩:=h
 refine rZ results69 (RV.vj (A:=X) Kf (isAgg73 _) hv1) (RV.vj (A:=Y) Kf (isAgg54 _) hv2) ⟨aB,aC,rfl,h⟩
 refine zY<|uH<|zK<|eg<|ql (isAgg91 _) h fun v2 h=>q<|sc call130 (h.mono fun e w7 ⟨r1,k,c,h⟩=>have⟨hs,a⟩:=c.hh hs a;⟨_,k,?_⟩)
 refine q (ln<|gw h ?_ ?_)<;>intro h
 refine eg<|j6 (sizeOf73 _) hs a h fun w8 hs a h=>j6 (sizeOf54 _) hs a h fun w9 hs a h=>ln<|er<|l0 ?_
 have⟨aD,hv3,h⟩:=h
 have⟨aE,hv4,h⟩:=h
 refine rZ results69 (RV.vj (A:=X) Kf (isAgg73 _) hv3) (RV.vj (A:=Y) Kf (isAgg54 _) hv4) ⟨aD,aE,rfl,h⟩
 refine zY<|uH<|eg<|ql (isAgg91 _) h fun v3 h=>qm h fun a1 h=>q<|ql (isAgg158 _) h fun v4 h=>q<|sn (O:=(.cells #[(vi 0)] 3)) (uI (zeroValue3 _) rfl) ?_
 intro p6 w10 i
 have h:=h p6 w10 i
 have⟨hs,a⟩:=hs.nw a i
 refine j6 (sizeOf3 _) hs a h fun w11 hs a h=>ln<|eg<|EJ (fun p=>.map<|some p.block) hs a h fun p7 w12 hs a h=>sq hs a h (uI (zeroValue197 _) rfl) fun p8 w13 hs a h=>j6 (sizeOf197 _) hs a h fun w14 hs a h=>ln<|Fa<|rg<|ql (isAgg91 _) h fun v5 h=>q<|sc call131 (h.mono fun e w15 ⟨r2,k,c,h⟩=>have⟨hs,a⟩:=c.hh hs a;⟨_,k,?_⟩)
 refine ln ?_
 have⟨f1,cs1,hv5,hf1,h⟩:=h
 have⟨xs1,Rd1,ie,I1,Ir1,z,h0,j,h⟩:=h
 refine D3 (encs:=(fun(Z:Int)=>#[(vi Z)])) (Eq.trans (b:=r2) Kf hv5) hf1 ie (fun _=>rfl) De hs I1 (fun _ _ _=>False) Ir1 z h0 ?ha ?hr ?ht
 case ha =>
  intro l Z w34
  refine rg<|q<|ln ⟨rfl,?_⟩
  intro B Y1 A1 hi hY m
  have h:=j B Z Y1 A1 hi hY m
  have⟨hs,a⟩:=su A1
  refine vN<|eg<|ql (isAgg91 _) h fun v6 h=>q<|sc call109 (h.mono fun e w17 ⟨aF,aG,aH,aI,aJ,aK,aL,r3,k,c,h⟩=>have⟨hs,a⟩:=c.hh hs a;⟨_,k,?_⟩)
  refine qc<|sq hs a h (uI (zeroValue119 _) rfl) fun y w18 hs a h=>?_
  have⟨hp8,d,h⟩:=h
  refine ss (xo y (Ab aF aG aH aI aJ aK aL) (sizeOf119 _) hp8) ?_
  intro N E
  have h:=h N E
  have c:aj ar w18 N:=by rw[E];exact aj.bd d
  have⟨hs,a⟩:=c.hh hs a
  refine q<|ln<|zK ?_
  have⟨C1,hC,h⟩:=h
  refine Pb C1 [9,11] [11] hC h hs a fun w20 hs a h=>?_
  have hs:=hs.fm
  refine qg 0 ?_
  have⟨v7,M,h⟩:=h
  refine rO vt (xl (isAgg197 _) M)<|qx 1 (vp<|some<|y.add 5) wi<|qg 2 ?_
  have⟨v8,x,h⟩:=h
  refine rO wg (xl (isAgg73 _) x)<|qg 3 ?_
  have⟨v9,V,h⟩:=h
  refine rO (v:=(vi v9)) wV (Fg Kf Kf V)<|qg 4 ?_
  have⟨v10,W,h⟩:=h
  refine sy vz (fun _ k=>xl (isAgg197 _)<|W _ k)<|qx 5 (vp<|some<|y.add 6) wq<|qg 6 ?_
  have⟨v11,D,h⟩:=h
  refine rO vw (xl (isAgg73 _) D)<|qg 7 ?_
  have⟨G,I,h⟩:=h
  refine sy (v:=(vi G)) xq (fun w' s=>(Fg Kf Kf<|I w' s))<|qx 8 (vp<|some<|y.add 5) yj<|lg 9 ?_
  have⟨hp9,d,h⟩:=h
  refine I7 ye (xs (v:=(vi v9)) (sizeOf73 _) hp9) ?_
  intro w21 C
  have h:=h w21 C
  refine⟨.inr h.1,?_⟩
  have h:=h.2
  have c:=aj.sc d C
  have⟨hs,a⟩:=c.hh hs a
  refine qx 10 (vp<|some<|y.add 6) (oy<|S8<|uB<|uB oh)<|lg 11 ?_
  have⟨t,d,h⟩:=h
  refine I7 (oy<|S8<|uB<|uB<|uB oh) (xs (v:=(vi G)) (sizeOf73 _) t) ?_
  intro w22 w
  have h:=h w22 w
  refine⟨.inl Kf,?_⟩
  have c:=aj.sc d w
  have⟨hs,a⟩:=c.hh hs a
  refine wn<|uH<|eg<|ql (isAgg91 _) h fun v13 h=>?_
  have⟨aQ,aR,aS,aT,aU,aV,aW,R,h⟩:=h
  refine qa (isAgg119 _) (sizeOf119 _) R<|sc call132 (h.mono fun e w23 ⟨r4,r5,k,c,h⟩=>have⟨hs,a⟩:=c.hh hs a;⟨_,k,?_⟩)
  refine q (qd<|ln<|zK<|eg<|qb<|ln<|gw h ?_ ?_)<;>intro h
  refine eg<|ql (isAgg91 _) h fun v14 h=>ql (isAgg3 _) h fun v15 h=>sc call126 (h.mono fun e w24 ⟨k,c,h⟩=>have⟨hs,a⟩:=c.hh hs a;⟨_,k,?_⟩)
  refine ln<|eg<|q<|j6 (sizeOf73 _) hs a h fun w25 hs a h=>j6 (sizeOf54 _) hs a h fun w26 hs a h=>ln<|er<|l0<|rF ?_
  exact jau h
  refine zY<|uH<|rg<|ql (isAgg197 _) h fun v16 h=>qb ?_
  have⟨w27,hv8,c,h⟩:=h
  refine wj (qE rfl) (MS Kf Kf Kf hv8) ?_
  have⟨hs,a⟩:=c.hh hs a
  refine vI<|pQ ?_
  exact EV h
 case hr =>
  intro D1 H1 w28 n hD T aX J S
  have hb':=a.tk J aX hD T
  have hs:=n
  have a:=hb'
  have h:=h.1 H1 w28 hs aX J<|S.elim id fun h=>h.elim fun _ h=>h.elim
  refine eg<|ql (isAgg197 _) h fun v17 h=>q ?_
  have⟨v18,L,h⟩:=h
  refine q2 (vi v18) (Fg Kf Kf L)<|j6 (sizeOf73 _) hs a h fun w29 hs a h=>j6 (sizeOf54 _) hs a h fun w30 hs a h=>ln<|er<|AO a.Bg ?_
  intro w31 s
  have hl:=a.AJ hs s
  have⟨hs,a⟩:=hl
  -- tk the loop
  have⟨h,hs⟩:=hs.hr<|h w31
  have⟨aM,U,h⟩:=h
  have⟨aN,u,h⟩:=h
  refine rZ results69 (RV.vj (A:=X) Kf (isAgg73 _) U) (RV.vj (A:=Y) Kf (isAgg54 _) u) ⟨aM,aN,rfl,h⟩
 case ht =>
  intro D1 H H2 w32 n hD T g
  have f:=n.TZ (o:=.deferred none) hD
  have g:=z.r _ _ _ _ _ g f
  have f:=f.fm
  have hs:=f
  generalize World.putObj w32 D1 (.deferred none)=F at hs g|-
  have a:=HB.nil H2 F
  have h:=h.2 H H2 F hs g
  have⟨aO,Q,h⟩:=h
  have⟨aP,P,h⟩:=h
  refine rZ results69 (RV.vj (A:=X) Kf (isAgg73 _) Q) (RV.vj (A:=Y) Kf (isAgg54 _) P) ⟨aO,aP,rfl,h⟩
def MG(a:Value)(r1:Sl)(d:Int)(b:World)(e:Int->WP)(K:WP):Prop:=Br (decide (d<(r1.len:Int))) (∃a1:Addr,At r1 d 1 a1/\li b a1 fun g=>∃(c:Nat),a=.func (.yield c) #[] #[]/\yr prog c #[(vi g)] b (XC fun b1 f=>Br (!b1) (K f)<|e (q6.wrap<|d+1) f))<|K b
def jbk(a:Value)(f c:Addr)(i:World)(K:WP):Prop:=lp i f fun l=>li i c fun k=>cl 179 #[(vp l),(vi k)] i<|XA fun r1 j=>∃(h:Int->WP) (e:Int->World->Nat),h 0 j/\∀(g:Int) (b:World),h g b->MG a r1 g b (fun d w'=>h d w'/\e d w'<e g b) K
def jaB(yield1 cap1 cap2 w0 K)(h:jbk yield1 cap1 cap2 w0 K):
  cl 178 #[yield1,(vp<|some cap1),(vp<|some cap2)] w0<|fun e w'=>e=.returned (.tuple #[])/\K  w':=by
 refine cw (args:=[yield1,(vp<|some cap1),(vp<|some cap2)]) func178 ntmps178<|eg ?_
 refine ql (isAgg91 _) h fun t h=>ql (isAgg73 _) h fun r h=>sc call179<|h.mono fun e l ⟨r1,k,h⟩=>⟨_,k,?_⟩
 refine qb<|ln<|vN ?_
 have⟨j,c,i,hr⟩:=h
 refine wN (σ:=Int×World) (fun s ρ w=>w=s.2/\ek ρ [(0,yield1),(8,r1.v),(9,(vi (r1.len:Int))),(10,(vi s.1))]/\j s.1 s.2) (fun s=>c s.1 s.2) (0,l) ⟨rfl,hm,i⟩ ?_
 rintro⟨d,b⟩ ρ w ⟨o,f,m⟩
 dsimp only at o f;subst w
 have h:=hr d b m
 refine qW f (eg<|q<|ln<|zK<|gw h ?_ ?_)<;>intro h
 refine zY<|uH<|zK<|vN<|eg<|qi (runUnderlying46 _) (sizeOf73 _) h fun a1 h=>ql (isAgg73 _) h fun p h=>q<|ln<|eg<|qb ?_
 have⟨g,a,h⟩:=h
 refine Kw (qE rfl) Kf a Kf<|h.mono ?_
 rintro e n ⟨b1,rfl,h⟩
 refine⟨_,rfl,?_⟩
 refine q (ln<|gw h ?_ ?_)<;>intro h
 refine er<|rF<|l0<|l0<|rF<|wo (.inl rfl) results178 ⟨rfl,h⟩
 refine zY<|pQ<|uH<|rg<|qb<|ln ⟨((q6.wrap<|d+1),n),⟨rfl,hm,h.1⟩,h.2⟩
 refine tQ<|ry<|ry<|vn<|wo (.inr rfl) results178 ⟨rfl,h⟩
def LW(a:Value)(g:Sl)(d:Int)(b:World)(e:Int->WP)(K:WP):Prop:=Br (decide (d<(g.len:Int))) (∃a1:Addr,At g d 1 a1/\li b a1 fun h=>∃(c:Nat),a=.func (.yield c) #[] #[]/\yr prog c #[(vi h)] b (XC fun b1 f=>Br (!b1) (K f)<|e (q6.wrap<|d+1) f))<|K b
def QY(a:Value)(e:Addr)(h:World)(K:WP):Prop:=lx h e fun i=>∃(g:Int->WP) (d:Int->World->Nat),g 0 h/\∀(f:Int) (b:World),g f b->LW a i f b (fun c w'=>g c w'/\d c w'<d f b) K
def TQ(yield1 cap1 w0 K)(h:QY yield1 cap1 w0 K):
  cl 188 #[yield1,(vp<|some cap1)] w0<|fun e w'=>e=.returned (.tuple #[])/\K  w':=by
 refine cw (args:=[yield1,(vp<|some cap1)]) func188 ntmps188<|eg ?_
 refine ql (isAgg46 _) h fun f h=>qb<|ln<|vN ?_
 have⟨k,c,j,hr⟩:=h
 refine wN (σ:=Int×World) (fun s ρ w=>w=s.2/\ek ρ [(0,yield1),(5,f.v),(6,(vi (f.len:Int))),(7,(vi s.1))]/\k s.1 s.2) (fun s=>c s.1 s.2) (0,w0) ⟨rfl,hm,j⟩ ?_
 rintro⟨d,b⟩ ρ w ⟨n,g,m⟩
 dsimp only at n g;subst w
 have h:=hr d b m
 refine qW g (eg<|q<|ln<|zK<|gw h ?_ ?_)<;>intro h
 refine zY<|uH<|zK<|vN<|eg<|qi (runUnderlying46 _) (sizeOf73 _) h fun a1 h=>ql (isAgg73 _) h fun o h=>q<|ln<|eg<|qb ?_
 have⟨i,a,h⟩:=h
 refine Kw (qE rfl) Kf a Kf<|h.mono ?_
 rintro e l ⟨b1,rfl,h⟩
 refine⟨_,rfl,?_⟩
 refine q (ln<|gw h ?_ ?_)<;>intro h
 refine er<|rF<|l0<|l0<|rF<|wo (.inl rfl) results188 ⟨rfl,h⟩
 refine zY<|pQ<|uH<|rg<|qb<|ln ⟨((q6.wrap<|d+1),l),⟨rfl,hm,h.1⟩,h.2⟩
 refine tQ<|ry<|ry<|vn<|wo (.inr rfl) results188 ⟨rfl,h⟩
def Nm(s1:Sl)(n:Value)(o:World)(K:Sl->WP):Prop:=∀e q,av o (.cells #[s1.v] 46) e q->∃(p:FuncId) (j:Array Value),n=.func (.func p) #[] j/\(∀args w,(callFunc p args).run prog w=.ok (.enter p args) w)/\∃(c:List (Int)) (i:WP),sK prog p j (fun(h:Int)=>#[(vi h)]) c i q/\∃(m:List (Int)->NP->WP),AA o i m (fun _ _ _=>False) (fun _ _ _=>False)/\m [] ar q/\(∀(a:List (Int)) (h:Int) (l:NP) (g:World),m a l g->af o l g l g->(∃k,c=a++h ::k)->lx g e fun A=>∀x t,av g (.cells #[(vi h)] 73) x t->∃u:Sl,∃r:World,(Builtin.append_ #[46,46] 46 #[A.v,(Sl.mk (some x) 1 1).v]).run prog t=.ok u.v r/\aj ar t r/\zL r e/\¬ar e.block/\∀s,s=r.setCell e u.v->aj l g s/\m (a++[h]) l s)/\∀d f,af o d f d f->(∀b,ar b->d b)->aj ar q f->m c d f->lx f e fun z=>∀y,af o d f d y->K z y
def Tc(s1 seq1 w0 K)(h:Nm s1 seq1 w0 K):
  cl 276 #[s1.v,seq1] w0<|XA K:=by
 refine cw (args:=[s1.v,seq1]) func276 ntmps276 ?_
 have⟨hs,a⟩:=su w0
 refine eg<|sq hs a h xb fun T U hs a h=>q<|ln<|Fa<|rg<|q0 seq1<|ln ?_
 have⟨S,E,m,o,h⟩:=h
 have⟨N,C,ie,J,t,L,c,h⟩:=h
 refine D3 (encs:=(fun(e:Int)=>#[(vi e)])) (Eq.trans (b:=seq1) Kf m) o ie (fun _=>rfl) De hs J (fun _ _ _=>False) (fun _ _ _=>False) t L ?ha ?hr ?ht
 case ha =>
  intro l e V
  refine rg<|q<|ln ⟨rfl,?_⟩
  intro j I y hi M d
  have h:=c j e I y hi M d
  have⟨hs,a⟩:=su y
  refine vN<|rg<|ql (isAgg46 _) h fun Q h=>q<|xP (O:=(.cells #[(vi e)] 73)) (fun p=>(Sl.mk (some p) 1 1).v) (qE rfl) (Of (vs:=#[(0,(vi e))]) Kf Kf) ?_
  intro w R f
  have h:=h w R f
  have⟨hs,a⟩:=hs.nw a f
  have⟨z,Y,n,G,h⟩:=h
  refine st (v:=z.v) (qE rfl) (Bq (args:=#[Q.v,(Sl.mk (some w) 1 1).v]) Kf (fun _=>rfl) n) ?_
  have⟨hs,a⟩:=G.hh hs a
  refine j6 (sizeOf46 _) hs a h fun X hs a h=>vI<|pQ ?_
  exact EV h
 case hr =>
  intro W A H k F r x i g
  have u:=a.tk i x F r
  have hs:=k
  have a:=u
  have h:=h A H hs x i<|g.elim id fun h=>h.elim fun _ h=>h.elim
  refine eg<|ql (isAgg46 _) h fun P h=>q<|ln<|er<|AO a.Bg ?_
  intro D s
  have B:=a.AJ hs s
  have⟨hs,a⟩:=B
  -- tk the loop
  have⟨h,hs⟩:=hs.hr<|h D
  refine Bw results276 ⟨P,rfl,h⟩
 case ht =>
  intro _ _ _ _ _ _ _ h
  exact h.elim
end Go.Proofs
end
section
open Go Go.SE List
namespace Go.SE
def bg.bk{w w' X e sz s rs}(h:bg w e sz s rs)(f:aj X w w')(d:∀b,s.aq b->X b):bg w' e sz s rs:=by
 refine⟨h.mx,h.len,?_⟩;rcases h.ak with i|⟨g,cur,c,a,r⟩;exact .inl i;exact .inr ⟨g,cur,c,by rw[f.gq g (xA a)<|d g ⟨_,c,rfl⟩];exact a,r⟩
end Go.SE
namespace Go.Proofs
def RZ{L}(c:Wf L){t}(ht:al L t=true)(n)(st:(Int->Bool)×List Int):(zB<|ad L t).foldl (fun st k=>yX L n k st) st=yX L n (ad L t).b (yX L n (ad L t).a st):=by
 have z:∀st,yX L n 0 st=st:=fun st=>by
  cases n with
  |zero=>rfl
  |succ n=>rw[yX,if_neg<|by simp[al]]
 have h1:=(c.node ht).2.1;have h2:=(c.node ht).2.2.1;unfold zB;rcases yM (ad L t).kind with e|e|e;rw[e,h1 Om,h2 Om,z,z];rfl;rw[e,h2 Om,z];rfl;rw[e];rfl
end Go.Proofs
namespace Go.Proofs
open Tryz
attribute [local irreducible] Calls
def yc(M:List Int):List (Int×Unit):=M.map fun t=>(t,())
def Sn(M):(yc M).map Prod.fst=M:=by simp[yc,Function.comp_def]
def I0(_:Unit):Value:=vi 1
structure uj(w:World)(p c1 c2 c3 c4:Addr)(m:Nat)(so:Sl)(L:aw)(FP:NP)(st:(Int->Bool)×List Int):Prop where
 b1:ai w c1 [.map<|some m] 231
 b2:ai w c2 [vp<|some p] 91
 b3:ai w c3 [.func (.func 267) #[] #[vp<|some c1,vp<|some c2,vp<|some c3,vp<|some c4]] 192
 b4:ai w c4 [so.v] 46
 mp:∃M,fc I0 w m (yc M)/\∀x,st.1 x=decide (x∈M)
 iw:bg w 73 1 so (cd st.2)
 bl:zD w p L FP
 n4:c4.block≠c1.block/\c4.block≠c2.block/\c4.block≠c3.block/\c4.block≠m
 nm:m≠c1.block/\m≠c2.block/\m≠c3.block
 ns:∀b,so.aq b->b≠c1.block/\b≠c2.block/\b≠c3.block/\b≠c4.block/\b≠m
 nf:∀b,FP b->b≠c4.block/\b≠m/\¬so.aq b
def DT(c4:Addr)(m:Nat)(so:Sl)(b:Nat):Prop:=b=c4.block\/b=m\/so.aq b
section
variable {w w':World} {p c1 c2 c3 c4:Addr} {m:Nat} {so:Sl} {L:aw} {FP:NP} {st:(Int->Bool)×List Int}
def uj.pure(h:uj w p c1 c2 c3 c4 m so L FP st)(E:Pure w w'):uj w' p c1 c2 c3 c4 m so L FP st:=
 ⟨h.b1.pure E,h.b2.pure E,h.b3.pure E,h.b4.pure E,let ⟨M,h1,h2⟩:=h.mp;⟨M,h1.pure E,h2⟩,h.iw.pure E,h.bl.pure E,h.n4,h.nm,h.ns,h.nf⟩
end
def jcx(p c1 c2 c3 c4:Addr)(m:Nat){L:aw}{FP:NP}(R:Wf L):∀(n:Nat) (t:Int) (s:World) (st:(Int->Bool)×List Int) (so:Sl),t.toNat<n->al L t=true->uj s p c1 c2 c3 c4 m so L FP st->td L st->(∀y,st.1 y=true->y<=t->y∈st.2) ->
  cl 267 #[vi t,vp (some c1),vp (some c2),vp (some c3),vp (some c4)] s (fun e w'=>e=.returned (.tuple #[])/\∃o,uj w' p c1 c2 c3 c4 m o L FP (yX L n t st)/\ab (DT c4 m so) s w'/\∀b,o.aq b->so.aq b\/s.heap.size<=b):=by
 intro n
 induction n with
 |zero=>intro t s st so h;omega
 |succ n ih =>
 intro t s st so hn J h au hm
 have hR:=tb R (n+1) t st hn au hm
 suffices key:∀K:WP,(∀o w',uj w' p c1 c2 c3 c4 m o L FP (yX L (n+1) t st)->ab (DT c4 m so) s w'->(∀b,o.aq b->so.aq b\/s.heap.size<=b)->K w')->Fu t c1 c2 c3 c4 s K from
  jaN _ _ _ _ _ s _ (key _ Gd)
 intro K O
 unfold Fu
 have⟨M,hM,hV⟩:=h.mp
 have hz:∀w,(zeroValue 3).run prog w=.ok (vi 0) w:=fun w=>zeroValue3 w
 rcases hM.get underlying231 underlying73 (hz s) t false with⟨hno,hl⟩|⟨u,hyes,hl⟩
 have hnot:t∉M:=by have:=uV.1 hno;rwa [Sn]at this
 have hv:st.1 t=false:=by rw[hV];simpa using hnot
 rw[yX,if_pos ⟨J,hv⟩]at O hR
 refine⟨some m,h.b1.bf,0,hl,Br.f Sm ?_⟩
 have⟨W,hu,hM1,E⟩:=hM.put (f:=I0) underlying231 underlying73 hno ()
 refine⟨some m,h.b1.bf,0,hl,W,by rw[i64 Om Om];exact hu,?_⟩
 have Z:uj W p c1 c2 c3 c4 m so L FP (gu st.1 t true,st.2):=
  ⟨h.b1.ext E fun e=>h.nm.1 e.symm,h.b2.ext E fun e=>h.nm.2.1 e.symm,h.b3.ext E fun e=>h.nm.2.2 e.symm,h.b4.ext E h.n4.2.2.2,
  ⟨M ++ [t], by rw[show yc (M ++ [t]) = yc M ++ [(t, ())] by simp[yc]]; exact hM1, fun x => by
    simp only[gu,mem_append,mem_singleton];by_cases e:x=t;simp[e];rw[if_neg e,hV];simp[e]⟩,
  h.iw.ext E fun b d=>(h.ns b d).2.2.2.2,h.bl.ext E fun b d=>(h.nf b d).2.1,h.n4,h.nm,h.ns,h.nf⟩
 refine⟨some p,Z.b2.bf,?_⟩
 refine(QV p t W Z.bl R.ok).mono ?_
 rintro _ w2 ⟨r1,rfl,X,E2⟩
 refine⟨_,rfl,?_⟩
 have A2:=Z.pure E2
 have o1:td L (gu st.1 t true,st.2):=⟨fun y C=>by simp only[gu];split<;>simp[au.Av y C],au.sL,au.nd,au.iq⟩
 have D:=(R.node J).2.2.2.2.1
 have hlen:(zB (ad L t)).length<=2:=by rw[zB];simp;omega
 generalize V:zB (ad L t)=l at *
 let sj:Nat->(Int->Bool)×List Int:=fun j=>(l.take j).foldl (fun st k=>yX L n k st) (gu st.1 t true,st.2)
 have good:∀j,j<=l.length->td L (sj j)/\∀y,(sj j).1 y=true->y<t->y∈(sj j).2:=by
  intro j;induction j with
  |zero =>
   intro _
   refine⟨o1,fun y C N=>?_⟩
   simp only[sj,take_zero,foldl_nil,gu]at C|-
   rw[if_neg Om]at C
   exact hm y C Om
  |succ j ihj =>
   intro hj
   have⟨g1,g2⟩:=ihj Om
   have hk:=D l[j] (getElem_mem _)
   have hk1:=(zI.1 hk.1).1
   have e:sj (j+1)=yX L n l[j] (sj j):=by simp only[sj];rw[take_succ_eq_append_getElem Om,foldl_append];rfl
   have r:=tb R n l[j] (sj j) Om g1 Gd
   rw[e]
   refine⟨r.totd,fun y C N=>?_⟩
   rcases r.ue y C with h1|h1
   have⟨M',e',_⟩:=r.jf
   rw[e'];exact mem_append_left _ (g2 y h1 N)
   exact h1
 refine⟨fun x A=>∃(j:Nat) (o:Sl),x=j/\j<=l.length/\uj A p c1 c2 c3 c4 m o L FP (sj j)/\ab (DT c4 m so) w2 A/\∀b,o.aq b->so.aq b\/w2.heap.size<=b,fun x _=>((l.length:Int)-x).toNat,⟨0,so,rfl,Nat.zero_le _,A2,ab.refl _,fun b d=>.inl d⟩,?_⟩
 rintro _ Q ⟨j,q,rfl,hj,g,Y,f3⟩
 unfold MM
 have hlen1:r1.len=l.length:=by rw[X.len,vA]
 have hks3:dr (fun b=>W.heap.size<=b/\b<w2.heap.size) Q 1 r1 (cd l):=X.ext Y (fun b d S=>by
  rcases S with S|S|S;have:=Z.b4.lt;omega;have:m<W.heap.size:=hM1.lt;omega;have:=Z.iw.lt S;omega)
 have⟨g1,g2⟩:=good j hj
 refine⟨fun B=>?_,fun B=>?_⟩
 have B:j<l.length:=Oh (of_decide_eq_true B)
 have⟨a,hat,_,hv⟩:=uJ hks3 B
 refine⟨a,hat,_,hv,_,g.b3.bf,_,_,_,rfl,call267,?_⟩
 have hk:=D l[j] (getElem_mem _)
 have hk1:=(zI.1 hk.1).1
 refine(ih l[j] Q (sj j) q Om hk.1 g g1 fun y C hle=>g2 y C Om).mono ?_
 rintro _ w4 ⟨rfl,so4,A4,X4,f4⟩
 refine⟨rfl,⟨j+1,so4,zM B Om,B,?_,Y.cg X4 fun i hi d=>?_,fun b d=>?_⟩,?_⟩
 have e:sj (j+1)=yX L n l[j] (sj j):=by simp only[sj];rw[take_succ_eq_append_getElem Om,foldl_append];rfl
 rw[e];exact A4
 rcases d with d|d|d
 exact .inl d
 exact .inr (.inl d)
 exact .inr (.inr ((f3 i d).elim id fun h=>Om))
 rcases f4 b d with h1|h1
 exact f3 b h1
 have:=Y.size;right;omega
 rw[zM B Om]
 show((l.length:Int)-((j+1:Nat):Int)).toNat<((l.length:Int)-(j:Int)).toNat
 omega
 have B:j=l.length:=Oh (of_decide_eq_false B)
 subst B
 have es:sj l.length=yX L n (ad L t).b (yX L n (ad L t).a (gu st.1 t true,st.2)):=by
  rw[<-RZ R J,V];simp only[sj,take_length]
 simp only at O hR
 rw[<-es]at O hR
 generalize sj l.length=s3 at *
 refine⟨q,g.b4.bf,?_⟩
 intro p1 w4 h4
 have I:Pure Q w4:=ab.ax h4
 have hfew:s3.2.length<=65536:=Oi (xW g1.nd g1.iq) R.ok.ft
 have⟨z,w5,hr5,R5,X5,f5⟩:=(g.iw.pure I).append (P:=prog) (ty:=46) (c:=1) sZ (r:=[vi t]) (ai.bj h4).row rfl rfl (by rw[vA];omega) (by rw[vA];simp[maxLen];omega)
 have b5:=(g.b4.pure I).ext X5 fun d=>(g.ns _ d).2.2.2.1 rfl
 refine⟨z,w5,hr5,b5.gx Sm,?_⟩
 intro w6 h6
 have U:ab (·=c4.block) w5 w6:=by rw[h6];exact ab.setCell c4 _
 have b6:ai w6 c4 [z.v] 46:=by rw[h6];exact b5.jh
 have z1:=E.size
 have z2:=E2.size
 have z3:=Y.size
 have z4:=I.size
 have f5':∀b,z.aq b->q.aq b\/Q.heap.size<=b:=fun b d=>(f5 b d).imp_right fun h=>Om
 have ns':∀b,z.aq b->b≠c1.block/\b≠c2.block/\b≠c3.block/\b≠c4.block/\b≠m:=fun b d=>(f5' b d).elim (g.ns b) (fun hh=>by
  have q1:=g.b1.lt;have q2:=g.b2.lt;have q3:=g.b3.lt;have q4:=g.b4.lt;have q5:m<Q.heap.size:=by have⟨M',G,_⟩:=g.mp;exact G.lt
  exact⟨Om,Om,Om,Om,Om⟩)
 have up:∀{T:TypeId} {c:Addr} {vs:List Value},ai Q c vs T->¬q.aq c.block->c.block≠c4.block->ai w6 c vs T:=fun h h1 h2=>((h.pure I).ext X5 h1).ext U h2
 refine O z w6 ⟨up g.b1 (fun d=>(g.ns _ d).1 rfl) g.n4.1.symm,up g.b2 (fun d=>(g.ns _ d).2.1 rfl) g.n4.2.1.symm,up g.b3 (fun d=>(g.ns _ d).2.2.1 rfl) g.n4.2.2.1.symm,b6,?_,?_,((g.bl.pure I).ext X5 fun b d=>(g.nf b d).2.2).ext U fun b d e=>(g.nf b d).1 e,g.n4,g.nm,ns',fun b d=>⟨(g.nf b d).1,(g.nf b d).2.1,fun hh=>(f5' b hh).elim (g.nf b d).2.2 fun hh=>Oh (g.bl.lt d)⟩⟩ ?_ ?_
 have⟨M',G,hV'⟩:=g.mp
 exact⟨M',((G.pure I).ext X5 fun d=>(g.ns _ d).2.2.2.2 rfl).ext U g.n4.2.2.2.symm,hV'⟩
 show bg _ _ _ _ (cd (s3.2++[t]))
 rw[show cd (s3.2++[t])=cd s3.2++[[vi t]] by simp[cd]]
 exact R5.ext U Gd
 have f33:∀b,q.aq b->b<s.heap.size->so.aq b:=fun b d N=>(f3 b d).elim id fun h2=>Om
 refine(((E.mono fun b _ d=>.inr (.inl d)).fb E2).trans Y).cg ((I.pure (F:=DT c4 m q)).trans ((X5.mono fun b _ d=>.inr (.inr d)).trans (U.mono fun b _ e=>.inl e))) fun i hi d=>?_
 rcases d with d|d|d
 exact .inl d
 exact .inr (.inl d)
 exact .inr (.inr (f33 i d hi))
 grind
 have H:t∈M:=by have:=tT hyes;simp[yc]at this;exact this
 have hv:st.1 t=true:=by rw[hV];simpa using H
 rw[yX,if_neg (by simp[hv])]at O
 refine⟨some m,h.b1.bf,1,hl,Br.t Sm ?_⟩
 exact O so s h (ab.refl _) fun b d=>.inl d
def jda(p:Addr)(t:Int)(l:World){L:aw}{FP:NP}(hW:Wf L)(Y:zD l p L FP):
  cl 179 #[vp (some p),vi t] l (XA fun r w'=>fv l 73 1 (cd (dd L t)) r w'):=by
 refine jce _ _ l _ ?_
 intro v K h1 C S h2 z X h3 k I E
 have W:=ai.bj h1
 have V:=ai.bj h2
 have M:=fc.bj (f:=I0) h3
 have G:=ai.bj E
 have U:Pure l K:=ab.ax h1
 have J:Pure K S:=ab.ax h2
 have q:Pure S X:=ab.ax h3
 have m:Pure X I:=ab.ax E
 have s1:=h1.cu;have s2:=h2.cu;have s3:=h3.cu;have s4:=E.cu
 have z1:=U.size;have z2:=J.size;have z3:=q.size;have z4:=m.size
 have l1:=W.lt;have l2:=V.lt;have l3:=M.lt;have l4:=G.lt
 refine⟨G.gx Sm,fun D N=>?_⟩
 have s:ab (·=k.block) I D:=by rw[N];exact ab.setCell k _
 have F:ai D k [.map (some z.block)] 231:=by rw[N];exact G.jh
 intro j Q w
 have H:=ai.bj w
 have n:Pure D Q:=ab.ax w
 have s6:=w.cu;have z5:=s.size;have z6:=n.size;have l6:=H.lt
 refine⟨H.gx Sm,fun g O=>?_⟩
 have o:ab (·=j.block) Q g:=by rw[O];exact ab.setCell j _
 have u:ai g j [.func (.func 267) #[] #[vp (some k),vp (some v),vp (some j),vp (some C)]] 192:=by rw[O];exact H.jh
 have z7:=o.size
 have y:Pure l g:=((((((U.trans J).trans q).trans m).ak Om s).trans n).ak Om o)
 have P:∀{T:TypeId} {c:Addr} {vs:List Value},ai I c vs T->c.block≠k.block->c.block≠j.block->ai g c vs T:=fun h h1 h2=>((h.ext s h1).pure n).ext o h2
 have e:∀b,¬Sl.nil.aq b:=fun b d=>by have⟨a,h,_⟩:=d;cases h
 have A:uj g p k v j C z.block Sl.nil L FP (fun _=>false,[]):=
  ⟨(F.pure n).ext o Om,P (((W.pure J).pure q).pure m) Om Om,u,P ((V.pure q).pure m) Om Om,
  ⟨[],(((M.pure m).ext s Om).pure n).ext o Om,fun x=>Sm⟩,bg.nil _ _ _,Y.pure y,⟨Om,Om,Om,Om⟩,⟨Om,Om,Om⟩,fun b d=>(e b d).elim,fun b d=>by
   have:=Y.lt d;exact⟨Om,Om,e b⟩⟩
 refine⟨some p,A.b2.bf,?_⟩
 refine(y3 p t g A.bl).mono ?_
 rintro _ _ ⟨r1,rfl,rfl,rfl⟩
 refine⟨_,rfl,fun B=>?_,fun B=>?_⟩
 refine⟨_,A.b3.bf,_,_,_,rfl,call267,?_⟩
 refine(jcx p k v j C z.block hW (t.toNat+1) t g _ Sl.nil Om B A ⟨Sm,Sm,Sm,Sm⟩ Sm).mono ?_
 rintro _ w8 ⟨rfl,so,R,Z,f8⟩
 refine⟨rfl,so,R.b4.bf,R.iw,fun b d=>?_,y.cg Z fun i hi d=>?_⟩
 grind
 rcases d with d|d|d
 omega
 omega
 exact e _ d
 have:dd L t=[]:=by
  unfold dd;rw[yX,if_neg (by simp[B])]
 rw[this]
 exact⟨Sl.nil,A.b4.bf,bg.nil _ _ _,fun b d=>(e b d).elim,y⟩
def HW(p t w0):cl 131 #[vp<|some p,vi t] w0 (fun e w'=>∃r:Value,e=.returned r/\∃b a:Addr,r=.func (.func 178) #[] #[vp<|some b,vp<|some a]/\ai w' b [vp<|some p] 91/\ai w' a [vi t] 73/\Pure w0 w'):=by
 refine Wu _ _ w0 (fun r w'=>∃b a:Addr,r=.func (.func 178) #[] #[vp<|some b,vp<|some a]/\ai w' b [vp<|some p] 91/\ai w' a [vi t] 73/\Pure w0 w') ?_;intro b c h1 a d h2;exact⟨b,a,rfl,(ai.bj h1).pure<|ab.ax h2,ai.bj h2,(show Pure w0 c from ab.ax h1).trans<|ab.ax h2⟩
def Fx{p p2 p3 t w0 L FP}(s:Wf L)(M:zD w0 p L FP)(H:ai w0 p2 [vp<|some p] 91)(F:ai w0 p3 [vi t] 73):
  sK prog 178 #[vp<|some p2,vp<|some p3] (fun z:Int=>#[vi z]) (dd L t) (fun _=>True) w0:=by
 intro l J N W E _ K C c I
 refine(jaB (.func (.yield l) #[] #[]) p2 p3 W (fun A=>∃X,af W X A X A/\(J (dd L t) X A\/∃ba,N ba X A)) ?_).mono fun e A h=>⟨⟨_,h.1⟩,h.2⟩
 refine⟨some p,(H.pure E).bf,t,(F.pure E).bf,?_⟩
 refine(jda p t W s<|M.pure E).mono ?_
 rintro _ i ⟨r,rfl,hr⟩
 refine⟨_,rfl,?_⟩
 generalize q:dd L t=xs at *
 have B:xs.length<=65536:=by rw[<-q];have:=uW s t;have:=s.ok.ft;omega
 have m:af W ar W (fun b=>W.heap.size<=b/\b<i.heap.size) i:=⟨hr.pure.pure,fun _ h=>h.elim,fun b h=>.inr h.1,fun b h=>h.1,fun b h=>h.2,hr.pure.size⟩
 have D:∀b,r.aq b->W.heap.size<=b/\b<i.heap.size:=fun b w=>⟨hr.ak b w,hr.cm.lt w⟩
 refine⟨fun x A=>∃j:Nat,x=j/\j<=xs.length/\af W (fun b=>W.heap.size<=b/\b<i.heap.size) A (fun b=>W.heap.size<=b/\b<i.heap.size) A/\J (xs.take j) (fun b=>W.heap.size<=b/\b<i.heap.size) A/\bg A 73 1 r (cd xs),fun x _=>((xs.length:Int)-x).toNat,⟨0,rfl,Nat.zero_le _,m.fm,K _ _ _ _ _ I m,hr.cm⟩,?_⟩
 rintro _ A ⟨j,rfl,O,v,o,k⟩
 unfold MG
 have y:r.len=xs.length:=by rw[hr.cm.len,vA]
 refine⟨fun d=>?_,fun d=>?_⟩
 have d:j<xs.length:=Oh<|of_decide_eq_true d
 have⟨a,u,_,G⟩:=uJ k.el d
 refine⟨a,u,_,G,l,rfl,?_⟩
 refine(c (xs.take j) xs[j] _ A o v ⟨xs.drop<|j+1,by rw[<-drop_eq_getElem_cons d,take_append_drop]⟩).mono ?_
 rintro e A' (⟨rfl,n,g⟩|⟨rfl,n,g⟩)
 refine⟨_,rfl,Br.f rfl ⟨⟨j+1,zM d Om,d,v.ib n,by rw[take_succ_eq_append_getElem d];exact g,k.bk n D⟩,?_⟩⟩
 rw[zM d Om]
 show((xs.length:Int)-((j+1:Nat):Int)).toNat<((xs.length:Int)-(j:Int)).toNat
 omega
 exact⟨_,rfl,Br.t rfl ⟨_,v.ib n,.inr ⟨_,g⟩⟩⟩
 grind
end Go.Proofs
end
section
open Go Go.SE List
namespace Go.Proofs
open Tryz
attribute [local irreducible] Calls CallsD
def DN(a w':World)(bs:List UInt8)(x:Option Addr):Prop:=
 (∀q,(vB bs).1=some q->∃p F,x=some p/\zD w' p q F/\∀b,F b->a.heap.size<=b)/\((vB bs).1=none->x=none)
structure NZ(c w:World)(q a:Addr)(s:Sl)(bs:List UInt8)(L:aw)(r:Rd)(m:Nat)(S d F:NP)(f:List Nat)(e:Sl):Prop where
 st:pt w q a s bs L r m S d F
 pure:Pure c w
 oP:∀b,d b->c.heap.size<=b
 oa:c.heap.size<=a.block
 cm:bg w 3 1 e (cd<|f.map Int.ofNat)
 ak:∀b,e.aq b->c.heap.size<=b/\¬d b/\b≠a.block/\¬S b/\¬F b/\b≠m
def jXL:∀(l:List Int) (i:Nat) (z:Int),ia i l=i+l.length->ia i (l++[z])=if z=((i+l.length:Nat):Int)+1 then i+l.length+1 else i+l.length:=by
 intro l;induction l with
 |nil=>intro i z _;simp only[nil_append,ia,length_nil,Nat.add_zero]
 |cons s l a =>
  intro i z h
  rw[ia]at h
  rw[cons_append,ia]
  split
  grind
  grind
def WE:∀(l:List Int) (i:Nat) (z:Int) (post:List Int),ia i l=i+l.length->z≠((i+l.length:Nat):Int)+1->ia i (l++z ::post)=i+l.length:=by
 intro l;induction l with
 |nil=>intro i z post _ a;simp only[nil_append,ia,length_nil,Nat.add_zero]at *;rw[if_neg a]
 |cons s l b =>
  intro i z post h a
  rw[ia]at h
  rw[cons_append,ia]
  split
  grind
  grind
def jbT{p:NP}(sb:Sl)(bs:List UInt8)(t:World)(hs:dr p t 1 sb (dn bs))(hz:sb.a=none->sb=Sl.nil):
  cl 135 #[sb.v] t<|XY fun x y z w'=>y=(vB bs).2.1/\z=((vB bs).2.2:Int)/\DN t w' bs x/\Pure t w':=by
 refine jcQ sb t _ ?_
 unfold NM
 have hl:sb.len=bs.length:=by rw[hs.len,qC]
 have bad:∀(e:Int) (n:Nat) (w':World),vB bs=(none,e,n)->Pure t w'->e=(vB bs).2.1/\(n:Int)=((vB bs).2.2:Int)/\DN t w' bs none/\Pure t w':=fun e n w' h E=>by
  rw[h];exact⟨rfl,rfl,⟨fun q hq=>(by rw[h]at hq;cases hq),fun _=>rfl⟩,E⟩
 refine⟨fun l=>?_,fun l=>?_⟩
 have l:4096<bs.length:=Oh<|of_decide_eq_true l
 exact bad 1 0 t (by unfold vB;rw[if_pos l])<|ab.refl _
 have l:bs.length<=4096:=Oh<|of_decide_eq_false l
 refine⟨fun D=>?_,fun D=>?_⟩
 have D:bs.length=0:=Oh<|beq_iff_eq.1 D
 exact bad 3 0 t (by unfold vB;rw[if_neg Om,if_pos D])<|ab.refl _
 have D:bs.length≠0:=Oh<|beq_eq_false_iff_ne.1 D
 have htxt:vB bs=oB bs bs.length [] ⟨0,0,0⟩ []:=by unfold vB;rw[if_neg Om,if_neg D]
 refine(MB t).mono ?_
 rintro _ w1 ⟨_,rfl,q,rfl,E1,FP0,hP,hFP⟩
 refine⟨_,rfl,E1.bz,?_⟩
 refine(jcK sb bs w1 (hs.pure E1) hz Om).mono ?_
 rintro _ w2 ⟨_,rfl,a,s,rfl,hR,E2,ha,Q⟩
 refine⟨_,rfl,E2.bz,?_⟩
 refine(NV w2).mono ?_
 rintro _ w3 ⟨_,rfl,m,F,rfl,hK,E3,hm,hF⟩
 refine⟨_,rfl,E3.bz,?_⟩
 have z1:=E1.size;have z2:=E2.size;have z3:=E3.size
 have la:a.block<w2.heap.size:=hR.box.lt
 have hnil:∀b,¬Sl.nil.aq b:=fun b d=>by have⟨a,h,_⟩:=d;cases h
 have R3:NZ t w3 q a s bs [] ⟨0,0,0⟩ m s.aq FP0 F [] Sl.nil:=
  ⟨⟨(hP.pure E2).pure E3,hR.pure E3,hK,fun b d=>Oh<|Q b d,Om,fun b d=>by have h1:=hP.lt d;exact⟨Om,fun hh=>Oh<|Q b hh,fun hh=>Oh<|hF b hh,Om⟩,fun b d=>by have:=hF b d;exact⟨Om,fun hh=>Oh<|Q b hh⟩,Om,fun hh=>Oh<|Q _ hh⟩,(E1.trans E2).trans E3,hFP,Om,bg.nil _ _ _,fun b d=>(hnil b d).elim⟩
 refine⟨fun o Hl w=>∃(L:aw) (r:Rd) (B:List Nat) (C:NP) (n:Nat),Hl=ar/\NZ t w q a s bs L r m s.aq C F B o/\Wf L/\B.length=L.length/\B.length<=r.at_/\r.at_<=bs.length/\r.cq=0/\bs.length-r.at_<=n/\oB bs n L r B=vB bs,fun o _=>bs.length+1-o.len,⟨[],⟨0,0,0⟩,[],FP0,bs.length,rfl,R3,Wf.nil,rfl,Nat.zero_le _,Nat.zero_le _,rfl,Nat.le_refl _,htxt.symm⟩,?_⟩
 rintro o _ wl _ ⟨L,r,B,C,n,rfl,f,hW,hps,hpr,hra,Z,hn,g⟩
 unfold Nu
 have hpl:o.len=B.length:=by rw[f.cm.len,vA,length_map]
 refine(Wd a s bs r wl f.st.rd hra).mono ?_
 rintro _ w4 ⟨_,rfl,rfl,E4⟩
 refine⟨_,rfl,E4.bz,fun hc3=>?_,fun hc3=>?_⟩
 have T:r.at_<bs.length:=Oh<|of_decide_eq_true hc3
 obtain⟨n,rfl⟩:∃k,n=k+1:=⟨n-1,Om⟩
 rw[oB,if_pos T]at g
 have S4:=f.st.pure E4
 refine(jaw a s bs r w4 S4.rd).mono ?_
 rintro _ _ ⟨_,rfl,rfl,rfl⟩
 refine⟨_,rfl,aj.refl _,?_⟩
 refine(Te q a s bs r m S4 hW.ok T Z).mono ?_
 rintro _ w6 ⟨_,rfl,rfl,F',hP6,hR6,E6,hF6⟩
 have z4:=E4.size;have z6:=E6.size
 have E06:Pure t w6:=(f.pure.trans E4).cg E6 fun i hi hh=>hh.elim (fun hh=>Oh<|f.oP i hh) Gd
 refine⟨_,rfl,E6.bk fun b d=>d.elim,fun hc4=>?_,fun hc4=>?_⟩
 grind
 have h0:(vS bs L r).2.1=0:=by simpa using hc4
 rw[if_neg<|by simpa using h0]at g
 have⟨a1,a2,a3⟩:=IY bs L r T Z h0
 have hw6:Wf (vS bs L r).1/\(vS bs L r).1.length=L.length+1:=by
  rw[Ar bs L r T Z]at h0|-;split at h0;rename_i hk;rw[if_pos hk];have⟨_,_,e3,e4,e5⟩:=GW h0;rw[e5];simp only;refine⟨uT hW _,?_⟩;have l:=(xH e4).2.2;unfold ay at e4|-;simp only[e3]at e4|-;rw[if_neg (by rw[l];simp)]at e4|-;split at e4;simp at e4;grind;simp at h0
 intro p1 w7 n7
 have E7:Pure w6 w7:=ab.ax n7
 have z7:=E7.size
 have R7:bg w7 3 1 o (cd<|B.map Int.ofNat):=((f.cm.pure E4).ext E6 fun b d hh=>hh.elim (f.ak b d).2.1 (f.ak b d).2.2.1).pure E7
 have⟨s1,w8,hr8,hR8,I,hb8⟩:=R7.append (P:=prog) (ty:=42) (c:=1) yb (ai.fp n7).row rfl rfl (by rw[vA,length_map];omega) (by rw[vA,length_map];simp only[maxLen];omega)
 have hpw:∀b,o.aq b->b<wl.heap.size:=fun b d=>f.cm.lt d
 have z8:=I.size
 have E08:Pure t w8:=(E06.trans E7).cg I fun i hi hh=>Oh<|(f.ak i hh).1
 have X:∀b,F' b->¬o.aq b:=fun b d hh=>(hF6 b d).elim (fun h=>(f.ak b hh).2.1 h) Gd
 have p:=S4
 have S8:pt w8 q a s bs (vS bs L r).1 (vS bs L r).2.2 m s.aq F' F:=by
  refine⟨(hP6.pure E7).ext I X,(hR6.pure E7).ext I (fun b d hh=>(f.ak b hh).2.2.2.1 d) fun hh=>(f.ak _ hh).2.2.1 rfl,((p.mq.ext E6 fun b d hh=>?_).pure E7).ext I fun b d hh=>?_,fun b d=>Oh<|p.lS b d,Oh p.la,fun b d=>?_,p.dF,p.dm⟩;rcases d with d|rfl;exact hh.elim (fun hh=>(p.dP b hh).2.2.1 d) fun hh=>(p.dF b d).1 hh;exact hh.elim (fun hh=>(p.dP _ hh).2.2.2 rfl) fun hh=>p.dm.1 hh;rcases d with d|rfl;exact(f.ak b hh).2.2.2.2.1 d;exact(f.ak _ hh).2.2.2.2.2 rfl;rcases hF6 b d with h|h;exact p.dP b h;exact⟨Oh p.la,fun hh=>Oh<|p.lS b hh,fun hh=>Oh<|p.mq.lt b hh,Oh p.mq.ze⟩
 refine⟨s1,w8,hr8,I.bk fun b d=>d.elim,⟨(vS bs L r).1,(vS bs L r).2.2,B++[r.at_],F',n,rfl,⟨S8,E08,fun b d=>(hF6 b d).elim (f.oP b) fun h=>Oh f.pure.size,f.oa,?_,fun b d=>?_⟩,hw6.1,by rw[length_append,length_singleton,hw6.2];omega,by rw[length_append,length_singleton];omega,a2,a3,Om,g⟩,?_⟩
 have:cd ((B++[r.at_]).map Int.ofNat)=cd (B.map Int.ofNat)++[[vi (r.at_:Int)]]:=by simp[cd]
 rw[this];exact hR8
 rcases hb8 b d with h|h
 have:=f.ak b h
 exact⟨this.1,fun hh=>X b hh h,this.2.2⟩
 have h1:=f.pure.size
 exact⟨Om,fun hh=>Oh<|hP6.lt hh,Oh p.la,fun hh=>Oh<|p.lS b hh,fun hh=>Oh<|p.mq.lt b hh,Oh p.mq.ze⟩
 have h1:s1.len=B.length+1:=by rw[hR8.len,length_append,vA,length_map];rfl
 show bs.length+1-s1.len<bs.length+1-o.len
 omega
 have hge:¬r.at_<bs.length:=Oh<|of_decide_eq_false hc3
 rw[DH hge]at g
 intro u w9 n9
 have E9:Pure w4 w9:=ab.ax n9
 have B9:=ai.fp n9
 have b9:=n9.cu
 refine⟨B9.gx Sm,id,?_⟩
 rintro J e10
 have X10:ab (·=u.block) w9 J:=by rw[e10];exact ab.setCell _ _
 have B10:ai J u [vi 0] 3:=by rw[e10];exact B9.jh
 have z4:=E4.size;have z9:=E9.size;have z10:=X10.size
 have E4':Pure wl J:=(E4.trans E9).ak Om X10
 have zw:=f.pure.size
 have P10:=f.st.bl.pure E4'
 have R10:=f.cm.pure E4'
 refine(Hi q J P10).mono ?_
 rintro _ J ⟨_,rfl,rfl,rfl⟩
 refine⟨_,rfl,aj.refl _,?_⟩
 refine(HW q L.length J).mono ?_
 rintro _ w12 ⟨_,rfl,q2,q3,rfl,Bq2,Bq3,G⟩
 have z12:=G.size
 refine⟨_,rfl,G.bz,_,_,rfl,call178,_,_,Fx hW (P10.pure G) Bq2 Bq3,?_⟩
 have hfew:=uW hW L.length
 have hlf:=hW.ok.ft
 unfold pZ at g
 simp only at g
 generalize hxs:dd L L.length=xs at *
 have E012:Pure t w12:=(f.pure.trans E4').trans G
 have vb:∀b,(b=u.block\/C b\/o.aq b)->t.heap.size<=b:=fun b d=>d.elim (fun h=>Om) fun d=>d.elim (f.oP b) fun h=>(f.ak b h).1
 have dP2:¬C u.block/\¬o.aq u.block:=⟨fun hh=>Oh<|f.st.bl.lt hh,fun hh=>Oh<|f.cm.lt hh⟩
 refine⟨fun ba Y A=>ai A u [vi (ba.length:Int)] 3/\ia 0 ba=ba.length/\zD A q L C/\bg A 3 1 o (cd<|B.map Int.ofNat)/\(∀b,(b=u.block\/C b\/o.aq b)->¬Y b)/\Pure t A,
  fun ba Y A=>ai A u [vi (ia 0 xs:Int)] 3/\zD A q L C/\bg A 3 1 o (cd<|B.map Int.ofNat)/\(∀b,(b=u.block\/C b\/o.aq b)->¬Y b)/\Pure t A,⟨fun _ _ _ _=>trivial,?_,?_,fun _ _ _ _ _ h=>h.elim⟩,?_,?_,?_⟩
 rintro ba Y A Y' A' ⟨H,g2,O,N,W,R⟩ au
 have hv:∀b,(b=u.block\/C b\/o.aq b)->¬Y' b:=au.ji fun b d=>⟨d.elim (fun e=>e▸H.lt) fun d=>d.elim (fun h=>O.lt h) fun h=>N.lt h,W b d⟩
 exact⟨H.ext au.ext<|hv _<|.inl rfl,g2,O.ext au.ext Gd,N.ext au.ext Gd,hv,R.au au⟩
 rintro ba Y A Y' A' ⟨H,O,N,W,R⟩ au
 have hv:∀b,(b=u.block\/C b\/o.aq b)->¬Y' b:=au.ji fun b d=>⟨d.elim (fun e=>e▸H.lt) fun d=>d.elim (fun h=>O.lt h) fun h=>N.lt h,W b d⟩
 exact⟨H.ext au.ext<|hv _<|.inl rfl,O.ext au.ext fun b d=>hv b<|.inr<|.inl d,N.ext au.ext fun b d=>hv b<|.inr<|.inr d,hv,R.au au⟩
 exact⟨B10.pure G,rfl,P10.pure G,R10.pure G,fun _ _ h=>h,E012⟩
 rintro ba z Y A ⟨H,g2,O,N,W,R⟩ hsA ⟨post,K⟩
 have hpl2:ba.length<65536:=by have:=congrArg List.length K;simp only[length_append,length_cons]at this;omega
 have hw:IntKind.i64.wrap ((ba.length:Int)+1)=((ba.length+1:Nat):Int):=zM (n:=ba.length+1) Om Om
 refine⟨_,H.bf,fun l=>?_,fun l=>?_⟩
 have l:z≠((ba.length+1:Nat):Int):=by rw[hw]at l;exact bne_iff_ne.1 l
 have au:=WE ba 0 z post Om Om
 rw[<-K,Nat.zero_add]at au
 exact⟨aj.refl _,by rw[au];exact H,O,N,W,R⟩
 have l:z=((ba.length+1:Nat):Int):=by rw[hw]at l;simpa using l
 have hsn:=jXL ba 0 z Om
 rw[if_pos Om]at hsn
 refine⟨_,H.bf,H.gx Sm,id,?_⟩
 rintro w13 e13
 have U:ab (·=u.block) A w13:=by rw[e13];exact ab.setCell _ _
 have B13:ai w13 u [vi ((ba++[z]).length:Int)] 3:=by
  rw[e13,length_append,length_singleton,<-hw];exact H.jh
 exact⟨U.bk Gd,B13,by rw[hsn,length_append,length_singleton];omega,O.ext U fun b d e=>dP2.1<|e▸d,N.ext U fun b d e=>dP2.2<|e▸d,W,R.cg U fun i hi e=>Om⟩
 rintro H1 S hs14 _ _ hI
 have hI:ai S u [vi (ia 0 xs:Int)] 3/\zD S q L C/\bg S 3 1 o (cd<|B.map Int.ofNat)/\(∀b,(b=u.block\/C b\/o.aq b)->¬H1 b)/\Pure t S:=Gd
 have⟨H,O,N,W,R⟩:=hI
 refine⟨_,H.bf,fun l=>?_,fun l=>?_⟩
 have l:=vQ hpl l
 rw[dif_pos l]at g
 intro w15 M
 have hv15:∀b,(b=u.block\/C b\/o.aq b)->¬H1 b:=W
 have g1':=H.ext M.ext<|hv15 _<|.inl rfl
 have g4':=N.ext M.ext Gd
 have⟨a1,hat,_,hv5⟩:=uJ g4'.el (j:=ia 0 xs) (by simpa using l)
 refine⟨_,g1'.bf,a1,hat,_,hv5,fun w16 hs16=>?_⟩
 have:=bad _ _ w16 g.symm<|(R.au M).au hs16
 rw[getElem_map]
 exact this
 have l:¬ia 0 xs<B.length:=Oh<|of_decide_eq_false l
 rw[dif_neg l]at g
 intro w17 V
 have hF17:zD w17 q L C:=O.ext V.ext Gd
 rw[<-g]
 exact⟨rfl,rfl,⟨fun q' hq'=>by rw[<-g]at hq';cases hq';exact⟨q,C,rfl,hF17,f.oP⟩,fun hn=>by rw[<-g]at hn;cases hn⟩,R.au V⟩
def DN.bl{w0 w' bs x}(h:DN w0 w' bs x){q}(a:(vB bs).1=some q):∃p F,x=some p/\zD w' p q F/\∀b,F b->w0.heap.size<=b:=h.1 q a
end Go.Proofs
end
section
open Go Go.SE
namespace Go.Proofs
def PM(Lq):∀(c d:List Int) (L:aw) (ak:Int->Int),zU Lq (c++d) L ak=if(zU Lq c L ak).2.1≠0 then zU Lq c L ak else zU Lq d (zU Lq c L ak).1 (zU Lq c L ak).2.2:=by
 intro c;induction c with
 |nil=>intro d L ak;rw[List.nil_append];exact(if_neg fun h=>h rfl).symm
 |cons z c i =>
  intro d L ak
  obtain⟨x,e,f,hm⟩:∃x e f,ay L { ad Lq z with a:=ak (ad Lq z).a,b:=ak (ad Lq z).b }=(x,e,f):=⟨_,_,_,rfl⟩
  rw[List.cons_append,qG Lq z (c++d) L ak rfl hm,qG Lq z c L ak rfl hm]
  by_cases g:e≠0
  grind
  grind
def Fq(Lq):∀(l:List Int) (L:aw) (ak:Int->Int),∃M,(zU Lq l L ak).1=L++M:=by
 intro l;induction l with
 |nil=>intro L ak;exact⟨[],(List.append_nil L).symm⟩
 |cons z l f =>
  intro L ak
  obtain⟨x,e,c,hm⟩:∃x e c,ay L { ad Lq z with a:=ak (ad Lq z).a,b:=ak (ad Lq z).b }=(x,e,c):=⟨_,_,_,rfl⟩
  rw[qG Lq z l L ak rfl hm]
  split
  exact⟨[],Sm⟩
  have⟨g,d⟩:=yU L { ad Lq z with a:=ak (ad Lq z).a,b:=ak (ad Lq z).b }
  rw[hm]at d
  have⟨h,i⟩:=f c fun y=>if y=z then x else ak y
  simp only at d
  exact⟨g++h,by rw[i,d,List.append_assoc]⟩
def O0{Lq}:∀(l:List Int) (L:aw) (ak:Int->Int),Wf L->Wf (zU Lq l L ak).1:=by
 intro l;induction l with
 |nil=>intro L ak h;exact h
 |cons z l f =>
  intro L ak h
  obtain⟨x,e,c,hm⟩:∃x e c,ay L { ad Lq z with a:=ak (ad Lq z).a,b:=ak (ad Lq z).b }=(x,e,c):=⟨_,_,_,rfl⟩
  have d:=uT h { ad Lq z with a:=ak (ad Lq z).a,b:=ak (ad Lq z).b }
  rw[qG Lq z l L ak rfl hm]
  rw[hm]at d
  split
  exact h
  exact f _ _ d
def Lp{Lq l post z L}{ak:Int->Int}(g:(zU Lq l L ak).2.1=0){n}(f:{ ad Lq z with a:=(zU Lq l L ak).2.2 (ad Lq z).a,b:=(zU Lq l L ak).2.2 (ad Lq z).b }=n)(c:(ay (zU Lq l L ak).1 n).2.1≠0):
  (zU Lq (l++z ::post) L ak).2.1=(ay (zU Lq l L ak).1 n).2.1:=by
 obtain⟨x,e,d,hm⟩:∃x e d,ay (zU Lq l L ak).1 n=(x,e,d):=⟨_,_,_,rfl⟩
 rw[hm]at c|-
 rw[PM,if_neg Gd,qG Lq z post _ _ f hm,if_pos c]
def K4{Lq l z L}{ak:Int->Int}(g:(zU Lq l L ak).2.1=0){n}(f:{ ad Lq z with a:=(zU Lq l L ak).2.2 (ad Lq z).a,b:=(zU Lq l L ak).2.2 (ad Lq z).b }=n)(c:(ay (zU Lq l L ak).1 n).2.1=0):
  zU Lq (l++[z]) L ak=((ay (zU Lq l L ak).1 n).2.2,0,fun x=>if x=z then(ay (zU Lq l L ak).1 n).1 else(zU Lq l L ak).2.2 x):=by
 obtain⟨x,e,d,hm⟩:∃x e d,ay (zU Lq l L ak).1 n=(x,e,d):=⟨_,_,_,rfl⟩
 rw[hm]at c|-
 rw[PM,if_neg Gd,qG Lq z [] _ _ f hm,if_neg fun h=>h c]
 rfl
end Go.Proofs
namespace Go.Proofs
open Tryz
attribute [local irreducible] Calls CallsD
def LF{w:World}{a:Addr}{k:Nat}{v:Value}:ab (·=a.block) w (w.setCell (a.add k) v):=(ab.setCell _ _).mono (fun i _ e=>by rw[zC]at e;exact e)
def yw(M:List (Int×Int))(x:Int):Int:=(SE.eu M x).getD 0
def II(c a h g e f:Addr)(d:Nat)(F' FQ:NP)(b:Nat):Prop:=b=c.block\/b=a.block\/b=h.block\/b=g.block\/b=e.block\/b=f.block\/b=d\/F' b\/FQ b
structure rE(A:World)(p q b a g f d e:Addr)(c n:Nat):Prop where
 b2:ai A b [vp<|some p] 91
 b3:ai A a [vp<|some q] 91
 b4:ai A g [vi 0] 73
 b5:ai A f [vi 0] 54
 b6:ai A d [vi (n:Int)] 3
 b8:ai A e [.map<|some c] 197
def rE.ext{A A':World}{p q d e i g c f:Addr}{j n:Nat}{F' FQ G:NP}(h:rE A p q d e i g c f j n)(E:ab G A A')(a:∀b,(b=d.block\/b=e.block\/b=i.block\/b=g.block\/b=c.block\/b=f.block)->¬G b):rE A' p q d e i g c f j n:=
 ⟨h.b2.ext E<|a _<|.inl rfl,h.b3.ext E<|a _<|.inr<|.inl rfl,h.b4.ext E<|a _<|.inr<|.inr<|.inl rfl,h.b5.ext E<|a _<|.inr<|.inr<|.inr<|.inl rfl,h.b6.ext E<|a _<|.inr<|.inr<|.inr<|.inr<|.inl rfl,h.b8.ext E<|a _<|.inr<|.inr<|.inr<|.inr<|.inr rfl⟩
def rE.pure{A A':World}{p q b a g f d e:Addr}{c n:Nat}(h:rE A p q b a g f d e c n)(E:Pure A A'):rE A' p q b a g f d e c n:=h.ext (F':=ar) (FQ:=ar) E fun _ _ h=>h
def rE.lt{A p q p2 p3 p4 p5 p6 p8 mb n b}(h:rE A p q p2 p3 p4 p5 p6 p8 mb n)(a:b=p2.block\/b=p3.block\/b=p4.block\/b=p5.block\/b=p6.block\/b=p8.block):b<A.heap.size:=by
 rcases a with rfl|rfl|rfl|rfl|rfl|rfl;exact h.b2.lt;exact h.b3.lt;exact h.b4.lt;exact h.b5.lt;exact h.b6.lt;exact h.b8.lt
def Lm(p q:Addr)(t:Int)(n:World){L Lq:aw}{X FQ:NP}(hW:Wf L)(hQ:Wf Lq)(hP:zD n p L X)(hPQ:zD n q Lq FQ)(hd:∀b,X b->¬ FQ b):
  cl 69 #[vp<|some p,vp<|some q,vi t] n<|XH fun r1 r2 w'=>r1=(vH L Lq t).1/\r2=(vH L Lq t).2.1/\∃F',zD w' p (vH L Lq t).2.2 F'/\ab X n w'/\∀b,F' b->X b\/n.heap.size<=b:=by
 refine jcS _ _ _ n _ ?_
 intro R w1 n2 W w2 n3 j w3 n4 l w4 n5
 have E1:Pure n w1:=ab.ax n2
 have E2:Pure w1 w2:=ab.ax n3
 have E3:Pure w2 w3:=ab.ax n4
 have E4:Pure w3 w4:=ab.ax n5
 have B2:=(((ai.fp n2).pure E2).pure E3).pure E4
 have B3:=((ai.fp n3).pure E3).pure E4
 have B4:=(ai.fp n4).pure E4
 have B5:=ai.fp n5
 have b2:=n2.cu;have b3:=n3.cu;have b4:=n4.cu;have b5:=n5.cu
 have z1:=E1.size;have z2:=E2.size;have z3:=E3.size;have z4:=E4.size
 have l1:=(ai.fp n2).lt;have l2:=(ai.fp n3).lt;have l3:=(ai.fp n4).lt;have l4:=B5.lt
 have E04:Pure n w4:=((E1.trans E2).trans E3).trans E4
 refine⟨some p,B2.bf,fun hc=>(by cases hc),fun _=>⟨some q,B3.bf,?_⟩⟩
 refine(y3 q t w4<|hPQ.pure E04).mono ?_
 rintro _ _ ⟨_,rfl,rfl,rfl⟩
 refine⟨_,rfl,aj.refl _,fun hc=>?_,fun hc=>?_⟩
 have hin:al Lq t=false:=by simpa using hc
 have e:vH L Lq t=(0,51,L):=by unfold vH;rw[if_neg (by rw[hin];simp)]
 rw[e]
 refine⟨B4.gx Sm,id,?_⟩
 rintro w8 e8
 have X8:ab (·=j.block) w4 w8:=by rw[e8];exact ab.setCell _ _
 have B48:ai w8 j [vi 0] 73:=by rw[e8];exact B4.jh
 have B58:=B5.ext X8 Om
 refine⟨B58.gx Sm,id,?_⟩
 rintro w9 e9
 have X9:ab (·=l.block) w8 w9:=by rw[e9];exact ab.setCell _ _
 have B59:ai w9 l [vi 51] 54:=by rw[e9];exact B58.jh
 have B49:=B48.ext X9 Om
 refine⟨_,B49.bf,_,B59.bf,rfl,rfl,X,((hP.pure E04).ext X8 fun b d e=>Oh<|hP.lt d).ext X9 fun b d e=>Oh<|hP.lt d,ab.pure<|(E04.ak Om X8).ak Om X9,fun b d=>.inl d⟩
 have hin:al Lq t=true:=by simpa using hc
 obtain⟨sl,hsl,hsll⟩:∃v4:Sl,w4.cell? p=some v4.v/\v4.len=L.length:=by
  have⟨s,m,h,_⟩:=hP.pure E04;exact⟨s,h.box.bf,by rw[h.cm.len,List.length_map]⟩
 refine⟨some p,B2.bf,p,rfl,sl,hsl,?_⟩
 rw[hsll]
 intro F w10 n6
 have E10:Pure w4 w10:=ab.ax n6
 have B6:=ai.fp n6
 have b6:=n6.cu
 refine⟨B6.gx Sm,id,?_⟩
 rintro w11 e11
 have X11:ab (·=F.block) w10 w11:=by rw[e11];exact ab.setCell _ _
 have B6':ai w11 F [vi (L.length:Int)] 3:=by rw[e11];exact B6.jh
 intro p7 w12 n7
 have E12:Pure w11 w12:=ab.ax n7
 have M7:=fc.bj (f:=fun i:Int=>vi i) n7
 have b7:=n7.cu
 intro C w13 n8
 have O:Pure w12 w13:=ab.ax n8
 have B8:=ai.fp n8
 have b8:=n8.cu
 refine⟨B8.gx Sm,id,?_⟩
 rintro Q e14
 have U:ab (·=C.block) w13 Q:=by rw[e14];exact ab.setCell _ _
 have B8':ai Q C [.map<|some p7.block] 197:=by rw[e14];exact B8.jh
 have z10:=E10.size;have z11:=X11.size;have z12:=E12.size;have z13:=O.size;have z14:=U.size
 have l6:=B6'.lt;have l7:=M7.lt;have l8:=B8.lt
 have E07:Pure n Q:=((((E04.trans E10).ak Om X11).trans E12).trans O).ak Om U
 have up:∀{T:TypeId} {c:Addr} {vs:List Value},ai w4 c vs T->c.block≠F.block->c.block≠C.block->ai Q c vs T:=fun h h1 h2=>((((h.pure E10).ext X11 h1).pure E12).pure O).ext U h2
 have C14:rE Q p q R W j l F C p7.block L.length:=⟨up B2 Om Om,up B3 Om Om,up B4 Om Om,up B5 Om Om,((B6'.pure E12).pure O).ext U Om,B8'⟩
 have M14:=(M7.pure O).ext U Om
 refine⟨some q,C14.b3.bf,?_⟩
 refine(HW q t Q).mono ?_
 rintro _ w15 ⟨_,rfl,q2,q3,rfl,Bq2,Bq3,E15⟩
 have E015:=E07.trans E15
 have z15:=E15.size
 refine⟨_,rfl,E15.bz,_,_,rfl,call178,_,_,Fx hQ (hPQ.pure E015) Bq2 Bq3,?_⟩
 have hfew:=uW hQ t
 have hlq:=hQ.ok.ft
 have hsub:∀u∈dd Lq t,al Lq u=true:=fun u hu=>xE hQ hu
 have hnd:=AW hQ t
 generalize ez:vH L Lq t=cs at *
 have hcs':cs=if(zU Lq (dd Lq t) L fun _=>0).2.1≠0 then(0,(zU Lq (dd Lq t) L fun _=>0).2.1,L)else((zU Lq (dd Lq t) L fun _=>0).2.2 t,0,(zU Lq (dd Lq t) L fun _=>0).1):=by rw[<-ez];unfold vH;rw[if_pos hin]
 have htin:t∈dd Lq t:=Dm hQ hin
 generalize dd Lq t=xs at *
 have C15:=C14.pure E15
 have M15:=M14.pure E15
 have o2:n.heap.size<=R.block:=Om
 have o3:n.heap.size<=W.block:=Om
 have o4:n.heap.size<=j.block:=Om
 have o5:n.heap.size<=l.block:=Om
 have o6:n.heap.size<=F.block:=Om
 have o8:n.heap.size<=C.block:=Om
 have om:n.heap.size<=p7.block:=Om
 have d45:j.block≠l.block:=Om
 have dm:∀b,(b=R.block\/b=W.block\/b=j.block\/b=l.block\/b=F.block\/b=C.block)->b≠p7.block:=fun b d=>by rcases d with rfl|rfl|rfl|rfl|rfl|rfl<;>omega
 have ob:∀b,(b=R.block\/b=W.block\/b=j.block\/b=l.block\/b=F.block\/b=C.block\/b=p7.block)->n.heap.size<=b/\b<w15.heap.size:=fun b d=>by rcases d with rfl|rfl|rfl|rfl|rfl|rfl|rfl<;>omega
 generalize p7.block=r at *
 clear up B2 B3 B4 B5 B6 B6' B8 B8' M7 M14 C14 n2 n3 n4 n5 n6 n7 n8 X11 U E10 E12 O e11 e14 Bq2 Bq3 hsl
 have hPq:∀b,FQ b->b<n.heap.size:=fun b d=>hPQ.lt d
 refine⟨fun ba Y A=>∃(F':NP) (M:List (Int×Int)),(zU Lq ba L fun _=>0).2.1=0/\zD A p (zU Lq ba L fun _=>0).1 F'/\fc (fun i:Int=>vi i) A r M/\M.map Prod.fst=ba/\(∀x,(zU Lq ba L fun _=>0).2.2 x=yw M x)/\rE A p q R W j l F C r L.length/\zD A q Lq FQ/\(∀b,F' b->X b\/(n.heap.size<=b/\¬(b=R.block\/b=W.block\/b=j.block\/b=l.block\/b=F.block\/b=C.block\/b=r)))/\(∀b,II R W j l F C r F' FQ b->¬Y b)/\ab X n A/\w15.heap.size<=A.heap.size,
  fun ba Y A=>∃(F':NP) (e:Int),cs=(0,e,L)/\zD A p L F'/\ai A j [vi 0] 73/\ai A l [vi e] 54/\(∀b,F' b->X b\/n.heap.size<=b)/\(∀b,(b=j.block\/b=l.block\/F' b)->¬Y b)/\ab X n A,⟨fun _ _ _ _=>trivial,?_,fun _ _ _ _ _ h=>h.elim,?_⟩,?_,?_,?_,?_⟩
 rintro ba Y A Y' A' ⟨F',M,g1,g2,Z,g4,g5,D,g7,g8,B,S,g11⟩ au
 have N:∀b,II R W j l F C r F' FQ b->¬Y' b:=au.ji (fun b d=>⟨by
  rcases d with d|d|d|d|d|d|d|d|d;exact D.lt<|.inl d;exact D.lt<|.inr<|.inl d;exact D.lt<|.inr<|.inr<|.inl d;grind;grind;grind;exact d▸Z.lt;exact g2.lt d;exact g7.lt d,B b d⟩)
 exact⟨F',M,g1,g2.ext au.ext fun b d=>N b<|.inr<|.inr<|.inr<|.inr<|.inr<|.inr<|.inr<|.inl d,Z.ext au.ext<|N _<|.inr<|.inr<|.inr<|.inr<|.inr<|.inr<|.inl rfl,g4,g5,D.ext (F':=F') (FQ:=FQ) au.ext fun b d=>N b (by rcases d with h|h|h|h|h|h<;>simp only[II,h,true_or,or_true]),g7.ext au.ext fun b d=>N b<|.inr<|.inr<|.inr<|.inr<|.inr<|.inr<|.inr<|.inr d,g8,N,S.au au,Nat.le_trans g11 au.ext.size⟩
 rintro ba Y A Y' A' ⟨F',e,g1,g2,Z,g4,g5,D,g7⟩ au
 have N:∀b,(b=j.block\/b=l.block\/F' b)->¬Y' b:=au.ji (fun b d=>⟨by
  rcases d with d|d|d;exact d▸Z.lt;exact d▸g4.lt;exact g2.lt d,D b d⟩)
 exact⟨F',e,g1,g2.ext au.ext fun b d=>N b<|.inr<|.inr d,Z.ext au.ext<|N _<|.inl rfl,g4.ext au.ext<|N _<|.inr<|.inl rfl,g5,N,g7.au au⟩
 exact⟨X,[],rfl,hP.pure E015,M15,rfl,fun _=>rfl,C15,hPQ.pure E015,fun b d=>.inl d,fun _ _ h=>h,ab.pure E015,Nat.le_refl _⟩
 rintro ba z Y A ⟨F',M,g1,g2,Z,g4,g5,D,g7,g8,B,S,g11⟩ hsA ⟨post,hpost⟩
 have hzin:al Lq z=true:=hsub z (by rw[hpost];simp)
 have hzn:z∉ba:=Gd
 generalize o:zU Lq ba L (fun _=>0)=g at *
 have hok:Ok g.1:=by rw[<-o];exact(O0 ba L _ hW).ok
 have hA0:=hsA.lt
 refine⟨some q,D.b3.bf,?_⟩
 refine(tj q z A g7 hQ.ok).mono ?_
 rintro _ w16 ⟨k,f,t',u,x,a,b,r3,rfl,⟨hn,_⟩,E16⟩
 have z16:=E16.size
 refine⟨_,_,_,_,_,_,_,_,rfl,E16.bk fun b d=>d.elim,?_⟩
 intro p9 w17 n9
 have E17:Pure w16 w17:=ab.ax n9
 have B9:=ai.fp n9
 have b9:=n9.cu
 have z17:=E17.size
 refine⟨B9.uo Sm,id,?_⟩
 rintro V e18
 have X18:ab (·=p9.block) w17 V:=by rw[e18];exact ab.bd _ _ _
 have B18:ai V p9 (tI ⟨k,f,t',u,x,a,b⟩) 119:=by rw[e18];exact B9.store rfl
 have z18:=X18.size
 have l9:=B18.lt
 have gq:∀{G:NP} {w':World},ab G A w'->(∀b,b<A.heap.size->¬G b)->fc (fun i:Int=>vi i) w' r M/\rE w' p q R W j l F C r L.length/\zD w' q Lq FQ/\zD w' p g.1 F':=fun {G w'} E hG =>
  ⟨Z.ext E<|hG _ Z.lt,D.ext (F':=F') (FQ:=FQ) E fun b d=>hG b<|D.lt d,g7.ext E fun b d=>hG b<|g7.lt d,g2.ext E fun b d=>hG b<|g2.lt d⟩
 have E18:ab (·=p9.block) A V:=(ab.pure<|E16.trans E17).trans X18
 have hg9:∀b,b<A.heap.size->¬(b=p9.block):=fun b d e=>Om
 have eu:∀{w':World},fc (fun i:Int=>vi i) w' r M->∀y,(Instr.lookup 197 (.map<|some r) (vi y) false).run prog w'=.ok (vi<|g.2.2 y) w':=fun {w'} h y=>by
  rw[g5 y];rcases h.get (P:=prog) (T:=197) underlying197 underlying73 (zeroValue73 _) y false with⟨hn,hr⟩|⟨v,N,hr⟩;unfold yw;rw[hn];exact hr;unfold yw;rw[N];exact hr
 refine⟨fun w'=>w'.cell? C=some (.map<|some r)/\fc (fun i:Int=>vi i) w' r M,?_,?_⟩
 have⟨k1,k2,_,_⟩:=gq (E18.fb<|ab.drew V) hg9
 exact⟨k2.b8.bf,k1⟩
 rintro w19 e19
 have E19:ab (·=p9.block) A w19:=by rw[e19];exact E18.fb<|ab.drew V
 have B19:ai w19 p9 (tI ⟨k,f,t',u,x,a,b⟩) 119:=by rw[e19];exact B18.pure<|ab.drew V
 have⟨k1,k2,k3,k4⟩:=gq E19 hg9
 refine⟨some r,k2.b8.bf,a,B19.cell (i:=5) rfl,_,eu k1 a,some r,fun w' h=>h.1,b,B19.cell (i:=6) rfl,_,fun w' h=>eu h.2 b,B19.eh (i:=5)<|by simp[tI],id,?_⟩
 rintro w20 e20
 have X20:ab (·=p9.block) w19 w20:=by rw[e20];exact LF
 have B20:ai w20 p9 (tI ⟨k,f,t',u,x,g.2.2 a,b⟩) 119:=by rw[e20];exact B19.set 5 _
 have E20:=E19.trans X20
 have⟨k1',k2',_,_⟩:=gq E20 hg9
 refine⟨⟨k2'.b8.bf,k1'⟩,B20.eh (i:=6)<|by simp[tI],id,?_⟩
 rintro w21 e21
 have X21:ab (·=p9.block) w20 w21:=by rw[e21];exact LF
 have B21:ai w21 p9 (tI ⟨k,f,t',u,x,g.2.2 a,g.2.2 b⟩) 119:=by rw[e21];exact B20.set 6 _
 have E21:=E20.trans X21
 have⟨m1,m2,m3,m4⟩:=gq E21 hg9
 have z21:=E21.size
 refine⟨some p,m2.b2.bf,k,f,t',u,x,g.2.2 a,g.2.2 b,B21.row,?_⟩
 have hnn:({ ad Lq z with a:=g.2.2 (ad Lq z).a,b:=g.2.2 (ad Lq z).b }:di)=⟨k,f,t',u,x,g.2.2 a,g.2.2 b⟩:=by rw[<-hn]
 refine(rR p k f t' u x (g.2.2 a) (g.2.2 b) w21 m4 hok).mono ?_
 rintro _ w22 ⟨r4,r5,rfl,he,F2,hP2,I,hF2⟩
 have he1:=congrArg Prod.fst he
 have he2:=congrArg Prod.snd he
 simp only at he1 he2
 have z22:=I.size
 have hF'o:∀b,F' b->¬(b=R.block\/b=W.block\/b=j.block\/b=l.block\/b=F.block\/b=C.block\/b=r):=fun b d hh=>(g8 b d).elim (fun h=>Oi (hP.lt h)<|(ob b hh).1) fun h=>h.2 hh
 have n22:rE w22 p q R W j l F C r L.length:=m2.ext (F':=F') (FQ:=FQ) I Gd
 have M22:=m1.ext I fun hh=>hF'o _ hh Sm
 have Q22:=m3.ext I Gd
 have kY:aj Y A w22:=(E21.bk fun b d e=>Oh<|hA0 b d).trans<|I.bk fun b d hh=>B b (.inr<|.inr<|.inr<|.inr<|.inr<|.inr<|.inr<|.inl hh) d
 have E022:ab X n w22:=(S.cg E21 fun i hi e=>Oh S.size).cg I Gd
 have K:∀b,F2 b->X b\/(n.heap.size<=b/\¬(b=R.block\/b=W.block\/b=j.block\/b=l.block\/b=F.block\/b=C.block\/b=r)):=fun b d=>(hF2 b d).elim (g8 b) Gd
 have hF2Y:∀b,F2 b->¬Y b:=fun b d hY=>(hF2 b d).elim (fun h=>B b (.inr<|.inr<|.inr<|.inr<|.inr<|.inr<|.inr<|.inl h) hY) fun h=>Oh<|hA0 b hY
 refine⟨r4,r5,rfl,I.bk fun b d=>d.elim,fun hc=>?_,fun hc=>?_⟩
 have h5:(ay g.1 ⟨k,f,t',u,x,g.2.2 a,g.2.2 b⟩).2.1≠0:=by rw[<-he2];exact bne_iff_ne.1 hc
 have hfail:=@Lp Lq ba post z L (fun _=>0) (by rw[o];exact g1) ⟨k,f,t',u,x,g.2.2 a,g.2.2 b⟩ (by rw[o];exact hnn) (by rw[o];exact h5)
 rw[<-hpost,o,<-he2]at hfail
 have hcs2:cs=(0,r5,L):=by rw[hcs',hfail,if_pos (by rw[he2];exact h5)]
 refine⟨some p,n22.b2.bf,_,n22.b6.bf,?_⟩
 have⟨Mg,hMg⟩:=Fq Lq ba L fun _=>0
 rw[o]at hMg
 have hmk:∃M2,(ay g.1 ⟨k,f,t',u,x,g.2.2 a,g.2.2 b⟩).2.2=g.1++M2:=yU _ _
 have⟨M2,hM2⟩:=hmk
 rw[hM2,hMg,List.append_assoc]at hP2
 have hok2:Ok (L++(Mg++M2)):=by rw[<-List.append_assoc,<-hMg,<-hM2];exact FH hok _
 refine(Qk p L.length w22 hP2 hok2 (by rw[List.length_append];omega)).mono ?_
 rintro _ w23 ⟨rfl,hP3,E23⟩
 rw[List.take_left]at hP3
 have n23:rE w23 p q R W j l F C r L.length:=n22.ext (F':=F') (FQ:=FQ) E23 Gd
 refine⟨rfl,E23.bk fun b d=>d.elim,n23.b4.gx Sm,id,?_⟩
 rintro w24 e24
 have X24:ab (·=j.block) w23 w24:=by rw[e24];exact ab.setCell _ _
 have B24:ai w24 j [vi 0] 73:=by rw[e24];exact n23.b4.jh
 have B25:=n23.b5.ext X24 fun e=>d45 e.symm
 refine⟨B25.gx Sm,id,?_⟩
 rintro w25 e25
 have X25:ab (·=l.block) w24 w25:=by rw[e25];exact ab.setCell _ _
 have B25':ai w25 l [vi r5] 54:=by rw[e25];exact B25.jh
 have nF:∀b,F2 b->b≠j.block/\b≠l.block:=fun b d=>(K b d).elim (fun h=>Oh<|hP.lt h) Gd
 have nY4:¬Y j.block:=B _<|.inr<|.inr<|.inl rfl
 have nY5:¬Y l.block:=B _<|.inr<|.inr<|.inr<|.inl rfl
 refine⟨((kY.trans<|E23.bk fun b d hh=>hF2Y b hh d).trans<|X24.bk fun b d e=>nY4<|e▸d).trans (X25.bk fun b d e=>nY5<|e▸d),F2,r5,hcs2,(hP3.ext X24 fun b d e=>(nF b d).1 e).ext X25 fun b d e=>(nF b d).2 e,B24.ext X25 d45,B25',fun b d=>(K b d).imp id fun h=>h.1,?_,((E022.cg E23 Gd).cg X24 fun i hi e=>Om).cg X25 fun i hi e=>Om⟩
 rintro b (rfl|rfl|d)
 exact nY4
 exact nY5
 exact hF2Y b d
 have h5:(ay g.1 ⟨k,f,t',u,x,g.2.2 a,g.2.2 b⟩).2.1=0:=by rw[<-he2];simpa using hc
 have w:=@K4 Lq ba z L (fun _=>0) (by rw[o];exact g1) ⟨k,f,t',u,x,g.2.2 a,g.2.2 b⟩ (by rw[o];exact hnn) (by rw[o];exact h5)
 rw[o,<-he1]at w
 have hlk:SE.eu M z=none:=uV.2 (by rw[g4];exact hzn)
 have⟨w26,hr26,hM26,H⟩:=M22.put (P:=prog) (T:=197) underlying197 underlying73 hlk r4
 have nm:∀b,F2 b->b≠r:=fun b d=>(K b d).elim Gd fun h e=>h.2 (by simp[e])
 have nYm:¬Y r:=B _<|.inr<|.inr<|.inr<|.inr<|.inr<|.inr<|.inl rfl
 have hmbo:=(ob r Sm).1
 refine⟨some r,n22.b8.bf,w26,hr26,H.bk fun b d=>d.elim,kY.trans<|H.bk fun b d e=>nYm<|e▸d,F2,M++[(z,r4)],by rw[w],by rw[w];exact hP2.ext H fun b d e=>nm b d e,hM26,by simp[g4],?_,n22.ext (F':=F') (FQ:=FQ) H fun b d e=>dm b d e,Q22.ext H Gd,K,?_,E022.cg H fun i hi e=>Om,Oh H.size⟩
 intro y
 rw[w]
 simp only
 unfold yw
 rw[Po (by rw[g4];exact hzn)]
 by_cases e:y=z
 rw[if_pos e,if_pos e.symm];rfl
 rw[if_neg e,if_neg fun h=>e h.symm];exact g5 y
 rintro b (d|d|d|d|d|d|d|d|d)
 exact B b<|.inl d
 exact B b<|.inr<|.inl d
 exact B b<|.inr<|.inr<|.inl d
 exact B b<|.inr<|.inr<|.inr<|.inl d
 exact B b<|.inr<|.inr<|.inr<|.inr<|.inl d
 exact B b<|.inr<|.inr<|.inr<|.inr<|.inr<|.inl d
 grind
 exact hF2Y b d
 exact B b<|.inr<|.inr<|.inr<|.inr<|.inr<|.inr<|.inr<|.inr d
 rintro H1 w27 hs27 _ _ ⟨F',M,g1,g2,Z,g4,g5,D,g7,g8,B,S,g11⟩
 have hcs2:cs=((zU Lq xs L fun _=>0).2.2 t,0,(zU Lq xs L fun _=>0).1):=by rw[hcs',if_neg<|by simpa using g1]
 have hlk:(Instr.lookup 197 (.map<|some r) (vi t) false).run prog w27=.ok (vi<|(zU Lq xs L fun _=>0).2.2 t) w27:=by
  rw[g5 t];rcases Z.get (P:=prog) (T:=197) underlying197 underlying73 (zeroValue73 _) t false with⟨hn,hr⟩|⟨v,N,hr⟩;unfold yw;rw[hn];exact hr;unfold yw;rw[N];exact hr
 generalize o:zU Lq xs L (fun _=>0)=g at *
 have nY4:¬H1 j.block:=B _<|.inr<|.inr<|.inl rfl
 have nY5:¬H1 l.block:=B _<|.inr<|.inr<|.inr<|.inl rfl
 refine⟨some r,D.b8.bf,_,hlk,D.b4.gx Sm,nY4,?_⟩
 rintro w28 e28
 have X28:ab (·=j.block) w27 w28:=by rw[e28];exact ab.setCell _ _
 have B28:ai w28 j [vi<|g.2.2 t] 73:=by rw[e28];exact D.b4.jh
 have B28':=D.b5.ext X28 fun e=>d45 e.symm
 refine⟨B28'.gx Sm,nY5,?_⟩
 rintro w29 e29
 have X29:ab (·=l.block) w28 w29:=by rw[e29];exact ab.setCell _ _
 have B29:ai w29 l [vi 0] 54:=by rw[e29];exact B28'.jh
 have B29':=B28.ext X29 d45
 intro w30 J
 have nF:∀b,F' b->b≠j.block/\b≠l.block:=fun b d=>(g8 b d).elim (fun h=>Oh<|hP.lt h) fun h=>⟨fun e=>h.2<|.inr<|.inr<|.inl e,fun e=>h.2<|.inr<|.inr<|.inr<|.inl e⟩
 refine⟨_,(B29'.ext J.ext nY4).bf,_,(B29.ext J.ext nY5).bf,?_⟩
 rw[hcs2]
 refine⟨rfl,rfl,F',((g2.ext X28 fun b d e=>(nF b d).1 e).ext X29 fun b d e=>(nF b d).2 e).ext J.ext fun b d=>B b<|.inr<|.inr<|.inr<|.inr<|.inr<|.inr<|.inr<|.inl d,((S.cg X28 fun i hi e=>Om).cg X29 fun i hi e=>Om).au J,fun b d=>(g8 b d).imp id fun h=>h.1⟩
 rintro ba H2 w32 hs32 ⟨F',e,g1,g2,Z,g4,g5,D,g7⟩
 refine⟨_,Z.bf,_,g4.bf,?_⟩
 rw[g1]
 exact⟨rfl,rfl,F',g2,g7,g5⟩
end Go.Proofs
end
section
open Go Go.SE List
namespace Go.Proofs
open Tryz
attribute [local irreducible] Calls CallsD
def Uo{S0}(p sb bs w0){L FP}(D:Wf L)(n:zD w0 p L FP)(hs:dr S0 w0 1 sb (dn bs))(s:sb.a=none->sb=Sl.nil):
  cl 71 #[vp<|some p,sb.v] w0<|XJ fun t x y w'=>t=(yP L bs).1/\x=(yP L bs).2.1/\y=((yP L bs).2.2.1:Int)/\∃F',zD w' p (yP L bs).2.2.2 F'/\ab FP w0 w'/\∀b,F' b->FP b\/w0.heap.size<=b:=by
 refine jaK _ _ w0 _ ?_
 refine⟨fun i=>(by cases i),fun _=>?_⟩
 refine(jbT sb bs w0 hs s).mono ?_
 rintro _ u ⟨x,y,z,rfl,j,k,d,e⟩
 refine⟨_,_,_,rfl,?_⟩
 cases c:(vB bs).1 with
 |none =>
  have l:yP L bs=(0,(vB bs).2.1,(vB bs).2.2,L):=by unfold yP;rw[c]
  have r:y≠0:=by rw[j];exact xO c
  refine⟨fun _=>?_,fun i=>absurd (by simpa using i) r⟩
  rw[l]
  exact⟨rfl,j,k,FP,n.pure e,ab.pure e,fun b f=>.inl f⟩
 |some q =>
  obtain⟨a,F,rfl,g,w⟩:=d.bl c
  have⟨B,_,G,_⟩:=xB c
  have C:=MV c
  have l:yP L bs=((vH L q q.length).1,(vH L q q.length).2.1,0,(vH L q q.length).2.2):=by unfold yP;rw[c]
  rw[C]at j
  refine⟨fun i=>absurd j<|by simpa using i,fun _=>?_⟩
  refine(Hi a u g).mono ?_
  rintro _ E ⟨_,rfl,rfl,rfl⟩
  refine⟨_,rfl,?_⟩
  refine(Lm p a q.length E D B (n.pure e) g fun b f hh=>Oi (n.lt f)<|w b hh).mono ?_
  rintro _ H ⟨r1,r2,rfl,h1,h2,F',o,A,m⟩
  refine⟨_,_,rfl,?_⟩
  rw[l]
  exact⟨h1,h2,rfl,F',o,(ab.pure e).trans A,fun b f=>(m b f).imp id fun h=>Oh e.size⟩
end Go.Proofs
end
section
open Go Go.SE
namespace Go.Proofs
open Tryz
attribute [local irreducible] Calls CallsD
def TA{w e sz s rs}(h:bg w e sz s rs):s.a=none->s=Sl.nil:=by
 intro b;rcases h.ak with⟨h,_⟩|⟨g,cur,h,_⟩;exact h;rw[b]at h;cases h
def zFC(f:bo):∀args w,(callFunc f.put args).run prog w=.ok (.enter f.put args) w:=by
 cases f;exact call249;exact call253;exact call255;exact call257;exact call261;exact call263
def zBF{P T K E Q w m}{es:List (Value×Value)}(h:jt w m es)(c:P.underlying T=some (.map K E)):(Builtin.len_ #[T] Q #[.map<|some m]).run P w=.ok (vi (es.length:Int)) w:=by
 obtain⟨b,a,hm,rfl,_,_⟩:=h.ex;have d:(getObj m).run P w=.ok (.map b a) w:=by simp[getObj,Sem.run,hm]
 simp[Builtin.len_,run_underlying c,d,goInt]
def zEN{n}(h:bo.fst∈qP n.kind):n.a∈zB n:=by
 unfold qP at h;unfold zB bq
 repeat' split at h
 all_goals first|(exfalso;revert h;decide)|skip
 all_goals (rename_i h1;rw[h1];simp)
def zEL{n}(h:bo.snd∈qP n.kind):n.b∈zB n:=by
 unfold qP at h;unfold zB bq
 repeat' split at h
 all_goals first|(exfalso;revert h;decide)|skip
 all_goals (rename_i h1;rw[h1];simp)
structure O4(p2 p3 p4 p6:Addr)(m mb:Nat)(FP F:NP)(B:Nat):Prop where
 lt:p2.block<B/\p3.block<B/\p4.block<B/\p6.block<B/\m<B/\mb<B
 lF:∀b,F b->b<B
 lP:∀b,FP b->b<B
 d3:p2.block≠p3.block/\p4.block≠p3.block/\p6.block≠p3.block/\mb≠p3.block/\m≠p3.block/\¬F p3.block/\¬FP p3.block
 db:p2.block≠mb/\p4.block≠mb/\p6.block≠mb/\m≠mb/\¬F mb/\¬FP mb
def CM(p2 p3 p4 p6:Addr)(m mb:Nat)(FP F:NP)(s:Sl)(b:Nat):Prop:=
 b=p2.block\/b=p3.block\/b=p4.block\/b=p6.block\/b=m\/b=mb\/F b\/FP b\/s.aq b
structure rp(A:World)(p p2 p3 p4 p6:Addr)(m mb:Nat)(L:aw)(FP F:NP)(s:Sl)(bs:List UInt8)(M:List (Int×Int)):Prop where
 b2:ai A p2 [vp<|some p] 91
 b3:ai A p3 [s.v] 59
 b4:ai A p4 [.map<|some m] 249
 b6:ai A p6 [.map<|some mb] 231
 cm:bg A 5 1 s (dn bs)
 rG:fc (fun i:Int=>vi i) A mb M
 mq:pS A m F
 bl:zD A p L FP
section
variable {A A':World} {p p2 p3 p4 p6:Addr} {m mb B:Nat} {L:aw} {FP F G:NP} {s s':Sl} {bs bs':List UInt8} {M:List (Int×Int)}
def rp.ext(h:rp A p p2 p3 p4 p6 m mb L FP F s bs M)(E:ab G A A')(a:∀b,CM p2 p3 p4 p6 m mb FP F s b->¬G b):rp A' p p2 p3 p4 p6 m mb L FP F s bs M:=
 ⟨h.b2.ext E<|a _<|.inl rfl,h.b3.ext E<|a _<|.inr<|.inl rfl,h.b4.ext E<|a _<|.inr<|.inr<|.inl rfl,h.b6.ext E<|a _<|.inr<|.inr<|.inr<|.inl rfl,
 h.cm.ext E fun b c=>a b<|.inr<|.inr<|.inr<|.inr<|.inr<|.inr<|.inr<|.inr c,h.rG.ext E<|a _<|.inr<|.inr<|.inr<|.inr<|.inr<|.inl rfl,
 h.mq.ext E fun b c=>c.elim (fun c=>a b<|.inr<|.inr<|.inr<|.inr<|.inr<|.inr<|.inl c) fun e=>a b<|.inr<|.inr<|.inr<|.inr<|.inl e,
 h.bl.ext E fun b c=>a b<|.inr<|.inr<|.inr<|.inr<|.inr<|.inr<|.inr<|.inl c⟩
def rp.pure(h:rp A p p2 p3 p4 p6 m mb L FP F s bs M)(E:Pure A A'):rp A' p p2 p3 p4 p6 m mb L FP F s bs M:=h.ext E fun _ _ h=>h
def rp.lt(h:rp A p p2 p3 p4 p6 m mb L FP F s bs M){b}(a:CM p2 p3 p4 p6 m mb FP F s b):b<A.heap.size:=by
 rcases a with rfl|rfl|rfl|rfl|rfl|rfl|a|a|a;exact h.b2.lt;exact h.b3.lt;exact h.b4.lt;exact h.b6.lt;exact h.mq.ze;exact h.rG.lt;exact h.mq.lt _ a;exact h.bl.lt a;exact h.cm.lt a
def rp.put(h:rp A p p2 p3 p4 p6 m mb L FP F s bs M)(S:O4 p2 p3 p4 p6 m mb FP F B)(hs:∀b,s.aq b->B<=b)(g:∀b,s'.aq b->B<=b)(E:ab s.aq A A')(i:bg A' 5 1 s' (dn bs')):
  rp (A'.setCell p3 s'.v) p p2 p3 p4 p6 m mb L FP F s' bs' M/\ab (fun b=>s.aq b\/b=p3.block) A (A'.setCell p3 s'.v):=by
 have e:ab (·=p3.block) A' (A'.setCell p3 s'.v):=ab.setCell p3 _
 have a:ab (fun b=>s.aq b\/b=p3.block) A (A'.setCell p3 s'.v):=(E.mono fun b _ h=>.inl h).trans<|e.mono fun b _ h=>.inr h
 have⟨q,l,t,o,f,lb⟩:=S.lt
 have⟨d2,u,n,r,k,j,d⟩:=S.d3
 have ns:∀b,b<B->¬s.aq b:=fun b c hh=>Oh<|hs b hh
 have b3:=(h.b3.ext E<|ns _ l).jh (v:=s'.v)
 refine⟨⟨h.b2.ext a ?_,b3,h.b4.ext a ?_,h.b6.ext a ?_,i.ext e Gd,h.rG.ext a ?_,h.mq.ext a ?_,h.bl.ext a ?_⟩,a⟩
 grind
 grind
 grind
 grind
 rintro b (c|rfl) (hh|hh)
 exact ns _ (S.lF b c) hh
 subst hh;exact j c
 exact ns _ f hh
 exact k hh
 rintro b c (hh|hh)
 exact ns _ (S.lP b c) hh
 subst hh;exact d c
end
def Tf(p:Addr)(t:Int)(E:World){L:aw}{FP:NP}(hW:Wf L)(hN:uE L)(hP:zD E p L FP):
  cl 110 #[vp<|some p,vi t] E<|XA fun r w'=>fv E 5 1 (dn<|qL L t) r w':=by
 refine jcm _ _ E _ ?_
 intro p2 w1 h1 p3 w2 h2
 have E1:Pure E w1:=ab.ax h1
 have E2:Pure w1 w2:=ab.ax h2
 have B2:=(ai.bj h1).pure E2
 have B3:=ai.bj h2
 have s1:=h1.cu;have s2:=h2.cu;have l2:=(ai.bj h1).lt;have l3:=B3.lt;have z1:=E1.size;have z2:=E2.size
 refine(NV w2).mono ?_
 rintro _ w3 ⟨_,rfl,m,F,rfl,hK,E3,hm,hF⟩
 have z3:=E3.size
 have lm:=hK.ze
 refine⟨_,rfl,E3.bz,?_⟩
 intro p4 w4 h4
 have E4:Pure w3 w4:=ab.ax h4
 have B4:=ai.bj h4
 have s4:=h4.cu;have l4:=B4.lt;have z4:=E4.size
 refine⟨B4.gx Sm,fun h=>h,?_⟩
 rintro w5 h5
 have X5:ab (·=p4.block) w4 w5:=by rw[h5];exact ab.setCell p4 _
 have B4':ai w5 p4 [.map<|some m] 249:=by rw[h5];exact B4.jh
 have z5:=X5.size
 intro p5 w6 h6
 have E6:Pure w5 w6:=ab.ax h6
 have M5:=fc.bj (f:=fun i:Int=>vi i) h6
 have s6:=h6.cu;have l5:=M5.lt;have z6:=E6.size
 intro p6 w7 h7
 have E7:Pure w6 w7:=ab.ax h7
 have B6:=ai.bj h7
 have s7:=h7.cu;have l6:=B6.lt;have z7:=E7.size
 refine⟨B6.gx Sm,fun h=>h,?_⟩
 rintro w8 h8
 have X8:ab (·=p6.block) w7 w8:=by rw[h8];exact ab.setCell p6 _
 have B6':ai w8 p6 [.map<|some p5.block] 231:=by rw[h8];exact B6.jh
 have z8:=X8.size
 have E08:Pure E w8:=((((((E1.trans E2).trans E3).trans E4).ak Om X5).trans E6).trans E7).ak Om X8
 have P8:=hP.pure E08
 have up:∀{T:TypeId} {c:Addr} {vs:List Value},ai w5 c vs T->c.block≠p6.block->ai w8 c vs T:=fun h h2=>((h.pure E6).pure E7).ext X8 h2
 have up3:∀{T:TypeId} {c:Addr} {vs:List Value},ai w2 c vs T->c.block≠p4.block->c.block≠p6.block->ai w8 c vs T:=fun h h1 h2=>up (((h.pure E3).pure E4).ext X5 h1) h2
 have B28:=up3 B2 Om Om
 have B38:=up3 B3 Om Om
 have B48:=up B4' Om
 have M58:=(M5.pure E7).ext X8 Om
 have C:=hK.lt
 have K8:pS w8 m F:=(((((hK.pure E4).ext X5 fun b d e=>d.elim (fun d=>Oh<|C b d) fun d=>Om).pure E6).pure E7).ext X8 fun b d e=>d.elim (fun d=>Oh<|C b d) fun d=>Om)
 refine⟨some p,B28.bf,?_⟩
 refine(HW p t w8).mono ?_
 rintro _ w9 ⟨_,rfl,q2,q3,rfl,Bq2,Bq3,X⟩
 have z9:=X.size
 have E09:=E08.trans X
 refine⟨_,rfl,X.bz,_,_,rfl,call178,_,_,Fx hW (P8.pure X) Bq2 Bq3,?_⟩
 have W:∀b,FP b->b<E.heap.size:=fun b d=>hP.lt d
 have S:O4 p2 p3 p4 p6 m p5.block FP F w9.heap.size:=⟨⟨Om,Om,Om,Om,Om,Om⟩,fun b d=>Oh<|C b d,fun b d=>Oh<|W b d,
  ⟨Om,Om,Om,Om,Om,fun d=>Oh<|hF _ d,fun d=>Oh<|W _ d⟩,⟨Om,Om,Om,Om,fun d=>Oh<|C _ d,fun d=>Oh<|W _ d⟩⟩
 have A9:rp w9 p p2 p3 p4 p6 m p5.block L FP F Sl.nil [] []:=⟨B28.pure X,B38.pure X,B48.pure X,B6'.pure X,bg.nil _ _ _,M58.pure X,K8.pure X,P8.pure X⟩
 have hnil:∀b,¬Sl.nil.aq b:=fun b d=>by have⟨a,h,_⟩:=d;cases h
 have hfew:=uW hW t
 have hsub:∀u∈dd L t,al L u=true:=fun u hu=>have h:=(y8 hW).1 hu;(ja.le hW h.1 h.2).1
 have hord:=Gb hW t
 have hnd:=AW hW t
 have htx:qL L t=fx L [] (dd L t):=rfl
 rw[htx]
 generalize hxs:dd L t=xs at *
 have hL:=hW.ok.ft
 generalize hB:w9.heap.size=B at *
 have hw3:E.heap.size<=p3.block:=Om
 have hw5:E.heap.size<=p5.block:=Om
 have hwB:E.heap.size<=B:=Om
 generalize p5.block=mb at *
 clear up up3 B28 B38 B48 M58 K8 P8 B2 B3 B4 B4' M5 B6 B6' X5 X8 E1 E2 E3 E4 E6 E7 h1 h2 h4 h5 h6 h7 h8 hK hF C Bq2 Bq3
 refine⟨fun ba Y A=>∃s:Sl,rp A p p2 p3 p4 p6 m mb L FP F s (fx L [] ba) (uY 0 ba)/\(∀b,s.aq b->B<=b)/\(∀b,CM p2 p3 p4 p6 m mb FP F s b->¬Y b)/\B<=A.heap.size/\Pure E A,⟨fun _ _ _ _=>trivial,?_,fun _ _ _ _ _ h=>h.elim,fun _ _ _ _ _ h=>h.elim⟩,?_,?_,?_⟩
 rintro ba Y A Y' A' ⟨s,K,hs,D,hz,hE⟩ au
 have hv':∀b,CM p2 p3 p4 p6 m mb FP F s b->¬Y' b:=au.ji fun b d=>⟨K.lt d,D b d⟩
 exact⟨s,K.ext au.ext hv',hs,hv',Nat.le_trans hz au.ext.size,hE.au au⟩
 exact⟨Sl.nil,A9,fun b d=>(hnil b d).elim,fun b _ h=>h,Om,E09⟩
 rintro ba z Y A ⟨s,K,hs,D,hz,hE⟩ hsA ⟨post,l⟩
 have hzin:al L z=true:=hsub z (by rw[l];simp)
 have hprein:∀u∈ba,al L u=true:=fun u hu=>hsub u (by rw[l];simp[hu])
 have hplen:ba.length<65536:=by have:=congrArg List.length l;simp only[List.length_append,List.length_cons]at this;omega
 have hzn:z∉ba:=by
  rw[l]at hnd;have:=(List.nodup_append.1 hnd).2.2;exact fun h=>this z h z Sm rfl
 have hbs:=Pv hW hN ba [] hprein (by simp only[List.length_nil];omega)
 refine⟨some p,K.b2.bf,?_⟩
 refine(tj p z A K.bl hW.ok).mono ?_
 rintro _ w10 ⟨k,r,N,u,x,a,b,r3,rfl,⟨hn,_⟩,Z⟩
 refine⟨_,_,_,_,_,_,_,_,rfl,Z.bz,fun H1 w12 v=>?_⟩
 have⟨k1,k9,f0,f1,t0,t1,x1⟩:=xm hW hzin
 have J:=hN.node z
 have hko:=hord ba z post l
 have hnt:yH L ba z=UInt8.ofNat k.toNat ::(qP k).flatMap (bo.bytes ⟨k,r,N,u,x,a,b⟩ (dc ba a)<|dc ba b):=by rw[yH,<-hn]
 rw[<-hn]at k1 k9 f0 f1 t0 t1 x1 J hko
 simp only at k1 k9 f0 f1 t0 t1 x1 J
 have q:∀b,H1 b->A.heap.size<=b:=v.old
 have A12:=(K.pure Z).ext v.ext fun b d hh=>Oi (q b hh)<|K.lt d
 have E012:Pure E w12:=(hE.trans Z).cg v.ext fun i hi hh=>Oi (q i hh) hE.size
 have k12:aj Y A w12:=(Z.bz).trans<|v.ext.bk fun b d hh=>Oi (q b hh)<|hsA.lt b d
 have z10:=Z.size
 have z12:=v.ext.size
 refine⟨s,A12.b3.bf,fun p8 w13 h8=>?_⟩
 have E13:Pure w12 w13:=ab.ax h8
 have A13:=A12.pure E13
 have z13:=E13.size
 obtain⟨kn,rfl⟩:∃kn:Nat,k=kn:=⟨k.toNat,Om⟩
 simp only[Int.toNat_natCast]at hnt
 rw[wz]at h8
 have⟨s1,w14,hr,hR,hEx,d⟩:=A13.cm.append (P:=prog) (ty:=59) (c:=1) uk (ai.fp h8).row rfl rfl (by rw[qC];omega) (by rw[qC];simp only[maxLen];omega)
 have hs1:∀b,s1.aq b->B<=b:=fun b hh=>(d b hh).elim (hs b) fun h=>Om
 have hy1:∀b,s1.aq b->¬Y b:=fun b hh g=>(d b hh).elim (fun h=>D b (.inr<|.inr<|.inr<|.inr<|.inr<|.inr<|.inr<|.inr h) g) fun h=>Oh<|hsA.lt b g
 have h3A:p3.block<A.heap.size:=K.b3.lt
 have hH3:¬H1 p3.block:=fun h=>Oh<|q _ h
 have hHs:∀b,H1 b->¬s.aq b:=fun b hh d=>Oi (q b hh)<|K.cm.lt d
 have hY3:¬Y p3.block:=D _<|.inr<|.inl rfl
 have hYs:∀b,Y b->¬s.aq b:=fun b g d=>D b (.inr<|.inr<|.inr<|.inr<|.inr<|.inr<|.inr<|.inr d) g
 refine⟨s1,w14,hr,hEx.bk hHs,((A13.b3.ext hEx fun d=>Oi (hs _ d) S.lt).gx Sm),hH3,?_⟩
 rintro w15 h15
 have hR':bg w14 5 1 s1 (dn<|fx L [] ba++[UInt8.ofNat kn]):=by rw[CT];exact hR
 have⟨A15,X15⟩:=A13.put S hs hs1 hEx hR'
 rw[<-h15]at A15 X15
 have E015:Pure E w15:=(E012.trans E13).cg X15 fun i hi hh=>hh.elim (fun hh=>Oh<|hs _ hh) fun hh=>Om
 have k15:aj Y A w15:=(k12.trans E13.bz).trans (X15.bk fun b g hh=>hh.elim (hYs b g) fun e=>by subst e;exact hY3 g)
 have z15:=X15.size
 have⟨fs,hlk,hLf⟩:=A15.mq.get kn k1 k9 false
 refine⟨some m,A15.b4.bf,fs,hlk,?_⟩
 have hfl3:=FX kn
 refine⟨fun y H w=>∃(j:Nat) (s:Sl),y=j/\j<=(qP kn).length/\H=H1/\rp w p p2 p3 p4 p6 m mb L FP F s (fx L [] ba++UInt8.ofNat kn ::((qP kn).take j).flatMap (bo.bytes ⟨kn,r,N,u,x,a,b⟩ (dc ba a)<|dc ba b)) (uY 0 ba)/\dr F w 2 fs ((qP kn).map bo.row)/\(∀b,s.aq b->B<=b)/\(∀b,s.aq b->¬Y b)/\aj Y A w/\Pure E w/\A.heap.size<=w.heap.size,fun y _=>(((qP kn).length:Int)-y).toNat,⟨0,s1,rfl,Nat.zero_le _,rfl,by simpa using A15,hLf,hs1,hy1,k15,E015,Om⟩,?_⟩
 rintro _ _ wl au ⟨j,s2,rfl,hj,rfl,I,hL2,O,hy2,k2,E2,z2⟩
 unfold JL
 have hlen:fs.len=(qP kn).length:=by rw[hL2.len,List.length_map]
 refine⟨fun M=>?_,fun M=>?_⟩
 have M:=vQ hlen M
 have⟨a1,hat,hF1,hrow⟩:=hL2.at_ j (by simpa using M)
 rw[List.getElem_map]at hrow
 refine⟨a1,hat,.func (.func (qP kn)[j].put) #[] #[],.func (.func (qP kn)[j].get) #[] #[],hrow,fun p9 w16 h9=>?_⟩
 have E16:Pure wl w16:=ab.ax h9
 have B9:=ai.fp h9
 have s9:=h9.cu
 have z16:=E16.size
 refine⟨⟨rfl,B9.uo Sm⟩,fun hh=>Oh<|au.lt _ hh,?_⟩
 rintro w17 h17
 have R:ab (·=p9.block) w16 w17:=by rw[h17];exact ab.bd _ _ _
 have B9':ai w17 p9 [.func (.func (qP kn)[j].put) #[] #[],.func (.func (qP kn)[j].get) #[] #[]] 255:=by rw[h17];exact B9.store rfl
 have G:=(I.pure E16).ext R fun b d e=>Oh<|I.lt d
 have L17:=(hL2.pure E16).ext R fun b d e=>Oh<|I.mq.lt b d
 have z17:=R.size
 have E017:Pure E w17:=(E2.trans E16).ak (Oh E2.size) R
 have k17:aj Y A w17:=(k2.trans E16.bz).trans<|R.bk fun b g e=>Oh<|hsA.lt b g
 refine⟨_,B9'.bf,s2,G.b3.bf,some mb,G.b6.bf,_,#[],#[],rfl,zFC _,?_⟩
 simp only[Array.empty_append,Array.append_empty]
 have hbl:=OH (bo.bytes ⟨kn,r,N,u,x,a,b⟩ (dc ba a)<|dc ba b) 74 ((qP kn).take j) fun f _=>KU _ _ _ f f1 t1 J x1 (Oh<|tR ba a)<|Oh<|tR ba b
 have hbl2:((qP kn).take j).length<=3:=by rw[List.length_take];omega
 have hbn:(fx L [] ba++UInt8.ofNat kn ::((qP kn).take j).flatMap (bo.bytes ⟨kn,r,N,u,x,a,b⟩ (dc ba a)<|dc ba b)).length<=10000000000:=by
  rw[List.length_append,List.length_cons];omega
 refine(RC (qP kn)[j] s2 _ ⟨kn,r,N,u,x,a,b⟩ (dc ba a) (dc ba b) mb (uY 0 ba) w17 G.cm.el (TA G.cm) hbn ⟨f0,Sy⟩ ⟨t0,Sy⟩ J Sy G.rG (fun e=>?_) fun e=>?_).mono ?_
 have U:a∈ba:=hko _<|zEN (n:=⟨kn,r,N,u,x,a,b⟩) (by rw[<-e];exact List.getElem_mem _)
 exact⟨by rw[Jy ba a U 0];simp,Oh<|tR ba a⟩
 have U:b∈ba:=hko _<|zEL (n:=⟨kn,r,N,u,x,a,b⟩) (by rw[<-e];exact List.getElem_mem _)
 exact⟨by rw[Jy ba b U 0];simp,Oh<|tR ba b⟩
 rintro _ w18 ⟨r4,rfl,V⟩
 have E18:=V.pure
 have z18:=E18.size
 refine⟨r4,rfl,V.bk,(G.b3.pure E18).gx Sm,hH3,?_⟩
 rintro w19 h19
 have hs4:∀b,r4.aq b->B<=b:=fun b d=>Oh<|V.ak b d
 have hR5:bg w18 5 1 r4 (dn (fx L [] ba++UInt8.ofNat kn ::((qP kn).take<|j+1).flatMap (bo.bytes ⟨kn,r,N,u,x,a,b⟩ (dc ba a)<|dc ba b))):=by
  have e:fx L [] ba++UInt8.ofNat kn ::((qP kn).take<|j+1).flatMap (bo.bytes ⟨kn,r,N,u,x,a,b⟩ (dc ba a)<|dc ba b)=(fx L [] ba++UInt8.ofNat kn ::((qP kn).take j).flatMap (bo.bytes ⟨kn,r,N,u,x,a,b⟩ (dc ba a)<|dc ba b))++(qP kn)[j].bytes ⟨kn,r,N,u,x,a,b⟩ (dc ba a) (dc ba b):=by
   rw[List.take_succ_eq_append_getElem M,List.flatMap_append];simp
  rw[e];exact V.cm
 have⟨A19,X19⟩:=G.put S O hs4 E18.pure hR5
 rw[<-h19]at A19 X19
 have z19:=X19.size
 refine⟨⟨j+1,r4,zM M Om,M,trivial,A19,L17.ext X19 fun b d hh=>?_,hs4,fun b d g=>Oi (V.ak b d)<|hsA.lt b g,k17.trans (X19.bk fun b g hh=>hh.elim (fun h=>hy2 b h g) fun e=>by subst e;exact hY3 g),E017.cg X19 fun i hi hh=>hh.elim (fun hh=>Oh<|O _ hh) fun hh=>Om,Om⟩,?_⟩
 rcases hh with hh|hh
 have:=O b hh;have:=S.lF b d;omega
 subst hh;exact S.d3.2.2.2.2.2.1 d
 rw[zM M Om];exact yQ M
 have M:=qU hlen hj M
 subst M
 rw[List.take_length]at I
 have e:fx L [] (ba++[z])=fx L [] ba++UInt8.ofNat kn ::(qP kn).flatMap (bo.bytes ⟨kn,r,N,u,x,a,b⟩ (dc ba a)<|dc ba b):=by rw[FM,List.nil_append,hnt]
 have hlk0:SE.eu (uY 0 ba) z=none:=uV.2 (by rw[jPF];exact hzn)
 have⟨w20,hr20,hM20,o⟩:=I.rG.put (P:=prog) (T:=231) underlying231 underlying73 hlk0 ((ba.length:Nat):Int)
 have hz3:(Builtin.len_ #[231] 3 #[.map<|some mb]).run prog wl=.ok (vi ((ba.length:Nat):Int)) wl:=by
  have:=zBF I.rG.map (P:=prog) (T:=231) (Q:=3) underlying231;rw[List.length_map,Ui]at this;exact this
 have hYb:¬Y mb:=D _<|.inr<|.inr<|.inr<|.inr<|.inr<|.inl rfl
 have kk:∀{H:NP},¬H mb->aj H wl w20:=fun h=>o.bk (fun b d e=>by subst e;exact h d)
 have hmbA:mb<A.heap.size:=K.rG.lt
 refine⟨some mb,I.b6.bf,some mb,I.b6.bf,_,hz3,w20,hr20,kk fun h=>Oh<|q _ h,k2.trans<|kk hYb,s2,?_,O,fun b d g=>?_,Oi o.size E2.size,E2.cg o fun i hi e=>Om⟩
 rw[e,Sb,Nat.zero_add]
 have⟨g1,g2,g3,g4,g5,g6⟩:=S.db
 exact⟨I.b2.ext o g1,I.b3.ext o fun e=>S.d3.2.2.2.1 e.symm,I.b4.ext o g2,I.b6.ext o g3,I.cm.ext o fun b d e=>Oi (O b d) S.lt,hM20,I.mq.ext o fun b d e=>d.elim (fun d=>by subst e;exact g5 d) fun d=>g4<|d▸e,I.bl.ext o fun b d e=>by subst e;exact g6 d⟩
 rcases d with d|d|d|d|d|d|d|d|d
 exact D b (.inl d) g
 exact D b (.inr<|.inl d) g
 exact D b (.inr<|.inr<|.inl d) g
 exact D b (.inr<|.inr<|.inr<|.inl d) g
 exact D b (.inr<|.inr<|.inr<|.inr<|.inl d) g
 exact D b (.inr<|.inr<|.inr<|.inr<|.inr<|.inl d) g
 exact D b (.inr<|.inr<|.inr<|.inr<|.inr<|.inr<|.inl d) g
 exact D b (.inr<|.inr<|.inr<|.inr<|.inr<|.inr<|.inr<|.inl d) g
 exact hy2 b d g
 rintro H2 w21 hs21 _ _ ⟨s,K,hs,D,hz,hE⟩
 refine⟨s,K.b3.bf,fun w22 hs22=>⟨K.cm.ext hs22.ext fun b d=>D b<|.inr<|.inr<|.inr<|.inr<|.inr<|.inr<|.inr<|.inr d,fun b d=>Oh<|hs b d,hE.au hs22⟩⟩
def zFO(p t w0){L FP}(q:Wf L)(s:uE L)(o:zD w0 p L FP):
  cl 53 #[vp<|some p,vi t] w0<|XM fun r n w'=>n=(iz L t).2/\fv w0 5 1 (dn (iz L t).1) r w':=by
 refine W8 _ _ w0 _ ?_
 unfold K3
 have f:∀b,¬Sl.nil.aq b:=fun b g=>by have⟨a,h,_⟩:=g;cases h
 refine(tj p t w0 o q.ok).mono ?_
 rintro _ z ⟨k,r,w,u,x,a,b,r3,rfl,⟨A,rfl⟩,l⟩
 refine⟨_,_,_,_,_,_,_,_,rfl,l.bz,fun c v m i=>?_,fun c v m i=>?_⟩
 have d:al L t=false:=by simpa using c
 have e:iz L t=([],51):=by unfold iz;rw[d];rfl
 rw[e]
 exact⟨rfl,bg.nil _ _ _,fun b g=>(f b g).elim,l.au i⟩
 have d:al L t=true:=by simpa using c
 have j:Pure w0 m:=l.au i
 refine(Tf p t m q s<|o.pure j).mono ?_
 rintro _ B ⟨r2,rfl,h⟩
 have y:r2.len=(qL L t).length:=by rw[h.cm.len,qC]
 refine⟨r2,rfl,h.bk,fun c=>?_,fun c=>?_⟩
 have c:=of_decide_eq_true c
 have e:iz L t=([],1):=by unfold iz;rw[d,if_pos rfl,if_pos Om]
 rw[e]
 exact⟨rfl,bg.nil _ _ _,fun b g=>(f b g).elim,j.trans h.pure⟩
 have c:=of_decide_eq_false c
 have e:iz L t=(qL L t,0):=by unfold iz;rw[d,if_pos rfl,if_neg Om]
 rw[e]
 exact⟨rfl,h.cm,fun b g=>Oi (h.ak b g) j.size,j.trans h.pure⟩
end Go.Proofs
end
section
open Go Go.SE List
namespace Go.Proofs
end Go.Proofs
namespace Go.Proofs
open Tryz
attribute [local irreducible] Calls CallsD
def jbB{w:World}{s:Sl}{bs:List UInt8}{S:NP}(h:dr S w 1 s (dn bs)):(convert 59 9 s.v).run prog w=.ok (vs ⟨bs.toArray⟩) w:=
 A8 underlying59 underlying5 underlying9 h
end Go.Proofs
end
section
open Go Go.SE List
namespace Go.Proofs
open Tryz
attribute [local irreducible] Calls CallsD
structure gi(S:NP)(w:World)(a:Addr)(s:Sl)(bs:List UInt8)(r:Rd):Prop where
 box:ai w a [s.v,vi (r.at_:Int),vi (r.cq:Int),vi (r.spot:Int)] 117
 el:dr S w 1 s (dn bs)
 apart:∀b,S b->b≠a.block
 pF:bs.length<=100000000
 room:s.len<=s.cap
section
variable {S:NP} {w w':World} {a:Addr} {s:Sl} {bs:List UInt8} {r:Rd}
def gi.ext{F}(h:gi S w a s bs r)(E:ab F w w')(c:∀b,(b=a.block\/S b)->¬F b):gi S w' a s bs r:=
 ⟨h.box.ext E<|c _<|.inl rfl,h.el.ext E fun b d=>c b<|.inr d,h.apart,h.pF,h.room⟩
def gi.pure(h:gi S w a s bs r)(E:Pure w w'):gi S w' a s bs r:=h.ext E fun _ _ h=>h
def gi.j0(h:gi S w a s bs r):w.cell? (a.add 1)=some (vi (r.at_:Int)):=h.box.cell (i:=1) rfl
def gi.rA(h:gi S w a s bs r):w.cell? (a.add 2)=some (vi (r.cq:Int)):=h.box.cell (i:=2) rfl
def gi.len(h:gi S w a s bs r):s.len=bs.length:=by rw[h.el.len,qC]
def gi.wu(h:gi S w a s bs r)(k:Nat):gi S (w.setCell (a.add 1)<|vi (k:Int)) a s bs ⟨k,r.cq,r.spot⟩:=
 ⟨h.box.set 1 _,h.el.ext (ab.setCell _ _) fun b c e=>h.apart b c (by rw[zC]at e;exact e),h.apart,h.pF,h.room⟩
def gi.IZ(h:gi S w a s bs r)(k:Nat):gi S (w.setCell (a.add 2)<|vi (k:Int)) a s bs ⟨r.at_,k,r.spot⟩:=
 ⟨h.box.set 2 _,h.el.ext (ab.setCell _ _) fun b c e=>h.apart b c (by rw[zC]at e;exact e),h.apart,h.pF,h.room⟩
def gi.FE(h:gi S w a s bs r)(k:Nat):gi S (w.setCell (a.add 3)<|vi (k:Int)) a s bs ⟨r.at_,r.cq,k⟩:=
 ⟨h.box.set 3 _,h.el.ext (ab.setCell _ _) fun b c e=>h.apart b c (by rw[zC]at e;exact e),h.apart,h.pF,h.room⟩
end
section
variable {S:NP} (a:Addr) (s:Sl) (bs:List UInt8) (r:Rd) (w0:World)
def Ln(h:gi S w0 a s bs r)(b:r.cq=0)(e x:Nat):
  cl 170 #[vp<|some a,vi e,vi x] w0<|fun c w'=>c=.returned (.tuple #[])/\(gi S w' a s bs ⟨r.at_,e,x⟩/\ab (·=a.block) w0 w'):=by
 refine Tj (some a) _ _ w0 _ ?_
 refine⟨a,rfl,_,h.rA,fun _=>⟨a,rfl,h.box.eh (i:=2) Sm,?_⟩,fun d=>absurd (by rw[b];rfl) (beq_eq_false_iff_ne.1 d)⟩
 rintro f rfl
 have h1:=h.IZ e
 refine⟨a,rfl,h1.box.eh (i:=3) Sm,?_⟩
 rintro g rfl
 exact⟨h1.FE x,qT.trans qT⟩
def zJA(h:gi S w0 a s bs r)(c:r.at_<=bs.length):
  cl 58 #[vp<|some a] w0<|XB fun x w'=>x=((bs.length-r.at_:Nat):Int)/\Pure w0 w':=by
 refine Wb (some a) w0 _ ?_
 refine⟨a,rfl,fun d hs=>?_⟩
 have b:Pure w0 d:=hs.first
 have h1:=h.pure b
 refine⟨s,h1.box.bf,a,rfl,_,h1.j0,?_,b⟩
 rw[h.len,IntWalk.i64_in _<|Oh h.pF];omega
def Y3(h:gi S w0 a s bs r)(b:r.at_<bs.length)(n:r.cq=0):
  cl 115 #[vp<|some a] w0<|XV fun x w'=>x=(bs[r.at_].toNat:Int)/\gi S w' a s bs ⟨r.at_+1,0,r.spot⟩/\ab (·=a.block) w0 w':=by
 refine jaJ (some a) w0 _ ?_
 unfold KM
 have y:=h.pF
 refine⟨a,rfl,_,h.rA,fun g=>absurd (by rw[n];rfl) (bne_iff_ne.1 g),fun _=>⟨a,rfl,fun q l=>?_⟩⟩
 have p:Pure w0 q:=l.first
 have h1:=h.pure p
 refine⟨_,h1.j0,a,rfl,s,h1.box.bf,fun g=>?_,fun _=>⟨a,rfl,_,h1.j0,a,rfl,h1.box.eh (i:=1) Sm,id,?_⟩⟩
 .have:=beq_iff_eq.1 g;rw[h.len]at this;omega
 rintro t k
 have w:IntKind.i64.wrap ((r.at_:Int)+1)=((r.at_+1:Nat):Int):=zM b Om
 rw[w]at k
 have h3:=h1.wu<|r.at_+1
 rw[<-k]at h3
 have u:ab (·=a.block) q t:=by rw[k];exact qT
 refine⟨a,rfl,fun v m=>?_⟩
 have o:Pure t v:=m.ext
 have d:=h3.pure o
 have f:IntKind.i64.wrap (((r.at_+1:Nat):Int)-1)=(r.at_:Int):=by rw[IntWalk.i64_in _ Om];omega
 have⟨c,j,_,e⟩:=Ch d.el b
 refine⟨s,d.box.bf,a,rfl,_,d.j0,c,by simp only;rw[f];exact j,_,e,rfl,?_,((ab.pure p).trans u).fb o⟩
 rw[n]at d;exact d
def UW{P t w}(x k:Nat)(b:k<64)(h:x*2^k<18446744073709551616):(Go.binOp .shl t (.int .u64 (x:Int))<|.int .u64 (k:Int)).run P w=.ok (.int .u64 ((x*2^k:Nat):Int)) w:=by
 have hr:IntKind.u64.wrap ((x:Int)*2^min (k:Int).toNat IntKind.u64.bits)=((x*2^k:Nat):Int):=by
  have:min (k:Int).toNat IntKind.u64.bits=k:=by simp[IntKind.bits];omega
  rw[this,<-qD h];simp
 have a:¬((k:Int)<0):=Om;show(Op.shift .shl .u64 (x:Int) .u64 (k:Int)).run P w=_;unfold Op.shift;rw[if_neg a];show((pure (Value.int .u64<|IntKind.u64.wrap<|(x:Int)*2^min (k:Int).toNat IntKind.u64.bits):Sem Value)).run P w=_;rw[hr];rfl
def WO{P t w}(c:Nat)(h:c<256):(Go.binOp .rem t (.int .u8 (c:Int))<|.int .u8 128).run P w=.ok (.int .u8 ((c%128:Nat):Int)) w:=by
 have a:((c:Int).tmod 128)=((c%128:Nat):Int):=by rw[Int.tmod_eq_emod_of_nonneg Om];omega
 simp[Go.binOp,Op.intDiv,a]
def KV(h:gi S w0 a s bs r)(hat:r.at_<=bs.length)(hS:∀b,(b=a.block\/S b)->b<w0.heap.size):
  cl 118 #[vp (some a)] w0 (XW fun x w'=>x=((vY bs r).1:Int)/\gi S w' a s bs (vY bs r).2/\ab (·=a.block) w0 w'):=by
 refine Yw (some a) w0 _ ?_
 unfold Pq
 have hsm:=h.pF
 refine⟨a,rfl,_,h.rA,fun u=>?_,fun u=>?_⟩
 have J:r.cq≠0:=Oh (bne_iff_ne.1 u)
 have hr:vY bs r=(0,r):=by unfold vY;rw[if_neg J]
 rw[hr];exact⟨rfl,h,ab.refl _⟩
 have J:r.cq=0:=Gd
 have G : ∀ (x : Nat) (H : NP) (w : World), (∀ b, (b = a.block \/ S b) -> ¬ H b) -> gi S w a s bs r -> ab (· = a.block) w0 w -> xS 0 0 (bs.drop r.at_) = .error x ->
   cl 170 #[vp (some a),vi x,vi (r.at_:Int)] w (fun e w'=>e=.returned (.tuple #[])/\aj H w w'/\((0:Int)=((vY bs r).1:Int)/\gi S w' a s bs (vY bs r).2/\ab (·=a.block) w0 w')):=by
  intro x H w Q Z hE d
  have hr:vY bs r=(0,⟨r.at_,x,r.at_⟩):=by unfold vY;rw[if_pos J,d]
  refine(Ln a s bs r w Z J x r.at_).mono ?_
  rintro _ w' ⟨rfl,hR',X⟩
  rw[hr]
  exact⟨rfl,X.bk Gd,rfl,hR',hE.trans X⟩
 refine⟨fun n i Hl w=>∃f k:Nat,n=(f:Int)/\i=(k:Int)/\k<=9/\f<2^(7*k)/\r.at_+k<=bs.length/\xS k f (bs.drop (r.at_+k))=xS 0 0 (bs.drop r.at_)/\gi S w a s bs r/\(∀b,(b=a.block\/S b)->¬Hl b)/\Pure w0 w,fun _ i _=>(10-i).toNat,⟨0,0,rfl,rfl,Om,Sm,by simpa using hat,rfl,h,fun _ _ h=>h,ab.refl _⟩,?_⟩
 rintro _ _ Hl wl hl ⟨f,k,rfl,rfl,hk,v,hle,d,Z,Q,hE⟩
 unfold Jf
 have hSl:∀{w:World},Pure w0 w->∀b,(b=a.block\/S b)->b<w.heap.size:=fun E b O=>Oi (hS b O) E.size
 refine⟨a,rfl,fun w1 C=>?_⟩
 have D:=Z.ext C.ext (C.ji Gd)
 have E1:=hE.au C
 have q:IntKind.i64.wrap ((r.at_:Int)+(k:Int))=((r.at_+k:Nat):Int):=by rw[IntWalk.i64_in _ Om];omega
 refine⟨_,D.j0,a,rfl,s,D.box.bf,fun u=>?_,fun u=>?_⟩
 have hge:r.at_+k=bs.length:=by rw[q]at u;have:=of_decide_eq_true u;have:=D.len;omega
 refine⟨a,rfl,_,D.j0,?_⟩
 exact G 3 Hl w1 Q D (ab.pure E1) (by rw[<-d,hge,drop_length];rfl)
 have U:r.at_+k<bs.length:=by rw[q]at u;have:=of_decide_eq_false u;have:=D.len;omega
 refine⟨a,rfl,fun w3 B=>?_⟩
 have T:=D.ext B.ext (B.ji Gd)
 have V:=E1.au B
 have⟨a7,P,_,hv7⟩:=Ch T.el U
 have F:bs.drop (r.at_+k)=bs[r.at_+k] ::bs.drop (r.at_+k+1):=drop_eq_getElem_cons U
 refine⟨s,T.box.bf,a,rfl,_,T.j0,a7,by rw[q];exact P,_,hv7,?_⟩
 generalize bs[r.at_+k]=c at *
 have I:=c.toNat_lt
 rw[F,xR]at d
 have m:∀{H H':NP} {w w':World},Pure w0 w->(∀b,(b=a.block\/S b)->¬H b)->af w0 H w H' w'->∀b,(b=a.block\/S b)->¬H' b:=fun E Q hs=>hs.ji Gd
 refine⟨fun O=>⟨a,rfl,fun H1 w4 j=>?_⟩,fun O H1 w4 j=>?_⟩
 have l:=m V Q j
 have L:=T.ext j.ext l
 have A:k=9/\1<c.toNat:=by simp at O;omega
 rw[if_pos A]at d
 exact⟨_,L.j0,G 11 H1 w4 l L (ab.pure (V.au j)) d.symm⟩
 have l:=m V Q j
 have L:=T.ext j.ext l
 have M:=V.au j
 have A:¬(k=9/\1<c.toNat):=by intro hh;simp at O;omega
 rw[if_neg A]at d
 have N:c.toNat%128*2^(7*k)<18446744073709551616:=by
  by_cases h9:k=9;subst h9;omega;have h8:2^(7*k)<=2^56:=Nat.pow_le_pow_right Om Om;have t:c.toNat%128<=127:=Om
  calc c.toNat%128*2^(7*k)<=127*2^56:=Nat.mul_le_mul t h8
   _<18446744073709551616:=De
 have hac:f<18446744073709551616:=Nat.lt_of_lt_of_le v (by
  calc 2^(7*k)<=2^63:=Nat.pow_le_pow_right Om Om
   _<=18446744073709551616:=by decide)
 have h7:IntKind.u64.wrap (IntKind.i64.wrap (7*(k:Int)))=((7*k:Nat):Int):=by
  rw[IntWalk.i64_in _ Om,show(7*(k:Int))=((7*k:Nat):Int) by omega,qD Om]
 have y:128^k=2^(7*k):=by rw[Nat.pow_mul]
 have R:f |||(c.toNat%128*2^(7*k))=f+c.toNat%128*2^(7*k):=LC v
 have Y:f+c.toNat%128*2^(7*k)<18446744073709551616:=by rw[<-R];exact Nat.or_lt_two_pow (n:=64) hac N
 have hwn:IntKind.u64.wrap ((f:Int)+((c.toNat%128*2^(7*k):Nat):Int))=((f+c.toNat%128*2^(7*k):Nat):Int):=by
  rw[show((f:Int)+((c.toNat%128*2^(7*k):Nat):Int))=((f+c.toNat%128*2^(7*k):Nat):Int) by omega,qD Y]
 refine⟨_,WO c.toNat I,((c.toNat%128*2^(7*k):Nat):Int),by rw[h7,qD Om];exact UW _ _ Om N,?_⟩
 rw[hwn]
 refine⟨fun hs=>?_,fun hs=>⟨fun W=>⟨a,rfl,fun H2 w6 g=>?_⟩,fun W=>⟨a,rfl,fun H2 w6 g=>?_⟩⟩⟩
 have o:¬c.toNat<128:=Oh (of_decide_eq_true hs)
 rw[if_neg o,y]at d
 have hk9:k≠9:=Om
 rw[zM (n:=10) Om Om]
 refine⟨⟨_,k+1,rfl,rfl,Om,?_,Om,d,L,l,M⟩,by show(10-((k+1:Nat):Int)).toNat<(10-(k:Int)).toNat;omega⟩
 have:2^(7*(k+1))=128*2^(7*k):=by rw[Nat.mul_add,Nat.pow_add];omega
 rw[this]
 have t:c.toNat%128*2^(7*k)<=127*2^(7*k):=Nat.mul_le_mul_right _ Om
 omega
 have o:c.toNat<128:=Oh (of_decide_eq_false hs)
 rw[if_pos o]at d
 have p:=m M l g
 have K:=L.ext g.ext p
 have z:c.toNat=0/\0<k:=by simp at W;omega
 rw[if_pos z]at d
 exact⟨_,K.j0,G 10 H2 w6 p K (ab.pure (M.au g)) d.symm⟩
 have o:c.toNat<128:=Oh (of_decide_eq_false hs)
 rw[if_pos o]at d
 have p:=m M l g
 have K:=L.ext g.ext p
 have z:¬(c.toNat=0/\0<k):=by intro hh;simp at W;omega
 rw[if_neg z,y]at d
 have hr:vY bs r=(f+c.toNat*2^(7*k),⟨r.at_+(k+1),0,r.spot⟩):=by unfold vY;rw[if_pos J,<-d]
 rw[hr]
 have hwa:IntKind.i64.wrap (IntKind.i64.wrap ((r.at_:Int)+(k:Int))+1)=((r.at_+(k+1):Nat):Int):=by
  rw[q,IntWalk.i64_in _ Om];omega
 refine⟨_,K.j0,a,rfl,K.box.eh (i:=1) Sm,by rw[zC];exact p _ (.inl rfl),?_⟩
 rintro w8 e8
 rw[hwa]at e8
 have R8:=K.wu (r.at_+(k+1))
 rw[<-e8,J]at R8
 refine⟨by rw[Nat.mod_eq_of_lt o],R8,?_⟩
 rw[e8]
 exact(ab.pure (M.au g)).trans qT
def WZ(c:Nat)(hm:c<1000000)(h:gi S w0 a s bs r)(K:r.at_<=bs.length)(hS:∀b,(b=a.block\/S b)->b<w0.heap.size):
  cl 119 #[vp (some a),vi c] w0 (XS fun x w'=>x=⟨(qH bs c r).1.toArray⟩/\gi S w' a s bs (qH bs c r).2/\ab (·=a.block) w0 w'):=by
 refine jbi (some a) _ w0 _ ?_
 unfold NB
 have hsm:=h.pF
 refine⟨a,rfl,_,h.j0,?_⟩
 refine(KV a s bs r w0 h K hS).mono ?_
 rintro _ w1 ⟨_,rfl,rfl,l,D⟩
 refine⟨_,rfl,D.bk fun b t=>t.elim,a,rfl,_,l.rA,fun g=>?_,fun g=>?_⟩
 have he:(vY bs r).2.cq≠0:=Oh (bne_iff_ne.1 g)
 have hr:qH bs c r=([],(vY bs r).2):=by
  unfold qH vY at *;by_cases h0:r.cq=0;grind;rw[if_neg h0,if_neg h0]
 rw[hr];exact⟨rfl,l,D⟩
 have d:(vY bs r).2.cq=0:=Gd
 have⟨v,hdr,hn64⟩:=uQ d
 have hat1:=(E0 bs r K)
 have W:qH bs c r=(if c<(vY bs r).1 then([],⟨r.at_,1,r.at_⟩)else if bs.length<(vY bs r).2.at_+(vY bs r).1 then([],⟨r.at_,3,r.at_⟩)else((bs.drop (vY bs r).2.at_).take (vY bs r).1,⟨(vY bs r).2.at_+(vY bs r).1,0,r.spot⟩)):=by
  unfold qH vY at *;rw[if_pos v]at d|-;rw[if_pos v];cases j:xS 0 0 (bs.drop r.at_)with
  |error x=>rw[j]at d;simp only at d;exfalso;exact Gy j d
  |ok p=>rfl
 have V:(vY bs r).2.spot=r.spot:=by
  unfold vY at d|-;rw[if_pos v]at d|-;cases j:xS 0 0 (bs.drop r.at_)with
  |error x=>rw[j]at d;simp only at d;exfalso;exact Gy j d
  |ok p=>rfl
 rw[W]
 generalize vY bs r=q at *
 have⟨n,r1⟩:=q
 simp only at *
 have C:∀b,(b=a.block\/S b)->b<w1.heap.size:=fun b t=>Oi (hS b t) D.size
 have M : ∀ (e : Nat) (H : NP) (w w' : World), (∀ b, (b = a.block \/ S b) -> ¬ H b) -> gi S w a s bs r1 -> ab (· = a.block) w0 w -> w' = w.setCell (a.add 1) (vi (r.at_ : Int)) ->
   cl 170 #[vp (some a),vi e,vi (r.at_:Int)] w' (fun en A=>en=.returned (.tuple #[])/\aj H w' A/\(gi S A a s bs ⟨r.at_,e,r.at_⟩/\ab (·=a.block) w0 A)):=by
  intro e H w w' m hR hE e'
  have G:=hR.wu r.at_
  rw[<-e']at G
  refine(Ln a s bs _ w' G d e r.at_).mono ?_
  rintro _ A ⟨rfl,U,X⟩
  refine⟨rfl,X.bk Gd,U,(hE.trans ?_).trans X⟩
  rw[e'];exact qT
 have I:IntKind.u64.wrap (c:Int)=(c:Int):=qD Om
 refine⟨fun g=>⟨a,rfl,fun z A u=>?_⟩,fun g=>⟨a,rfl,fun z w5 y=>?_⟩⟩
 have g:c<n:=by rw[I]at g;simp at g;omega
 rw[if_pos g]
 have m:∀b,(b=a.block\/S b)->¬z b:=u.ji fun b t=>⟨C b t,id⟩
 have R2:=l.ext u.ext m
 refine⟨R2.box.eh (i:=1) Sm,by rw[zC];exact m _ (.inl rfl),?_⟩
 rintro w3 e3
 refine(M 1 z A w3 m R2 (D.au u) e3).mono ?_
 rintro _ w4 ⟨rfl,Q,R,X4⟩
 exact⟨rfl,Q,rfl,R,X4⟩
 have g:¬c<n:=by rw[I]at g;simp at g;omega
 rw[if_neg g]
 have m:∀b,(b=a.block\/S b)->¬z b:=y.ji fun b t=>⟨C b t,id⟩
 have B:=l.ext y.ext m
 have X5:=D.au y
 have J:IntKind.u64.wrap (IntKind.i64.wrap ((s.len:Int)-(r1.at_:Int)))=((bs.length-r1.at_:Nat):Int):=by
  rw[l.len,IntWalk.i64_in _ Om,show((bs.length:Int)-(r1.at_:Int))=((bs.length-r1.at_:Nat):Int) by omega,qD Om]
 refine⟨s,B.box.bf,a,rfl,_,B.j0,fun f=>⟨a,rfl,B.box.eh (i:=1) Sm,by rw[zC];exact m _ (.inl rfl),?_⟩,fun f=>⟨a,rfl,fun w8 E=>?_⟩⟩
 have f:bs.length<r1.at_+n:=by rw[J]at f;have:=of_decide_eq_true f;omega
 rw[if_pos f]
 rintro w6 e6
 refine(M 3 z w5 w6 m B X5 e6).mono ?_
 rintro _ w7 ⟨rfl,Q,hR7,X7⟩
 exact⟨rfl,Q,rfl,hR7,X7⟩
 have f:¬bs.length<r1.at_+n:=by rw[J]at f;have:=of_decide_eq_false f;omega
 rw[if_neg f]
 have T:∀b,(b=a.block\/S b)->¬z b:=m
 have o:=B.ext E.ext T
 have Z:IntKind.i64.wrap (n:Int)=(n:Int):=IntWalk.i64_in _ Om
 have L:IntKind.i64.wrap ((r1.at_:Int)+(n:Int))=((r1.at_+n:Nat):Int):=by rw[IntWalk.i64_in _ Om];omega
 rw[Z]
 have⟨s1,O,F⟩:=o.el.sub (P:=prog) uk o.room (k:=.i64) (lo:=r1.at_) (n:=n) (by rw[qC];omega)
 have Y:((dn bs).drop r1.at_).take n=dn ((bs.drop r1.at_).take n):=by simp[dn,map_take,map_drop]
 rw[Y]at F
 refine⟨s,o.box.bf,a,rfl,_,o.j0,a,rfl,_,o.j0,s1,by rw[L];exact O,_,jbB F,a,rfl,_,o.j0,a,rfl,o.box.eh (i:=1) Sm,by rw[zC];exact m _ (.inl rfl),?_⟩
 rintro w9 N
 rw[L]at N
 have R9:=o.wu (r1.at_+n)
 rw[<-N,d,V]at R9
 refine⟨rfl,R9,?_⟩
 rw[N]
 exact(X5.au E).trans qT
def jaH{S0}(sb bs w0)(hs:dr S0 w0 1 sb (dn bs))(w:bs.length<=100000000):
  cl 57 #[sb.v] w0<|XD fun x w'=>∃a s',x=some a/\gi s'.aq w' a s' bs ⟨0,0,0⟩/\Pure w0 w'/\w0.heap.size<=a.block/\(∀b,s'.aq b->w0.heap.size<=b/\b<w'.heap.size):=by
 refine jcJ _ w0 _ ?_
 intro i p n2
 have j:Pure w0 p:=ab.ax n2
 have s:bg p 5 1 ⟨some i,0,0⟩ []:=bg.empty n2
 have y:=n2.cu
 have B:=j.size
 have⟨s1,n,hr,f,z,m⟩:=s.AM (P:=prog) (ty:=59) uk (hs.pure j) (zv bs) (Gw bs) (by rw[qC];simp;omega) (by rw[qC];simp only[maxLen,length_nil];omega)
 rw[nil_append]at f
 have o2:∀b,(Sl.mk (some i) 0 0).aq b->b=i.block:=fun b c=>by obtain⟨a,u,rfl⟩:=c;cases u;rfl
 have k:∀b,s1.aq b->w0.heap.size<=b:=fun b c=>(m b c).elim Gd fun h=>Om
 have o:Pure w0 n:=j.cg z Gd
 refine⟨s1,n,hr,?_⟩
 intro t A n3
 have l:Pure n A:=ab.ax n3
 have q:=n3.cu
 have C:=o.size;have D:=l.size
 have d:s1.len<=s1.cap:=by
  rcases f.ak with⟨rfl,_⟩|⟨g,cur,_,_,r,_⟩;exact Nat.le_refl _;rw[f.len];exact r
 exact⟨t,s1,rfl,⟨ai.fp n3,f.el.pure l,fun b c e=>Oh<|f.lt c,w,d⟩,o.trans l,Om,fun b c=>⟨k b c,Oh<|f.lt c⟩⟩
end
end Go.Proofs
end
section
open Go Go.SE
namespace Go.Proofs
open Tryz
attribute [local irreducible] Calls
def zCW:km prog 189 4 1 1:=by
 refine⟨underlying189,⟨t4,_,Kf,(by kernel_rfl:t4.zero=some (vb false)),Kf,Kf,rfl⟩,Om⟩
def jYK:∀i z,prog.info? 4=some i->i.zero=some z->z.cells=#[Value.bool false]:=by
 intro i z hi a;have h1:prog.info? 4=some t4:=Kf;rw[h1]at hi;cases hi;have h2:t4.zero=some (vb false):=Kf;rw[h2]at a;cases a;rfl
def pG(n:Nat)(V:Int->Bool):List (List Value):=(List.range n).map fun i:Nat=>[Value.bool<|V (i:Int)]
def DF(n V):(pG n V).length=n:=by simp[pG]
def YB(n):List.replicate n [Value.bool false]=pG n (fun _=>false):=by
 unfold pG;rw[List.map_const',List.length_range]
def Za(n V t b):(pG n V).set t [vb b]=pG n (gu V (t:Int) b):=by
 apply List.ext_getElem?;intro i;rw[List.getElem?_set];by_cases h:t=i;subst h;rw[if_pos rfl];by_cases a:t<n;simp[pG,a,gu];simp[pG,a];rw[if_neg h];by_cases a:i<n;simp[pG,a,gu,show ¬(i:Int)=t by omega];simp[pG,a]
section
variable {w w':World} {e:TypeId} {s:Sl} {n:Nat} {V:Int->Bool}
def zJZ(h:bg w e 1 s (pG n V)){t:Int}(b:0<=t)(ht:t<n):∃a,At s t 1 a/\s.aq a.block/\w.cell? a=some (vb<|V t):=by
 have⟨a,h1,h2,h3⟩:=h.at b (by rw[DF];omega);refine⟨a,h1,h3,?_⟩;have:(pG n V)[t.toNat]'(by rw[DF];omega)=[Value.bool<|V t]:=by
  simp only[pG,List.getElem_map,List.getElem_range];rw[show((t.toNat:Nat):Int)=t by omega]
 rw[this]at h2;exact zi h2
def ZY(h:bg w e 1 s (pG n V)){t:Int}(q:0<=t)(ht:t<n):∃a,At s t 1 a/\s.aq a.block/\zL w a/\∀b,bg (w.setCell a<|vb b) e 1 s (pG n<|gu V t b)/\ab s.aq w (w.setCell a<|vb b):=by
 have c:∀b:Bool,∃a,At s t 1 a/\(∀j,j<1->zL w (a.add j))/\∀w',w'=bd w a [Value.bool b]->bg w' e 1 s ((pG n V).set t.toNat [vb b])/\ab s.aq w w':=fun b=>h.set (i:=t.toNat) (by rw[DF];omega) rfl Om;have⟨a,g,r,_⟩:=c true;have⟨u,h1,_,p⟩:=h.at q (by rw[DF];omega);have l:∀{x:Addr},At s t 1 x->x=a:=fun o=>by
  obtain⟨_,_,b1,m,rfl⟩:=o;obtain⟨_,_,b2,d,rfl⟩:=g;rw[m]at d;cases d;rfl
 have f:a.add 0=a:=by simp[Addr.add]
 refine⟨a,g,?_,by have:=r 0 Om;rwa [f]at this,fun b=>?_⟩;grind;have⟨x,o,_,k⟩:=c b;have:=l o;subst this;have au:bd w x [Value.bool b]=w.setCell x (vb b):=by show w.setCell (x.add 0) (vb b)=_;rw[f]
 have⟨r1,r2⟩:=k _ rfl;rw[au]at r1 r2;rw[Za,show((t.toNat:Nat):Int)=t by omega]at r1;exact⟨r1,r2⟩
end
structure AU(w:World)(x q:Addr)(L:aw)(st:(Int->Bool)×List Int)(a:NP)(sv so:Sl):Prop where
 box:ai w x [vp<|some q,sv.v,so.v] 191
 seen:bg w 4 1 sv (pG (L.length+1) st.1)
 iw:bg w 73 1 so (cd st.2)
 bl:vP w q L a
 n1:¬sv.aq x.block
 n2:¬so.aq x.block
 n3:∀b,sv.aq b->¬so.aq b
 n4:∀b,a b->b≠x.block/\¬sv.aq b/\¬so.aq b
def WF(x:Addr)(sv so:Sl)(b:Nat):Prop:=b=x.block\/sv.aq b\/so.aq b
def vP.Oa{w q L FR}(h:vP w q L FR){t}(ht:al L t=true)(c:Ok L):∃v,w.cell? q=some (Sl.v v)/\∃a,At v (IntKind.i64.wrap<|t-1) 7 a/\w.cell? (a.add 5)=some (vi (ad L t).a)/\w.cell? (a.add 6)=some (vi (ad L t).b):=by
 have⟨s1,f,g,h,_⟩:=h;obtain⟨i,hi,rfl⟩:=rV ht;have:=c.ft;have⟨a,h1,h2⟩:=h.r1.kg hi;rw[IntWalk.i64_in _ Om,show(i:Int)+1-1=i by omega];have e:=qN hi;have d:Ek L[i]=tI (ad L<|(i:Int)+1):=by rw[e];rfl
 rw[d]at h2;exact⟨s1,h.box.bf,a,h1,h2 5<|by simp[tI],h2 6<|by simp[tI]⟩
def jQW(x q:Addr){L:aw}(s:Wf L):∀(n:Nat) (t:Int) (j:World) (st:(Int->Bool)×List Int) (A:NP) (sv so:Sl),t.toNat<n->AU j x q L st A sv so->td L st->(∀y,st.1 y=true->y<=t->y∈st.2) ->
  cl 123 #[vp (some x),vi t] j (fun e w'=>e=.returned (.tuple #[])/\∃m,AU w' x q L (yX L n t st) A sv m/\ab (WF x sv so) j w'/\∀b,m.aq b->so.aq b\/j.heap.size<=b):=by
 intro n
 induction n with
 |zero=>intro t j st A sv so h;omega
 |succ n ih =>
 intro t j st A sv so hn h au hm
 have hR:=tb s (n+1) t st hn au hm
 suffices key:∀K:WP,(∀m w',AU w' x q L (yX L (n+1) t st) A sv m->ab (WF x sv so) j w'->(∀b,m.aq b->so.aq b\/j.heap.size<=b)->K w')->Px (some x) t j K from
  UG _ _ j _ (key _ Gd)
 intro K D
 refine⟨x,rfl,_,h.box.bf,?_⟩
 refine(uR q t j h.bl).mono ?_
 rintro _ j ⟨r1,rfl,rfl,rfl⟩
 refine⟨_,rfl,fun hc=>?_,fun hc=>?_⟩
 have f:al L t=false:=by simpa using hc
 refine Br.t rfl ?_
 rw[yX,if_neg (by simp[f])]at D
 exact D so j h (ab.refl _) fun b d=>.inl d
 have f:al L t=true:=by simpa using hc
 have⟨t1,tL⟩:=zI.1 f
 have⟨a13,N,_,W⟩:=zJZ h.seen (t:=t) Om Om
 refine⟨x,rfl,sv,h.box.cell rfl,a13,N,_,W,?_⟩
 refine⟨fun hv=>?_,fun hv=>?_⟩
 rw[yX,if_neg (by simp[hv])]at D
 exact D so j h (ab.refl _) fun b d=>.inl d
 rw[yX,if_pos ⟨f,hv⟩]at D hR
 have⟨a2,at2,u,cw2,Q⟩:=ZY h.seen (t:=t) Om Om
 refine⟨x,rfl,sv,h.box.cell rfl,a2,at2,cw2,?_⟩
 rintro _ rfl
 have⟨R2,J⟩:=Q true
 have A2:AU (j.setCell a2 (vb true)) x q L (gu st.1 t true,st.2) A sv so:=
  ⟨h.box.ext J h.n1,R2,h.iw.ext J fun b d u=>h.n3 b u d,h.bl.ext J fun b d u=>(h.n4 b d).2.1 u,h.n1,h.n2,h.n3,h.n4⟩
 generalize j.setCell a2 (vb true)=w2 at *
 have⟨v3,c3,a5,at5,ca,cb⟩:=A2.bl.Oa f s.ok
 refine⟨x,rfl,_,A2.box.bf,q,rfl,v3,c3,a5,at5,_,ca,?_⟩
 have O:∀k,k=(ad L t).a\/k=(ad L t).b->k<t:=by
  intro k z;have p:=(s.node f).2.2.2.2.1;cases hp:al L k with
  |true=>exact(p k (BP s f z hp)).2
  |false =>
   have h1:=(s.node f).2.1
   have h2:=(s.node f).2.2.1
   rcases yM (ad L t).kind with e|e|e
   grind
   have b0:=h2 Om
   rcases z with z|z
   have:=(p k (by unfold zB;rw[e,z];simp)).2;exact this
   omega
   exact(p k (by unfold zB;rw[e];rcases z with z|z<;>simp[z])).2
 have la:=O _ (.inl rfl)
 have lb:=O _ (.inr rfl)
 have o1:td L (gu st.1 t true,st.2):=⟨fun y C=>by simp only[gu];split<;>simp[au.Av y C],au.sL,au.nd,au.iq⟩
 have m1:∀y,(gu st.1 t true,st.2).1 y=true->y<=(ad L t).a->y∈(gu st.1 t true,st.2).2:=fun y C hle=>by
  simp only[gu]at C;rw[if_neg Om]at C;exact hm y C Om
 have r1:=tb s n (ad L t).a _ Om o1 m1
 refine(ih (ad L t).a w2 _ A sv so Om A2 o1 m1).mono ?_
 rintro _ w3 ⟨rfl,H,X,X3,f3⟩
 generalize hs1:yX L n (ad L t).a (gu st.1 t true,st.2)=s1 at *
 have⟨v6,c6,a8,at8,_,V⟩:=X.bl.Oa f s.ok
 refine⟨rfl,x,rfl,_,X.box.bf,q,rfl,v6,c6,a8,at8,_,V,?_⟩
 have m2:∀y,s1.1 y=true->y<=(ad L t).b->y∈s1.2:=fun y C hle=>by
  rcases r1.ue y C with R|R;simp only[gu]at R;rw[if_neg Om]at R;have:=hm y R Om;have⟨M,e,_⟩:=r1.jf;simp only at e;rw[e];exact List.mem_append_left _ this;exact R
 have r2:=tb s n (ad L t).b s1 Om r1.totd m2
 refine(ih (ad L t).b w3 s1 A sv H Om X r1.totd m2).mono ?_
 rintro _ w4 ⟨rfl,o,g,X4,f4⟩
 generalize hs2:yX L n (ad L t).b s1=T at *
 refine⟨rfl,x,rfl,o,g.box.cell rfl,?_⟩
 intro p1 w5 h5
 have E:Pure w4 w5:=ab.ax h5
 have hfew:T.2.length<=65536:=Oi (xW r2.nd r2.iq) s.ok.ft
 have⟨l,w6,Y,R6,U,f6⟩:=(g.iw.pure E).append (P:=prog) (ty:=46) (c:=1) sZ (r:=[vi t]) (ai.bj h5).row rfl rfl (by rw[vA];omega) (by rw[vA];simp[maxLen];omega)
 have b6:=(g.box.pure E).ext U g.n2
 refine⟨l,w6,Y,x,rfl,b6.eh Sm,?_⟩
 rintro _ rfl
 have I:=ab.setCell (w:=w6) (x.add 2) l.v
 rw[zC]at I
 have z2:j.heap.size<=w2.heap.size:=J.size
 have z3:=X3.size
 have z4:=X4.size
 have z5:=E.size
 have B:∀b,l.aq b->o.aq b\/w4.heap.size<=b:=fun b d=>(f6 b d).imp_right fun h=>Om
 have nx:¬l.aq x.block:=fun hh=>(B _ hh).elim g.n2 fun hh=>Oh g.box.lt
 have nv:∀b,sv.aq b->¬l.aq b:=fun b d hh=>(B b hh).elim (g.n3 b d) fun hh=>Oh (g.seen.lt d)
 have G:=D l (w6.setCell (x.add 2) l.v)
 refine G ⟨b6.set 2 l.v,((g.seen.pure E).ext U g.n3).ext I fun b d e=>g.n1 (e▸d),?_,((g.bl.pure E).ext U fun b d=>(g.n4 b d).2.2).ext I fun b d e=>(g.n4 b d).1 e,g.n1,nx,nv,fun b d=>⟨(g.n4 b d).1,(g.n4 b d).2.1,fun hh=>(B b hh).elim (g.n4 b d).2.2 fun hh=>Oh (g.bl.lt d)⟩⟩ ?_ ?_
 show bg _ _ _ _ (cd (T.2++[t]))
 rw[show cd (T.2++[t])=cd T.2++[[vi t]] by simp[cd]]
 exact R6.ext I fun b d e=>nx (e▸d)
 have S:∀b,o.aq b->b<j.heap.size->so.aq b:=fun b d hlt=>Gd
 have Z:∀b,H.aq b->b<j.heap.size->so.aq b:=fun b d hlt=>(f3 b d).elim id fun h2=>Om
 refine((((J.mono fun b _ d=>.inr (.inl d)).trans X3).cg X4 fun i hi d=>?_).cg (E.pure (F:=WF x sv o)) fun i hi d=>?_).cg ((U.mono fun b _ d=>.inr (.inr d)).trans (I.mono fun b _ e=>.inl e)) fun i hi (d:WF x sv o i)=>?_
 rcases d with d|d|d
 exact .inl d
 exact .inr (.inl d)
 exact .inr (.inr (Z i d hi))
 rcases d with d|d|d
 exact .inl d
 exact .inr (.inl d)
 exact .inr (.inr (S i d hi))
 rcases d with d|d|d
 exact .inl d
 exact .inr (.inl d)
 exact .inr (.inr (S i d hi))
 grind
def HQ(q t w0){L FR}(A:Wf L)(m:vP w0 q L FR):
  cl 61 #[vp<|some q,vi t] w0<|XA fun r w'=>fv w0 73 1 (cd<|dd L t) r w':=by
 refine jaT _ _ w0 _ ?_
 unfold Qp
 obtain⟨l,s,g⟩:∃l:Sl,w0.cell? q=some l.v/\l.len=L.length:=by
  have⟨s1,H,K,h,_⟩:=m;exact⟨s1,h.box.bf,by rw[h.r1.len];simp⟩
 have J:=A.ok.ft
 refine⟨q,rfl,l,s,?_⟩
 rw[g,IntWalk.i64_in _ Om,show((L.length:Int)+1)=((L.length+1:Nat):Int) by omega]
 have⟨o,u,w,p⟩:=bg.ay (P:=prog) zCW jYK (k:=.i64) (k':=.i64) (n:=L.length+1) Om (by simp[maxLen];omega) w0
 rw[YB]at w
 refine⟨_,o,u,?_⟩
 intro y x h2
 have j:Pure o x:=ab.ax h2
 have E:=h2.cu
 have c:∀b,¬Sl.nil.aq b:=fun b d=>by have⟨a,h,_⟩:=d;cases h
 have f:∀b,(Sl.mk (some ⟨w0.heap.size,0,none⟩) (L.length+1)<|L.length+1).aq b->b=w0.heap.size:=by rintro b ⟨a,C,rfl⟩;cases C;rfl
 have G:=p.size
 have I:w0.heap.size<o.heap.size:=w.lt ⟨_,rfl,rfl⟩
 have B:AU x y q L (fun _=>false,[]) FR ⟨some ⟨w0.heap.size,0,none⟩,L.length+1,L.length+1⟩ Sl.nil:=by
  refine⟨ai.bj h2,w.pure j,bg.nil _ _ _,(m.pure p).pure j,fun d=>Oh<|f _ d,c _,fun b _=>c b,fun b d=>⟨fun e=>?_,fun hh=>?_,c b⟩⟩;have:=m.lt d;omega;have:=f _ hh;have:=m.lt d;omega
 refine(jQW y q A (t.toNat+1) t x _ FR _ Sl.nil Om B ⟨Sm,Sm,Sm,Sm⟩ Sm).mono ?_
 rintro _ M ⟨rfl,so,z,D,F⟩
 refine⟨rfl,so,z.box.cell rfl,z.iw,fun b d=>?_,(p.trans j).cg D fun i hi d=>?_⟩
 rcases F b d with h|h
 exact(c b h).elim
 have:=j.size;omega
 rcases d with d|d|d
 omega
 have:=f _ d;omega
 exact c _ d
end Go.Proofs
end
section
open Go Go.SE
namespace Go.Proofs
open Tryz
attribute [local irreducible] Calls CallsD
def zb{s i sz a}(h:At s i sz a):s.aq a.block:=by
 obtain⟨_,_,b,c,rfl⟩:=h;exact⟨b,c,(zC _ _).symm⟩
def PY{w e s A}(h:bg w e 1 s (cd A)){k:Int}{j:Nat}(p:k=j)(r:j<A.length):
  ∃a,At s k 1 a/\s.aq a.block/\zL w a/\∀v,bg (w.setCell a<|.int .i64 v) e 1 s (cd<|A.set j v)/\ab s.aq w (w.setCell a<|.int .i64 v):=by
 have b:∀v:Int,∃a,At s k 1 a/\(∀j,j<1->zL w (a.add j))/\∀w',w'=bd w a [Value.int .i64 v]->bg w' e 1 s ((cd A).set j [.int .i64 v])/\ab s.aq w w':=fun v=>h.set (i:=j) (by rw[vA];omega) rfl p
 have⟨a,c,q,_⟩:=b 0
 have l:∀{x:Addr},At s k 1 x->x=a:=fun n=>by
  obtain⟨_,_,b1,m,rfl⟩:=n;obtain⟨_,_,b2,d,rfl⟩:=c;rw[m]at d;cases d;rfl
 have f:a.add 0=a:=by simp[Addr.add]
 refine⟨a,c,zb c,by have:=q 0 Om;rwa [f]at this,fun v=>?_⟩
 have⟨x,n,_,g⟩:=b v
 have:=l n;subst this
 have au:bd w x [Value.int .i64 v]=w.setCell x (.int .i64 v):=by show w.setCell (x.add 0) (.int .i64 v)=_;rw[f]
 have⟨r1,r2⟩:=g _ rfl
 rw[au]at r1 r2
 have o:(cd A).set j [.int .i64 v]=cd (A.set j v):=by simp[cd,List.map_set]
 rw[o]at r1
 exact⟨r1,r2⟩
def jg(c:Bool)(f:bo)(n:di)(na nb:Nat):List UInt8:=if c then f.bytes n na nb else[]
def QA(n na nb)(h1:1<=n.kind)(a:n.kind<=9):(qP n.kind).flatMap (bo.bytes n na nb) =
  jg (rf n.kind) .mv n na nb++jg ((n.kind==8) ||(n.kind==9)) .oD n na nb++jg (n.kind==2) .num n na nb++jg (n.kind==3) .bb n na nb++jg (decide (dj n.kind>=1)) .fst n na nb++jg (dj n.kind==2) .snd n na nb:=by
 rw[yZ]
 have:n.kind=1\/n.kind=2\/n.kind=3\/n.kind=4\/n.kind=5\/n.kind=6\/n.kind=7\/n.kind=8\/n.kind=9:=Om
 rcases this with e|e|e|e|e|e|e|e|e<;>simp[e,qP,jg,rf,bq]
def zEG{n}(h:dj n.kind>=1):n.a∈zB n:=by
 rw[yZ]at h;unfold zB;rcases yM n.kind with e|e|e<;>rw[e]at h|-<;>simp at h|-
def RI{n}(h:dj n.kind=2):n.b∈zB n:=by
 rw[yZ]at h;unfold zB;rw[h];simp
structure Hm(w0:World)(q:Addr)(FR:NP)(s1 r1:Sl)(B:Nat):Prop where
 lR:∀x,FR x->x<B
 lr:∀x,r1.aq x->x<B
 ls:∀x,s1.aq x->x<B/\w0.heap.size<=x/\¬FR x/\¬r1.aq x
 ev:w0.heap.size<=B
structure ng(w0 w:World)(H:NP)(q:Addr)(L:aw)(FR:NP)(s1 r1:Sl)(A xs:List Int)(B:Nat)(b:Sl)(bs:List UInt8):Prop where
 bl:vP w q L FR
 at_:bg w 3 1 s1 (cd A)
 dd:bg w 73 1 r1 (cd xs)
 cm:bg w 5 1 b (dn bs)
 pure:Pure w0 w
 hB:∀x,H x->B<=x/\x<w.heap.size
 ak:∀x,b.aq x->B<=x/\¬H x
 lt:B<=w.heap.size
section
variable {w0 w w':World} {H H':NP} {q:Addr} {L:aw} {FR:NP} {s1 r1:Sl} {A xs:List Int} {B:Nat} {b b':Sl} {bs bs':List UInt8}
def ng.au(h:ng w0 w H q L FR s1 r1 A xs B b bs)(S:Hm w0 q FR s1 r1 B)(hs:af w0 H w H' w'):ng w0 w' H' q L FR s1 r1 A xs B b bs:=by
 have c:∀x,H' x->B<=x:=fun x a=>(hs.ax x a).elim (fun h1=>(h.hB x h1).1) fun h1=>Oh h.lt;have d:∀x,b.aq x->¬H' x:=hs.ji fun x a=>⟨h.cm.lt a,(h.ak x a).2⟩;exact⟨h.bl.ext hs.ext fun x a hh=>Oi (S.lR x a)<|c x hh,h.at_.ext hs.ext fun x a hh=>Oi (S.ls x a)<|c x hh,h.dd.ext hs.ext fun x a hh=>Oi (S.lr x a)<|c x hh,h.cm.ext hs.ext d,h.pure.au hs,fun x a=>⟨c x a,hs.lt x a⟩,fun x a=>⟨(h.ak x a).1,d x a⟩,Nat.le_trans h.lt hs.ext.size⟩
def ng.call(h:ng w0 w H q L FR s1 r1 A xs B b bs)(hr:fv w 5 1 (dn bs') b' w'):ng w0 w' H q L FR s1 r1 A xs B b' bs':=
 ⟨h.bl.pure hr.pure,h.at_.pure hr.pure,h.dd.pure hr.pure,hr.cm,h.pure.trans hr.pure,fun x a=>⟨(h.hB x a).1,Nat.lt_of_lt_of_le (h.hB x a).2 hr.pure.size⟩,fun x a=>⟨Nat.le_trans h.lt<|hr.ak x a,fun hh=>Oi (hr.ak x a)<|(h.hB x hh).2⟩,Nat.le_trans h.lt hr.pure.size⟩
end
section
variable (w0:World) (q:Addr) {L:aw} (hW:Wf L) (hN:uE L) {FR:NP} {s1 r1:Sl} {A xs:List Int} {B:Nat} (S:Hm w0 q FR s1 r1 B) (i1:Int) (n:di) (na nb:Nat)
include S
def Lb(t:dj n.kind=2->0<=n.b/\A[n.b.toNat]?=some (nb:Int)/\nb<65537){H w b bs}(h:ng w0 w H q L FR s1 r1 A xs B b bs)(x:bs.length<=1000000000)(p:Sl->Int->NP->WP)(K:Sl->WP)(e:∀b' H' w',ng w0 w' H' q L FR s1 r1 A xs B b' (bs++jg (dj n.kind==2) .snd n na nb)->p b' (IntKind.i64.wrap<|i1+1) H' w'):D0 s1 i1 n.kind n.b b w0 H w p K:=by
 refine⟨fun i=>?_,fun i=>?_⟩;rw[i]at e;have⟨z,v,h2⟩:=t (by simpa using i);have⟨o,m⟩:=List.getElem?_eq_some_iff.1 v;have⟨a,d,_,y⟩:=uJ h.at_.el o;rw[show((n.b.toNat:Nat):Int)=n.b by omega]at d;refine⟨a,d,fun f hs=>?_⟩;have k:=h.au S hs;have⟨u,c,_,j⟩:=uJ k.at_.el o;rw[show((n.b.toNat:Nat):Int)=n.b by omega]at c;have:u=a:=by
  obtain⟨_,_,b1,l,rfl⟩:=d;obtain⟨_,_,b2,g,rfl⟩:=c;rw[l]at g;cases g;rfl
 subst this;refine⟨_,j,?_⟩;rw[m,qD Om];refine(yx b bs nb f k.cm.el Om Om).mono ?_;rintro _ s ⟨r,rfl,hr⟩;exact⟨r,rfl,hr.bk,e _ _ _<|k.call hr⟩;rw[i]at e;simp only[jg,Bool.false_eq_true,if_false,List.append_nil]at e;exact fun f hs=>e _ _ _<|h.au S hs
def NX(v:dj n.kind>=1->0<=n.a/\A[n.a.toNat]?=some (na:Int)/\na<65537)(p:dj n.kind=2->0<=n.b/\A[n.b.toNat]?=some (nb:Int)/\nb<65537){H w b bs}(h:ng w0 w H q L FR s1 r1 A xs B b bs)(y:bs.length<=900000000)(j:Sl->Int->NP->WP)(K:Sl->WP)(e:∀b' H' w',ng w0 w' H' q L FR s1 r1 A xs B b' (bs++jg (decide (dj n.kind>=1)) .fst n na nb++jg (dj n.kind==2) .snd n na nb)->j b' (IntKind.i64.wrap<|i1+1) H' w'):CR s1 i1 n.kind n.a n.b b w0 H w j K:=by
 refine⟨fun i=>?_,fun i=>?_⟩;rw[i]at e;have⟨C,x,h2⟩:=v<|of_decide_eq_true i;have⟨s,o⟩:=List.getElem?_eq_some_iff.1 x;have⟨a,d,_,z⟩:=uJ h.at_.el s;rw[show((n.a.toNat:Nat):Int)=n.a by omega]at d;refine⟨a,d,fun f hs=>?_⟩;have l:=h.au S hs;have⟨u,c,_,k⟩:=uJ l.at_.el s;rw[show((n.a.toNat:Nat):Int)=n.a by omega]at c;have:u=a:=by
  obtain⟨_,_,b1,m,rfl⟩:=d;obtain⟨_,_,b2,g,rfl⟩:=c;rw[m]at g;cases g;rfl
 subst this;refine⟨_,k,?_⟩;rw[o,qD Om];refine(yx b bs na f l.cm.el Om Om).mono ?_;rintro _ t ⟨r,rfl,hr⟩;have:=vT (n:=na) Om;exact⟨r,rfl,hr.bk,Lb w0 q S i1 n na nb p (l.call hr) Gd j K e⟩;rw[i]at e;simp only[jg,Bool.false_eq_true,if_false,List.append_nil]at e;exact fun f hs=>Lb w0 q S i1 n na nb p (h.au S hs) Om j K e
def NH(l:n.bb.size<=64)(i:dj n.kind>=1->0<=n.a/\A[n.a.toNat]?=some (na:Int)/\na<65537)(g:dj n.kind=2->0<=n.b/\A[n.b.toNat]?=some (nb:Int)/\nb<65537){H w b bs}(h:ng w0 w H q L FR s1 r1 A xs B b bs)(k:bs.length<=800000000)(d:Sl->Int->NP->WP)(K:Sl->WP)(c:∀b' H' w',ng w0 w' H' q L FR s1 r1 A xs B b' (bs++jg (n.kind==3) .bb n na nb++jg (decide (dj n.kind>=1)) .fst n na nb++jg (dj n.kind==2) .snd n na nb)->d b' (IntKind.i64.wrap<|i1+1) H' w'):En s1 i1 n.kind n.bb n.a n.b b w0 H w d K:=by
 refine⟨fun f=>?_,fun f=>?_⟩;rw[f]at c;refine(jXU b bs n.bb w h.cm.el Om Om).mono ?_;rintro _ j ⟨r,rfl,hr⟩;have:=vT (n:=n.bb.size) Om;have e:n.bb.data.toList.length=n.bb.size:=Array.length_toList;exact⟨r,rfl,hr.bk,NX w0 q S i1 n na nb i g (h.call hr) (by rw[List.length_append,vU,List.length_append];omega) d K c⟩;rw[f]at c;simp only[jg,Bool.false_eq_true,if_false,List.append_nil]at c;exact NX w0 q S i1 n na nb i g h Om d K c
def MA(l:yY n.num)(g:n.bb.size<=64)(j:dj n.kind>=1->0<=n.a/\A[n.a.toNat]?=some (na:Int)/\na<65537)(i:dj n.kind=2->0<=n.b/\A[n.b.toNat]?=some (nb:Int)/\nb<65537){H w b bs}(h:ng w0 w H q L FR s1 r1 A xs B b bs)(o:bs.length<=700000000)(d:Sl->Int->NP->WP)(K:Sl->WP)(c:∀b' H' w',ng w0 w' H' q L FR s1 r1 A xs B b' (bs++jg (n.kind==2) .num n na nb++jg (n.kind==3) .bb n na nb++jg (decide (dj n.kind>=1)) .fst n na nb++jg (dj n.kind==2) .snd n na nb)->d b' (IntKind.i64.wrap<|i1+1) H' w'):DQ s1 i1 n.kind n.num n.bb n.a n.b b w0 H w d K:=by
 refine⟨fun f=>?_,fun f=>?_⟩;rw[f]at c;have⟨p,m⟩:=l;have e:n.num=((n.num.toNat:Nat):Int):=Om;rw[e];refine(yx b bs n.num.toNat w h.cm.el Om Om).mono ?_;rintro _ k ⟨r,rfl,hr⟩;have:=vT (n:=n.num.toNat) Om;exact⟨r,rfl,hr.bk,NH w0 q S i1 n na nb g j i (h.call hr) Gd d K c⟩;rw[f]at c;simp only[jg,Bool.false_eq_true,if_false,List.append_nil]at c;exact NH w0 q S i1 n na nb g j i h Om d K c
def Qm(ht:0<=n.to/\n.to<16)(l:yY n.num)(i:n.bb.size<=64)(k:dj n.kind>=1->0<=n.a/\A[n.a.toNat]?=some (na:Int)/\na<65537)(j:dj n.kind=2->0<=n.b/\A[n.b.toNat]?=some (nb:Int)/\nb<65537){H w b bs}(h:ng w0 w H q L FR s1 r1 A xs B b bs)(s:bs.length<=600000000)(f:Sl->Int->NP->WP)(K:Sl->WP)(c:∀b' H' w',ng w0 w' H' q L FR s1 r1 A xs B b' (bs++jg ((n.kind==8) ||(n.kind==9)) .oD n na nb++jg (n.kind==2) .num n na nb++jg (n.kind==3) .bb n na nb++jg (decide (dj n.kind>=1)) .fst n na nb++jg (dj n.kind==2) .snd n na nb)->f b' (IntKind.i64.wrap<|i1+1) H' w'):DG s1 i1 n.kind n.to n.num n.bb n.a n.b b w0 H w f K:=by
 refine⟨fun g o d hs=>?_,fun g o d hs=>?_⟩;rw[g]at c;have m:=h.au S hs;have e:n.to=((n.to.toNat:Nat):Int):=Om;rw[e,qD Om];refine(yx b bs n.to.toNat d m.cm.el Om Om).mono ?_;rintro _ p ⟨r,rfl,hr⟩;have:=vT (n:=n.to.toNat) Om;exact⟨r,rfl,hr.bk,MA w0 q S i1 n na nb l i k j (m.call hr) Gd f K c⟩;rw[g]at c;simp only[jg,Bool.false_eq_true,if_false,List.append_nil]at c;exact MA w0 q S i1 n na nb l i k j (h.au S hs) Om f K c
end
def Q9(q:Addr)(t:Int)(w0:World){L:aw}{FR:NP}(hW:Wf L)(hN:uE L)(hP:vP w0 q L FR):
  cl 157 #[.pointer<|some q,.int .i64 t] w0<|XA fun r w'=>fv w0 5 1 (dn<|qL L t) r w':=by
 refine U9 _ _ w0 _ ?_
 refine(HQ q t w0 hW hP).mono ?_
 rintro _ w1 ⟨r1,rfl,f⟩
 have P1:=hP.pure f.pure
 have hfew:=uW hW t
 have V:∀u∈dd L t,al L u=true:=fun u s=>have h:=(y8 hW).1 s;(ja.le hW h.1 h.2).1
 have hord:=Gb hW t
 have hnd:=AW hW t
 have htx:qL L t=fx L [] (dd L t):=rfl
 rw[htx]
 generalize hxs:dd L t=xs at *
 have hL:=hW.ok.ft
 have W:∃v1:Sl,w1.cell? q=some v1.v/\v1.len=L.length:=by
  have⟨sa,sb,sc,h,_⟩:=P1;exact⟨sa,h.box.bf,by rw[h.r1.len];simp⟩
 have⟨v1,W,hv1l⟩:=W
 refine⟨r1,rfl,f.bk,q,rfl,v1,W,?_⟩
 rw[hv1l,show IntKind.i64.wrap ((L.length:Int)+1)=((L.length+1:Nat):Int) by rw[i64 Om Om];omega]
 have⟨w2, hmk, hR2, E2⟩:=bg.ay (P:=prog) yb (zr:=[.int .i64 0]) (fun i z hi hz => by
   have h1:prog.info? 3=some t3:=Kf;rw[h1]at hi;cases hi;have h2:t3.zero=some (.int .i64 0):=Kf;rw[h2]at hz;cases hz;rfl) (k:=.i64) (k':=.i64) (n:=L.length+1) Om (by simp only[maxLen];omega) w1
 refine⟨_,w2,hmk,E2.bz,?_⟩
 generalize hs1e:(Sl.mk (some ⟨w1.heap.size,0,none⟩) (L.length+1)<|L.length+1)=s1 at *
 have J:∀x,s1.aq x->x=w1.heap.size:=fun x d=>by subst hs1e;obtain⟨a,ha,rfl⟩:=d;cases ha;rfl
 have hrep:List.replicate (L.length+1) [Value.int .i64 0]=cd (List.replicate (L.length+1) 0):=by simp[cd]
 rw[hrep]at hR2
 have z1:=f.pure.size
 have z2:=E2.size
 have hs1lt:∀x,s1.aq x->x<w2.heap.size:=fun x d=>hR2.lt d
 have hnil:∀b,¬Sl.nil.aq b:=fun b hb=>by have⟨a,h,_⟩:=hb;cases h
 have S:Hm w0 q FR s1 r1 w2.heap.size:=⟨fun x d=>Oh<|hP.lt d,fun x d=>Oh<|f.cm.lt d,fun x d=>⟨hs1lt x d,Oh<|J x d,fun hh=>Oi (hP.lt hh)<|J x d,fun hh=>Oi (f.cm.lt hh)<|J x d⟩,Om⟩
 have T2:ng w0 w2 ar q L FR s1 r1 (List.replicate (L.length+1) 0) xs w2.heap.size Sl.nil []:=⟨P1.pure E2,hR2,f.cm.pure E2,bg.nil _ _ _,f.pure.trans E2,fun x d=>d.elim,fun x d=>(hnil x d).elim,Nat.le_refl _⟩
 generalize w2.heap.size=B at *
 refine⟨fun b i H w=>∃(j:Nat) (A:List Int),i=j/\j<=xs.length/\A.length=L.length+1/\(∀u∈xs.take j,A[u.toNat]?=some ((dc (xs.take j) u:Nat):Int))/\ng w0 w H q L FR s1 r1 A xs B b (fx L []<|xs.take j),fun _ i _=>((xs.length:Int)-i).toNat,⟨0,_,rfl,Nat.zero_le _,Sm,Sm,T2⟩,?_⟩
 rintro b _ Hl wl au ⟨j,A,rfl,hj,hAl,hA,K⟩
 unfold JT
 have R:r1.len=xs.length:=by rw[K.dd.len,vA]
 refine⟨fun g=>?_,fun g=>?_⟩
 have g:=vQ R g
 have G:=V xs[j]<|List.getElem_mem _
 have hz:=zI.1 G
 have M:xs=xs.take j++xs[j] ::xs.drop (j+1):=by rw[<-List.drop_eq_getElem_cons g,List.take_append_drop]
 have hko:=hord _ _ _ M
 have hzn:xs[j]∉xs.take j:=Gd
 have htk:xs.take (j+1)=xs.take j++[xs[j]]:=List.take_succ_eq_append_getElem g
 have hbs:=Pv hW hN (xs.take j) [] Gd Gd
 have hjl:(xs.take j).length=j:=by rw[List.length_take];omega
 rw[hjl]at hbs
 have⟨k1,k9,f0,f1,t0,t1,x1⟩:=xm hW G
 have T:=hN.node xs[j]
 have⟨a3,m,_,hv3⟩:=uJ K.dd.el g
 have hnode:∃(v2:Sl) (a4:Addr),wl.cell? q=some v2.v/\FR q.block/\At v2 (IntKind.i64.wrap<|xs[j]-1) 7 a4/\Row wl a4 (tI<|ad L xs[j])/\FR a4.block:=by
  have⟨sa,sb,sc,h,hF⟩:=K.bl;have⟨e,he,⟨a,g1,g2⟩,_⟩:=h.kr G hW.ok;refine⟨sa,a,h.box.bf,(hF _).2<|.inl rfl,g1,?_,(hF _).2<|.inr<|.inl<|zb g1⟩;have:ad L xs[j]=e.node:=by simp only[ad,he,Option.map_some,Option.getD_some]
  rw[this];exact g2
 have⟨v2,a4,hv2,hFq,hat4,Y,hF4⟩:=hnode
 have hHR:∀x,FR x->¬Hl x:=fun x d hh=>Oi (S.lR x d)<|(K.hB x hh).1
 refine⟨q,rfl,v2,hv2,hHR _ hFq,a3,m,_,hv3,fun hh=>Oi (S.lr _<|zb m)<|(K.hB _ hh).1,a4,hat4,_,_,_,_,_,_,_,Y,hHR _ hF4,a3,m,fun H2 w6 hs6=>?_⟩
 have y:=K.au S hs6
 have⟨a3',hat3',_,hv3'⟩:=uJ y.dd.el g
 have:a3'=a3:=by
  obtain⟨_,_,b1,hb1,rfl⟩:=m;obtain⟨_,_,b2,hb2,rfl⟩:=hat3';rw[hb1]at hb2;cases hb2;rfl
 subst this
 have⟨a6,hat6,hb6,hw6,hset⟩:=PY y.at_ (k:=xs[j]) (j:=xs[j].toNat) Om Om
 refine⟨_,hv3',a6,hat6,hw6,fun hh=>Oi (S.ls _ hb6)<|(y.hB _ hh).1,?_⟩
 rintro w9 h9
 have⟨hA9,Z⟩:=hset (j:Int)
 rw[<-h9]at hA9 Z
 have l:ng w0 w9 H2 q L FR s1 r1 (A.set xs[j].toNat j) xs B b (fx L []<|xs.take j):=
  ⟨y.bl.ext Z fun x d hh=>(S.ls x hh).2.2.1 d,hA9,y.dd.ext Z fun x d hh=>(S.ls x hh).2.2.2 d,y.cm.ext Z fun x d hh=>Oi ((y.ak x d).1)<|(S.ls x hh).1,y.pure.cg Z Gd,fun x d=>⟨(y.hB x d).1,Oi ((y.hB x d).2) Z.size⟩,y.ak,Oi y.lt Z.size⟩
 generalize hz':xs[j]=z at *
 have hnt:yH L (xs.take j) z=UInt8.ofNat (ad L z).kind.toNat ::(qP (ad L z).kind).flatMap (bo.bytes (ad L z) (dc (xs.take j) (ad L z).a)<|dc (xs.take j) (ad L z).b):=rfl
 rw[QA _ _ _ k1 k9]at hnt
 have Q:∀u∈zB (ad L z),0<=u/\(A.set z.toNat (j:Int))[u.toNat]?=some ((dc (xs.take j) u:Nat):Int)/\dc (xs.take j) u<65537:=fun u s=>by
  have hm:=hko u s;have hin:=zI.1<|V u<|List.mem_of_mem_take hm;refine⟨Om,?_,by have:=tR (xs.take j) u;rw[hjl]at this;omega⟩;rw[List.getElem?_set_ne Gd];exact hA u hm
 have hA':∀u∈xs.take (j+1),(A.set z.toNat (j:Int))[u.toNat]?=some ((dc (xs.take<|j+1) u:Nat):Int):=fun u s=>by
  rw[htk]at s|-;rcases List.mem_append.1 s with s|s;rw[IB s,List.getElem?_set_ne Gd];exact hA u s;rw[List.mem_singleton]at s;subst s;rw[DK hzn,hjl,List.getElem?_set_self Om]
 have hlA':(A.set z.toNat (j:Int)).length=L.length+1:=by rw[List.length_set];exact hAl
 have I:fx L [] (xs.take<|j+1)=fx L [] (xs.take j)++yH L (xs.take j) z:=by rw[htk,FM,List.nil_append]
 rw[hnt]at I
 generalize hnz:ad L z=n at *
 obtain⟨kn,hkn⟩:∃kn:Nat,n.kind=kn:=⟨n.kind.toNat,Om⟩
 intro p5 w10 X
 have p:Pure w9 w10:=ab.ax X
 rw[hkn,wz]at X
 have⟨s2,w11,hr11,hR11,o,U⟩:=(l.cm.pure p).append (P:=prog) (ty:=59) (c:=1) uk (ai.fp X).row rfl rfl (by rw[qC];omega) (by rw[qC];simp only[maxLen];omega)
 have z10:=p.size
 have z11:=o.size
 have nb:∀x,x<B->¬b.aq x:=fun x d hh=>Oh<|(l.ak x hh).1
 have T11:ng w0 w11 H2 q L FR s1 r1 (A.set z.toNat j) xs B s2 (fx L [] (xs.take j)++[UInt8.ofNat kn]):=
  ⟨(l.bl.pure p).ext o fun x d hh=>nb x (S.lR x d) hh,(l.at_.pure p).ext o Gd,(l.dd.pure p).ext o fun x d hh=>nb x (S.lr x d) hh,by rw[CT];exact hR11,(l.pure.trans p).cg o Gd,fun x d=>⟨(l.hB x d).1,Oh<|(l.hB x d).2⟩,fun x d=>⟨(U x d).elim (fun h=>(l.ak x h).1) fun h=>Oh l.lt,(U x d).elim (fun h=>(l.ak x h).2) fun h hh=>Oh<|(l.hB x hh).2⟩,Oh l.lt⟩
 refine⟨s2,w11,hr11,o.bk fun x d hh=>(l.ak x hh).2 d,?_⟩
 have C:n.kind.toNat=kn:=Om
 rw[C]at I
 have O : ∀ (b' : Sl) (H' : NP) (w' : World), ng w0 w' H' q L FR s1 r1 (A.set z.toNat j) xs B b' (fx L [] (xs.take j) ++ [UInt8.ofNat kn] ++ jg (rf n.kind) .mv n (dc (xs.take j) n.a) (dc (xs.take j) n.b) ++ jg ((n.kind == 8) || (n.kind == 9)) .oD n (dc (xs.take j) n.a) (dc (xs.take j) n.b) ++ jg (n.kind == 2) .num n (dc (xs.take j) n.a) (dc (xs.take j) n.b) ++ jg (n.kind == 3) .bb n (dc (xs.take j) n.a) (dc (xs.take j) n.b) ++ jg (decide (dj n.kind >= 1)) .fst n (dc (xs.take j) n.a) (dc (xs.take j) n.b) ++ jg (dj n.kind == 2) .snd n (dc (xs.take j) n.a) (dc (xs.take j) n.b)) ->
   (∃(j':Nat) (A':List Int),IntKind.i64.wrap ((j:Int)+1)=j'/\j'<=xs.length/\A'.length=L.length+1/\(∀u∈xs.take j',A'[u.toNat]?=some ((dc (xs.take j') u:Nat):Int))/\ng w0 w' H' q L FR s1 r1 A' xs B b' (fx L []<|xs.take j'))/\((xs.length:Int)-IntKind.i64.wrap ((j:Int)+1)).toNat<((xs.length:Int)-(j:Int)).toNat:=fun b' H' w' h=>by
  refine⟨⟨j+1,_,zM g Om,g,hlA',hA',?_⟩,by rw[zM g Om];exact yQ g⟩
  rw[I]
  simpa using h
 have F:dj n.kind>=1->0<=n.a/\(A.set z.toNat (j:Int))[n.a.toNat]?=some ((dc (xs.take j) n.a:Nat):Int)/\dc (xs.take j) n.a<65537:=fun h=>Q _<|zEG h
 have E:dj n.kind=2->0<=n.b/\(A.set z.toNat (j:Int))[n.b.toNat]?=some ((dc (xs.take j) n.b:Nat):Int)/\dc (xs.take j) n.b<65537:=fun h=>Q _<|RI h
 refine⟨fun C w12 D=>?_,fun C w12 D=>?_⟩
 have N:=T11.au S D
 have e:n.az=((n.az.toNat:Nat):Int):=Om
 rw[e,qD Om]
 refine(yx s2 _ n.az.toNat w12 N.cm.el Gd Om).mono ?_
 rintro _ w16 ⟨r,rfl,hr⟩
 have:=vT (n:=n.az.toNat) Om
 refine⟨r,rfl,hr.bk,?_⟩
 refine Qm w0 q S j n (dc (xs.take j) n.a) (dc (xs.take j) n.b) ⟨t0,t1⟩ T x1 F E (N.call hr) Gd _ _ fun b' H' w' h=>O b' H' w' ?_
 rw[C];exact h
 have N:=T11.au S D
 refine Qm w0 q S j n (dc (xs.take j) n.a) (dc (xs.take j) n.b) ⟨t0,t1⟩ T x1 F E N (by rw[List.length_append,List.length_singleton];omega) _ _ fun b' H' w' h=>O b' H' w' ?_
 rw[C]
 simp only[jg,Bool.false_eq_true,if_false,List.append_nil]at h|-
 exact h
 have g:=qU R hj g
 subst g
 rw[List.take_length]at K
 exact⟨K.cm,fun x d=>Oi ((K.ak x d).1) S.ev,K.pure⟩
def Oq(q t w0){L FR}(hW:Wf L)(hN:uE L)(i:vP w0 q L FR):
  cl 102 #[vp<|some q,vi t] w0<|XM fun r n w'=>n=(iz L t).2/\fv w0 5 1 (dn (iz L t).1) r w':=by
 refine V6 _ _ w0 _ ?_
 unfold N5
 have f:∀b,¬Sl.nil.aq b:=fun b g=>by have⟨a,h,_⟩:=g;cases h
 refine(uR q t w0 i).mono ?_
 rintro _ _ ⟨_,rfl,rfl,rfl⟩
 refine⟨_,rfl,fun c=>?_,fun c=>?_⟩
 have d:al L t=false:=by simpa using c
 have e:iz L t=([],51):=by unfold iz;rw[d];rfl
 rw[e]
 exact⟨rfl,bg.nil _ _ _,fun b g=>(f b g).elim,ab.refl _⟩
 have d:al L t=true:=by simpa using c
 refine(Q9 q t _ hW hN i).mono ?_
 rintro _ k ⟨r2,rfl,h⟩
 have j:r2.len=(qL L t).length:=by rw[h.cm.len,qC]
 refine⟨r2,rfl,fun c=>?_,fun c=>?_⟩
 have c:=of_decide_eq_true c
 have e:iz L t=([],1):=by unfold iz;rw[d,if_pos rfl,if_pos Om]
 rw[e]
 exact⟨rfl,bg.nil _ _ _,fun b g=>(f b g).elim,h.pure⟩
 have c:=of_decide_eq_false c
 have e:iz L t=(qL L t,0):=by unfold iz;rw[d,if_pos rfl,if_neg Om]
 rw[e]
 exact⟨rfl,h⟩
end Go.Proofs
end
section
open Go Go.SE List
namespace Go.Proofs
open Tryz
attribute [local irreducible] Calls CallsD
def ff(bs:List UInt8)(c:Bool)(f:bo)(s:gm×Rd):gm×Rd:=if c then(f.pa bs s.2 s.1,f.rd bs s.2)else s
def Ap(bs:List UInt8)(f:bo)(s:gm×Rd):ff bs false f s=s:=rfl
def zHM(bs:List UInt8)(u f t a b kd:Nat)(c:List UInt8)(r:Rd):ff bs true .snd (⟨u,c,f,t,a,b,kd⟩,r)=(⟨u,c,f,t,a,(vY bs r).1,2⟩,(vY bs r).2):=rfl
def Y5(bs:List UInt8)(u f t a b kd:Nat)(c:List UInt8)(r:Rd):ff bs true .fst (⟨u,c,f,t,a,b,kd⟩,r)=(⟨u,c,f,t,(vY bs r).1,b,1⟩,(vY bs r).2):=rfl
def V7(bs:List UInt8)(u f t a b kd:Nat)(c:List UInt8)(r:Rd):ff bs true .bb (⟨u,c,f,t,a,b,kd⟩,r)=(⟨u,(qH bs 64 r).1,f,t,a,b,kd⟩,(qH bs 64 r).2):=rfl
def zHN(bs:List UInt8)(u f t a b kd:Nat)(c:List UInt8)(r:Rd):ff bs true .num (⟨u,c,f,t,a,b,kd⟩,r)=(⟨(vY bs r).1,c,f,t,a,b,kd⟩,(vY bs r).2):=rfl
def jbu(bs:List UInt8)(u f t a b kd:Nat)(c:List UInt8)(r:Rd):ff bs true .oD (⟨u,c,f,t,a,b,kd⟩,r)=(⟨u,c,f,(vY bs r).1,a,b,kd⟩,(vY bs r).2):=rfl
def W6(bs:List UInt8)(u f t a b kd:Nat)(c:List UInt8)(r:Rd):ff bs true .mv (⟨u,c,f,t,a,b,kd⟩,r)=(⟨u,c,(vY bs r).1,t,a,b,kd⟩,(vY bs r).2):=rfl
def jWY(bs:List UInt8)(k:Nat)(h1:1<=k)(a:k<=9)(s:gm×Rd):vD bs (qP (k:Int)) s =
  ff bs (dj (k:Int)==2) .snd (ff bs (decide (dj (k:Int)>=1)) .fst (ff bs ((k:Int)==3) .bb (ff bs ((k:Int)==2) .num (ff bs (((k:Int)==8) ||((k:Int)==9)) .oD (ff bs (rf (k:Int)) .mv s))))):=by
 have⟨x,r⟩:=s
 rw[yZ]
 have:k=1\/k=2\/k=3\/k=4\/k=5\/k=6\/k=7\/k=8\/k=9:=Om
 rcases this with e|e|e|e|e|e|e|e|e<;>subst e<;>simp[qP,ff,rf,bq,vD]
structure xz(k:Nat)(x:gm):Prop where
 az:rf (k:Int)=false->x.az=0
 to:(((k:Int)==8) ||((k:Int)==9))=false->x.to=0
 kids:dj (k:Int)=(x.kids:Int)
def Vr(bs:List UInt8)(k:Nat)(h1:1<=k)(a:k<=9)(r:Rd):xz k (vD bs (qP (k:Int)) (yF,r)).1:=by
 have:k=1\/k=2\/k=3\/k=4\/k=5\/k=6\/k=7\/k=8\/k=9:=Om;refine⟨?_,?_,?_⟩;rcases this with e|e|e|e|e|e|e|e|e<;>subst e<;>simp[qP,rf,vD,bo.pa,yF];rcases this with e|e|e|e|e|e|e|e|e<;>subst e<;>simp[qP,vD,bo.pa,yF];rw[yZ];rcases this with e|e|e|e|e|e|e|e|e<;>subst e<;>simp[qP,bq,vD,bo.pa,yF]
def tD(n:Nat):jx (n:Int)=if 1073741824<n then 1073741824 else(n:Int):=by
 unfold jx;by_cases h:1073741824<n;grind;rw[if_neg h,show decide ((n:Int)>1073741824)=false by simp;omega];exact tZ Om
def Ep:List Value:=[vi 0,vi 0,vi 0,vu 0,vs ⟨#[]⟩,vi 0,vi 0]
structure od(S:NP)(w0:World)(H:NP)(w:World)(p1 a:Addr)(s:Sl)(bs:List UInt8)(r:Rd):Prop where
 rd:gi S w a s bs r
 box:ai w p1 Ep 119
 jd:∀b,(b=a.block\/S b\/b=p1.block)->¬H b/\b<w.heap.size
 ext:ab (·=a.block) w0 w
 at_:r.at_<=bs.length
 o1:w0.heap.size<=p1.block
 d1:p1.block≠a.block/\¬S p1.block
section
variable {S:NP} {w0 w w':World} {H H':NP} {p1 a:Addr} {s:Sl} {bs:List UInt8} {r:Rd}
def od.au(h:od S w0 H w p1 a s bs r)(hs:af w0 H w H' w'):od S w0 H' w' p1 a s bs r:=by
 have d:∀b,(b=a.block\/S b\/b=p1.block)->¬H' b:=hs.ji fun b c=>⟨(h.jd b c).2,(h.jd b c).1⟩;exact⟨h.rd.ext hs.ext Gd,h.box.ext hs.ext<|d _<|.inr<|.inr rfl,fun b c=>⟨d b c,Oi ((h.jd b c).2) hs.ext.size⟩,h.ext.au hs,h.at_,h.o1,h.d1⟩
def od.hS(h:od S w0 H w p1 a s bs r):∀b,(b=a.block\/S b)->b<w.heap.size:=fun b c=>(h.jd b<|c.elim .inl fun h=>.inr<|.inl h).2
def od.next{f:Rd}(h:od S w0 H w p1 a s bs r)(g:gi S w' a s bs f)(E:ab (·=a.block) w w')(d:f.at_<=bs.length):od S w0 H w' p1 a s bs f/\aj H w w':=
 ⟨⟨g,h.box.ext E h.d1.1,fun b c=>⟨(h.jd b c).1,Oi ((h.jd b c).2) E.size⟩,h.ext.trans E,d,h.o1,h.d1⟩,E.bk fun b c e=>(h.jd _<|.inl rfl).1<|e▸c⟩
def od.num(h:od S w0 H w p1 a s bs r){R:Int->WP}(c:∀w',od S w0 H w' p1 a s bs (vY bs r).2->R ((vY bs r).1:Int) w'):
  cl 118 #[vp<|some a] w<|XW fun x w'=>aj H w w'/\R x w':=by
 refine(KV a s bs r w h.rd h.at_ h.hS).mono ?_
 rintro _ w' ⟨_,rfl,rfl,b,E⟩
 have⟨e,d⟩:=h.next b E (E0 bs r h.at_).2
 exact⟨_,rfl,d,c w' e⟩
def yn(S:NP)(w0:World)(a:Addr)(s:Sl)(bs:List UInt8)(k i:Nat)(K:Int->Int->Int->Int->ByteArray->Int->Int->Int->WP)(b:gm×Rd):Prop:=
 ∀kd f t u c d vb e w',e=((lf k i b.1 b.2.cq:Nat):Int)->(e=0->(⟨kd,f,t,u,c,d,vb⟩:di)=b.1.node k)->gi S w' a s bs b.2->ab (·=a.block) w0 w'->K kd f t u c d vb e w'
variable (k i:Nat) (hk:1<=k/\k<=9) (hi:i<=100000) {K:Int->Int->Int->Int->ByteArray->Int->Int->Int->WP}
include hk hi
def Qb(x:gm)(h:od S w0 H w p1 a s bs r)(Z:xz k x)(hK:yn S w0 a s bs k i K (x,r)):
  Bf (some a) i p1 k k (jx x.az) (jx x.to) x.num ⟨x.bb.toArray⟩ 0 0 (jx x.a) (jx x.b) w0 H w K:=by
 unfold Bf
 have Y:IntKind.i64.wrap (k:Int)=(k:Int):=tZ Om
 rw[Y]
 have o : ∀ (c : List Value) (kd f t u : Int) (J : ByteArray) (I vb : Int) (e : Nat) (H' : NP) (z L : World), od S w0 H' z p1 a s bs r -> L = bd z p1 [vi kd, vi f, vi t, vu u, vs J, vi I, vi vb] -> e = lf k i x r.cq -> (e = 0 -> (⟨kd, f, t, u, J, I, vb⟩ : di) = x.node k) ->
   Row L p1 [vi kd,vi f,vi t,vu u,vs J,vi I,vi vb]/\K kd f t u J I vb e L:=by
  intro c kd f t u J I vb e H' z L h1 e2 M hn
  have X:ab (·=p1.block) z L:=by rw[e2];exact ab.bd _ _ _
  have B:ai L p1 [vi kd,vi f,vi t,vu u,vs J,vi I,vi vb] 119:=by rw[e2];exact h1.box.store rfl
  refine⟨B.row,hK _ _ _ _ _ _ _ _ _ (by rw[M]) (fun n=>hn Om) (h1.rd.ext X fun b C e=>?_)<|h1.ext.cg X fun j hj e=>Oh h1.o1⟩
  rcases C with rfl|C
  .exact h1.d1.1 e.symm
  .exact h1.d1.2<|e▸C
 have p:∀{H':NP} {z:World},od S w0 H' z p1 a s bs r->(∀j,j<7->zL z (p1.add j)):=fun h1 j hj=>h1.box.eh (by simpa[Ep]using hj)
 refine⟨a,rfl,_,h.rd.rA,fun hc=>?_,fun hc=>?_⟩
 .have M:r.cq≠0:=Oh<|bne_iff_ne.1 hc
  have hne:lf k i x r.cq=r.cq:=by unfold lf;rw[if_pos M]
  refine⟨fun w'=>gi S w' a s bs r,h.rd.pure<|ab.drew w,?_⟩
  rintro q e11
  have m:od S w0 H q p1 a s bs r:=by
   have E:Pure w q:=by rw[e11];exact ab.drew w
   exact(h.next (h.rd.pure E) (ab.pure E) h.at_).1
  refine⟨a,rfl,_,fun w' hw'=>hw'.rA,p m,(m.jd _<|.inr<|.inr rfl).1,?_⟩
  rintro T Q
  have⟨D,G⟩:=o [] _ _ _ _ _ _ _ r.cq H q T m Q hne.symm fun n=>absurd n M
  have X:ab (·=p1.block) q T:=by rw[Q];exact ab.bd _ _ _
  refine⟨m.rd.ext X fun b C e=>?_,_,_,_,_,_,_,_,D,G⟩
  rcases C with rfl|C
  .exact m.d1.1 e.symm
  .exact m.d1.2<|e▸C
 have M:r.cq=0:=Gd
 have hfr:=Z.az
 have hto:=Z.to
 have g:=Z.kids
 have O:(((k:Int)==8) ||((k:Int)==9))=decide (k=8\/k=9):=Gd
 rintro y1 hy1
 have hy:y1=decide (16<=x.az\/16<=x.to\/((k=8\/k=9)/\x.az=x.to)):=by
  rw[hy1,tD,tD,O];rw[O]at hto;rw[Bool.eq_iff_iff];simp only[Bool.or_eq_true,Bool.and_eq_true,decide_eq_true_eq,beq_iff_eq];by_cases hn:rf (k:Int)=true
  .grind
  .grind
 rw[hy]
 refine⟨fun d=>?_,fun d=>?_⟩
 .have d:=of_decide_eq_true d
  intro H9 w19 N
  have v:=h.au N
  refine⟨p v,(v.jd _<|.inr<|.inr rfl).1,fun W U=>?_⟩
  have⟨D,G⟩:=o [] _ _ _ _ _ _ _ 50 H9 w19 W v U (by unfold lf;rw[if_neg Om,if_pos d]) (fun n=>by cases n)
  exact⟨_,_,_,_,_,_,_,D,G⟩
 have d:=of_decide_eq_false d
 rintro y2 hy2
 have hy:y2=decide ((0<x.kids/\i<=x.a)\/(1<x.kids/\i<=x.b)):=by
  rw[hy2,tD,tD,g];have hle:x.kids<=2:=by
   rw[yZ]at g;rcases yM (k:Int)with e|e|e<;>rw[e]at g<;>omega
  rw[Bool.eq_iff_iff];simp only[Bool.or_eq_true,Bool.and_eq_true,decide_eq_true_eq,beq_iff_eq];split<;>split<;>omega
 rw[hy]
 refine⟨fun l=>?_,fun l=>?_⟩
 .have l:=of_decide_eq_true l
  intro H17 V P
  have y:=h.au P
  refine⟨p y,(y.jd _<|.inr<|.inr rfl).1,fun w36 e36=>?_⟩
  have⟨D,G⟩:=o [] _ _ _ _ _ _ _ 71 H17 V w36 y e36 (by unfold lf;rw[if_neg Om,if_neg d,if_pos l]) (fun n=>by cases n)
  exact⟨_,_,_,_,_,_,_,D,G⟩
 have l:=of_decide_eq_false l
 intro H21 w43 R
 have A:=h.au R
 refine⟨p A,(A.jd _<|.inr<|.inr rfl).1,fun w45 e45=>?_⟩
 have hle:x.kids<=2:=by
  rw[yZ]at g;rcases yM (k:Int)with e|e|e<;>rw[e]at g<;>omega
 have F:(⟨(k:Int),jx x.az,jx x.to,x.num,⟨x.bb.toArray⟩,cond (decide (dj (k:Int)>=1)) (IntKind.i64.wrap<|jx x.a+1) 0,cond ((dj (k:Int):Int)==2) (IntKind.i64.wrap<|jx x.b+1) 0⟩:di)=x.node k:=by
  have ef:jx x.az=x.az:=by rw[tD,if_neg Om]
  have et:jx x.to=x.to:=by rw[tD,if_neg Om]
  have ea:cond (decide (dj (k:Int)>=1)) (IntKind.i64.wrap<|jx x.a+1) 0=(if 0<x.kids then(x.a:Int)+1 else 0):=by
   rw[g];by_cases n:0<x.kids
   .rw[if_pos n,decide_eq_true Om,tD,if_neg Om];show IntKind.i64.wrap ((x.a:Int)+1)=_;rw[IntWalk.i64_in _ Om]
   .grind
  have eb:cond ((dj (k:Int):Int)==2) (IntKind.i64.wrap<|jx x.b+1) 0=(if 1<x.kids then(x.b:Int)+1 else 0):=by
   rw[g];by_cases n:1<x.kids
   .rw[if_pos n,show((x.kids:Int)==2)=true by simp;omega,tD,if_neg Om];show IntKind.i64.wrap ((x.b:Int)+1)=_;rw[IntWalk.i64_in _ Om]
   .grind
  rw[ef,et,ea,eb];rfl
 have⟨D,G⟩:=o [] _ _ _ _ _ _ _ 0 H21 w43 w45 A e45 (by unfold lf;rw[if_neg Om,if_neg d,if_neg l]) fun _=>F
 exact⟨_,_,_,_,_,_,_,D,G⟩
def JP(u f t d kd:Nat)(c:List UInt8)(h:od S w0 H w p1 a s bs r)(j:xz k (ff bs (dj (k:Int) == 2) .snd (⟨u,c,f,t,d,0,kd⟩,r)).1)(g:yn S w0 a s bs k i K (ff bs (dj (k:Int) == 2) .snd (⟨u,c,f,t,d,0,kd⟩,r))):
  Bi (some a) i p1 k k (jx f) (jx t) u ⟨c.toArray⟩ 0 0 (jx d) w0 H w K:=by
 unfold Bi
 have n:IntKind.i64.wrap (k:Int)=(k:Int):=tZ Om
 rw[n]
 refine⟨fun l m b=>?_,fun l m b=>?_⟩
 rw[l,zHM]at j g
 exact(h.au b).num fun w' p o e=>Qb k i hk hi ⟨u,c,f,t,d,(vY bs r).1,2⟩ (p.au e) j g
 rw[l,Ap]at j g
 exact Qb k i hk hi ⟨u,c,f,t,d,0,kd⟩ (h.au b) j g
def Og(u f t:Nat)(d:List UInt8)(h:od S w0 H w p1 a s bs r)(g:xz k (ff bs (dj (k:Int) == 2) .snd<|ff bs (decide (dj (k:Int)>=1)) .fst (⟨u,d,f,t,0,0,0⟩,r)).1)(e:yn S w0 a s bs k i K (ff bs (dj (k:Int) == 2) .snd<|ff bs (decide (dj (k:Int)>=1)) .fst (⟨u,d,f,t,0,0,0⟩,r))):
  BL (some a) i p1 k k (jx f) (jx t) u ⟨d.toArray⟩ 0 0 w0 H w K:=by
 unfold BL
 have l:IntKind.i64.wrap (k:Int)=(k:Int):=tZ Om
 rw[l]
 refine⟨fun j n b=>?_,fun j n b=>?_⟩
 rw[j,Y5]at g e
 exact(h.au b).num fun w' o m c=>JP k i hk hi u f t (vY bs r).1 1 d (o.au c) g e
 rw[j,Ap]at g e
 exact JP k i hk hi u f t 0 0 d (h.au b) g e
def Mo(u f t:Nat)(h:od S w0 H w p1 a s bs r)(d:xz k (ff bs (dj (k:Int) == 2) .snd<|ff bs (decide (dj (k:Int)>=1)) .fst<|ff bs ((k:Int) == 3) .bb (⟨u,[],f,t,0,0,0⟩,r)).1)(c:yn S w0 a s bs k i K (ff bs (dj (k:Int) == 2) .snd<|ff bs (decide (dj (k:Int)>=1)) .fst<|ff bs ((k:Int) == 3) .bb (⟨u,[],f,t,0,0,0⟩,r))):
  AX (some a) i p1 k k (jx f) (jx t) u ⟨#[]⟩ 0 0 w0 H w K:=by
 unfold AX
 have j:IntKind.i64.wrap (k:Int)=(k:Int):=tZ Om
 rw[j]
 refine⟨fun g=>?_,fun g=>?_⟩
 .rw[g,V7]at d c
  refine(WZ a s bs r w 64 Om h.rd h.at_ h.hS).mono ?_
  rintro _ w' ⟨_,rfl,rfl,e,E⟩
  have⟨n,l⟩:=h.next e E (MC bs 64 r h.at_).2
  exact⟨_,rfl,l,fun m b=>Og k i hk hi u f t (qH bs 64 r).1 (n.au b) d c⟩
 .rw[g,Ap]at d c
  exact Og k i hk hi u f t [] h d c
def NW(f t:Nat)(h:od S w0 H w p1 a s bs r)(d:xz k (ff bs (dj (k:Int) == 2) .snd<|ff bs (decide (dj (k:Int)>=1)) .fst<|ff bs ((k:Int) == 3) .bb<|ff bs ((k:Int) == 2) .num (⟨0,[],f,t,0,0,0⟩,r)).1)(c:yn S w0 a s bs k i K (ff bs (dj (k:Int) == 2) .snd<|ff bs (decide (dj (k:Int)>=1)) .fst<|ff bs ((k:Int) == 3) .bb<|ff bs ((k:Int) == 2) .num (⟨0,[],f,t,0,0,0⟩,r))):
  Ck (some a) i p1 k k (jx f) (jx t) 0 ⟨#[]⟩ 0 0 w0 H w K:=by
 unfold Ck
 have g:IntKind.i64.wrap (k:Int)=(k:Int):=tZ Om
 rw[g]
 refine⟨fun e=>?_,fun e=>?_⟩
 rw[e,zHN]at d c
 exact h.num fun w' l j b=>Mo k i hk hi (vY bs r).1 f t (l.au b) d c
 rw[e,Ap]at d c
 exact Mo k i hk hi 0 f t h d c
def OS(f:Nat)(h:od S w0 H w p1 a s bs r)(e:xz k (ff bs (dj (k:Int) == 2) .snd<|ff bs (decide (dj (k:Int)>=1)) .fst<|ff bs ((k:Int) == 3) .bb<|ff bs ((k:Int) == 2) .num<|ff bs (((k:Int) == 8) || ((k:Int) == 9)) .oD (⟨0,[],f,0,0,0,0⟩,r)).1)(d:yn S w0 a s bs k i K (ff bs (dj (k:Int) == 2) .snd<|ff bs (decide (dj (k:Int)>=1)) .fst<|ff bs ((k:Int) == 3) .bb<|ff bs ((k:Int) == 2) .num<|ff bs (((k:Int) == 8) || ((k:Int) == 9)) .oD (⟨0,[],f,0,0,0,0⟩,r))):
  AN (some a) i p1 k k (jx f) 0 0 ⟨#[]⟩ 0 0 w0 H w K:=by
 unfold AN
 have j:IntKind.i64.wrap (k:Int)=(k:Int):=tZ Om
 rw[j]
 refine⟨fun g m n b=>?_,fun g m n b=>?_⟩
 rw[g,jbu]at e d
 exact(h.au b).num fun w' o l c=>NW k i hk hi f (vY bs r).1 (o.au c) e d
 rw[g,Ap]at e d
 exact NW k i hk hi f 0 (h.au b) e d
end
def RX{S:NP}(a:Addr)(s:Sl)(bs:List UInt8)(r:Rd)(i:Nat)(w0:World)(h:gi S w0 a s bs r)(J:r.at_<bs.length)(T:r.cq=0)(hS:∀b,(b=a.block\/S b)->b<w0.heap.size)(hi:i<=100000):
  cl 59 #[vp<|some a,vi i] w0 (fun e w'=>∃kd f t u:Int,∃n:ByteArray,∃m vb x:Int,e=.returned (.tuple #[.agg #[vi kd,vi f,vi t,vu u,vs n,vi m,vi vb],vi x]) /\
   (∃g:Rd,(if uL bs[r.at_].toNat=true then x=((lf bs[r.at_].toNat i (vD bs (qP bs[r.at_].toNat) (yF,⟨r.at_+1,0,r.spot⟩)).1 (vD bs (qP bs[r.at_].toNat) (yF,⟨r.at_+1,0,r.spot⟩)).2.cq:Nat):Int)/\(x=0->(⟨kd,f,t,u,n,m,vb⟩:di)=(vD bs (qP bs[r.at_].toNat) (yF,⟨r.at_+1,0,r.spot⟩)).1.node bs[r.at_].toNat)/\g=(vD bs (qP bs[r.at_].toNat) (yF,⟨r.at_+1,0,r.spot⟩)).2 else x=70/\g=⟨r.at_+1,0,r.spot⟩)/\gi S w' a s bs g/\ab (·=a.block) w0 w')):=by
 generalize v:bs[r.at_].toNat=k
 have F:k<256:=by rw[<-v];exact bs[r.at_].toNat_lt
 refine Tu _ _ w0 _ ?_
 intro p1 A n1
 have D:Pure w0 A:=ab.ax n1
 have Q:ai A p1 Ep 119:=ai.fp n1
 have b1:=n1.cu
 have z1:=D.size
 refine(Y3 a s bs r A (h.pure D) J T).mono ?_
 rintro _ w2 ⟨_,rfl,rfl,E,z⟩
 rw[v]
 have z2:=z.size
 have dp:p1.block≠a.block/\¬S p1.block:=⟨fun e=>Oh<|hS _<|.inl e,fun hh=>Oh<|hS _<|.inr hh⟩
 have M:od S w0 ar w2 p1 a s bs ⟨r.at_+1,0,r.spot⟩:=⟨E,Q.ext z dp.1,fun b d=>⟨id,by
  rcases d with d|d|d;have:=hS b<|.inl d;omega;grind;have:=Q.lt;omega⟩,(ab.pure D).trans z,Sy,Om,dp⟩
 have C:IntKind.i64.wrap (k:Int)=(k:Int):=tZ Om
 refine⟨_,rfl,z.bk fun b d=>d.elim,?_⟩
 rw[C]
 have L:((decide ((k:Int)<1)) ||(decide ((k:Int)>9)))=!uL k:=by
  rw[Bool.eq_iff_iff];unfold uL;simp;omega
 rw[L]
 refine⟨fun l=>?_,fun l=>?_⟩
 have l:¬uL k=true:=by simpa using l
 intro O w5 H
 have w:=M.au H
 refine⟨fun j R=>w.box.eh<|by simpa[Ep]using R,(w.jd _<|.inr<|.inr rfl).1,?_⟩
 rintro N P
 have X:ab (·=p1.block) w5 N:=by rw[P];exact ab.bd _ _ _
 have B:ai N p1 [vi (k:Int),vi 0,vi 0,vu 0,vs ⟨#[]⟩,vi 0,vi 0] 119:=by rw[P];exact w.box.store rfl
 refine⟨_,_,_,_,_,_,_,B.row,_,by rw[if_neg l];exact⟨rfl,rfl⟩,w.rd.ext X fun b d e=>?_,w.ext.cg X fun j R e=>Om⟩
 rcases d with rfl|d
 exact dp.1 e.symm
 exact dp.2<|e▸d
 have l:uL k=true:=by simpa using l
 have c:1<=k/\k<=9:=by unfold uL at l;simpa using l
 have q:=Vr bs k c.1 c.2 ⟨r.at_+1,0,r.spot⟩
 have G:=jWY bs k c.1 c.2 (yF,⟨r.at_+1,0,r.spot⟩)
 have y:yn S w0 a s bs k i (fun kd f t u n m vb x w'=>∃g:Rd,(if uL k=true then x=((lf k i (vD bs (qP k) (yF,⟨r.at_+1,0,r.spot⟩)).1 (vD bs (qP k) (yF,⟨r.at_+1,0,r.spot⟩)).2.cq:Nat):Int)/\(x=0->(⟨kd,f,t,u,n,m,vb⟩:di)=(vD bs (qP k) (yF,⟨r.at_+1,0,r.spot⟩)).1.node k)/\g=(vD bs (qP k) (yF,⟨r.at_+1,0,r.spot⟩)).2 else x=70/\g=⟨r.at_+1,0,r.spot⟩)/\gi S w' a s bs g/\ab (·=a.block) w0 w') (vD bs (qP k) (yF,⟨r.at_+1,0,r.spot⟩)):=
  fun kd f t u n m vb e w' Y g2 g3 Z=>⟨_,by rw[if_pos l];exact⟨Y,g2,rfl⟩,g3,Z⟩
 generalize (fun(kd f t u:Int) (n:ByteArray) (m vb x:Int) (w':World)=>∃g:Rd,(if uL k=true then x=((lf k i (vD bs (qP k) (yF,⟨r.at_+1,0,r.spot⟩)).1 (vD bs (qP k) (yF,⟨r.at_+1,0,r.spot⟩)).2.cq:Nat):Int)/\(x=0->(⟨kd,f,t,u,n,m,vb⟩:di)=(vD bs (qP k) (yF,⟨r.at_+1,0,r.spot⟩)).1.node k)/\g=(vD bs (qP k) (yF,⟨r.at_+1,0,r.spot⟩)).2 else x=70/\g=⟨r.at_+1,0,r.spot⟩)/\gi S w' a s bs g/\ab (·=a.block) w0 w')=K at *
 rw[G,show yF=⟨0,[],0,0,0,0,0⟩from rfl]at q y
 refine⟨fun I O V o=>?_,fun I O V o=>?_⟩
 rw[I,W6]at q y
 exact(M.au o).num fun w' W U p=>OS k i c hi (vY bs ⟨r.at_+1,0,r.spot⟩).1 (W.au p) q y
 rw[I,Ap]at q y
 exact OS k i c hi 0 (M.au o) q y
end Go.Proofs
end
section
open Go Go.SE
namespace Go.Proofs
def Oe{L}(b:Wf L){n i}(h:find L n=some i):ay L n=((i:Int)+1,0,L):=by
 have⟨hi,e⟩:=Bu h;have a:al L ((i:Int)+1)=true:=zI.2 ⟨Om,Om⟩;have f:ad L ((i:Int)+1)=n:=by rw[qN hi,e]
 have⟨_,d,c,_,g,_⟩:=b.node a;rw[f]at d c g;have j:Ren L L ((i:Int)+1) n:=by
  refine⟨?_,?_,?_,?_,?_,fun k l=>(g k l).1,?_,d,c⟩<;>rw[f]
 exact j.By b b a a rfl
def AT{L n}(h:find L n=none)(a:(ay L n).2.1=0):(ay L n).2.2.length=L.length+1:=by
 have b:=(xH a).2.2;unfold ay at a|-;simp only[h]at a|-;rw[if_neg (by rw[b];simp)]at a|-;split at a;simp at a;grind
def KQ:∀(l:List Int) (i:Nat),i<=ia i l/\ia i l<=i+l.length:=by
 intro l;induction l with
 |nil=>intro i;simp[ia]
 |cons s l a =>
  intro i
  rw[ia]
  split
  grind
  simp
def Q0:∀(l:List Int) (i j:Nat) (h:j<l.length),i+j<=ia i l->l[j]=((i+j:Nat):Int)+1->i+j+1<=ia i l:=by
 intro l;induction l with
 |nil=>intro i j h;simp at h
 |cons s l a =>
  intro i j h h1 h2
  rw[ia]at h1|-
  cases j with
  |zero =>
   simp only[List.getElem_cons_zero,Nat.add_zero]at h2
   rw[if_pos h2]
   have:=(KQ l<|i+1).1;omega
  |succ j =>
   simp only[List.getElem_cons_succ]at h2
   split
   rename_i hs
   rw[if_pos hs]at h1
   have:=a (i+1) j (by simpa using h) Om (by rw[h2];congr 2;omega)
   omega
   grind
end Go.Proofs
namespace Go.Proofs
open Tryz
attribute [local irreducible] Calls CallsD
def HM(a w':World)(bs:List UInt8)(x:Option Addr):Prop:=
 (∀q,(vB bs).1=some q->∃p F,x=some p/\vP w' p q F/\∀b,F b->a.heap.size<=b)/\((vB bs).1=none->x=none)
def FG(a:Addr)(S d:NP)(c:Sl)(b:Nat):Prop:=d b\/b=a.block\/S b\/c.aq b
structure sw(e:World)(H:NP)(w:World)(q a:Addr)(s:Sl)(bs:List UInt8)(L:aw)(r:Rd)(S d:NP)(f:List Nat)(c:Sl):Prop where
 bl:vP w q L d
 rd:gi S w a s bs r
 cm:bg w 3 1 c (cd<|f.map Int.ofNat)
 pure:Pure e w
 ak:∀b,FG a S d c b->e.heap.size<=b/\¬H b
 lt:∀b,(b=a.block\/S b)->b<w.heap.size
 dR:∀b,d b->b≠a.block/\¬S b/\¬c.aq b
 dp:∀b,c.aq b->b≠a.block/\¬S b
def sw.Hg{w0 w H q a s bs L r S FR ps pl}(h:sw w0 H w q a s bs L r S FR ps pl):∀b,FG a S FR pl b->b<w.heap.size:=by
 rintro b (c|c|c|c);exact h.bl.lt c;exact h.lt b<|.inl c;exact h.lt b<|.inr c;exact h.cm.lt c
def sw.au{w0 w w' H H' q a s bs L r S FR ps pl}(h:sw w0 H w q a s bs L r S FR ps pl)(hs:af w0 H w H' w'):sw w0 H' w' q a s bs L r S FR ps pl:=by
 have d:∀b,FG a S FR pl b->¬H' b:=hs.ji fun b c=>⟨h.Hg b c,(h.ak b c).2⟩;exact⟨h.bl.ext hs.ext fun b c=>d b<|.inl c,h.rd.ext hs.ext fun b c=>d b<|c.elim (fun h=>.inr<|.inl h) fun h=>.inr<|.inr<|.inl h,h.cm.ext hs.ext fun b c=>d b<|.inr<|.inr<|.inr c,h.pure.au hs,fun b c=>⟨(h.ak b c).1,d b c⟩,fun b c=>Oi (h.lt b c) hs.ext.size,h.dR,h.dp⟩
def sw.Be{w0 w w' H q a s bs L r S FR ps pl}(h:sw w0 H w q a s bs L r S FR ps pl)(E:Pure w w'):sw w0 H w' q a s bs L r S FR ps pl:=
 ⟨h.bl.pure E,h.rd.pure E,h.cm.pure E,h.pure.trans E,h.ak,fun b c=>Oi (h.lt b c) E.size,h.dR,h.dp⟩
def ZE{S0}(sb bs w0)(hs:dr S0 w0 1 sb (dn bs)):
  cl 18 #[sb.v] w0<|XY fun x y z w'=>y=(vB bs).2.1/\z=((vB bs).2.2:Int)/\HM w0 w' bs x/\Pure w0 w':=by
 refine VK sb w0 _ ?_
 unfold Qa
 have hl:sb.len=bs.length:=by rw[hs.len,qC]
 have M:∀(e:Int) (n:Nat) (w':World),vB bs=(none,e,n)->Pure w0 w'->e=(vB bs).2.1/\(n:Int)=((vB bs).2.2:Int)/\HM w0 w' bs none/\Pure w0 w':=fun e n w' h E=>by
  rw[h];exact⟨rfl,rfl,⟨fun q hq=>(by rw[h]at hq;cases hq),fun _=>rfl⟩,E⟩
 refine(HA w0).mono ?_
 rintro _ w1 ⟨_,rfl,q,FR0,rfl,hP,E1,hFR⟩
 refine⟨_,rfl,E1.bz,fun W=>?_,fun W=>?_⟩
 have W:4096<bs.length:=Oh<|of_decide_eq_true W
 exact M 1 0 w1 (by unfold vB;rw[if_pos W]) E1
 have W:bs.length<=4096:=Oh<|of_decide_eq_false W
 refine⟨fun J=>?_,fun J=>?_⟩
 have J:bs.length=0:=Oh<|beq_iff_eq.1 J
 exact M 3 0 w1 (by unfold vB;rw[if_neg Om,if_pos J]) E1
 have J:bs.length≠0:=Oh<|beq_eq_false_iff_ne.1 J
 have htxt:vB bs=oB bs bs.length [] ⟨0,0,0⟩ []:=by unfold vB;rw[if_neg Om,if_neg J]
 refine(jaH sb bs w1 (hs.pure E1) Om).mono ?_
 rintro _ w2 ⟨_,rfl,a,s,rfl,hR,E2,ha,hsb⟩
 refine⟨_,rfl,E2.bz,?_⟩
 have z1:=E1.size;have z2:=E2.size
 have la:a.block<w2.heap.size:=hR.box.lt
 have U:∀b,¬Sl.nil.aq b:=fun b d=>by have⟨a,h,_⟩:=d;cases h
 have R2:sw w0 ar w2 q a s bs [] ⟨0,0,0⟩ s.aq FR0 [] Sl.nil:=
  ⟨hP.pure E2,hR,bg.nil _ _ _,E1.trans E2,fun b d=>⟨by
   rcases d with d|d|d|d;exact hFR b d;omega;have:=hsb b d;omega;exact(U b d).elim,id⟩,fun b d=>d.elim (fun h=>Om) fun h=>(hsb b h).2,fun b d=>by have:=hP.lt d;exact⟨Om,fun hh=>Oh<|hsb b hh,U b⟩,fun b d=>(U b d).elim⟩
 refine⟨fun R Hl w=>∃(L:aw) (r:Rd) (C:List Nat) (FR:NP) (n:Nat),sw w0 Hl w q a s bs L r s.aq FR C R/\Wf L/\C.length=L.length/\C.length<=r.at_/\r.at_<=bs.length/\r.cq=0/\bs.length-r.at_<=n/\oB bs n L r C=vB bs,fun R _=>bs.length+1-R.len,⟨[],⟨0,0,0⟩,[],FR0,bs.length,R2,Wf.nil,rfl,Nat.zero_le _,Nat.zero_le _,rfl,Nat.le_refl _,htxt.symm⟩,?_⟩
 rintro R Hl wl au ⟨L,r,C,FR,n,o,hW,hps,hpr,hra,hre,hn,g⟩
 unfold Js
 have hpl:R.len=C.length:=by rw[o.cm.len,vA,List.length_map]
 have hok:=hW.ok
 have hfew:=hok.ft
 refine(zJA a s bs r wl o.rd hra).mono ?_
 rintro _ w3 ⟨_,rfl,rfl,E3⟩
 have T:=o.Be E3
 have m:∀{w:World} {L:aw} {F:NP},vP w q L F->∃v:Sl,w.cell? q=some v.v/\v.len=L.length:=fun h=>by
  have⟨sa,sb,sc,h,_⟩:=h;exact⟨sa,h.box.bf,by rw[h.r1.len];simp⟩
 refine⟨_,rfl,E3.bz,fun hc3=>?_,fun hc3=>?_⟩
 have p:r.at_<bs.length:=Oh<|of_decide_eq_true hc3
 obtain⟨n,rfl⟩:∃k,n=k+1:=⟨n-1,Om⟩
 rw[oB,if_pos p]at g
 have⟨v2,hv2,hv2l⟩:=m T.bl
 refine⟨a,rfl,_,T.rd.j0,q,rfl,v2,hv2,?_⟩
 rw[hv2l]
 refine(RX a s bs r L.length w3 T.rd p hre (fun b d=>T.lt b d) Om).mono ?_
 rintro _ w4 ⟨kd,f,t,u,O,N,vb,x,rfl,r',hx,hR4,X4⟩
 have l:=Ar bs L r p hre
 generalize bs[r.at_].toNat=k at *
 have z3:=E3.size;have z4:=X4.size
 have R4:sw w0 Hl w4 q a s bs L r' s.aq FR C R:=⟨T.bl.ext X4 fun b d e=>(o.dR b d).1 e,hR4,T.cm.ext X4 fun b d e=>(o.dp b d).1 e,T.pure.cg X4 Gd,o.ak,fun b d=>Oh<|T.lt b d,o.dR,o.dp⟩
 refine⟨_,_,_,_,_,_,_,_,rfl,X4.bk fun b d e=>(o.ak _<|.inr<|.inl rfl).2<|e▸d,fun hc4=>?_,fun hc4=>⟨q,rfl,?_⟩⟩
 have hx0:x≠0:=bne_iff_ne.1 hc4
 have he:(vS bs L r).2.1=x:=by
  rw[l];split at hx;rename_i hk;rw[if_pos hk];unfold jo;rw[if_pos Gd];exact hx.1.symm;grind
 intro H1 w6 S
 rw[if_pos (by rw[he];exact hx0),he]at g
 exact M _ _ w6 g.symm (R4.au S).pure
 have hx0:x=0:=by simpa using hc4
 have hk:uL k=true:=Gd
 rw[if_pos hk]at hx
 have⟨hx1,hx2',hx3⟩:=hx
 have hx2:=hx2' hx0
 clear hx2'
 rw[if_pos hk]at l
 generalize vD bs (qP k) (yF,⟨r.at_+1,0,r.spot⟩)=st at *
 have⟨X,rX⟩:=st
 simp only at hx1 hx2 hx3
 subst hx3
 have hne:lf k L.length X r'.cq=0:=Om
 have hin:jo L k (X,r')=(if(find L<|X.node k).isSome=true then(L,72,r')else((ay L<|X.node k).2.2,(ay L<|X.node k).2.1,r')):=by
  unfold jo;simp only;rw[if_neg (by rw[hne];simp)]
 rw[hin,<-hx2]at l
 intro H1 w6 S
 have B:=R4.au S
 have⟨v3,hv3,hv3l⟩:=m B.bl
 refine⟨v3,hv3,?_⟩
 refine(vZ q ⟨kd,f,t,u,O,N,vb⟩ w6 B.bl hok).mono ?_
 rintro _ w7 ⟨r5,r6,rfl,he56,FR',hP7,X7,hF7⟩
 have Y:=congrArg Prod.snd he56
 simp only at Y
 have hH1:∀b,H1 b->b<w6.heap.size:=fun b d=>S.lt b d
 have z6:=S.ext.size
 have z7:=X7.size
 have A:Pure w0 w7:=B.pure.cg X7 fun i hi d=>Oh<|(o.ak i<|.inl d).1
 refine⟨r5,r6,rfl,X7.bk fun b d hh=>(B.ak b<|.inl hh).2 d,fun hc5=>?_,fun hc5=>⟨q,rfl,?_⟩⟩
 have G:(ay L ⟨kd,f,t,u,O,N,vb⟩).2.1≠0:=by rw[<-Y];exact bne_iff_ne.1 hc5
 have hfn:¬(find L ⟨kd,f,t,u,O,N,vb⟩).isSome=true:=fun hs=>by
  have⟨i,hi⟩:=Option.isSome_iff_exists.1 hs;rw[Oe hW hi]at G;exact G rfl
 rw[if_neg hfn]at l
 rw[l]at g
 simp only at g
 rw[if_pos G,<-Y]at g
 exact M _ _ w7 g.symm A
 have G:(ay L ⟨kd,f,t,u,O,N,vb⟩).2.1=0:=by rw[<-Y];simpa using hc5
 have⟨v4,hv4,hv4l⟩:=m hP7
 refine⟨v4,hv4,fun K=>?_,fun K=>?_⟩
 have K:(ay L ⟨kd,f,t,u,O,N,vb⟩).2.2.length=L.length:=Oh<|beq_iff_eq.1 K
 have hfs:(find L ⟨kd,f,t,u,O,N,vb⟩).isSome=true:=by
  cases hf:find L ⟨kd,f,t,u,O,N,vb⟩with
  |some i=>rfl
  |none=>have:=AT hf G;omega
 rw[if_pos hfs]at l
 rw[l]at g
 simp only at g
 rw[if_pos De]at g
 exact M 72 _ w7 g.symm A
 have K:(ay L ⟨kd,f,t,u,O,N,vb⟩).2.2.length≠L.length:=Oh<|beq_eq_false_iff_ne.1 K
 have hfn:¬(find L ⟨kd,f,t,u,O,N,vb⟩).isSome=true:=fun hs=>by
  have⟨i,hi⟩:=Option.isSome_iff_exists.1 hs;rw[Oe hW hi]at K;exact K rfl
 have hlen7:(ay L ⟨kd,f,t,u,O,N,vb⟩).2.2.length=L.length+1:=AT (by simpa using hfn) G
 rw[if_neg hfn]at l
 have I:=IY bs L r p hre (by rw[l];exact G)
 rw[l]at g I
 simp only at g I
 rw[if_neg<|by simpa using G]at g
 have hW7:=uT hW ⟨kd,f,t,u,O,N,vb⟩
 generalize ay L ⟨kd,f,t,u,O,N,vb⟩=mk at *
 intro p2 w8 n8
 have E8:Pure w7 w8:=ab.ax n8
 have b8:=n8.cu
 have z8:=E8.size
 have hdr:∀b,FR' b->b≠a.block/\¬s.aq b/\¬R.aq b:=fun b d=>(hF7 b d).elim (o.dR b) fun h=>⟨Oh<|B.lt a.block<|.inl rfl,fun hh=>Oh<|B.lt b<|.inr hh,fun hh=>Oh<|B.cm.lt hh⟩
 have Rw8:=(B.cm.ext X7 fun b d hh=>(o.dR b hh).2.2 d).pure E8
 have⟨s1,w9,hr9,hR9,X9,hb9⟩:=Rw8.append (P:=prog) (ty:=42) (c:=1) yb (ai.fp n8).row rfl rfl (by rw[vA,List.length_map];omega) (by rw[vA,List.length_map];simp only[maxLen];omega)
 have hpo:∀b,R.aq b->w0.heap.size<=b/\¬H1 b:=fun b d=>B.ak b<|.inr<|.inr<|.inr d
 have Z:Pure w0 w9:=(A.trans E8).cg X9 Gd
 have z9:=X9.size
 refine⟨s1,w9,hr9,X9.bk Gd,⟨mk.2.2,r',C++[r.at_],FR',n,⟨(hP7.pure E8).ext X9 Gd,((B.rd.ext X7 fun b d hh=>?_).pure E8).ext X9 fun b d hh=>?_,?_,Z,fun b d=>?_,fun b d=>Oh<|B.lt b d,fun b d=>⟨(hdr b d).1,(hdr b d).2.1,fun hh=>?_⟩,fun b d=>?_⟩,hW7,by rw[List.length_append,List.length_singleton];omega,by rw[List.length_append,List.length_singleton];omega,I.2.1,I.2.2,Om,g⟩,?_⟩
 rcases d with d|d
 exact(o.dR b hh).1 d
 exact(o.dR b hh).2.1 d
 rcases d with d|d
 exact(o.dp b hh).1 d
 exact(o.dp b hh).2 d
 have:cd ((C++[r.at_]).map Int.ofNat)=cd (C.map Int.ofNat)++[[vi (r.at_:Int)]]:=by simp[cd]
 rw[this];exact hR9
 rcases d with d|d|d|d
 rcases hF7 b d with h|h
 exact B.ak b<|.inl h
 exact⟨Oh B.pure.size,fun hh=>Oh<|hH1 b hh⟩
 exact B.ak b<|.inr<|.inl d
 exact B.ak b<|.inr<|.inr<|.inl d
 rcases hb9 b d with h|h
 exact hpo b h
 exact⟨Oh B.pure.size,fun hh=>Oh<|hH1 b hh⟩
 rcases hb9 b hh with h|h
 exact(hdr b d).2.2 h
 have:=hP7.lt d;omega
 rcases hb9 b d with h|h
 exact o.dp b h
 exact⟨Oh<|B.lt a.block<|.inl rfl,fun hh=>Oh<|B.lt b<|.inr hh⟩
 have h1:s1.len=C.length+1:=by rw[hR9.len,List.length_append,vA,List.length_map];rfl
 show bs.length+1-s1.len<bs.length+1-R.len
 omega
 have hge:¬r.at_<bs.length:=Oh<|of_decide_eq_false hc3
 rw[DH hge]at g
 have⟨v5,hv5,hv5l⟩:=m T.bl
 refine⟨q,rfl,v5,hv5,?_⟩
 rw[hv5l]
 refine(HQ q L.length w3 hW T.bl).mono ?_
 rintro _ w10 ⟨r7,rfl,Q⟩
 have R10:=T.Be Q.pure
 refine⟨r7,rfl,Q.bk,?_⟩
 have hfew2:=uW hW L.length
 unfold pZ at g
 simp only at g
 have hw3:∀b,Hl b->b<w3.heap.size:=fun b d=>Oi (au.lt b d) E3.size
 have o7:∀b,r7.aq b->¬Hl b/\b<w10.heap.size:=fun b d=>⟨fun hh=>Oi (hw3 b hh)<|Q.ak b d,Q.cm.lt d⟩
 generalize dd L L.length=xs at *
 have hrow:=(KQ xs 0).2
 refine⟨fun i H w=>∃j:Nat,i=j/\j<=L.length/\j<=ia 0 xs/\sw w0 H w q a s bs L r s.aq FR C R/\bg w 73 1 r7 (cd xs)/\(∀b,r7.aq b->¬H b),fun i _=>((L.length:Int)-i).toNat,⟨0,rfl,Nat.zero_le _,Nat.zero_le _,R10,Q.cm,fun b d=>(o7 b d).1⟩,?_⟩
 rintro _ H2 w2' hst2 ⟨j,rfl,hj,hjr,RL,hX,hv7⟩
 unfold Pl
 have⟨v6,hv6,hv6l⟩:=m RL.bl
 have h7l:r7.len=xs.length:=by rw[hX.len,vA]
 have tell:∀(h:j<C.length) (D:World),ia 0 xs=j->af w0 H2 w2' H2 D->∃a7:Addr,At R j 1 a7/\∀(D:World),af w0 H2 w2' H2 D->∃v7:Int,D.cell? a7=some (vi v7)/\(73=(vB bs).2.1/\v7=((vB bs).2.2:Int)/\HM w0 D bs none/\Pure w0 D):=by
  intro h w hi _;have⟨a7,I,_,hrw⟩:=uJ RL.cm.el (j:=j) (by simpa using h);refine⟨a7,I,fun D hs11=>?_⟩;have R11:=RL.au hs11;have⟨a7',hat',_,hv'⟩:=uJ R11.cm.el (j:=j) (by simpa using h);have:a7'=a7:=by
   obtain⟨_,_,b1,hb1,rfl⟩:=I;obtain⟨_,_,b2,hb2,rfl⟩:=hat';rw[hb1]at hb2;cases hb2;rfl
  subst this;refine⟨_,hv',?_⟩;rw[List.getElem_map];have p:ia 0 xs<C.length:=Om;rw[dif_pos p]at g;have he:C[ia 0 xs]=C[j]:=by simp only[hi]
  rw[he]at g;exact M 73 _ D g.symm R11.pure
 refine⟨q,rfl,v6,hv6,fun W=>?_,fun W=>?_⟩
 have p:j<L.length:=Oh<|of_decide_eq_true W
 refine⟨fun hc7=>?_,fun hc7=>?_⟩
 grind
 have V:j<xs.length:=Oh<|of_decide_eq_false hc7
 have⟨a8,hat8,_,hv8⟩:=uJ hX.el V
 refine⟨a8,hat8,_,hv8,?_⟩
 rw[zM p Om]
 refine⟨fun hc8=>?_,fun hc8=>?_⟩
 have hne:xs[j]≠((j+1:Nat):Int):=bne_iff_ne.1 hc8
 have hi:ia 0 xs=j:=by
  rcases Nat.lt_or_ge j (ia 0 xs)with h|h;exfalso;have:=(MI xs 0 (ia 0 xs) Om).2 j V h;apply hne;rw[this];omega;omega
 exact tell Om w2' hi hst2.fm
 have heq:xs[j]=((j+1:Nat):Int):=by simpa using hc8
 exact⟨⟨j+1,rfl,p,by have:=Q0 xs 0 j V Om (by rw[heq];omega);omega,RL,hX,hv7⟩,yQ p⟩
 have hge2:j=L.length:=Oh<|of_decide_eq_false W
 have p:¬ia 0 xs<C.length:=Om
 rw[dif_neg p]at g
 rw[<-g]
 exact⟨rfl,rfl,⟨fun q' hq'=>by rw[<-g]at hq';cases hq';exact⟨q,FR,rfl,RL.bl,fun b d=>(RL.ak b<|.inl d).1⟩,fun hn=>by rw[<-g]at hn;cases hn⟩,RL.pure⟩
end Go.Proofs
end
section
open Go Go.SE
namespace Go.Proofs
def jXR{Lq x}:∀(l:List Int) (L:aw) (ak:Int->Int),x∉l->(zU Lq l L ak).2.2 x=ak x:=by
 intro l;induction l with
 |nil=>intro L ak _;rfl
 |cons z l d =>
  intro L ak h
  simp only[List.mem_cons,not_or]at h
  obtain⟨y,e,c,hm⟩:∃y e c,ay L { ad Lq z with a:=ak (ad Lq z).a,b:=ak (ad Lq z).b }=(y,e,c):=⟨_,_,_,rfl⟩
  rw[qG Lq z l L ak rfl hm]
  split
  rfl
  grind
end Go.Proofs
namespace Go.Proofs
open Tryz
attribute [local irreducible] Calls CallsD
structure rL(w0:World)(H:NP)(w:World)(p q:Addr)(Lc Lq:aw)(s1 r2:Sl)(A xs:List Int)(FP F' FQ:NP):Prop where
 pp:vP w p Lc F'
 pq:vP w q Lq FQ
 at_:bg w 73 1 s1 (cd A)
 dd:bg w 73 1 r2 (cd xs)
 ext:ab FP w0 w
 ak:∀b,(F' b\/FQ b\/s1.aq b\/r2.aq b)->¬H b
 oF:∀b,F' b->FP b\/w0.heap.size<=b
 oS:∀b,(s1.aq b\/r2.aq b)->w0.heap.size<=b
 xw:∀b,F' b->¬FQ b/\¬s1.aq b/\¬r2.aq b
 dS:∀b,s1.aq b->¬FQ b/\¬r2.aq b
section
variable {w0 w w':World} {H H':NP} {p q:Addr} {Lc Lq:aw} {s1 r2:Sl} {A xs:List Int} {FP F' FQ:NP}
def rL.Hg(h:rL w0 H w p q Lc Lq s1 r2 A xs FP F' FQ):∀b,(F' b\/FQ b\/s1.aq b\/r2.aq b)->b<w.heap.size:=by
 rintro b (a|a|a|a);exact h.pp.lt a;exact h.pq.lt a;exact h.at_.lt a;exact h.dd.lt a
def rL.au(h:rL w0 H w p q Lc Lq s1 r2 A xs FP F' FQ)(hs:af w0 H w H' w'):rL w0 H' w' p q Lc Lq s1 r2 A xs FP F' FQ:=by
 have d:=hs.ji fun b a=>⟨h.Hg b a,h.ak b a⟩;exact⟨h.pp.ext hs.ext fun b a=>d b<|.inl a,h.pq.ext hs.ext Gd,h.at_.ext hs.ext Gd,h.dd.ext hs.ext Gd,h.ext.au hs,d,h.oF,h.oS,h.xw,h.dS⟩
end
def jQY(p q:Addr)(t:Int)(w0:World){L Lq:aw}{FP FQ:NP}(hW:Wf L)(V:Wf Lq)(hP:vP w0 p L FP)(Q:vP w0 q Lq FQ)(hd:∀b,FP b->¬ FQ b):
  cl 111 #[.pointer<|some p,.pointer<|some q,.int .i64 t] w0<|XH fun r1 r2 w'=>r1=(vH L Lq t).1/\r2=(vH L Lq t).2.1/\∃F',vP w' p (vH L Lq t).2.2 F'/\ab FP w0 w'/\∀b,F' b->FP b\/w0.heap.size<=b:=by
 refine Zw _ _ _ w0 _ ?_
 refine(uR q t w0 Q).mono ?_
 rintro _ m ⟨_,rfl,rfl,rfl⟩
 refine⟨_,rfl,aj.refl _,fun g=>?_,fun g=>?_⟩
 have K:al Lq t=false:=by simpa using g
 have e:vH L Lq t=(0,51,L):=by unfold vH;rw[if_neg (by rw[K];simp)]
 rw[e]
 exact⟨rfl,rfl,FP,hP,ab.refl _,fun b c=>.inl c⟩
 have K:al Lq t=true:=by simpa using g
 refine(HQ q t m V Q).mono ?_
 rintro _ w2 ⟨r2,rfl,C⟩
 have E2:=C.pure
 have z2:=E2.size
 have l:∀{w:World} {a:Addr} {L:aw} {F:NP},vP w a L F->∃v:Sl,w.cell? a=some v.v/\v.len=L.length:=fun h=>by
  have⟨sa,sb,sc,h,_⟩:=h;exact⟨sa,h.box.bf,by rw[h.r1.len];simp⟩
 have⟨v1,hv1,hv1l⟩:=l<|Q.pure E2
 have hLq:=V.ok.ft
 refine⟨r2,rfl,E2.bz,q,rfl,v1,hv1,?_⟩
 rw[hv1l,show IntKind.i64.wrap ((Lq.length:Int)+1)=((Lq.length+1:Nat):Int) by rw[i64 Om Om];omega]
 have⟨w3, hmk, hR3, E3⟩:=bg.ay (P:=prog) sZ (zr:=[.int .i64 0]) (fun i z hi hz => by
   have h1:prog.info? 73=some t73:=Kf;rw[h1]at hi;cases hi;have h2:t73.zero=some (.int .i64 0):=Kf;rw[h2]at hz;cases hz;rfl) (k:=.i64) (k':=.i64) (n:=Lq.length+1) Om (by simp only[maxLen];omega) w2
 refine⟨_,w3,hmk,E3.bz,?_⟩
 generalize hs1e:(Sl.mk (some ⟨w2.heap.size,0,none⟩) (Lq.length+1)<|Lq.length+1)=s1 at *
 have r:∀x,s1.aq x->x=w2.heap.size:=fun x hx=>by subst hs1e;obtain⟨a,ha,rfl⟩:=hx;cases ha;rfl
 have hrep:List.replicate (Lq.length+1) [Value.int .i64 0]=cd (List.replicate (Lq.length+1) 0):=by simp[cd]
 rw[hrep]at hR3
 have z3:=E3.size
 have P3:=(hP.pure E2).pure E3
 have⟨v2,hv2,hv2l⟩:=l P3
 refine⟨p,rfl,v2,hv2,?_⟩
 have hfew:=uW V t
 have hsub:∀u∈dd Lq t,al Lq u=true:=fun u hu=>xE V hu
 have hnd:=AW V t
 have htin:t∈dd Lq t:=Dm V K
 generalize ez:vH L Lq t=cs at *
 have hcs':cs=if(zU Lq (dd Lq t) L fun _=>0).2.1≠0 then(0,(zU Lq (dd Lq t) L fun _=>0).2.1,L)else((zU Lq (dd Lq t) L fun _=>0).2.2 t,0,(zU Lq (dd Lq t) L fun _=>0).1):=by rw[<-ez];unfold vH;rw[if_pos K]
 generalize dd Lq t=xs at *
 have h00:zU Lq (xs.take 0) L (fun _=>0)=(L,0,fun _=>0):=by rw[List.take_zero];rfl
 have C3:rL m ar w3 p q L Lq s1 r2 (List.replicate (Lq.length+1) 0) xs FP FP FQ:=⟨P3,(Q.pure E2).pure E3,hR3,C.cm.pure E3,ab.pure<|E2.trans E3,fun _ _ h=>h,fun b c=>.inl c,fun b c=>c.elim (fun h=>Oh<|r b h)<|C.ak b,fun b c=>⟨hd b c,fun hh=>Oi (r b hh)<|hP.lt c,fun hh=>Oi (C.ak b hh)<|hP.lt c⟩,fun b c=>⟨fun hh=>Oi (r b c)<|Q.lt hh,fun hh=>Oi (r b c)<|C.cm.lt hh⟩⟩
 refine⟨fun i H w=>∃(j:Nat) (A:List Int) (F':NP),i=j/\j<=xs.length/\(zU Lq (xs.take j) L fun _=>0).2.1=0/\A.length=Lq.length+1/\(∀x:Nat,x<=Lq.length->A[x]?=some ((zU Lq (xs.take j) L fun _=>0).2.2 (x:Int)))/\rL m H w p q (zU Lq (xs.take j) L fun _=>0).1 Lq s1 r2 A xs FP F' FQ,fun i _=>((xs.length:Int)-i).toNat,⟨0,List.replicate (Lq.length+1) 0,FP,rfl,Nat.zero_le _,by rw[h00],by rw[List.length_replicate],fun x hx=>by rw[h00,List.getElem?_replicate,if_pos Om],by rw[h00];exact C3⟩,?_⟩
 rintro _ Hl wl au ⟨j,A,F',rfl,hj,h0,hAl,hA,B⟩
 unfold PS
 have Y:r2.len=xs.length:=by rw[B.dd.len,vA]
 refine⟨fun g=>?_,fun g=>?_⟩
 have g:=vQ Y g
 have O:=hsub xs[j]<|List.getElem_mem _
 have hz:=zI.1 O
 have htk:xs.take (j+1)=xs.take j++[xs[j]]:=List.take_succ_eq_append_getElem g
 have R:xs=xs.take j++xs[j] ::xs.drop (j+1):=by rw[<-List.drop_eq_getElem_cons g,List.take_append_drop]
 have⟨a4,W,_,hv4⟩:=uJ B.dd.el g
 obtain⟨v3,a5,hv3,hFq,hat5,hrow5,hF5⟩:∃(v3:Sl) (a5:Addr),wl.cell? q=some v3.v/\FQ q.block/\At v3 (IntKind.i64.wrap<|xs[j]-1) 7 a5/\Row wl a5 (tI<|ad Lq xs[j])/\FQ a5.block:=by
  have⟨sa,sb,sc,h,hF⟩:=B.pq;have⟨e,he,⟨a,o,g2⟩,_⟩:=h.kr O V.ok;refine⟨sa,a,h.box.bf,(hF _).2<|.inl rfl,o,?_,(hF _).2<|.inr<|.inl<|zb o⟩;have:ad Lq xs[j]=e.node:=by simp only[ad,he,Option.map_some,Option.getD_some]
  rw[this];exact g2
 have⟨_,c2,c3,_,c5,_⟩:=V.node O
 have fj:∀y:Int,(y=(ad Lq xs[j]).a\/y=(ad Lq xs[j]).b)->y=0\/(1<=y/\y<=Lq.length):=by
  intro y hy;rcases yM (ad Lq xs[j]).kind with e|e|e;grind;have c:=c3 Om;rcases hy with h|h;right;have:=(c5 y (by unfold zB;rw[e,h];simp)).1;exact zI.1 this;left;omega;right;have:=(c5 y (by unfold zB;rw[e];rcases hy with h|h<;>simp[h])).1;exact zI.1 this
 have hz0:(zU Lq (xs.take j) L fun _=>0).2.2 0=0:=jXR _ _ _ fun h=>Oh<|zI.1<|hsub 0<|List.mem_of_mem_take h
 have D:=fun n=>@Lp Lq (xs.take j) (xs.drop<|j+1) xs[j] L (fun _=>0) h0 n
 have G:=fun n=>@K4 Lq (xs.take j) xs[j] L (fun _=>0) h0 n
 have hgrow:=Fq Lq (xs.take j) L fun _=>0
 have hwc:=O0 (Lq:=Lq) (xs.take j) L (fun _=>0) hW
 rw[<-htk]at G
 rw[<-R]at D
 generalize hnz:ad Lq xs[j]=n at *
 generalize xs[j]=z at *
 generalize zU Lq (xs.take j) L (fun _=>0)=f at *
 have rdA:∀(y:Int),1<=y->y<=Lq.length->∀{H:NP} {w:World} {F':NP},rL m H w p q f.1 Lq s1 r2 A xs FP F' FQ->∃Z:Addr,At s1 y 1 Z/\s1.aq Z.block/\w.cell? Z=some (.int .i64<|f.2.2 y):=by
  intro y h1 h2 H w F' h;have hy:((y.toNat:Nat):Int)=y:=Om;have N:y.toNat<A.length:=Om;have⟨Z,o,_,g3⟩:=uJ h.at_.el N;have S:=hA y.toNat Om;rw[List.getElem?_eq_getElem N,hy]at S;have S:=Option.some.inj S;rw[hy]at o;exact⟨Z,o,zb o,by rw[g3,S]⟩
 have kH:=B.ak
 refine⟨q,rfl,v3,hv3,kH _<|.inr<|.inl hFq,a4,W,z,hv4,kH _<|.inr<|.inr<|.inr<|zb W,a5,hat5,n.kind,n.az,n.to,n.num,n.bb,n.a,n.b,hrow5,kH _<|.inr<|.inl hF5,?_⟩
 have hnn:({ n with a:=f.2.2 n.a,b:=f.2.2 n.b }:di)=⟨n.kind,n.az,n.to,n.num,n.bb,f.2.2 n.a,f.2.2 n.b⟩:=rfl
 have j3 : ∀ (X vb : Int) (H : NP) (w : World), X = f.2.2 n.a -> vb = f.2.2 n.b -> af m H w H w -> rL m H w p q f.1 Lq s1 r2 A xs FP F' FQ ->
   Eh (some p) r2 s1 v2 j n.kind n.az n.to n.num n.bb X vb H w (fun E H' w'=>(∃(j:Nat) (A:List Int) (F':NP),E=j/\j<=xs.length/\(zU Lq (xs.take j) L fun _=>0).2.1=0/\A.length=Lq.length+1/\(∀x:Nat,x<=Lq.length->A[x]?=some ((zU Lq (xs.take j) L fun _=>0).2.2 (x:Int)))/\rL m H' w' p q (zU Lq (xs.take j) L fun _=>0).1 Lq s1 r2 A xs FP F' FQ)/\((xs.length:Int)-E).toNat<((xs.length:Int)-(j:Int)).toNat) (fun r1 r2 w'=>r1=cs.1/\r2=cs.2.1/\∃F',vP w' p cs.2.2 F'/\ab FP m w'/\∀b,F' b->FP b\/m.heap.size<=b):=by
  rintro X vb H w rfl rfl hsw h
  refine(vZ p ⟨n.kind,n.az,n.to,n.num,n.bb,f.2.2 n.a,f.2.2 n.b⟩ w h.pp hwc.ok).mono ?_
  rintro _ w10 ⟨r3,r4,rfl,he,F2,hP2,s,hF2⟩
  have he1:=congrArg Prod.fst he
  have M:=congrArg Prod.snd he
  simp only at he1 M
  have hHlt:∀b,H b->b<w.heap.size:=fun b c=>hsw.lt b c
  have z10:=s.size
  have zw:=h.ext.size
  have d:rL m H w10 p q (ay f.1 ⟨n.kind,n.az,n.to,n.num,n.bb,f.2.2 n.a,f.2.2 n.b⟩).2.2 Lq s1 r2 A xs FP F2 FQ:=
   ⟨hP2,h.pq.ext s fun b c hh=>(h.xw b hh).1 c,h.at_.ext s fun b c hh=>(h.xw b hh).2.1 c,h.dd.ext s fun b c hh=>(h.xw b hh).2.2 c,h.ext.cg s fun i hi hh=>(h.oF i hh).elim id fun h=>Om,fun b c=>by
    rcases c with c|c;exact(hF2 b c).elim (fun h1=>h.ak b<|.inl h1) fun h1 hh=>Oh<|hHlt b hh;exact h.ak b<|.inr c,fun b c=>(hF2 b c).elim (h.oF b) fun h1=>.inr Om,h.oS,fun b c=>(hF2 b c).elim (h.xw b) fun h1=>⟨fun hh=>Oh<|h.pq.lt hh,fun hh=>Oh<|h.at_.lt hh,fun hh=>Oh<|h.dd.lt hh⟩,h.dS⟩
  refine⟨r3,r4,rfl,s.bk fun b c hh=>h.ak b (.inl hh) c,fun hc4=>?_,fun hc4=>?_⟩
  have h5:(ay f.1 ⟨n.kind,n.az,n.to,n.num,n.bb,f.2.2 n.a,f.2.2 n.b⟩).2.1≠0:=by rw[<-M];exact bne_iff_ne.1 hc4
  have hf:=D _ hnn h5
  rw[<-M]at hf
  have hcs2:cs=(0,r4,L):=by rw[hcs',hf,if_pos (by rw[M];exact h5)]
  have⟨Mg,hMg⟩:=hgrow
  have⟨M2,hM2⟩:=yU f.1 ⟨n.kind,n.az,n.to,n.num,n.bb,f.2.2 n.a,f.2.2 n.b⟩
  rw[hM2,hMg,List.append_assoc]at hP2
  rw[hv2l]
  refine(Pc p L.length w10 hP2 (by rw[List.length_append];omega)).mono ?_
  rintro _ w11 ⟨rfl,hP3,X11⟩
  rw[List.take_left]at hP3
  refine⟨rfl,X11.bk fun b c hh=>d.ak b (.inl hh) c,?_⟩
  rw[hcs2]
  exact⟨rfl,rfl,F2,hP3,d.ext.cg X11 fun i hi hh=>(d.oF i hh).elim id fun h=>Om,d.oF⟩
  have h5:(ay f.1 ⟨n.kind,n.az,n.to,n.num,n.bb,f.2.2 n.a,f.2.2 n.b⟩).2.1=0:=by rw[<-M];simpa using hc4
  have hn:=G _ hnn h5
  rw[<-he1]at hn
  have⟨a6,hat6,_,hv6⟩:=uJ d.dd.el g
  have hv6':w10.cell? a6=some (.int .i64 z):=Gd
  have⟨a7,hat7,hb7,hw7,hset⟩:=PY d.at_ (k:=z) (j:=z.toNat) Om Om
  refine⟨a6,hat6,z,hv6',a7,hat7,hw7,d.ak _<|.inr<|.inr<|.inl hb7,?_⟩
  rintro w12 e12
  have⟨U,I⟩:=hset r3
  rw[<-e12]at U I
  refine⟨⟨j+1,A.set z.toNat r3,F2,zM g Om,g,by rw[hn],by rw[List.length_set];exact hAl,fun x hx=>?_,?_⟩,by rw[zM g Om];exact yQ g⟩
  rw[hn]
  simp only
  by_cases e:(x:Int)=z
  rw[if_pos e,show z.toNat=x by omega,List.getElem?_set_self Om]
  rw[if_neg e,List.getElem?_set_ne Om];exact hA x hx
  rw[hn]
  exact⟨d.pp.ext I fun b c hh=>(d.xw b c).2.1 hh,d.pq.ext I fun b c hh=>(d.dS b hh).1 c,U,d.dd.ext I fun b c hh=>(d.dS b hh).2 c,d.ext.cg I fun i hi hh=>Oh<|d.oS i<|.inl hh,d.ak,d.oF,d.oS,d.xw,d.dS⟩
 have j2 : ∀ (X : Int) (H : NP) (w : World), X = f.2.2 n.a -> af m H w H w -> rL m H w p q f.1 Lq s1 r2 A xs FP F' FQ ->
   Db (some p) r2 s1 v2 j n.kind n.az n.to n.num n.bb X n.b m H w (fun E H' w'=>(∃(j:Nat) (A:List Int) (F':NP),E=j/\j<=xs.length/\(zU Lq (xs.take j) L fun _=>0).2.1=0/\A.length=Lq.length+1/\(∀x:Nat,x<=Lq.length->A[x]?=some ((zU Lq (xs.take j) L fun _=>0).2.2 (x:Int)))/\rL m H' w' p q (zU Lq (xs.take j) L fun _=>0).1 Lq s1 r2 A xs FP F' FQ)/\((xs.length:Int)-E).toNat<((xs.length:Int)-(j:Int)).toNat) (fun r1 r2 w'=>r1=cs.1/\r2=cs.2.1/\∃F',vP w' p cs.2.2 F'/\ab FP m w'/\∀b,F' b->FP b\/m.heap.size<=b):=by
  rintro X H w hva hsw h
  refine⟨fun g=>?_,fun g=>?_⟩
  have c:=(fj n.b<|.inr rfl).resolve_left fun e=>Oh<|of_decide_eq_true g
  have⟨a8,o,g2,g3⟩:=rdA n.b c.1 c.2 h
  exact⟨a8,o,_,g3,fun w13 hs13=>j3 X _ H w13 hva rfl hs13.fm (h.au hs13)⟩
  grind
 refine⟨fun hc2=>?_,fun hc2=>?_⟩
 have ha:=(fj n.a<|.inl rfl).resolve_left fun e=>Oh<|of_decide_eq_true hc2
 have⟨Z,o,g2,g3⟩:=rdA n.a ha.1 ha.2 B
 refine⟨Z,o,fun H2 w7 T=>?_⟩
 have h7:=B.au T
 have⟨a9',g1',_,g3'⟩:=rdA n.a ha.1 ha.2 h7
 have:a9'=Z:=by
  obtain⟨_,_,b1,hb1,rfl⟩:=g1';obtain⟨_,_,b2,hb2,rfl⟩:=o;rw[hb1]at hb2;cases hb2;rfl
 subst this
 exact⟨_,g3',fun w14 hs14=>j2 _ H2 w14 rfl hs14.fm (h7.au hs14)⟩
 have ha:n.a=0:=(fj n.a<|.inl rfl).resolve_right fun e=>Oh<|of_decide_eq_false hc2
 exact fun H2 w7 T=>j2 n.a H2 w7 (by rw[ha,hz0]) T.fm<|B.au T
 have g:=qU Y hj g
 subst g
 rw[List.take_length]at h0 hA B
 have ht:=zI.1 K
 have N:t.toNat<A.length:=Om
 have⟨a10,o,_,g3⟩:=uJ B.at_.el N
 have J:=hA t.toNat Om
 rw[List.getElem?_eq_getElem N]at J
 have ht2:((t.toNat:Nat):Int)=t:=Om
 rw[ht2]at J o
 have J:=Option.some.inj J
 refine⟨a10,o,_,g3,?_⟩
 rw[hcs',if_neg (by rw[h0];exact fun h=>h rfl)]
 exact⟨J,rfl,F',B.pp,B.ext,B.oF⟩
end Go.Proofs
end
section
namespace Go.Proofs
def KY(L n):(ay L n).2.2.length<=L.length+1:=by
 rcases Ex L n with e|⟨_,e⟩<;>rw[e]<;>simp
end Go.Proofs
end
section
open Go Go.SE List
namespace Go.Proofs
end Go.Proofs
namespace Go.Proofs
attribute [local irreducible] Calls
structure ur(w0:World)(H:NP)(w:World)(p q:Addr)(L1 L2:aw)(F1 F2:NP):Prop where
 pure:Pure w0 w
 bl:zD w p L1 F1
 ED:vP w q L2 F2
 o1:∀b,F1 b->w0.heap.size<=b/\¬H b/\¬F2 b
 o2:∀b,F2 b->w0.heap.size<=b/\¬H b
section
variable {w0 w w':World} {H H':NP} {p q:Addr} {L1 L2:aw} {F1 F2:NP}
def ur.Be(h:ur w0 H w p q L1 L2 F1 F2)(E:Pure w w'):ur w0 H w' p q L1 L2 F1 F2:=⟨h.pure.trans E,h.bl.pure E,h.ED.pure E,h.o1,h.o2⟩
def ur.first(h:ur w H w' p q L1 L2 F1 F2)(E:Pure w0 w):ur w0 H w' p q L1 L2 F1 F2:=
 ⟨E.trans h.pure,h.bl,h.ED,fun b a=>⟨Nat.le_trans E.size (h.o1 b a).1,(h.o1 b a).2⟩,fun b a=>⟨Nat.le_trans E.size (h.o2 b a).1,(h.o2 b a).2⟩⟩
def ur.au(h:ur w0 H w p q L1 L2 F1 F2)(hs:af w0 H w H' w'):ur w0 H' w' p q L1 L2 F1 F2:=by
 have d:∀b,b<w.heap.size->¬H b->¬H' b:=fun b h1 h2=>hs.ji (G:=(·=b)) Gd b rfl;have d1:∀b,F1 b->¬H' b:=fun b a=>d b (h.bl.lt a) (h.o1 b a).2.1;have d2:∀b,F2 b->¬H' b:=fun b a=>d b (h.ED.lt a) (h.o2 b a).2;exact⟨h.pure.au hs,h.bl.ext hs.ext d1,h.ED.ext hs.ext d2,fun b a=>⟨(h.o1 b a).1,d1 b a,(h.o1 b a).2.2⟩,fun b a=>⟨(h.o2 b a).1,d2 b a⟩⟩
end
end Go.Proofs
end
section
open Go Go.SE List
namespace Go.Proofs
end Go.Proofs
namespace Go.Proofs
attribute [local irreducible] Calls CallsD
end Go.Proofs
end
section
open Go Go.SE List
namespace Go.Proofs
attribute [local irreducible] Calls
end Go.Proofs
end
section
open Go Go.SE
namespace Go.Proofs
open Tryz
attribute [local irreducible] Calls CallsD
def SN{S0}(p sb bs w0){L FP}(E:Wf L)(r:vP w0 p L FP)(hs:dr S0 w0 1 sb (dn bs)):
  cl 54 #[vp<|some p,sb.v] w0<|XJ fun t x y w'=>t=(yP L bs).1/\x=(yP L bs).2.1/\y=((yP L bs).2.2.1:Int)/\∃F',vP w' p (yP L bs).2.2.2 F'/\ab FP w0 w'/\∀b,F' b->FP b\/w0.heap.size<=b:=by
 refine Uy _ _ w0 _ ?_
 refine(ZE sb bs w0 hs).mono ?_
 rintro _ u ⟨x,y,z,rfl,j,k,d,e⟩
 refine⟨_,_,_,rfl,?_⟩
 cases c:(vB bs).1 with
 |none =>
  have m:yP L bs=(0,(vB bs).2.1,(vB bs).2.2,L):=by unfold yP;rw[c]
  have w:y≠0:=by rw[j];exact xO c
  refine⟨fun _=>?_,fun n=>absurd (by simpa using n) w⟩
  rw[m]
  exact⟨rfl,j,k,FP,r.pure e,ab.pure e,fun b f=>.inl f⟩
 |some q =>
  obtain⟨a,F,rfl,g,A⟩:=d.1 q c
  have⟨C,_,H,_⟩:=xB c
  have D:=MV c
  have m:yP L bs=((vH L q q.length).1,(vH L q q.length).2.1,0,(vH L q q.length).2.2):=by unfold yP;rw[c]
  rw[D]at j
  obtain⟨G,l,i⟩:∃v:Sl,u.cell? a=some v.v/\v.len=q.length:=by
   have⟨sa,sb,sc,h,_⟩:=g;exact⟨sa,h.box.bf,by rw[h.r1.len];simp⟩
  refine⟨fun n=>absurd j<|by simpa using n,fun _=>⟨a,rfl,G,l,?_⟩⟩
  rw[i]
  refine(jQY p a q.length u E C (r.pure e) g fun b f hh=>Oi (r.lt f)<|A b hh).mono ?_
  rintro _ I ⟨r1,r2,rfl,h1,h2,F',s,B,o⟩
  refine⟨_,_,rfl,?_⟩
  rw[m]
  exact⟨h1,h2,rfl,F',s,(ab.pure e).trans B,fun b f=>(o b f).imp id fun h=>Oh e.size⟩
end Go.Proofs
end
section
open Go Go.SE List
namespace Go.Proofs
def ni(L:aw)(S:List gy)(t y:Int):Prop:=
 (∃v∈S,v.t=t/\v.gz≠0/\y=v.az)\/(t∉zH S/\0<y/\(y=(rh L S t).1\/y=(rh L S t).2.1))
inductive Dp(L:aw)(S:List gy):Int->Int->Prop
 |refl (t:Int):Dp L S t t
 |step {t y z:Int}:ni L S t y->Dp L S y z->Dp L S t z
def ni.nq{L S t y a b f m}(h:rh L S t=(a,b,f,m))(ht:t∉zH S):ni L S t y↔0<y/\(y=a\/y=b):=by
 unfold ni;rw[h];constructor;rintro(⟨v,c,rfl,_⟩|⟨_,h⟩);exact absurd (mem_map.2 ⟨v,c,rfl⟩) ht;exact h;grind
def ni.tu{L S t y r f}(d:(zH S).Nodup)(b:SE.eu (S.map fun v=>(v.t,(v.gz,v.az))) t=some (r,f)):ni L S t y↔r≠0/\y=f:=by
 have hm:=tT b;have⟨v,c,e⟩:=mem_map.1 hm;simp only[Prod.mk.injEq]at e;obtain⟨rfl,rfl,rfl⟩:=e;have g:v.t∈zH S:=mem_map.2 ⟨v,c,rfl⟩;unfold ni;constructor;rintro(⟨u,i,e,hr,rfl⟩|⟨h,_⟩);have a:((S.map fun v=>(v.t,(v.gz,v.az))).map Prod.fst).Nodup:=by rw[map_map];exact d
 have h2:=VC a<|mem_map.2 ⟨u,i,rfl⟩;rw[e,b]at h2;simp only[Option.some.injEq,Prod.mk.injEq]at h2;exact⟨by rw[h2.1];exact hr,h2.2.symm⟩;exact absurd g h;grind
def Dp.all{L:aw}{S:List gy}{M:List gl}(c:∀s∈M,∀y,ni L S s.t y->y∈M.map gl.t){t x:Int}(ht:t∈M.map gl.t)(h:Dp L S t x):x∈M.map gl.t:=by
 induction h with
 |refl=>exact ht
 |step b _ a =>
  obtain⟨s,hs,rfl⟩:=mem_map.1 ht
  exact a<|c s hs _ b
end Go.Proofs
namespace Go.Proofs
open Tryz
attribute [local irreducible] Calls
def AS(s:gl):List Value:=[vi s.gz,vi s.a,vi s.b,vi s.t]
def zCV:km prog 169 173 4 32:=by
 refine⟨underlying169,⟨t173,_,Kf,(by kernel_rfl:t173.zero=some (.agg #[vi 0,vi 0,vi 0,vi 0])),Kf,Kf,rfl⟩,Om⟩
def Hq(_:Unit):Value:=vb true
def we(B:List Int):List (Int×Unit):=B.map fun t=>(t,())
def Lf(B):(we B).map Prod.fst=B:=by
 unfold we;rw[map_map];exact map_id' B
def zCF(B t):we (B++[t])=we B++[(t,())]:=by simp[we]
def PW(ma mb:Nat)(c5:Addr)(sl:Sl)(b:Nat):Prop:=b=ma\/b=mb\/b=c5.block\/sl.aq b
def jcw(f:FuncId)(c1 c2 c3 c4 c5:Addr):Value:=.func (.func f) #[] #[vp<|some c1,vp<|some c2,vp<|some c3,vp<|some c4,vp<|some c5]
structure rH(w:World)(k:Addr)(c1 c2 c3 c4 c5:Addr)(ma mb:Nat)(sl:Sl)(l:List gl)(B:List Int):Prop where
 a1:w.cell? c1=some (.map<|some ma)
 a2:w.cell? c2=some (.map<|some mb)
 a3:w.cell? c3=some (vp<|some k)
 a4:w.cell? c4=some (jcw 160 c1 c2 c3 c4 c5)
 a5:ai w c5 [sl.v] 169
 am:fc pL w ma (tm l)
 bm:fc Hq w mb (we B)
 ls:bg w 173 4 sl (l.map AS)
 d:∀b,PW ma mb c5 sl b->b≠c1.block/\b≠c2.block/\b≠c3.block/\b≠c4.block
 n1:ma≠mb
 n2:ma≠c5.block
 n3:mb≠c5.block
 n4:¬sl.aq ma
 n5:¬sl.aq mb
 n6:¬sl.aq c5.block
structure pK(w:World)(k p:Addr)(c1 c2 c3 c4 c5:Addr)(ma mb:Nat)(L:aw)(G:List Int)(S:List gy)(F FP:NP)(sl:Sl)(l:List gl)(B:List Int):Prop where
 ed:rH w k c1 c2 c3 c4 c5 ma mb sl l B
 fl:qI w k p G S F
 bl:zD w p L FP
 dF:∀b,F b->¬PW ma mb c5 sl b
 dP:∀b,FP b->¬PW ma mb c5 sl b
section
variable {w w':World} {k p c1 c2 c3 c4 c5:Addr} {ma mb:Nat} {L:aw} {G:List Int} {S:List gy} {F FP:NP} {sl:Sl} {l:List gl} {B:List Int}
def rH.ext{X}(h:rH w k c1 c2 c3 c4 c5 ma mb sl l B)(a:ab X w w')(h1:∀b,PW ma mb c5 sl b->¬X b)(e:¬X c1.block)(c:¬X c2.block)(i:¬X c3.block)(g:¬X c4.block):rH w' k c1 c2 c3 c4 c5 ma mb sl l B:=
 ⟨a.cell h.a1 e,a.cell h.a2 c,a.cell h.a3 i,a.cell h.a4 g,h.a5.ext a<|h1 _<|.inr<|.inr<|.inl rfl,h.am.ext a<|h1 _<|.inl rfl,h.bm.ext a<|h1 _<|.inr<|.inl rfl,h.ls.ext a fun b f=>h1 b<|.inr<|.inr<|.inr f,h.d,h.n1,h.n2,h.n3,h.n4,h.n5,h.n6⟩
def rH.lt(h:rH w k c1 c2 c3 c4 c5 ma mb sl l B){b}(a:PW ma mb c5 sl b):b<w.heap.size:=by
 rcases a with rfl|rfl|rfl|a;exact h.am.lt;exact h.bm.lt;exact h.a5.lt;exact h.ls.lt a
def pK.ext{X n}(h:pK w k p c1 c2 c3 c4 c5 ma mb L G S F FP sl l B)(d:ab X w w')(g:∀b,X b->n<=b)(j:∀b,PW ma mb c5 sl b->b<n\/¬X b)(zc:c1.block<n/\c2.block<n/\c3.block<n/\c4.block<n)(e:∀b,F b->b<n)(i:∀b,FP b->b<n):pK w' k p c1 c2 c3 c4 c5 ma mb L G S F FP sl l B:=by
 have a:∀b,b<n->¬X b:=fun b c f=>Oh<|g b f;exact⟨h.ed.ext d Gd (a _ zc.1) (a _ zc.2.1) (a _ zc.2.2.1)<|a _ zc.2.2.2,h.fl.ext d fun b c=>a b<|e b c,h.bl.ext d fun b c=>a b<|i b c,h.dF,h.dP⟩
def pK.pure(h:pK w k p c1 c2 c3 c4 c5 ma mb L G S F FP sl l B)(E:Pure w w'):pK w' k p c1 c2 c3 c4 c5 ma mb L G S F FP sl l B:=
 ⟨h.ed.ext E (fun _ _ h=>h) (fun h=>h) (fun h=>h) (fun h=>h) fun h=>h,h.fl.pure E,h.bl.pure E,h.dF,h.dP⟩
def pK.zc(h:pK w k p c1 c2 c3 c4 c5 ma mb L G S F FP sl l B):c1.block<w.heap.size/\c2.block<w.heap.size/\c3.block<w.heap.size/\c4.block<w.heap.size:=
 ⟨World.block_lt_of_cell? w _ h.ed.a1,World.block_lt_of_cell? w _ h.ed.a2,World.block_lt_of_cell? w _ h.ed.a3,World.block_lt_of_cell? w _ h.ed.a4⟩
def rH.Am(h:rH w k c1 c2 c3 c4 c5 ma mb sl l B)(t:Int):∃w',(Instr.mapUpdate 232 (.map<|some mb) (vi t)<|vb true).run prog w=.ok () w'/\(∃c,(c=B\/c=B++[t])/\rH w' k c1 c2 c3 c4 c5 ma mb sl l c)/\ab (·=mb) w w':=by
 have f:=h.d mb<|.inr<|.inl rfl;have ue:∀{w':World} {c:List Int},fc Hq w' mb (we c)->ab (·=mb) w w'->rH w' k c1 c2 c3 c4 c5 ma mb sl l c:=fun j a =>
  ⟨a.cell h.a1 fun e=>f.1 e.symm,a.cell h.a2 fun e=>f.2.1 e.symm,a.cell h.a3 fun e=>f.2.2.1 e.symm,a.cell h.a4 fun e=>f.2.2.2 e.symm,h.a5.ext a fun e=>h.n3 e.symm,h.am.ext a h.n1,j,h.ls.ext a fun b i e=>h.n5<|e▸i,h.d,h.n1,h.n2,h.n3,h.n4,h.n5,h.n6⟩
 cases g:SE.eu (we B) t with
 |none =>
  have⟨w',h1,h2,h3⟩:=h.bm.put (P:=prog) (T:=232) underlying232 underlying73 g ()
  exact⟨w',h1,⟨_,.inr rfl,ue (by rw[zCF];exact h2) h3⟩,h3⟩
 |some v =>
  cases v
  have⟨w',h1,h2,h3⟩:=h.bm.ib (P:=prog) (T:=232) underlying232 underlying73 g
  exact⟨w',h1,⟨_,.inl rfl,ue h2 h3⟩,h3⟩
def rH.UA(h:rH w k c1 c2 c3 c4 c5 ma mb sl l B)(t:Int):(Instr.lookup 232 (.map<|some mb) (vi t) false).run prog w=.ok (vb<|decide (t∈B)) w:=by
 rcases h.bm.get (P:=prog) (T:=232) underlying232 underlying73 (zeroValue4 _) t false with⟨h1,h2⟩|⟨v,h1,h2⟩;have a:t∉B:=by have:=uV.1 h1;rwa [Lf]at this
 rw[decide_eq_false a];exact h2;have b:t∈B:=by have:=tT h1;rw[<-Lf B];exact mem_map.2 ⟨_,this,rfl⟩
 rw[decide_eq_true b];exact h2
end
structure Hy(w0:World)(k p:Addr)(c1 c2 c3 c4 c5:Addr)(ma mb:Nat)(L:aw)(G:List Int)(S:List gy)(F FP:NP)(sl:Sl)(l:List gl)(t r:Int)(ok:Bool)(w':World)(a:Sl)(M:List gl)(c:List Int):Prop where
 st:pK w' k p c1 c2 c3 c4 c5 ma mb L G S F FP a (l++M) c
 ed:qn L G (fun x=>x∈zH S) (l++M) c
 ax:∀s∈M,ly S s.t<=ly S t/\(ja L t s.t\/s.t∈zH S)
 yk:ok=true->∃i,r=((i:Nat):Int)/\∃hi:i<(l++M).length,(l++M)[i].t=t
 xy:ok=true↔ei L (fun x=>x∈zH S) t
 ext:ab (PW ma mb c5 sl) w0 w'
 ak:∀b,a.aq b->sl.aq b\/w0.heap.size<=b
 jad:ok=true->M=[]\/pz (l++M) (((l++M).length:Int)-1)=t
 dp:∀s∈M,Dp L S t s.t
 cl:∀s∈M,∀y,ni L S s.t y->y∈(l++M).map gl.t
structure pT(w0:World)(H:NP)(w:World)(k p:Addr)(c1 c2 c3 c4 c5:Addr)(ma mb:Nat)(L:aw)(G:List Int)(S:List gy)(F FP:NP)(sl:Sl)(l:List gl)(t:Int)(sl1:Sl)(M B:_):Prop where
 st:pK w k p c1 c2 c3 c4 c5 ma mb L G S F FP sl1 (l++M) B
 ed:qn L G (fun x=>x∈zH S) (l++M) B
 ax:∀s∈M,ly S s.t<ly S t/\(ja L t s.t\/s.t∈zH S)
 ext:ab (PW ma mb c5 sl) w0 w
 ak:∀b,sl1.aq b->sl.aq b\/w0.heap.size<=b
 jd:∀b,sl1.aq b->¬H b
 hs:af w0 H w H w
 dp:∀s∈M,Dp L S t s.t
 cl:∀s∈M,∀y,ni L S s.t y->y∈(l++M).map gl.t
section
variable {w0 w w':World} {H H':NP} {k p c1 c2 c3 c4 c5:Addr} {ma mb:Nat} {L:aw} {G:List Int} {S:List gy} {F FP:NP} {sl sl1 sl2:Sl} {l M M2:List gl} {B0 B B2:List Int} {t:Int}
def PW.old(h:pK w0 k p c1 c2 c3 c4 c5 ma mb L G S F FP sl l B0)(c:∀b,sl1.aq b->sl.aq b\/w0.heap.size<=b):∀b,PW ma mb c5 sl1 b->b<w0.heap.size->PW ma mb c5 sl b:=by
 rintro b (a|a|a|a) d;exact .inl a;exact .inr<|.inl a;exact .inr<|.inr<|.inl a;exact(c b a).elim (fun h=>.inr<|.inr<|.inr h) fun h=>Om
def pT.nh(h:pT w0 H w k p c1 c2 c3 c4 c5 ma mb L G S F FP sl l t sl1 M B)(a:pK w0 k p c1 c2 c3 c4 c5 ma mb L G S F FP sl l B0):∀b,PW ma mb c5 sl1 b->¬H b:=by
 have old:∀b,b<w0.heap.size->¬H b:=fun b c hh=>Oh<|h.hs.old b hh;rintro b (rfl|rfl|rfl|c);exact old _<|a.ed.lt<|.inl rfl;exact old _<|a.ed.lt<|.inr<|.inl rfl;exact old _<|a.ed.lt<|.inr<|.inr<|.inl rfl;exact h.jd b c
def pT.au(h:pT w0 H w k p c1 c2 c3 c4 c5 ma mb L G S F FP sl l t sl1 M B)(c:pK w0 k p c1 c2 c3 c4 c5 ma mb L G S F FP sl l B0)(hs:af w0 H w H' w'):pT w0 H' w' k p c1 c2 c3 c4 c5 ma mb L G S F FP sl l t sl1 M B:=by
 have d:=hs.ji (G:=PW ma mb c5 sl1) fun b a=>⟨h.st.ed.lt a,h.nh c b a⟩;exact⟨h.st.ext hs.ext hs.old (fun b a=>.inr<|d b a) c.zc (fun b a=>c.fl.lt a) fun b a=>c.bl.lt a,h.ed,h.ax,h.ext.au hs,h.ak,fun b a=>d b<|.inr<|.inr<|.inr a,hs.fm,h.dp,h.cl⟩
def pT.step{u r ok}(h:pT w0 H w k p c1 c2 c3 c4 c5 ma mb L G S F FP sl l t sl1 M B)(f:pK w0 k p c1 c2 c3 c4 c5 ma mb L G S F FP sl l B0)(hr:Hy w k p c1 c2 c3 c4 c5 ma mb L G S F FP sl1 (l++M) u r ok w' sl2 M2 B2)(n:ly S u<ly S t)(c:ja L t u\/u∈zH S)(e:∀x,u∈zH S->ly S x<=ly S u->x∈zH S)(d:ni L S t u):
  aj H w w'/\pT w0 H w' k p c1 c2 c3 c4 c5 ma mb L G S F FP sl l t sl2 (M++M2) B2:=by
 have j:aj H w w':=hr.ext.bk fun b a m=>h.nh f b m a
 refine⟨j,by rw[<-append_assoc];exact hr.st,by rw[<-append_assoc];exact hr.ed,fun s hs=>?_,h.ext.cg hr.ext fun i hi a=>PW.old f h.ak i a hi,fun b a=>?_,fun b a hh=>?_,h.hs.ib j,fun s hs=>?_,fun s hs y g=>?_⟩
 rcases mem_append.1 hs with hs|hs
 exact h.ax s hs
 have⟨q1,q2⟩:=hr.ax s hs
 refine⟨Om,?_⟩
 rcases q2 with q2|q2
 rcases c with h1|h1
 exact .inl<|h1.trans q2
 exact .inr<|e _ h1 q1
 exact .inr q2
 rcases hr.ak b a with h1|h1
 exact h.ak b h1
 right;have:=h.ext.size;omega
 rcases hr.ak b a with h1|h1
 exact h.jd b h1 hh
 have:=h.hs.lt b hh;omega
 rcases mem_append.1 hs with hs|hs
 exact h.dp s hs
 exact .step d<|hr.dp s hs
 rw[<-append_assoc]
 rcases mem_append.1 hs with hs|hs
 rw[map_append];exact mem_append_left _<|h.cl s hs y g
 exact hr.cl s hs y g
end
def jPC{S u x}(b:u∈zH S)(h:ly S x<=ly S u):x∈zH S:=by
 refine Classical.byContradiction fun a=>?_;have:=Il b;rw[Ds a]at h;omega
end Go.Proofs
end
