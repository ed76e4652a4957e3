import Derived.Test.YtjjcakjoeiolgaaGreatPa5
import Derived.Test.YtjjcakjoeiolgaaGreatPa4
import Derived.Test.YtjjcakjoeiolgaaGreatPa3
import Derived.Test.YtjjcakjoeiolgaaGreatProg
import Derived.KernelRfl
set_option linter.defProp false
section
open Go Go.SE
namespace Go.Proofs
open Tryz
attribute [local irreducible] Calls
def HD{P t ty e sz bytes}(T:j1 P t e sz bytes){w p c Tp}(hB:ai w p c Tp){s rs}(l:bf w e sz s rs)(j:¬ s.ao p.block){a r}(hr:Row w a r)(k:r.length=sz)(h1:r.all vG=true)(m:(rs.length+1)*bytes<=140737488355328)(hm:rs.length+1<=maxLen):
  ∃s' w',(Builtin.append_ #[t,t] ty #[s.v,(Sl.mk (some a) 1 1).v]).run P w=.ok s'.v w'/\bf w' e sz s' (rs++[r])/\ai w' p c Tp/\¬s'.ao p.block/\ab s.ao w w'/\(∀b,s'.ao b->s.ao b\/w.heap.size<=b):=by
 have⟨s',w',f,g,i,d⟩:=l.append T (ty:=ty) (c:=1) hr k h1 m hm
 exact⟨s',w',f,g,hB.ext i j,fun h=>(d _ h).elim j fun h=>Oh hB.lt,i,d⟩
def Nf(n):zO n=53\/zO n=0:=by
 unfold zO;simp only;split;exact .inl rfl;exact .inr rfl
def vZ(p n w0){L F}(R:vR w0 p L F)(l:Ok L):cl 60 #[vp<|some p,ly n] w0
  (XH fun r1 r2 w'=>(r1,r2)=((ax L n).1,(ax L n).2.1)/\∃F',vR w' p (ax L n).2.2 F'/\ab F w0 w'/\∀b,F' b->F b\/w0.heap.size<=b):=by
 have⟨k,f,t,u,x,a,b⟩:=n
 generalize hn:(⟨k,f,t,u,x,a,b⟩:df)=n
 have hnk:ly n=.agg #[vi k,vi f,vi t,vu u,vs x,vi a,vi b]:=by rw[<-hn];rfl
 rw[hnk]
 suffices key:∀K:Int->Int->WP,(∀r1 r2 w',((r1,r2)=((ax L n).1,(ax L n).2.1)/\∃F',vR w' p (ax L n).2.2 F'/\ab F w0 w'/\∀b,F' b->F b\/w0.heap.size<=b)->K r1 r2 w')->Hh (some p) k f t u x a b w0 K from
  w_V _ _ _ _ _ _ _ _ w0 _<|key _ fun _ _ _ h=>h
 intro K hK
 have hsh:=KS n
 have hkd:=qT k
 rw[<-hn]at hsh
 simp only at hsh
 rw[hn]at hsh
 have hna:n.a=a:=by rw[<-hn]
 have hnb:n.b=b:=by rw[<-hn]
 have Q:n.kind=k:=by rw[<-hn]
 have hk:=qV k
 have jNJ:∀(r1 r2:Int) (w':World),Pure w0 w'->ax L n=(r1,r2,L)->K r1 r2 w':=fun r1 r2 w' E h=>hK _ _ _ ⟨by rw[h],F,by rw[h];exact R.pure E,E.pure,fun b h=>.inl h⟩
 have bad:∀(er:Int) (w':World),er≠0->Pure w0 w'->eh L n=(0,0,er)->K 0 er w':=fun er w' h0 E h=>jNJ 0 er w' E (by unfold ax;simp[h,h0])
 unfold Hh
 rw[hsh,hkd]
 have good:rh n=0->eh L n=(if(zB n).any (fun t=>!al L t)then(0,0,51)else if 1+((zB n).map<|sizeOf L).sum>4096\/(zB n).foldl (fun d t=>max d<|cz L t) 0+1>64 then(0,0,52)else(1+((zB n).map<|sizeOf L).sum,(zB n).foldl (fun d t=>max d<|cz L t) 0+1,0)):=by
  intro h;unfold rh at h;unfold eh;split at h
  .cases h
  .grind
 refine⟨fun h=>?_,fun h=>?_⟩
 .intro H1 w2 hs2
  have h:rh n≠0:=by simpa using h
  refine bad _ _ h hs2.first ?_
  unfold rh at h|-
  unfold eh
  by_cases h1:zO n≠0
  .rw[if_pos h1,if_pos h1]
   have:zO n=53:=(Nf n).resolve_right h1
   rw[this]
  .grind
 have h0:rh n=0:=by simpa using h
 have j:=good h0
 have g:((bk k).kids<1->a=0)/\((bk k).kids<2->b=0):=by
  unfold rh at h0;split at h0
  .cases h0
  .grind
 have hz0:al L 0=false:=by simp[al]
 have hs0:sizeOf L 0=0:=by simp[sizeOf,get,hz0]
 have hd0:cz L 0=0:=by simp[cz,get,hz0]
 have hsa:=l.sizeOf a
 have hsb:=l.sizeOf b
 have hda:=l.cz a
 have hdb:=l.cz b
 have hany:(zB n).any (fun t=>!al L t)=((decide (1<=(bk k).kids)&&!al L a) ||(decide ((bk k).kids=2)&&!al L b)):=by
  unfold zB;rw[Q,hna,hnb];rcases hk with h|h|h<;>rw[h]<;>simp
 have hsum:((zB n).map<|sizeOf L).sum=sizeOf L a+sizeOf L b:=by
  unfold zB;rw[Q,hna,hnb];rcases hk with h|h|h<;>rw[h]<;>simp
  .rw[g.1 Om,g.2 Om,hs0];rfl
  .rw[g.2 Om,hs0];omega
 have hmax:(zB n).foldl (fun d t=>max d<|cz L t) 0=max (cz L a) (cz L b):=by
  unfold zB;rw[Q,hna,hnb];rcases hk with h|h|h<;>rw[h]<;>simp
  .rw[g.1 Om,g.2 Om,hd0];omega
  .rw[g.2 Om,hd0];omega
  .omega
 rw[hany,hsum,hmax]at j
 have J1:∀(x1:Bool) (H:NP) (w:World),af w0 H w H w->Pure w0 w->x1=((decide (1<=(bk k).kids)&&!al L a) ||(decide ((bk k).kids=2)&&!al L b))->BX (some p) k f t u x a b x1 w0 H w K:=by
  intro x1 H w hs E hx;rw[<-hx]at j;refine⟨fun h=>bad 51 w Om E (by rw[j,h];rfl),fun h=>?_⟩;rw[h,if_neg Sm]at j;refine⟨fun _=>True,trivial,?_⟩;rintro _ rfl;have Ed:Pure w0 w.drew:=E.trans<|ab.drew w;refine(Md p a w.drew (R.pure Ed) l).mono ?_;rintro _ _ ⟨_,rfl,rfl,rfl⟩;refine⟨_,rfl,trivial,aj.refl _,?_⟩;refine(Md p b w.drew (R.pure Ed) l).mono ?_;rintro _ _ ⟨_,rfl,rfl,rfl⟩;refine⟨_,rfl,trivial,aj.refl _,fun _=>True,trivial,?_⟩;rintro _ rfl;have Ed2:Pure w0 w.drew.drew:=Ed.trans<|ab.drew w.drew;refine(Od p a w.drew.drew (R.pure Ed2) l).mono ?_;rintro _ _ ⟨_,rfl,rfl,rfl⟩;refine⟨_,rfl,trivial,aj.refl _,?_⟩;refine(Od p b w.drew.drew (R.pure Ed2) l).mono ?_;rintro _ _ ⟨_,rfl,rfl,rfl⟩;refine⟨_,rfl,trivial,aj.refl _,_,fun w' _=>run_max_int2 _ _ _ _ _ _ _,?_⟩;have hmx:(if cz L b>cz L a then cz L b else cz L a)=max (cz L a) (cz L b):=by
   split<;>omega
  generalize hz:(if cz L b>cz L a then cz L b else cz L a)=z at *;have hz64:0<=z/\z<=64:=by rw[hmx];omega
  have e1:IntKind.i64.wrap (IntKind.i64.wrap (1+sizeOf L a)+sizeOf L b)=1+(sizeOf L a+sizeOf L b):=by
   rw[i64 (n:=1+sizeOf L a) Om Om,i64 Om Om];omega
  have e2:IntKind.i64.wrap (1+z)=z+1:=by rw[i64 Om Om];omega
  rw[e1,e2];rw[<-hmx]at j;rintro y1 rfl;have hsx:af w0 H w.drew.drew H w.drew.drew:=(hs.drew.fi.drew).fi;refine⟨fun h=>?_,fun h=>?_⟩
  .intro H2 w10 s;refine bad 52 w10 Om (Ed2.aq s) ?_;rw[j,if_pos<|by simpa using h]
  .intro H2 w10 s;have hck:eh L n=(1+(sizeOf L a+sizeOf L b),z+1,0):=by rw[j,if_neg (by simp at h;omega)]
   have E10:=Ed2.aq s;rw[<-hnk];refine(jTJ p n w10 (R.pure E10) l).mono ?_;rintro _ A ⟨r,ok,rfl,T,E11⟩;refine⟨_,_,rfl,E11.bo,?_⟩;have E11':=E10.trans E11;have hs11:af w0 H2 A H2 A:=s.gi E11.bo;cases hf:find L n with
   |some i =>
    rw[hf]at T
    obtain⟨rfl,rfl⟩:=T
    exact Br.t rfl (jNJ _ _ _ E11' (by unfold ax;simp[hck,hf]))
   |none =>
    rw[hf]at T
    obtain⟨rfl,rfl⟩:=T
    refine Br.f rfl ?_
    have⟨s1,s2,s3,hS,hF⟩:=R.pure E11'
    have hlen:s1.len=L.length:=by rw[hS.r1.len];simp
    refine⟨p,rfl,s1,hS.box.bd,fun h=>?_,fun h=>?_⟩
    .have h2:65536<=L.length:=by have h:=of_decide_eq_true h;omega
     exact jNJ _ _ _ E11' (by unfold ax;simp[hck,hf,h2])
    .have h2:¬65536<=L.length:=by have h:=of_decide_eq_false h;omega
     have hmk:ax L n=((L.length:Int)+1,0,L++[⟨n,1+(sizeOf L a+sizeOf L b),z+1⟩]):=by unfold ax;simp[hck,hf,h2]
     have y:∀b,F b->¬H2 b:=fun b c h2=>Oi (R.lt c)<|hs11.old b h2
     have U:F p.block:=(hF _).2<|.inl rfl
     refine⟨fun w'=>w'.cell? p=some s1.v,hS.box.bd,?_⟩
     rintro _ rfl
     have E12:Pure A A.drew:=ab.drew A
     refine⟨p,rfl,s1,fun w' h'=>h',?_⟩
     intro p3 w13 h13
     have q:Pure A w13:=E12.trans<|ab.aw h13
     have B13:=hS.box.pure q
     refine⟨B13.bd,?_⟩
     have⟨C,w14,hr14,R14,B14,Y,M,nb1⟩:=HD (P:=prog) (ty:=41) PY B13 (hS.r1.pure q) hS.n1 (a:=p3) (r:=tK n) (by rw[<-hn];exact(ai.bh h13).row) rfl rfl So (by simp[maxLen];omega)
     refine⟨C,w14,hr14,B14.bd,M.bl fun b c h=>y b ((hF b).2<|.inr<|.inl h) c,p,rfl,B14.ia Sm,y _ U,?_⟩
     rintro w15 J
     have B15:ai w15 p [C.v,s2.v,s3.v] 44:=by rw[J];exact B14.jb
     have O:ab (·=p.block) w14 w15:=by rw[J];exact ab.setCell p _
     clear J
     have R15:=R14.ext O fun b c e=>Y<|e▸c
     have R2:=((hS.r2.pure q).ext M fun b h2 h1=>hS.EW b h1 h2).ext O fun b c e=>hS.n2<|e▸c
     have R3:=((hS.r3.pure q).ext M fun b h2 h1=>hS.EX b h1 h2).ext O fun b c e=>hS.n3<|e▸c
     have d12':∀b,C.ao b->¬s2.ao b:=fun b c h2=>(nb1 b c).elim (fun h=>hS.EW b h h2) fun h=>Oi (hS.r2.lt h2) q.size
     have d13':∀b,C.ao b->¬s3.ao b:=fun b c h2=>(nb1 b c).elim (fun h=>hS.EX b h h2) fun h=>Oi (hS.r3.lt h2) q.size
     refine⟨p,rfl,s2,B15.cell rfl,?_⟩
     intro p4 w16 h16
     have m:Pure w15 w16:=ab.aw h16
     have B16:=B15.pure m
     have⟨X,Z,hr17,R17,B17,np2,N,nb2⟩:=HD (P:=prog) (ty:=42) yc B16 (R2.pure m) hS.n2 (a:=p4) (r:=[vi<|1+(sizeOf L a+sizeOf L b)]) (ai.bh h16).row rfl rfl So (by simp[maxLen];omega)
     refine⟨X,Z,hr17,N.bl Gd,p,rfl,B17.ee Sm,by rw[zC];exact y _ U,?_⟩
     rintro S I
     have B18:ai S p [C.v,X.v,s3.v] 44:=by rw[I];exact B17.set 1 _
     have G:ab (·=p.block) Z S:=by rw[I];have:=ab.setCell (w:=Z) (p.add 1) X.v;rw[zC]at this;exact this
     clear I
     have Q1:=((R15.pure m).ext N fun b h1 h2=>d12' b h1 h2).ext G fun b c e=>Y<|e▸c
     have Q2:=R17.ext G fun b c e=>np2<|e▸c
     have Q3:=((R3.pure m).ext N fun b h3 h2=>hS.Ew b h2 h3).ext G fun b c e=>hS.n3<|e▸c
     have d12'':∀b,C.ao b->¬X.ao b:=fun b c h2=>(nb2 b h2).elim (fun h=>d12' b c h) fun h=>Oh<|(R15.pure m).lt c
     have d23':∀b,X.ao b->¬s3.ao b:=fun b c h2=>(nb2 b c).elim (fun h=>hS.Ew b h h2) fun h=>Oh<|(R3.pure m).lt h2
     refine⟨p,rfl,s3,B18.cell rfl,?_⟩
     intro p5 w19 h19
     have o:Pure S w19:=ab.aw h19
     have B19:=B18.pure o
     have⟨t3,V,hr20,R20,B20,np3,X20,nb3⟩:=HD (P:=prog) (ty:=42) yc B19 (Q3.pure o) hS.n3 (a:=p5) (r:=[vi<|z+1]) (ai.bh h19).row rfl rfl So (by simp[maxLen];omega)
     refine⟨t3,V,hr20,X20.bl Gd,p,rfl,B20.ee Sm,by rw[zC];exact y _ U,?_⟩
     rintro w21 D
     have B21:ai w21 p [C.v,X.v,t3.v] 44:=by rw[D];exact B20.set 2 _
     have W:ab (·=p.block) V w21:=by rw[D];have:=ab.setCell (w:=V) (p.add 2) t3.v;rw[zC]at this;exact this
     clear D
     have d13'':∀b,C.ao b->¬t3.ao b:=fun b c h2=>(nb3 b h2).elim (fun h=>d13' b c h) fun h=>Oh<|(Q1.pure o).lt c
     have d23'':∀b,X.ao b->¬t3.ao b:=fun b c h2=>(nb3 b h2).elim (fun h=>d23' b c h) fun h=>Oh<|(Q2.pure o).lt c
     have Z1:=((Q1.pure o).ext X20 fun b h1 h2=>d13' b h1 h2).ext W fun b c e=>Y<|e▸c
     have Z2:=((Q2.pure o).ext X20 fun b h1 h2=>d23' b h1 h2).ext W fun b c e=>np2<|e▸c
     have Z3:=R20.ext W fun b c e=>np3<|e▸c
     have hl1:(C.len:Int)=L.length+1:=by rw[R14.len];simp
     refine⟨p,rfl,C,B21.bd,?_⟩
     rw[hl1]
     refine hK _ _ _ ⟨by rw[hmk],fun b=>b=p.block\/C.ao b\/X.ao b\/t3.ao b,?_,?_,?_⟩
     .rw[hmk]
      exact⟨C,X,t3,⟨B21,by simpa[CX]using Z1,by simpa[Jk]using Z2,by simpa[I7]using Z3,Y,np2,np3,d12'',d13'',d23''⟩,fun _=>Iff.rfl⟩
     .have a1:ab F w0 w14:=(E11'.trans q).pure.cg M fun i _ h=>(hF i).2<|.inr<|.inl h
      have a2:ab F w0 w15:=a1.cg O fun i _ h=>(hF i).2<|.inl h
      have a3:ab F w0 Z:=(a2.fb m).cg N fun i _ h=>(hF i).2<|.inr<|.inr<|.inl h
      have a4:ab F w0 S:=a3.cg G fun i _ h=>(hF i).2<|.inl h
      have a5:ab F w0 V:=(a4.fb o).cg X20 fun i _ h=>(hF i).2<|.inr<|.inr<|.inr h
      exact a5.cg W fun i _ h=>(hF i).2<|.inl h
     .have z13:w0.heap.size<=w13.heap.size:=(E11'.trans q).size
      have z16:w0.heap.size<=w16.heap.size:=by have:=M.size;have:=O.size;have:=m.size;omega
      have z19:w0.heap.size<=w19.heap.size:=by have:=N.size;have:=G.size;have:=o.size;omega
      rintro b (rfl|c|c|c)
      .exact .inl U
      .grind
      .grind
      .grind
 have J2:∀(x2:Bool) (H:NP) (w:World),af w0 H w H w->Pure w0 w->x2=(decide (1<=(bk k).kids)&&!al L a)->Cv (some p) k f t u x a b x2 w0 H w K:=by
  intro x2 H w hs E hx;unfold Cv;rw[hkd];refine⟨fun h=>J1 true H w hs E (by rw[<-hx,h];rfl),fun h=>⟨fun h2=>?_,fun h2=>J1 false H w hs E ?_⟩⟩
  .refine(uO p b w<|R.pure E).mono ?_;rintro _ _ ⟨_,rfl,rfl,rfl⟩;refine⟨_,rfl,aj.refl _,J1 _ H _ hs E ?_⟩;have h2:(bk k).kids=2:=by simpa using h2
   rw[<-hx,h];simp[h2]
  .grind
 refine⟨fun h=>?_,fun h=>?_⟩
 .intro H1 w3 B
  refine(uO p a w3<|R.pure B.first).mono ?_
  rintro _ _ ⟨_,rfl,rfl,rfl⟩
  refine⟨_,rfl,aj.refl _,J2 _ H1 _ B.fi B.first ?_⟩
  have:1<=(bk k).kids:=Oh<|of_decide_eq_true h
  simp[this]
 .intro H1 w3 B
  refine J2 _ H1 _ B.fi B.first ?_
  have:¬1<=(bk k).kids:=Oh<|of_decide_eq_false h
  simp[this]
end Go.Proofs
end
section
open Go Go.SE List
namespace Go.Proofs
open Tryz
attribute [local irreducible] Calls
def Ud(k f t u x len):yT ⟨k,f,t,u,x,0,0⟩ len=(if(rh ⟨k,f,t,u,x,0,0⟩≠53/\(len:Int)≠(bk k).kids)then 53 else rh ⟨k,f,t,u,x,0,0⟩):=by
 unfold yT rh;simp only;rcases Nf ⟨k,f,t,u,x,0,0⟩with h|h;rw[h];simp;grind
def VJ{S}(q)(hq:¬ S q.block)(T t):∀(s:Sl) (c seen:Int) (m:World),0<=c->0<=seen->cr S m s t->(∀b,S b->b<m.heap.size)->ai m q [vi seen] T ->
  cl 210 #[.agg (tE t s).toArray,vi c,vp<|some q] m
   (XB fun r w'=>r=(qM c seen t).1/\ai w' q [vi (qM c seen t).2] T/\ab (·=q.block) m w'):=by
 induction t using bt.ind with
 |h k f t u x ks ih =>
 intro s c seen m hi0 hn0 U y hB
 suffices key:∀K:Int->WP,(∀r w',(r=(qM c seen<|.mk k f t u x ks).1/\ai w' q [vi (qM c seen<|.mk k f t u x ks).2] T/\ab (·=q.block) m w')->K r w')->N6 k f t u x s c (some q) m K from
  U7 _ _ _ _ _ _ _ _ m _<|key _ fun _ _ h=>h
 intro K V
 have hql:=hB.lt
 refine⟨q,rfl,?_⟩
 intro H1 w1 O
 have hB1:=hB.pure O.first
 refine⟨seen,hB1.bd,?_⟩
 intro H5 w13 Q
 have z:=O.first.aq Q
 have l:=hB.pure z
 have v:∀{H w' H' w''},af m H w' H' w''->¬H' q.block:=fun h hh=>Oh<|h.old _ hh
 refine⟨fun h=>?_,fun h=>?_⟩
 .have : qM c seen (.mk k f t u x ks) = (52, seen):=by
   rw[qM];simp only[Bool.or_eq_true,decide_eq_true_eq]at h;by_cases h1:4096<=seen
   .rw[if_pos h1]
   .grind
  rw[this]at V;exact V _ _ ⟨rfl,l,z.pure⟩
 .have h1:¬4096<=seen/\¬64<=c:=Gd
  have X:qM c seen (.mk k f t u x ks)=vK (c+1) (yT ⟨k,f,t,u,x,0,0⟩ ks.length) (seen+1) ks:=by rw[qM,if_neg h1.1,if_neg h1.2]
  rw[X]at V
  have w:s.len=ks.length:=by cases U;assumption
  have hfit:ks.length<=9223372036854775807:=by cases U;assumption
  refine⟨q,rfl,seen,l.bd,q,rfl,l.ia Sm,v Q,?_⟩
  rw[i64 (n:=seen+1) Om Om]
  rintro w2 A
  have Z:ai w2 q [vi<|seen+1] T:=by rw[A];exact l.jb
  have E2:ab (·=q.block) m w2:=by rw[A];exact z.pure.trans<|ab.setCell q _
  clear A
  rintro y1 rfl
  have F:=KS ⟨k,f,t,u,x,0,0⟩
  simp only at F
  rw[F,qT,w]
  have P:cond ((rh ⟨k,f,t,u,x,0,0⟩ !=53)&&((ks.length:Int) !=(bk k).kids)) 53 (rh ⟨k,f,t,u,x,0,0⟩)=yT ⟨k,f,t,u,x,0,0⟩ ks.length:=by
   rw[Ud];by_cases h2:rh ⟨k,f,t,u,x,0,0⟩=53
   .simp[h2]
   .grind
  rw[P]
  intro H3 Y D
  have E10:ab (·=q.block) m Y:=E2.aq D
  have I:=Z.ext D.ext<|v D
  refine⟨fun e i H w'=>∃j:Nat,i=j/\j<=ks.length/\∃n:Int,0<=n/\ab (·=q.block) m w'/\ai w' q [vi n] T/\vK (c+1) e n (ks.drop j)=vK (c+1) (yT ⟨k,f,t,u,x,0,0⟩ ks.length) (seen+1) ks,fun _ i _=>((ks.length:Int)-i).toNat,⟨0,rfl,Nat.zero_le _,seen+1,Om,E10,I,rfl⟩,?_⟩
  rintro e1 _ Hl wl hl ⟨j,rfl,hj,n,hn,El,G,o⟩
  unfold ON
  have W:=U.ext El fun b C e=>hq<|e▸C
  refine⟨fun hc=>?_,fun hc=>?_⟩
  .simp only[Bool.and_eq_true,beq_iff_eq]at hc
   have⟨he,g⟩:=hc
   have g:=vW w g
   subst he
   cases W with
   |mk _ _ _ _ _ _ _ rs len fit row fl =>
   have⟨a,hat,ha,hr⟩:=row j g
   refine⟨a,hat,?_⟩
   intro H4 p d
   have B:=El.aq d
   have hT11:=U.ext B fun b C e=>hq<|e▸C
   have J:Row p a (tE ks[j]<|rs j):=d.ext.row hr fun hh=>Oi (d.old _ hh)<|y _ ha
   have E:cr S p (rs j) ks[j]:=(fl j g).ext d.ext fun b C hh=>Oi (d.old _ hh)<|y _ C
   have R:=G.ext d.ext<|v d
   refine⟨_,_,_,_,_,rs j,J,?_⟩
   rw[i64 (n:=c+1) Om Om]
   refine(ih j g (rs j) (c+1) n p Om hn E (fun b C=>Oi (y b C) B.size) R).mono ?_
   rintro _ w12 ⟨r,rfl,rfl,N,M⟩
   refine⟨_,rfl,M.bl Gd,?_⟩
   rw[zN g Om]
   refine⟨⟨j+1,rfl,g,_,Kl ks[j] (c+1) n hn,B.trans M,N,?_⟩,yY g⟩
   rw[<-o];exact(OZ g (c+1) n).symm
  .intro H4 p d
   have L:vK (c+1) e1 n (ks.drop j)=(e1,n):=by
    by_cases he:e1=0
    .have hge:j=ks.length:=Gd;rw[hge,drop_length];rfl
    .exact L9 he _ _
   rw[L]at o
   refine V _ _ ⟨by rw[<-o],?_,El.aq d⟩
   rw[<-o];exact G.ext d.ext<|v d
def Yk{S}(t s w0)(m:cr S w0 s t)(g:∀b,S b->b<w0.heap.size):
  cl 152 #[.agg (tE t s).toArray] w0<|XB fun r w'=>r=(qM 0 0 t).1/\Pure w0 w':=by
 have⟨k,f,to,u,x,ks⟩:=t
 refine TZ _ _ _ _ _ _ w0 _ ?_
 intro n v a p q h2
 have b2:=ai.bh h2
 have o:Pure w0 q:=a.first.trans (ab.aw h2)
 have o2:=au.ak a.first h2
 have d:¬n p.block:=fun hh=>Oi (a.lt _ hh) h2.cu
 refine⟨b2.ia Sm,d,?_⟩
 rintro i c
 have b3:ai i p [vi 0] 3:=by rw[c];exact b2.jb
 have h:Pure w0 i:=by rw[c];exact o.ak o2<|ab.setCell p _
 clear c
 refine(VJ p Gd _ _ s 0 0 i (Int.le_refl _) (Int.le_refl _) (m.pure h) (fun b j=>Oi (g b j) h.size) b3).mono ?_
 rintro _ w ⟨r,rfl,rfl,_,l⟩
 exact⟨_,rfl,l.bl fun b j e=>d<|e▸j,rfl,h.ak o2 l⟩
def Lv(p n w0){L F}(M:vR w0 p L F)(x:n<=L.length):
  cl 154 #[vp<|some p,vi n] w0<|fun e w'=>e=.returned (.tuple #[])/\vR w' p (L.take n) F/\ab F w0 w':=by
 suffices key:∀K:WP,(∀w',vR w' p (L.take n) F/\ab F w0 w'->K w')->Jq (some p) n w0 K from
  Vu _ _ w0 _<|key _ fun _ h=>h
 intro K O
 unfold Jq
 have⟨s1,H,B,hS,Q⟩:=M
 have⟨m,C,N,d⟩:=bf.hi (P:=prog) PY hS.r1 (k:=.i64) (n:=n) Om (by simpa using x)
 refine⟨p,rfl,s1,hS.box.bd,m,C,p,rfl,hS.box.ia Sm,?_⟩
 rintro q i
 have z:ai q p [m.v,H.v,B.v] 44:=by rw[i];exact hS.box.jb
 have D:ab (·=p.block) w0 q:=by rw[i];exact ab.setCell p _
 clear i
 have⟨l,t,J,c⟩:=bf.hi (P:=prog) yc (hS.r2.ext D fun b f e=>hS.n2<|e▸f) (k:=.i64) (n:=n) Om (by simpa using x)
 refine⟨p,rfl,H,z.cell rfl,l,t,p,rfl,z.ee Sm,?_⟩
 rintro o g
 have y:ai o p [m.v,l.v,B.v] 44:=by rw[g];exact z.set 1 _
 have s:ab (·=p.block) q o:=by rw[g];have:=ab.setCell (w:=q) (p.add 1) l.v;rw[zC]at this;exact this
 clear g
 have⟨r,A,R,a⟩:=bf.hi (P:=prog) yc (hS.r3.ext (D.trans s) fun b f e=>hS.n3<|e▸f) (k:=.i64) (n:=n) Om (by simpa using x)
 refine⟨p,rfl,B,y.cell rfl,r,A,p,rfl,y.ee Sm,?_⟩
 rintro G j
 have I:ai G p [m.v,l.v,r.v] 44:=by rw[j];exact y.set 2 _
 have u:ab (·=p.block) o G:=by rw[j];have:=ab.setCell (w:=o) (p.add 2) r.v;rw[zC]at this;exact this
 clear j
 have E:=(D.trans s).trans u
 refine O _ ⟨⟨m,l,r,⟨I,?_,?_,?_,fun h=>hS.n1<|(d _).1 h,fun h=>hS.n2<|(c _).1 h,fun h=>hS.n3<|(a _).1 h,fun b h1 h2=>hS.EW b ((d b).1 h1)<|(c b).1 h2,fun b h1 h2=>hS.EX b ((d b).1 h1)<|(a b).1 h2,fun b h1 h2=>hS.Ew b ((c b).1 h1)<|(a b).1 h2⟩,fun b=>by rw[Q b,d b,c b,a b]⟩,E.mono Gd⟩
 have:=N.ext E fun b f e=>hS.n1<|(d _).1<|e▸f
 rw[map_take];simpa using this
 have:=J.ext (s.trans u) fun b f e=>hS.n2<|(c _).1<|e▸f
 rw[map_take];simpa using this
 have:=R.ext u fun b f e=>hS.n3<|(a _).1<|e▸f
 rw[map_take];simpa using this
def jQS{S}(p t):∀(s:Sl) (d:World) (L:av) (F:NP),bt.ux t->cr S d s t->vR d p L F->Ok L->(∀b,F b->¬ S b)->(∀b,S b->b<d.heap.size) ->
  cl 153 #[vp<|some p,.agg (tE t s).toArray] d
   (XH fun r1 r2 w'=>(r1,r2)=((grow L t).1,(grow L t).2.1)/\∃F',vR w' p (grow L t).2.2 F'/\ab F d w'/\∀b,F' b->F b\/d.heap.size<=b):=by
 induction t using bt.ind with
 |h k f t u x ks ih =>
 intro s d L F h2 hT hP Q hFS hSw
 suffices key:∀K:Int->Int->WP,(∀r1 r2 w',((r1,r2)=((grow L<|.mk k f t u x ks).1,(grow L<|.mk k f t u x ks).2.1)/\∃F',vR w' p (grow L<|.mk k f t u x ks).2.2 F'/\ab F d w'/\∀b,F' b->F b\/d.heap.size<=b)->K r1 r2 w')->QC (some p) k f t u x s d K from
  ZL _ _ _ _ _ _ _ d _<|key _ fun _ _ _ h=>h
 intro K Z
 have⟨hk2,J⟩:=GY.1 h2
 have V:grow L (.mk k f t u x ks)=zZ ⟨k,f,t,u,x,0,0⟩ 0 L ks:=by rw[grow]
 rw[V]at Z
 have q:s.len=ks.length:=by cases hT;assumption
 intro H2 w4 v
 refine⟨fun i a1 a2 a3 a4 a5 Y R H w'=>∃j:Nat,i=j/\j<=ks.length/\∃(l:av) (F':NP),zZ ⟨k,f,t,u,x,0,0⟩ 0 L ks=zZ ⟨a1,a2,a3,a4,a5,Y,R⟩ j l (ks.drop j)/\Ok l/\vR w' p l F'/\(∀b,F' b->F b\/d.heap.size<=b)/\(∀b,F' b->¬H b)/\ab F d w',fun i _ _ _ _ _ _ _ _=>((ks.length:Int)-i).toNat,
  ⟨0,rfl,Nat.zero_le _,L,F,Sm,Q,hP.pure v.first,fun b h=>.inl h,v.Kd fun b m=>hP.lt m,v.first.pure⟩,?_⟩
 rintro _ a1 a2 a3 a4 a5 Y R Hl wl hl ⟨j,rfl,hj,l,F',e,g,I,y,X,M⟩
 refine⟨fun h=>?_,fun h=>?_⟩
 .have c:=vW q h
  have P:cr S wl s (.mk k f t u x ks):=hT.ext M fun b hs hf=>hFS b hf hs
  have E:∃a r,At s j 6 a/\Row wl a (tE ks[j] r)/\cr S wl r ks[j]:=by
   cases P with
   |mk _ _ _ _ _ _ _ rs len fit row fl=>exact let ⟨a,h1,_,h3⟩:=row j c;⟨a,rs j,h1,h3,fl j c⟩
  have⟨a,r,hat,D,O⟩:=E
  refine⟨a,hat,_,_,_,_,_,r,D,?_⟩
  have hsz:d.heap.size<=wl.heap.size:=M.size
  refine(ih j c r wl l F' (Jw J c) O I g Gd Gd).mono ?_
  rintro _ w8 ⟨r1,r2,rfl,hr,G,w,E8,N⟩
  have e1:r1=(grow l ks[j]).1:=congrArg Prod.fst hr
  have W:r2=(grow l ks[j]).2.1:=congrArg Prod.snd hr
  rw[drop_eq_getElem_cons c]at e
  have o:∀b,G b->F b\/d.heap.size<=b:=fun b m=>(N b m).elim (y b) (fun h=>by right;omega)
  have B:ab F d w8:=M.cg E8 Gd
  refine⟨_,_,rfl,E8.bl fun b A hF=>X b hF A,fun h=>?_,fun h=>?_⟩
  .have h:(grow l ks[j]).2.1≠0:=by rw[<-W];simpa using h
   rw[Lr h]at e
   refine Z _ _ _ ?_
   rw[e];exact⟨by rw[W],G,w,B,o⟩
  .have h:(grow l ks[j]).2.1=0:=by rw[<-W];simpa using h
   rw[Pc h]at e
   intro H3 w9 z
   have hv8:∀b,G b->¬Hl b:=fun b m A=>(N b m).elim (fun h=>X b h A) fun h=>Oh<|hl.lt b A
   have C:∀b,G b->¬H3 b:=z.ja fun b m=>⟨w.lt m,hv8 b m⟩
   rw[zN c Om]
   refine⟨⟨j+1,rfl,c,_,G,?_,(zz ks[j] l g).1,w.ext z.ext C,o,C,B.aq z⟩,yY c⟩
   rw[e,e1]
   have hj0:(((j:Int))==0)=decide (j=0):=by rw[Bool.eq_iff_iff];simp
   rw[hj0]
   by_cases n:j=0
   .subst n;rfl
   .simp[n]
 .have hge:=yJ q hj h
  rw[hge,drop_length,zZ]at e
  refine(vZ p ⟨a1,a2,a3,a4,a5,Y,R⟩ wl I g).mono ?_
  rintro _ w9 ⟨r1,r2,rfl,hr,F9,T,E9,U⟩
  have hsz:d.heap.size<=wl.heap.size:=M.size
  refine⟨_,_,rfl,E9.bl fun b A hF=>X b hF A,Z _ _ _ ?_⟩
  rw[e]
  exact⟨hr,F9,T,M.cg E9 fun i hi h=>(y i h).elim id fun h=>Om,fun b m=>(U b m).elim (y b) fun h=>by right;omega⟩
def V1(t):∀L,(grow L t).2.1≠0->(grow L t).1=0:=by
 induction t using bt.ind with
 |h k f t u x ks c =>
  have b:∀L n,(ax L n).2.1≠0->(ax L n).1=0:=by
   intro L n h;unfold ax at h|-;simp only at h|-;split at h;grind;grind
  have:∀(ks:List bt),(∀i (hi:i<ks.length),∀L,(grow L ks[i]).2.1≠0->(grow L ks[i]).1=0)->∀n i L,(zZ n i L ks).2.1≠0->(zZ n i L ks).1=0:=by
   intro ks;induction ks with
   |nil=>intro _ n i L h;unfold zZ at h|-;exact b L n h
   |cons t ts a =>
    intro hh n i L h
    unfold zZ at h|-
    split at h
    rename_i h1;rw[if_pos h1]
    rename_i h1;rw[if_neg h1];exact a (fun i hi=>hh (i+1)<|by simpa using hi) _ _ _ h
  intro L h
  unfold grow at h|-
  exact this ks c _ _ L h
def ZK{S}(p t s w0){L F}(T:cr S w0 s t)(B:vR w0 p L F)(n:Ok L)(G:∀b,F b->¬ S b)(l:∀b,S b->b<w0.heap.size):
  cl 96 #[vp<|some p,.agg (tE t s).toArray] w0
   (XH fun r1 r2 w'=>(r1,r2)=((of L t).1,(of L t).2.1)/\∃F',vR w' p (of L t).2.2 F'/\ab F w0 w'/\∀b,F' b->F b\/w0.heap.size<=b):=by
 have⟨k,f,to,u,x,ks⟩:=t
 suffices key:∀K:Int->Int->WP,(∀r1 r2 w',((r1,r2)=((of L<|.mk k f to u x ks).1,(of L<|.mk k f to u x ks).2.1)/\∃F',vR w' p (of L<|.mk k f to u x ks).2.2 F'/\ab F w0 w'/\∀b,F' b->F b\/w0.heap.size<=b)->K r1 r2 w')->NX (some p) k f to u x s w0 K from
  jcX _ _ _ _ _ _ _ w0 _<|key _ fun _ _ _ h=>h
 intro K C
 intro U Z g
 have I:=g.first
 generalize ht:bt.mk k f to u x ks=t at *
 have J:(Value.agg #[vi k,vi f,vi to,vu u,vs x,s.v])=.agg (tE t s).toArray:=by rw[<-ht];rfl
 rw[J]
 refine(Yk t s Z (T.pure I) fun b d=>Oi (l b d) I.size).mono ?_
 rintro _ V ⟨r1,rfl,rfl,E⟩
 have a:=I.trans E
 refine⟨_,rfl,E.bo,fun h=>?_,fun h=>?_⟩
 .have h:(qM 0 0 t).1≠0:=by simpa using h
  have:of L t=(0,(qM 0 0 t).1,L):=by rw[of,if_pos h]
  refine C _ _ _ ?_
  rw[this];exact⟨rfl,F,B.pure a,a.pure,fun _ h=>.inl h⟩
 .have h:(qM 0 0 t).1=0:=by simpa using h
  have m:=B.pure a
  have R:∀b,F b->¬U b:=g.Kd fun b d=>B.lt d
  have⟨s1,s2,s3,hS,hF0⟩:=id m
  have A:s1.len=L.length:=by rw[hS.r1.len];simp
  refine⟨p,rfl,s1,hS.box.bd,?_⟩
  refine(jQS p t s V L F (Pu t _ _ h) (T.pure a) m n G fun b d=>Oi (l b d) a.size).mono ?_
  rintro _ O ⟨r1,r2,rfl,hr,w,r,P,q⟩
  have X:r1=(grow L t).1:=congrArg Prod.fst hr
  have y:r2=(grow L t).2.1:=congrArg Prod.snd hr
  have Y:w0.heap.size<=V.heap.size:=a.size
  have o:ab F w0 O:=a.pure.trans P
  have e:∀b,w b->F b\/w0.heap.size<=b:=fun b d=>(q b d).elim .inl fun h=>.inr Om
  have D:=g.gi E.bo
  have z:∀b,w b->¬U b:=fun b d i=>(q b d).elim (fun h=>R b h i) fun h=>Oh<|D.lt b i
  refine⟨_,_,rfl,P.bl fun b i H=>R b H i,fun c=>?_,fun c=>?_⟩
  .have c:(grow L t).2.1≠0:=by rw[<-y];simpa using c
   have⟨Q,M,N⟩:=zz t L n
   rw[A]
   refine(Lv p L.length O r (by rw[N];simp)).mono ?_
   rintro _ w6 ⟨rfl,j,W⟩
   have:of L t=(0,(grow L t).2.1,L):=by rw[of,if_neg<|by simp[h],if_pos c]
   refine⟨rfl,W.bl fun b i H=>z b H i,C _ _ _ ?_⟩
   rw[this]
   rw[N,take_left]at j
   exact⟨by rw[X,y,V1 t L c],w,j,o.cg W Gd,e⟩
  .have c:(grow L t).2.1=0:=by rw[<-y];simpa using c
   have:of L t=((grow L t).1,0,(grow L t).2.2):=by rw[of,if_neg<|by simp[h],if_neg<|by simp[c]]
   refine C _ _ _ ?_
   rw[this]
   exact⟨by rw[X,y,c],w,r,o,e⟩
end Go.Proofs
end
section
namespace Go.Proofs
def Bj{L n i}(h:find L n=some i):∃hi:i<L.length,L[i].node=n:=by
 unfold find at h;rw[List.findIdx?_eq_some_iff_getElem]at h;have⟨hi,h1,_⟩:=h;exact⟨hi,by simpa using h1⟩
def uU{L n}(h:(ax L n).2.1=0):al (ax L n).2.2 (ax L n).1=true/\ad (ax L n).2.2 (ax L n).1=n/\(eh L n).2.2=0:=by
 unfold ax at h|-;simp only at h|-;by_cases a:(eh L n).2.2≠0;grind;rw[if_neg a]at h|-;have a:(eh L n).2.2=0:=by simpa using a
 cases b:find L n with
 |some i =>
  have⟨hi,c⟩:=Bj b
  simp only
  exact⟨zI.2 ⟨Om,Om⟩,by rw[qL hi,c],a⟩
 |none =>
  rw[b]at h
  simp only at h|-
  split at h
  simp at h
  rename_i d
  rw[if_neg d]
  simp only
  have hi:L.length<(L++[(⟨n,(eh L n).1,(eh L n).2.1⟩:sV)]).length:=Sm
  refine⟨zI.2 ⟨Om,Sm⟩,?_,a⟩
  rw[qL hi]
  simp
def yG(L n):∃M,(ax L n).2.2=L++M:=Gt L n
inductive th:bt->Prop
 |mk (k f t u:Int) (x:ByteArray) (ks:List bt) (ak:yT ⟨k,f,t,u,x,0,0⟩ ks.length=0) (kids:∀i (hi:i<ks.length),th ks[i]):th (.mk k f t u x ks)
def TP(t):∀i n:Int,(qM i n t).1=0->th t:=by
 induction t using bt.ind with
 |h k f t u x ks c =>
  have b:∀(ks:List bt),(∀i (hi:i<ks.length),∀j n:Int,(qM j n ks[i]).1=0->th ks[i])->∀i e n:Int,(vK i e n ks).1=0->e=0/\∀i (hi:i<ks.length),th ks[i]:=by
   intro ks;induction ks with
   |nil=>intro _ i e n h;exact⟨by simpa[vK]using h,fun i hi=>by simp at hi⟩
   |cons t ts a =>
    intro hh i e n h
    unfold vK at h
    split at h
    rename_i d
    have:=a (fun i hi=>hh (i+1)<|by simpa using hi) _ _ _ h
    refine⟨d,fun j g=>?_⟩
    cases j with
    |zero=>exact hh 0 Sm i n this.1
    |succ j=>exact this.2 j (by simpa using g)
    grind
  intro i n h
  unfold qM at h
  split at h
  cases h
  split at h
  cases h
  have:=b ks c _ _ _ h
  exact .mk _ _ _ _ _ _ this.1 this.2
def th.pD{k f t u x ks}(h:th (.mk k f t u x ks)):zO ⟨k,f,t,u,x,0,0⟩=0/\(ks.length:Int)=(bk k).kids/\zR (bk k) ⟨k,f,t,u,x,0,0⟩=0/\∀i (hi:i<ks.length),th ks[i]:=by
 cases h with
 |mk _ _ _ _ _ _ ak kids =>
  unfold yT at ak
  simp only at ak
  by_cases a:zO ⟨k,f,t,u,x,0,0⟩=0
  grind
  grind
def Uq(x):∀L,Wf L->th x->(grow L x).2.1=0->al (grow L x).2.2 (grow L x).1=true/\zA (grow L x).2.2 (grow L x).1=x:=by
 induction x using bt.ind with
 |h k f t u x ks r =>
  intro L y N e
  have⟨_,d,_,p⟩:=N.pD
  have g:∀(n:df) (j:av),Wf j->n.kind=k->n.ay=f->n.to=t->n.num=u->n.ba=x->(ax j n).2.1=0->(zB n).map (zA j)=ks->al (ax j n).2.2 (ax j n).1=true/\zA (ax j n).2.2 (ax j n).1=.mk k f t u x ks:=by
   intro n j s Q H K P J hm D;have⟨w,l,I⟩:=uU hm;refine⟨w,?_⟩;rw[zX (uQ s n) w,l,Q,H,K,P,J,<-D];congr 1;refine List.map_congr_left fun q O=>?_;have⟨M,B⟩:=yG j n;have E:=(Qx I).2.2.2.2.1 q O;rw[B];have v:=uQ s n;rw[B]at v;exact uL v _ q rfl E
  rw[grow]at e|-
  match ks,r,d,p,g,e with
  |[],_,d,_,g,e =>
   rw[zZ]at e|-
   have A:(bk k).kids=0:=by simpa using d.symm
   exact g _ L y rfl rfl rfl rfl rfl e (by simp[zB,A])
  |[a],r,d,p,g,e =>
   have A:(bk k).kids=1:=by simpa using d.symm
   rw[zZ]at e|-
   by_cases i:(grow L a).2.1≠0
   grind
   rw[if_neg i]at e|-
   have i:(grow L a).2.1=0:=by simpa using i
   have⟨i1,z⟩:=r 0 Sm L y (p 0 Sm) i
   simp only[List.getElem_cons_zero]at i1 z
   rw[zZ]at e|-
   exact g _ _ (Fi a L y) rfl rfl rfl rfl rfl e (by simp[zB,A,z])
  |[a,b],r,d,p,g,e =>
   have A:(bk k).kids=2:=by simpa using d.symm
   rw[zZ]at e|-
   by_cases i:(grow L a).2.1≠0
   rw[if_pos i]at e;exact absurd e i
   rw[if_neg i]at e|-
   have i:(grow L a).2.1=0:=by simpa using i
   have o:=Fi a L y
   have⟨i1,z⟩:=r 0 Sm L y (p 0 Sm) i
   simp only[List.getElem_cons_zero]at i1 z
   rw[zZ]at e|-
   by_cases C:(grow (grow L a).2.2 b).2.1≠0
   grind
   rw[if_neg C]at e|-
   have C:(grow (grow L a).2.2 b).2.1=0:=by simpa using C
   have m:=Fi b _ o
   have⟨i2,G⟩:=r 1 Sm (grow L a).2.2 o (p 1 Sm) C
   simp only[List.getElem_cons_succ,List.getElem_cons_zero]at i2 G
   have⟨M,B⟩:=(zz b (grow L a).2.2 o.ok).2
   have F:zA (grow (grow L a).2.2 b).2.2 (grow L a).1=a:=by
    rw[B]at m|-;exact(uL m _ _ rfl i1).trans z
   rw[zZ]at e|-
   exact g _ _ m rfl rfl rfl rfl rfl e (by simp[zB,A,F,G])
  |a :: b :: c :: ks,_,d,_,_,_ =>
   have:=qV k
   simp only[List.length_cons]at d
   omega
def QN{L}(b:Wf L){x}(h:(of L x).2.1=0):al (of L x).2.2 (of L x).1=true/\zA (of L x).2.2 (of L x).1=x/\th x:=by
 unfold of at h|-;by_cases h1:(qM 0 0 x).1≠0;grind;rw[if_neg h1]at h|-;have a:=TP x 0 0 (by simpa using h1);by_cases h2:(grow L x).2.1≠0;grind;rw[if_neg h2]at h|-;have:=Uq x L b a (by simpa using h2);exact⟨this.1,this.2,a⟩
def yI{L}(l:Wf L):∀(n:Nat) (s t:Int),s.toNat+t.toNat=n->al L s=true->al L t=true->zA L s=zA L t->s=t:=by
 intro n;induction n using Nat.strongRecOn with
 |_ n G =>
  intro s t I hs ht y
  rw[zX l hs,zX l ht]at y
  injection y with m o r u p g
  obtain⟨i,hi,rfl⟩:=si hs
  obtain⟨j,E,rfl⟩:=si ht
  have e:=(l.node hs)
  have f:=(l.node ht)
  rw[qL hi]at m o r u p g e
  rw[qL E]at m o r u p g f
  generalize w:L[i].node=k at *
  generalize x:L[j].node=q at *
  have c:∀a∈zB k,∀b∈zB q,zA L a=zA L b->a=b:=by
   intro a C b F d;have h1:=e.2.2.2.2.1 a C;have h2:=f.2.2.2.2.1 b F;have J:=zI.1 h1.1;have K:=zI.1 h2.1;exact G (a.toNat+b.toNat) Om a b rfl h1.1 h2.1 d
  have d:k.a=q.a/\k.b=q.b:=by
   have H:=e.2.1;have B:=e.2.2.1;have A:=f.2.1;have z:=f.2.2.1;unfold zB at g c;rw[<-m]at g c A z;rcases qV k.kind with h|h|h<;>rw[h]at g c H B A z;grind;grind;grind
  have D:L[i].node=L[j].node:=by
   rw[w,x];have⟨_,_,_,_,_,_,_⟩:=k;have⟨_,_,_,_,_,_,_⟩:=q;simp at m o r u p d;simp[m,o,r,u,p,d]
  have:=List.pairwise_iff_getElem.1 l.ok.pt
  have v:i=j:=Gd
  rw[v]
end Go.Proofs
end
section
namespace Go.Proofs
mutual
def cnt:bt->Nat
 |.mk _ _ _ _ _ ks=>1+zGE ks
def zGE:List bt->Nat
 |[]=>0
 |t :: ts=>cnt t+zGE ts
end
mutual
def parts (most:Int):bt->Int
 |.mk _ _ _ _ _ ks=>jUT most 1 ks
def jUT (most n:Int):List bt->Int
 |[]=>n
 |t :: ts=>if n<=most then jUT most (n+parts (most-n) t) ts else n
end
mutual
def jNJ:bt->bt->Bool
 |.mk k f t u x ks,.mk k' f' t' u' x' ks'=>decide (k=k')&&decide (f=f')&&decide (t=t')&&decide (u=u')&&decide (x=x')&&jZF ks ks'
def jZF:List bt->List bt->Bool
 |[],[]=>true
 |t :: ts,t' :: ts'=>jNJ t t'&&jZF ts ts'
 |_,_=>false
end
end Go.Proofs
end
section
open Go Go.SE List
namespace Go.Proofs
attribute [local irreducible] Calls
def cr.aq{S w0 w w' H H' s t}(h:cr S w s t)(hs:af w0 H w H' w')(a:∀b,S b->b<w.heap.size/\¬H b):cr S w' s t:=
 h.ext hs.ext fun b c hh=>hs.ja (G:=S) a b c hh
end Go.Proofs
end
section
open Go Go.SE List
namespace Go.Proofs
open Tryz
attribute [local irreducible] Calls
def Le:j1 prog 69 71 6 72:=by
 refine⟨underlying69,⟨t71,_,Kf,(by kernel_rfl:t71.zero=some (.agg #[vi 0,vi 0,vi 0,vu 0,vs ⟨#[]⟩,.slice none 0 0])),Kf,Kf,rfl⟩,Om⟩
def xP(p:bt×Sl):List Value:=tE p.1 p.2
def cr.Oj{S w s e}{c:List (bt×Sl)}{k f t u x}(m:bf w e 6 s (c.map xP))(hS:∀b,s.ao b->S b)(n:∀p∈c,cr S w p.2 p.1)(j:c.length<=9223372036854775807):cr S w s (.mk k f t u x<|c.map Prod.fst):=by
 refine .mk k f t u x _ s (fun i=>(c.getD i (yh,Sl.nil)).2) (by rw[m.len];simp) (by simpa using j) (fun i h=>?_) fun i h=>?_;have d:i<c.length:=by simpa using h
 have⟨a,h1,h2,h3⟩:=m.at (i:=i) Om (by simpa using d);refine⟨a,h1,hS _ h3,?_⟩;have l:(c.map Prod.fst)[i]=c[i].1:=Sm;have g:(c.getD i (yh,Sl.nil)).2=c[i].2:=by simp[getD_eq_getElem?_getD,d]
 rw[l,g];simpa[xP]using h2;have d:i<c.length:=by simpa using h
 have l:(c.map Prod.fst)[i]=c[i].1:=Sm;have g:(c.getD i (yh,Sl.nil)).2=c[i].2:=by simp[getD_eq_getElem?_getD,d]
 rw[l,g];exact n _<|getElem_mem d
def MC(t s):(tE t s).all vG=true:=by simp[tE,vG,Sl.v]
def HZ(p w){L F}(a:zD w p L F):cl 136 #[vp<|some p] w (XB fun r w'=>r=L.length/\w'=w):=by
 refine jbC _ w (fun r w'=>r=L.length/\w'=w) ?_;unfold Oz;have⟨s,m,h,_⟩:=a;refine Br.f rfl ⟨p,rfl,s,h.box.bd,?_,rfl⟩;have:=h.cj.len;rw[this];simp
def jcc(p t w){L F}(W:zD w p L F)(o:Ok L):cl 268 #[vp<|some p,vi t] w (XA fun s w'=>dn (fun b=>w.heap.size<=b/\b<w'.heap.size) w' 1 s (bz<|zB<|ad L t)/\Pure w w'):=by
 refine SH _ _ w (fun s w'=>dn (fun b=>w.heap.size<=b/\b<w'.heap.size) w' 1 s (bz<|zB<|ad L t)/\Pure w w') ?_;refine(tz p t w W o).mono ?_;rintro _ w1 ⟨k,f,t',u,x,a,b,r,rfl,⟨Q,_⟩,O⟩;refine⟨_,_,_,_,_,_,_,_,rfl,?_⟩;intro p2 Z h2;have Y:Pure w Z:=O.trans<|ab.aw h2;have o2:=au.ak O h2;refine bx 7 (ai.bh h2) rfl rfl fun K b2 E=>?_;have I:Pure w K:=Y.ak o2 E;refine⟨k,b2.bd,?_⟩;refine(KD k K).mono ?_;rintro _ w4 ⟨s1,X,s3,S,c,ok,rfl,⟨hs,_⟩,C⟩;refine⟨_,_,_,_,_,_,rfl,?_⟩;have g:=b2.pure C;intro T G m;have J:Pure w4 G:=ab.aw m;have D:=g.pure J;have ne:p2.block≠T.block:=m.ne g.ao;have v:Pure w G:=(I.trans C).trans J;have U:=au.ak (I.trans C) m;refine bx 5 (ai.bh m) rfl rfl fun H b3 E=>?_;have l:=D.ext E ne;have h:Pure w H:=v.ak U E;refine⟨a,l.cell rfl,b,l.cell rfl,?_⟩;intro A M y;have N:Pure H M:=ab.aw y;have b4:=ai.bh y;have e:bk k=⟨s1,X,s3,S,c⟩:=hs.symm;have d:c=0\/c=1\/c=2:=by have:=qV k;rw[e]at this;exact this
 refine⟨c,(b3.pure N).cell rfl,_,KL A c M d,?_,h.trans N⟩;have n:zB (ad L t)=[a,b].take c.toNat:=by rw[<-Q];simp[zB,e]
 rw[n];have z:=y.cu;have z6:=h.size;have zl:=b4.lt;refine⟨by rcases d with rfl|rfl|rfl<;>rfl,fun i hi=>?_⟩;rw[vA]at hi;have R:i<c.toNat:=by simp at hi;omega
 refine⟨A.add<|i*1,⟨Om,by show(i:Int)<(c.toNat:Int);omega,A,rfl,rfl⟩,by rw[zC];omega,?_⟩;intro j V;have P:j<1:=by simp only[bz,getElem_map,length_cons,length_nil]at V;omega
 have B:j=0:=Om;subst B;rw[yL];have q:i=0\/i=1:=Om;rcases q with rfl|rfl;rw[b4.cell (i:=0*1+0) rfl];simp[bz];rw[b4.cell (i:=1*1+0) rfl];simp[bz]
end Go.Proofs
end
section
namespace Go.Proofs
def toNat_ofNat{n:Nat}(h:n<256):(UInt8.ofNat n).toNat=n:=by simp[UInt8.toNat_ofNat];omega
def Yb{i m}(hi:i<=9)(h:m*128^i<18446744073709551616):i=9->m<2:=by
 rintro rfl;omega
def jZK:∀(m i a:Nat) (c:List UInt8),i<=9->m*128^i<18446744073709551616->(0<i->0<m)->xU i a (vF m++c)=.ok (a+m*128^i,i+(vF m).length):=by
 intro m;induction m using Nat.strongRecOn with
 |ind m d =>
  intro i a c hi hm g
  have j:=Yb hi hm
  by_cases h:m<128
  rw[tD h,List.singleton_append,xS,toNat_ofNat Om,if_neg Om,if_pos h,if_neg Om,List.length_singleton]
  rw[AE Om,List.cons_append,xS,toNat_ofNat Om,if_neg Om,if_neg Om]
  have e:m/128*128^(i+1)=m/128*128*128^i:=by rw[Nat.pow_succ,Nat.mul_assoc,Nat.mul_comm 128]
  have le:m/128*128*128^i<=m*128^i:=Nat.mul_le_mul_right _ Om
  rw[d (m/128) Om (i+1) _ c Om Om Om,e,List.length_cons]
  have b:(m%128+128)%128=m%128:=Om
  have f:m*128^i=m%128*128^i+m/128*128*128^i:=by rw[<-Nat.add_mul];congr 1;omega
  rw[b,f]
  congr 2
  omega
  omega
def JI{n}(h:n<18446744073709551616)(c):xU 0 0 (vF n++c)=.ok (n,(vF n).length):=by
 rw[jZK n 0 0 c Om (by simpa using h) Om];simp
def zHL{i y m}(hi:i<=8)(d:y<=127)(a:m*128^(i+1)<18446744073709551616):(y+128*m)*128^i<18446744073709551616:=by
 rw[Nat.pow_succ]at a;obtain⟨q,c⟩:∃q,18446744073709551616=q*(128^i*128):=by
  refine⟨2^(64-7*(i+1)),?_⟩;rw[show 128^i*128=2^(7*(i+1)) by rw[Nat.pow_mul];rfl,<-Nat.pow_add,show 64-7*(i+1)+7*(i+1)=64 by omega]
 have b:0<128^i:=Nat.pow_pos Om;generalize 128^i=P at *;rw[c]at a|-;have hm:m<q:=Nat.lt_of_mul_lt_mul_right a;have h1:(y+128*m)*P<128*(m+1)*P:=Nat.mul_lt_mul_of_pos_right Om b;have h2:128*(m+1)*P<=128*q*P:=Nat.mul_le_mul_right _<|Nat.mul_le_mul_left _ hm;have h3:q*(P*128)=128*q*P:=by rw[Nat.mul_comm P,<-Nat.mul_assoc,Nat.mul_comm q]
 omega
def Zw:∀(l:List UInt8) (i b n k:Nat),i<=9->xU i b l=.ok (n,k)->∃m c,l=vF m++c/\n=b+m*128^i/\k=i+(vF m).length/\(0<i->0<m)/\m*128^i<18446744073709551616:=by
 intro l;induction l with
 |nil=>intro i b n k _ h;simp[xU]at h
 |cons x l p =>
  intro i b n k hi h
  have s:=x.toNat_lt
  have d:UInt8.ofNat x.toNat=x:=Sm
  rw[xS]at h
  split at h
  cases h
  rename_i u
  split at h
  rename_i a
  split at h
  cases h
  rename_i t
  cases h
  refine⟨x.toNat,l,by rw[tD a,d];rfl,rfl,by rw[tD a];rfl,Om,?_⟩
  have:i=0\/i=1\/i=2\/i=3\/i=4\/i=5\/i=6\/i=7\/i=8\/i=9:=Om
  rcases this with rfl|rfl|rfl|rfl|rfl|rfl|rfl|rfl|rfl|rfl<;>omega
  rename_i a
  have j:i<=8:=Om
  obtain⟨m,c,rfl,rfl,rfl,o,r⟩:=p _ _ _ _ Om h
  have o:=o Om
  have f:0<x.toNat%128+128*m:=Om
  have e:x.toNat%128+128*m=x.toNat%128+128*m:=rfl
  refine⟨x.toNat%128+128*m,c,?_,?_,?_,fun _=>f,?_⟩
  rw[AE (n:=x.toNat%128+128*m) Om,List.cons_append]
  have q:(x.toNat%128+128*m)%128+128=x.toNat:=Om
  have g:(x.toNat%128+128*m)/128=m:=Om
  rw[q,g,d]
  grind
  rw[AE (n:=x.toNat%128+128*m) Om,List.length_cons]
  have g:(x.toNat%128+128*m)/128=m:=Om
  rw[g];omega
  exact zHL j Om r
def Pd{l n k}(h:xU 0 0 l=.ok (n,k)):∃c,l=vF n++c/\k=(vF n).length/\n<18446744073709551616:=by
 have⟨m,c,h1,h2,h3,_,a⟩:=Zw l 0 0 n k Om h;simp at h2 h3 a;subst h2;exact⟨c,h1,h3,a⟩
end Go.Proofs
end
section
namespace Go.Proofs
def yP(L:av):Prop:=∀e∈L,qW e.node.num
def yP.nil:yP []:=fun _ h=>(by cases h)
def yP.ax{L}(h:yP L){n}(b:qW n.num):yP (ax L n).2.2:=by
 rcases Dl L n with e|⟨_,e⟩;rw[e];exact h;rw[e];intro x a;rcases List.mem_append.1 a with a|a;exact h x a;grind
def yP.grow(t):∀L,yP L->qt t->yP (grow L t).2.2:=by
 induction t using bt.ind with
 |h k f t u x ks g =>
  have:∀(ks:List bt),(∀i (hi:i<ks.length),∀L,yP L->qt ks[i]->yP (Proofs.grow L ks[i]).2.2)->(∀i (hi:i<ks.length),qt ks[i])->∀(n:df) i L,qW n.num->yP L->yP (zZ n i L ks).2.2:=by
   intro ks;induction ks with
   |nil=>intro _ _ n i L c h;unfold zZ;exact h.ax c
   |cons t ts a =>
    intro hh d n i L c h
    have b:=hh 0 Sm L h<|d 0 Sm
    simp only[List.getElem_cons_zero]at b
    unfold zZ
    split
    exact b
    exact a (fun i hi=>hh (i+1)<|by simpa using hi) (fun i hi=>d (i+1)<|by simpa using hi) _ _ _ (by split<;>exact c) b
  intro L h e
  cases e with
  |mk _ _ _ _ _ _ ak kids =>
   unfold Proofs.grow
   exact this ks g kids _ _ L ak h
def yP.of{L}(h:yP L){t}(a:qt t):yP (of L t).2.2:=by
 unfold Proofs.of;split;exact h;split;exact h;exact yP.grow t L h a
def yP.node{L}(h:yP L)(t):qW (ad L t).num:=by
 cases ht:al L t with
 |true=>have⟨e,a,hm,_⟩:=Cy ht;simp only[ad,a,Option.map_some,Option.getD_some];exact h e hm
 |false=>simp only[ad,yR ht,Option.map_none,Option.getD_none];exact⟨De,De⟩
def xx{L}(e:Wf L){t}(ht:al L t=true):1<=(ad L t).kind/\(ad L t).kind<=9/\0<=(ad L t).ay/\(ad L t).ay<16/\0<=(ad L t).to/\(ad L t).to<16/\(ad L t).ba.size<=64:=by
 have⟨h1,_,_,a,_⟩:=e.node ht;generalize ad L t=n at *;have c:oh n.kind=true/\((bk n.kind).ay=false->n.ay=0)/\((bk n.kind).to=false->n.to=0):=by
  unfold zO at h1;simp only at h1;split at h1;cases h1;grind
 have d:=c.1;simp only[oh,Bool.and_eq_true,decide_eq_true_eq]at d;have b:((bk n.kind).ay=true->rp n.ay=true)/\((bk n.kind).to=true->rp n.to=true)/\n.ba.size<=64:=by
  unfold zR at a;split at a;cases a;grind
 refine⟨d.1,d.2,?_⟩;have n1:0<=n.ay/\n.ay<16:=by
  cases hs:(bk n.kind).ay with
  |true=>have:=b.1 hs;simpa[rp]using this
  |false=>rw[c.2.1 hs];decide
 have n2:0<=n.to/\n.to<16:=by
  cases hs:(bk n.kind).to with
  |true=>have:=b.2.1 hs;simpa[rp]using this
  |false=>rw[c.2.2 hs];decide
 exact⟨n1.1,n1.2,n2.1,n2.2,b.2.2⟩
end Go.Proofs
namespace Go.Proofs
def FS(k):(qN k).length<=3:=by
 unfold qN;repeat' split
 all_goals decide
def Ql(n:df)(a b:Nat)(f:bq)(h1:n.ay<16)(h2:n.to<16)(h3:qW n.num)(d:n.ba.size<=64)(c:a<65537)(e:b<65537):(f.bytes n a b).length<=74:=by
 have h3:=h3.2;cases f<;>simp only[bq.bytes,vV,List.length_append];have:=vU (n:=n.ay.toNat) Om;omega;have:=vU (n:=n.to.toNat) Om;omega;have:=vU (n:=n.num.toNat) Om;omega;have:=vU (n:=n.ba.size) Om;have:n.ba.data.toList.length=n.ba.size:=Array.length_toList;omega;have:=vU (n:=a) Om;omega;have:=vU (n:=b) Om;omega
def MO{α β:Type}(f:α->List β)(c):∀l:List α,(∀x∈l,(f x).length<=c)->(l.flatMap f).length<=c*l.length:=by
 intro l;induction l with
 |nil=>intro _;simp
 |cons a l b =>
  intro h
  have h1:=h a Sm
  have h2:=b Gd
  rw[List.flatMap_cons,List.length_append,List.length_cons,Nat.mul_succ];omega
def tR(l t):c9 l t<=l.length:=List.idxOf_le_length
def V4{L}(d:Wf L)(e:yP L){seen t}(ht:al L t=true)(hs:seen.length<=65536):(yF L seen t).length<=300:=by
 have⟨_,_,_,h1,_,h2,c⟩:=xx d ht;have:=MO (bq.bytes (ad L t) (c9 seen (ad L t).a)<|c9 seen (ad L t).b) 74 (qN (ad L t).kind) fun f _=>Ql _ _ _ f h1 h2 (e.node t) c (Oh<|tR seen (ad L t).a)<|Oh<|tR seen (ad L t).b;have h3:=FS (ad L t).kind;have:74*(qN (ad L t).kind).length<=74*3:=Nat.mul_le_mul_left _ h3;unfold yF;rw[List.length_cons];omega
def KR{L}(c:Wf L)(a:yP L):∀(l seen:List Int),(∀t∈l,al L t=true)->seen.length+l.length<=65536->(fv L seen l).length<=300*l.length:=by
 intro l;induction l with
 |nil=>intro seen _ _;simp[fv]
 |cons t l d =>
  intro seen h b
  rw[List.length_cons]at b
  have h1:=V4 c a (seen:=seen) (h t Sm) Om
  have h2:=d (seen++[t]) Gd Gd
  rw[fv,List.length_append,List.length_cons,Nat.mul_succ];omega
end Go.Proofs
end
section
namespace Go.Proofs
def zDP{L}(c:Wf L){t}(ht:al L t=true):
  (bq.mn∈qN (ad L t).kind\/(ad L t).ay=0)/\(bq.oG∈qN (ad L t).kind\/(ad L t).to=0)/\(bq.num∈qN (ad L t).kind\/(ad L t).num=0) /\
  (bq.ba∈qN (ad L t).kind\/(ad L t).ba=⟨#[]⟩)/\(bq.fst∈qN (ad L t).kind\/(ad L t).a=0)/\(bq.snd∈qN (ad L t).kind\/(ad L t).b=0):=by
 have⟨h1,h2,h3,_⟩:=c.node ht
 have⟨e,d,_⟩:=xx c ht
 generalize ad L t=n at *
 have⟨k,f,t,u,x,a,b⟩:=n
 simp only at *
 unfold zO at h1
 have:k=1\/k=2\/k=3\/k=4\/k=5\/k=6\/k=7\/k=8\/k=9:=Om
 rcases this with rfl|rfl|rfl|rfl|rfl|rfl|rfl|rfl|rfl<;>simp[qN,bk,oh]at*<;>simp_all
def II{n}(h:bq.fst∈qN n.kind):n.a∈zB n:=by
 unfold qN at h;unfold zB bk
 repeat' split at h
 all_goals first|(exfalso;revert h;decide)|skip
 all_goals (rename_i h1;rw[h1];simp)
def GB{n}(h:bq.snd∈qN n.kind):n.b∈zB n:=by
 unfold qN at h;unfold zB bk
 repeat' split at h
 all_goals first|(exfalso;revert h;decide)|skip
 all_goals (rename_i h1;rw[h1];simp)
def jWW{L}(b:Wf L){s t}(hs:al L s=true)(ht:al L t=true)(h:ad L s=ad L t):s=t:=by
 obtain⟨i,hi,rfl⟩:=si hs;obtain⟨j,a,rfl⟩:=si ht;rw[qL hi,qL a]at h;have:=b.ok.pt;have e:i=j:=by
  refine(List.getElem_inj (h₀:=by simpa using hi) (h₁:=by simpa using a) this).1 ?_;simpa using h
 rw[e]
def wz(L:av):List Int->List Int->Prop
 |_,[]=>True
 |seen,z :: l=>(∀k∈zB (ad L z),k∈seen)/\wz L (seen++[z]) l
def zHM{L}:∀(l seen:List Int),(∀az z a,l=az++z ::a->∀k∈zB (ad L z),k∈seen++az)->wz L seen l:=by
 intro l;induction l with
 |nil=>intro _ _;trivial
 |cons z l c =>
  intro seen h
  refine⟨fun k b=>by simpa using h [] z l rfl k b,c _ fun az y a e k b=>?_⟩
  have:=h (z ::az) y a (by rw[e];rfl) k b
  simpa using this
def xJ{L}(c:Wf L)(t):wz L [] (dc L t):=zHM _ _ (fun az z a e k b=>by rw[List.nil_append];exact GL c t az z a e k b)
def xH{L}(a:Wf L){t u}(h:u∈dc L t):al L u=true:=have h:=(zt a).1 h;(iw.le a h.1 h.2).1
def EH{L}(a:Wf L){t}(h:al L t=true):t∈dc L t:=(zt a).2 ⟨h,.refl _⟩
def E0{α β γ δ:Type}{f:α->γ}{g:β->γ}{i:α->δ}{e:β->δ}:∀{d:List α} {c:List β},d.map f=c.map g->(∀a∈d,∀b∈c,f a=g b->i a=e b)->d.map i=c.map e:=by
 intro d;induction d with
 |nil=>intro c h _;cases c with
  |nil=>rfl
  |cons b c=>simp at h
 |cons a d j=>intro c h hh;cases c with
  |nil=>simp at h
  |cons b c =>
   simp only[List.map_cons,List.cons.injEq]at h|-
   exact⟨hh a Sm b Sm h.1,j h.2 Gd⟩
def zo{L M}(hL:Wf L)(a:Wf M){s t}(hs:al L s=true)(ht:al M t=true)(h:zA L s=zA M t):
  (ad L s).kind=(ad M t).kind/\(ad L s).ay=(ad M t).ay/\(ad L s).to=(ad M t).to/\(ad L s).num=(ad M t).num/\(ad L s).ba=(ad M t).ba/\(zB<|ad L s).map (zA L)=(zB<|ad M t).map (zA M):=by
 rw[zX hL hs,zX a ht]at h
 simpa using h
def Mc{L M}(hL:Wf L)(j:Wf M):∀(n:Nat) (s t:Int),s.toNat=n->al L s=true->al M t=true->zA L s=zA M t->sizeOf L s=sizeOf M t/\cz L s=cz M t:=by
 intro n;induction n using Nat.strongRecOn with
 |_ n o =>
 intro s t r hs ht h;have m:=(zo hL j hs ht h).2.2.2.2.2;have⟨_,_,_,_,g,p,q⟩:=hL.node hs;have⟨_,_,_,_,d1,d2,d3⟩:=j.node ht;have key:∀a∈zB (ad L s),∀b∈zB (ad M t),zA L a=zA M b->sizeOf L a=sizeOf M b/\cz L a=cz M b:=fun a c b f e=>by
  have:=zI.1 (g a c).1;exact o a.toNat (Oh<|(g a c).2) a b rfl (g a c).1 (d1 b f).1 e
 refine⟨?_,?_⟩;rw[p,d2,E0 m fun a c b f e=>(key a c b f e).1];have e:=E0 m fun a c b f e=>(key a c b f e).2;rw[q,d3];have i:∀(l:List Int) (P:av),l.foldl (fun d k=>max d<|cz P k) 0=(l.map<|cz P).foldl max 0:=fun l P=>by rw[List.foldl_map]
 rw[i,i,e]
def OH{L}(hL:Wf L):∀{d c:List Int},(∀k∈d,al L k=true)->(∀k∈c,al L k=true)->d.map (zA L)=c.map (zA L)->d=c:=by
 intro d;induction d with
 |nil=>intro c _ _ h;cases c with
  |nil=>rfl
  |cons b c=>simp at h
 |cons a d e=>intro c h1 h2 h;cases c with
  |nil=>simp at h
  |cons b c =>
   simp only[List.map_cons,List.cons.injEq]at h
   rw[yI hL _ a b rfl (h1 a Sm) (h2 b Sm) h.1,e Gd Gd h.2]
structure Ren(L q:av)(z:Int)(n:df):Prop where
 kind:n.kind=(ad L z).kind
 ay:n.ay=(ad L z).ay
 to:n.to=(ad L z).to
 num:n.num=(ad L z).num
 ba:n.ba=(ad L z).ba
 Ff:∀k∈zB n,al q k=true
 kids:(zB n).map (zA q)=(zB<|ad L z).map (zA L)
 a0:(bk n.kind).kids<1->n.a=0
 b0:(bk n.kind).kids<2->n.b=0
def zAE{n m}(c:n.kind=m.kind)(h:zB n=zB m)(a1:(bk n.kind).kids<1->n.a=0)(b1:(bk n.kind).kids<2->n.b=0)(a2:(bk m.kind).kids<1->m.a=0)(b2:(bk m.kind).kids<2->m.b=0):n.a=m.a/\n.b=m.b:=by
 unfold zB at h;rw[<-c]at h a2 b2;rcases qV n.kind with e|e|e;grind;rw[e]at h;simp at h;exact⟨h,by rw[b1 Om,b2 Om]⟩;rw[e]at h;simpa using h
section
variable {L q:av} (hL:Wf L) (hq:Wf q) {z:Int} (hz:al L z=true) {n:df} (h:Ren L q z n)
include hL hq hz h
def Ren.eh:eh q n=(sizeOf L z,cz L z,0):=by
 have⟨m,x,y,r,s,i,o⟩:=hL.node hz;have v:zO n=0:=by
  have:zO n=zO (ad L z):=by unfold zO;rw[h.kind,h.ay,h.to,h.num,h.ba]
  rw[this,m]
 have j:zR (bk n.kind) n=0:=by
  have:zR (bk n.kind) n=zR (bk (ad L z).kind) (ad L z):=by unfold zR;rw[h.kind,h.ay,h.to,h.ba]
  rw[this,r]
 have key:∀a∈zB n,∀b∈zB (ad L z),zA q a=zA L b->sizeOf q a=sizeOf L b/\cz q a=cz L b:=fun a c b f e=>Mc hq hL _ a b rfl (h.Ff a c) (s b f).1 e;have t:=E0 h.kids fun a c b f e=>(key a c b f e).1;have p:=E0 h.kids fun a c b f e=>(key a c b f e).2;have g:∀(l:List Int) (P:av),l.foldl (fun d k=>max d<|cz P k) 0=(l.map<|cz P).foldl max 0:=fun l P=>by rw[List.foldl_map]
 have s1:1+((zB n).map<|sizeOf q).sum=sizeOf L z:=by rw[t,i]
 have u:(zB n).foldl (fun d k=>max d<|cz q k) 0+1=cz L z:=by rw[g,p,<-g,o]
 have b1:=hL.ok.sizeOf z;have b2:=hL.ok.cz z;unfold Proofs.eh;simp only;rw[if_neg<|by simpa using v,if_neg,if_neg<|by simpa using j,if_neg,s1,u,if_neg Om];simp only[List.any_eq_true,not_exists,not_and];intro k w;rw[h.Ff k w];decide;have a0:=h.a0;have b0:=h.b0;simp only[Bool.or_eq_true,Bool.and_eq_true,decide_eq_true_eq,bne_iff_ne,ne_eq,not_or,not_and,Decidable.not_not];exact⟨a0,b0⟩
omit hq in
def Ren.yo{v M}(a:Wf M)(c:al M v=true)(d:ad M v=n)(b:∀k∈zB n,zA M k=zA q k):zA M v=zA L z:=by
 rw[zX a c,zX hL hz,d,h.kind,h.ay,h.to,h.num,h.ba,<-h.kids];congr 1;exact List.map_congr_left b
def Ren.node{v}(b:al q v=true)(ht:zA q v=zA L z):ad q v=n:=by
 have⟨g,y,A,u,t,d⟩:=zo hq hL b hz ht;have⟨_,e,c,_,i,_⟩:=hq.node b;have a:=OH hq (fun k f=>(i k f).1) h.Ff<|d.trans h.kids.symm;have⟨s,w⟩:=zAE (g.trans h.kind.symm) a e c h.a0 h.b0;have x:=h.kind;have l:=h.ay;have p:=h.to;have r:=h.num;have j:=h.ba;generalize ad q v=m at *;generalize ad L z=o at *;cases m;cases n;simp_all
def Ren.yr(b:∀v,al q v=true->zA q v≠zA L z):find q n=none:=by
 cases c:find q n with
 |none=>rfl
 |some i =>
  exfalso
  have⟨hi,e⟩:=Bj c
  have a:al q ((i:Int)+1)=true:=zI.2 ⟨Om,Om⟩
  exact b _ a<|h.yo hL hz hq a (by rw[qL hi,e]) fun _ _=>rfl
def Ren.Re{v}(c:al q v=true)(ht:zA q v=zA L z):find q n=some (v-1).toNat:=by
 have b:=h.node hL hq hz c ht;cases a:find q n with
 |none =>
  exfalso
  unfold find at a
  rw[List.findIdx?_eq_none_iff]at a
  obtain⟨i,hi,rfl⟩:=si c
  rw[qL hi]at b
  have:=a q[i]<|List.getElem_mem hi
  simp at this;exact this b
 |some i =>
  have⟨hi,e⟩:=Bj a
  have d:al q ((i:Int)+1)=true:=zI.2 ⟨Om,Om⟩
  have:=Go.Proofs.jWW hq d c (by rw[qL hi,e,b])
  rw[<-this];simp
def Ren.AQ{v}(a:al q v=true)(ht:zA q v=zA L z):ax q n=(v,0,q):=by
 have c:=h.eh hL hq hz;have b:=h.Re hL hq hz a ht;have h1:=(zI.1 a).1;unfold ax;simp only[c,b];rw[if_neg Sm];simp only[Prod.mk.injEq,and_true];omega
def Ren.Cd(a:∀v,al q v=true->zA q v≠zA L z)(d:q.length<65536):ax q n=((q.length:Int)+1,0,q++[⟨n,sizeOf L z,cz L z⟩]):=by
 have c:=h.eh hL hq hz;have b:=h.yr hL hq hz a;unfold ax;simp only[c,b];rw[if_neg Sm,if_neg Om]
def Ren.SN(d:¬q.length<65536)(a:∀v,al q v=true->zA q v≠zA L z):ax q n=(0,6,q):=by
 have c:=h.eh hL hq hz;have b:=h.yr hL hq hz a;unfold ax;simp only[c,b];rw[if_neg Sm,if_pos Om]
def Ren.ou(f:(ax q n).2.1=0):Wf (ax q n).2.2/\al (ax q n).2.2 (ax q n).1=true/\zA (ax q n).2.2 (ax q n).1=zA L z/\∀v,al q v=true->al (ax q n).2.2 v=true/\zA (ax q n).2.2 v=zA q v:=by
 have b:=uQ hq n;have⟨M,e⟩:=yG q n;have⟨d,g,_⟩:=uU f;have a:∀v,al q v=true->al (ax q n).2.2 v=true/\zA (ax q n).2.2 v=zA q v:=fun v c=>by
  rw[e]at b|-;exact⟨uF c,uL b _ v rfl c⟩
 exact⟨b,d,h.yo hL hz b d g fun k i=>(a k<|h.Ff k i).2,a⟩
def Ren.cm:(ax q n).2.1=0\/(ax q n).2.1=6/\65536<=q.length/\∀v,al q v=true->zA q v≠zA L z:=by
 by_cases a:∃v,al q v=true/\zA q v=zA L z;have⟨v,b,ht⟩:=a;rw[h.AQ hL hq hz b ht];exact .inl rfl;have a:∀v,al q v=true->zA q v≠zA L z:=fun v b e=>a ⟨v,b,e⟩;by_cases c:q.length<65536;rw[h.Cd hL hq hz a c];exact .inl rfl;rw[h.SN hL hq hz c a];exact .inr ⟨rfl,Om,a⟩
end
structure Cp(Lq L:av)(ak:Int->Int)(seen:List Int):Prop where
 wf:Wf L
 Ez:∀s∈seen,al Lq s=true
 at_:∀s∈seen,al L (ak s)=true/\zA L (ak s)=zA Lq s
 ji:∀x,x∉seen->ak x=0
def Ph(n)(ak:Int->Int):zB { n with a:=ak n.a,b:=ak n.b }=(zB n).map ak:=by
 unfold zB;simp only[List.map_take,List.map_cons,List.map_nil]
def Cp.A7{Lq L}{ak:Int->Int}{seen}(h:Cp Lq L ak seen)(n:Wf Lq){z}(m:al Lq z=true)(g:∀k∈zB (ad Lq z),k∈seen):
  Ren Lq L z { ad Lq z with a:=ak (ad Lq z).a,b:=ak (ad Lq z).b }:=by
 have⟨_,i,l,_⟩:=n.node m
 have f:ak 0=0:=h.ji 0 fun j=>Oh<|(zI.1<|h.Ez 0 j).1
 refine⟨rfl,rfl,rfl,rfl,rfl,?_,?_,fun e=>by simp only;rw[i e,f],fun e=>by simp only;rw[l e,f]⟩
 intro k c
 rw[Ph]at c
 obtain⟨x,d,rfl⟩:=List.mem_map.1 c
 exact(h.at_ x<|g x d).1
 rw[Ph,List.map_map]
 exact List.map_congr_left fun x d=>(h.at_ x<|g x d).2
def Cp.step{Lq L}{ak:Int->Int}{seen}(h:Cp Lq L ak seen)(f:Wf Lq){z}(d:al Lq z=true)(l:∀k∈zB (ad Lq z),k∈seen){n}(i:Ren Lq L z n)(c:(ax L n).2.1=0):
  Cp Lq (ax L n).2.2 (fun x=>if x=z then(ax L n).1 else ak x) (seen++[z]):=by
 have⟨g,j,m,b⟩:=i.ou f h.wf d c
 refine⟨g,fun s hs=>?_,fun s hs=>?_,fun x a=>?_⟩
 rcases List.mem_append.1 hs with hs|hs
 exact h.Ez s hs
 grind
 by_cases e:s=z
 grind
 simp only[if_neg e]
 have hs:s∈seen:=(List.mem_append.1 hs).resolve_right Gd
 have⟨a1,a2⟩:=h.at_ s hs
 exact⟨(b _ a1).1,(b _ a1).2.trans a2⟩
 simp only[List.mem_append,List.mem_singleton,not_or]at a
 rw[if_neg a.2];exact h.ji x a.1
def Fy(L n):(ax L n).2.2.length<=L.length+1:=by
 rcases Dl L n with e|⟨_,e⟩<;>rw[e]<;>simp
def qG(Lq z l L)(ak:Int->Int){n}(c:{ ad Lq z with a:=ak (ad Lq z).a,b:=ak (ad Lq z).b }=n){x e L'}(hm:ax L n=(x,e,L')):
  zT Lq (z ::l) L ak=if e≠0 then(L,e,ak)else zT Lq l L' (fun y=>if y=z then x else ak y):=by
 subst c
 show(if(ax L _).2.1≠0 then _ else _)=_
 rw[hm]
def D9{Lq}(j:Wf Lq):∀(l seen:List Int) (L:av) (ak:Int->Int),Cp Lq L ak seen->(∀z∈l,al Lq z=true)->wz Lq seen l ->
  ((zT Lq l L ak).2.1=0/\Cp Lq (zT Lq l L ak).1 (zT Lq l L ak).2.2 (seen++l))\/((zT Lq l L ak).2.1=6/\¬(L.length+l.length<=65536)):=by
 intro l
 induction l with
 |nil=>intro seen L ak h _ _;exact .inl ⟨rfl,by rw[List.append_nil];exact h⟩
 |cons z l s =>
  intro seen L ak h r d
  have g:=r z Sm
  have k:=h.A7 j g d.1
  generalize c:({ ad Lq z with a:=ak (ad Lq z).a,b:=ak (ad Lq z).b }:df)=n at k
  have p:=Fy L n
  have f:=k.cm j h.wf g
  have hs:=fun t=>h.step j g d.1 k t
  obtain⟨x,e,m,hm⟩:∃x e m,ax L n=(x,e,m):=⟨_,_,_,rfl⟩
  rw[qG Lq z l L ak c hm]
  rw[hm]at p f hs
  simp only at p f hs
  rcases f with rfl|⟨rfl,u,_⟩
  rw[if_neg Sm]
  rcases s _ _ _ (hs rfl) Gd d.2 with⟨q,o⟩|⟨q,o⟩
  grind
  refine .inr ⟨q,fun i=>o ?_⟩
  rw[List.length_cons]at i;omega
  grind
def WU{Lq}(c:Wf Lq):∀(l seen:List Int) (L:av) (ak:Int->Int),Cp Lq L ak seen->(∀z∈l,al Lq z=true)->wz Lq seen l->(∀z∈l,∃v,al L v=true/\zA L v=zA Lq z) ->
  (zT Lq l L ak).2.1=0/\(zT Lq l L ak).1=L:=by
 intro l
 induction l with
 |nil=>intro seen L ak h _ _ _;exact⟨rfl,rfl⟩
 |cons z l i =>
  intro seen L ak h f a j
  have b:=f z Sm
  have d:=h.A7 c b a.1
  have⟨v,g,e⟩:=j z Sm
  have hm:=d.AQ c h.wf b g e
  have hs:=h.step c b a.1 d (by rw[hm])
  rw[qG Lq z l L ak rfl hm]
  rw[hm]at hs
  rw[if_neg Sm]
  exact i _ _ _ hs Gd a.2 Gd
def Cp.start{Lq L}(a:Wf L):Cp Lq L (fun _=>0) []:=⟨a,fun _ h=>(by cases h),fun _ h=>(by cases h),fun _ _=>rfl⟩
def Zn{L Lq}(b:Wf L)(a:Wf Lq)(t):(vI L Lq t).2.1=0\/((vI L Lq t).1=0/\(vI L Lq t).2.2=L):=by
 unfold vI;split;grind;exact .inr ⟨rfl,rfl⟩
def xZ{L Lq}(c:Wf L)(a:Wf Lq){t}(ht:al Lq t=true)(b:(vI L Lq t).2.1=0):
  Wf (vI L Lq t).2.2/\al (vI L Lq t).2.2 (vI L Lq t).1=true/\zA (vI L Lq t).2.2 (vI L Lq t).1=zA Lq t:=by
 have h:=D9 a (dc Lq t) [] L (fun _=>0) (Cp.start c) (fun z d=>xH a d)<|xJ a t
 unfold vI at *
 rw[if_pos ht]at *
 simp only at *
 split at b
 grind
 rename_i h1
 rw[if_neg h1]
 simp only
 rcases h with⟨_,h⟩|⟨e,_⟩
 rw[List.nil_append]at h
 have:=h.at_ t<|EH a ht
 exact⟨h.wf,this.1,this.2⟩
 grind
def LS{L Lq}(d:Wf L)(f:Wf Lq){t z}(h:iw Lq t z):al Lq t=true->∀v,al L v=true->zA L v=zA Lq t->∃v',al L v'=true/\zA L v'=zA Lq z:=by
 intro ht v l e;induction h with
 |refl=>exact⟨v,l,e⟩
 |@fl u k h1 i g =>
  have⟨v',a,m⟩:=g
  have h1:=(iw.le f ht h1).1
  have⟨_,_,_,_,_,c⟩:=zo d f a h1 m
  have hm:zA Lq k∈(zB<|ad L v').map (zA L):=by rw[c];exact List.mem_map_of_mem i
  have⟨x,j,b⟩:=List.mem_map.1 hm
  exact⟨x,((d.node a).2.2.2.2.1 x j).1,b⟩
def zAW{L Lq}(b:Wf L)(a:Wf Lq){t v}(ht:al Lq t=true)(j:al L v=true)(e:zA L v=zA Lq t):vI L Lq t=(v,0,L):=by
 have h:=WU a (dc Lq t) [] L (fun _=>0) (Cp.start b) (fun z c=>xH a c) (xJ a t) fun z c=>LS b a ((zt a).1 c).2 ht v j e;have g:(vI L Lq t).2.1=0:=by unfold vI;rw[if_pos ht];simp only;rw[if_neg (by rw[h.1];simp)]
 have i:(vI L Lq t).2.2=L:=by unfold vI;rw[if_pos ht];simp only;rw[if_neg (by rw[h.1];simp)];exact h.2
 have⟨_,d,f⟩:=xZ b a ht g;rw[i]at d f;have k:=yI b _ _ v rfl d j (f.trans e.symm);refine Prod.ext k<|Prod.ext g i
def VD{Lq}(a:Wf Lq){t}(ht:al Lq t=true):(vI [] Lq t).2.1=0:=by
 have c:=uW a t;have:=a.ok.fm;rcases D9 a (dc Lq t) [] [] (fun _=>0) (Cp.start Wf.nil) (fun z b=>xH a b) (xJ a t)with⟨h,_⟩|⟨_,h⟩;unfold vI;rw[if_pos ht];simp only;rw[if_neg (by rw[h];simp)];grind
structure Gz(L M:av)(s1 a:(Int->Bool)×List Int):Prop where
 pZ:s1.2.map (zA L)=a.2.map (zA M)
 i1:∀x∈s1.2,al L x=true
 i2:∀x∈a.2,al M x=true
 mark:∀x y,al L x=true->al M y=true->zA L x=zA M y->s1.1 x=a.1 y
def WJ{L M}(o:Wf L)(l:Wf M):∀(n:Nat) (m:Nat) (s t:Int) (qn jy:(Int->Bool)×List Int),s.toNat<n->t.toNat<m->((al L s=false/\al M t=false)\/(al L s=true/\al M t=true/\zA L s=zA M t))->Gz L M qn jy->Gz L M (yU L n s qn) (yU M m t jy):=by
 intro n;induction n with
 |zero=>intro m s t qn jy h;omega
 |succ n u =>
  intro m s t qn jy D hm aq j
  cases m with
  |zero=>omega
  |succ m =>
  rw[yU,yU]
  rcases aq with⟨G,E⟩|⟨hs,ht,e⟩
  grind
  have k:=j.mark s t hs ht e
  rw[hs,ht]
  cases q:qn.1 s with
  |true=>rw[if_neg Sm,if_neg (by rw[<-k,q];simp)];exact j
  |false =>
   rw[if_pos ⟨rfl,rfl⟩,if_pos ⟨rfl,by rw[<-k,q]⟩]
   have⟨B,_,_,_,_,g⟩:=zo o l hs ht e
   have⟨_,F,w,_,f,_⟩:=o.node hs
   have⟨_,d2,d3,_,d,_⟩:=l.node ht
   have v:Gz L M (gu qn.1 s true,qn.2) (gu jy.1 t true,jy.2):=⟨j.pZ,j.i1,j.i2,fun x y c r i=>by
    simp only[gu];by_cases ex:x=s;subst ex;have:y=t:=yI l _ y t rfl r ht (i.symm.trans e);rw[if_pos rfl,if_pos this];have:y≠t:=fun C=>ex<|yI o _ x s rfl c hs (by rw[i,C,e]);rw[if_neg ex,if_neg this];exact j.mark x y c r i⟩
   have A:=(zI.1 hs).1
   have z:=(zI.1 ht).1
   have fl : (((al L (ad L s).a = false /\ al M (ad M t).a = false) \/ (al L (ad L s).a = true /\ al M (ad M t).a = true /\ zA L (ad L s).a = zA M (ad M t).a)) /\
     ((al L (ad L s).b=false/\al M (ad M t).b=false)\/(al L (ad L s).b=true/\al M (ad M t).b=true/\zA L (ad L s).b=zA M (ad M t).b))) /\
     ((ad L s).a.toNat<n/\(ad L s).b.toNat<n)/\(ad M t).a.toNat<m/\(ad M t).b.toNat<m:=by
    have p:∀P:av,al P 0=false:=fun P=>by simp[al]
    unfold zB at g f d
    rw[<-B]at g d2 d3 d
    rcases qV (ad L s).kind with h|h|h
    grind
    rw[w Om,d3 Om]
    rw[h]at g f d
    simp at g f d
    have:=zI.1 f.1;have:=zI.1 d.1
    exact⟨⟨.inr ⟨f.1,d.1,g⟩,.inl ⟨p _,p _⟩⟩,⟨Om,Om⟩,Om,Om⟩
    rw[h]at g f d
    simp at g f d
    have:=zI.1 f.1.1;have:=zI.1 d.1.1;have:=zI.1 f.2.1;have:=zI.1 d.2.1
    exact⟨⟨.inr ⟨f.1.1,d.1.1,g.1⟩,.inr ⟨f.2.1,d.2.1,g.2⟩⟩,⟨Om,Om⟩,Om,Om⟩
   have r1:=u m _ _ _ _ fl.2.1.1 fl.2.2.1 fl.1.1 v
   have r2:=u m _ _ _ _ fl.2.1.2 fl.2.2.2 fl.1.2 r1
   refine⟨?_,?_,?_,r2.mark⟩
   simp only[List.map_append,List.map_cons,List.map_nil,r2.pZ,e]
   intro x c
   rcases List.mem_append.1 c with c|c
   exact r2.i1 x c
   grind
   intro x c
   rcases List.mem_append.1 c with c|c
   exact r2.i2 x c
   grind
def J0{L M}(b:Wf L)(a:Wf M){s t}(hs:al L s=true)(ht:al M t=true)(e:zA L s=zA M t):(dc L s).map (zA L)=(dc M t).map (zA M):=
 (WJ b a (s.toNat+1) (t.toNat+1) s t (fun _=>false,[]) (fun _=>false,[]) Om Om (.inr ⟨hs,ht,e⟩) ⟨rfl,Sm,Sm,fun _ _ _ _ _=>rfl⟩).pZ
def Ob{L M}(k:Wf L)(j:Wf M){a b}(g:al L a=true)(m:al M b=true)(e:zA L a=zA M b):∀(d c:List Int),(∀x∈d,al L x=true)->(∀x∈c,al M x=true)->d.map (zA L)=c.map (zA M)->c9 d a=c9 c b:=by
 intro d;induction d with
 |nil=>intro c _ _ h;cases c with
  |nil=>rfl
  |cons y c=>simp at h
 |cons x d i=>intro c h1 h2 h;cases c with
  |nil=>simp at h
  |cons y c =>
   simp only[List.map_cons,List.cons.injEq]at h
   have hi:=i c Gd Gd h.2
   have f:(x==a)=(y==b):=by
    by_cases ex:x=a;have:y=b:=yI j _ y b rfl (h2 y Sm) m (by rw[<-h.1,ex,e]);simp[ex,this];have:y≠b:=fun l=>ex<|yI k _ x a rfl (h1 x Sm) g (by rw[h.1,l,e]);rw[beq_false_of_ne ex,beq_false_of_ne this]
   unfold c9 at *
   rw[List.idxOf_cons,List.idxOf_cons,f,hi]
def KC{L M}(o:Wf L)(m:Wf M):∀(k i s1 d:List Int),(∀x∈k,al L x=true)->(∀x∈i,al M x=true)->(∀x∈s1,al L x=true)->(∀x∈d,al M x=true)->k.map (zA L)=i.map (zA M)->s1.map (zA L)=d.map (zA M)->fv L s1 k=fv M d i:=by
 intro k;induction k with
 |nil=>intro i s1 d _ _ _ _ h _;cases i with
  |nil=>rfl
  |cons y i=>simp at h
 |cons x k H=>intro i s1 d h1 h2 h3 p h w;cases i with
  |nil=>simp at h
  |cons y i =>
   simp only[List.map_cons,List.cons.injEq]at h
   have A:=h1 x Sm
   have z:=h2 y Sm
   have⟨l,F,G,E,D,g⟩:=zo o m A z h.1
   have⟨_,_,_,_,C,_⟩:=o.node A
   have⟨_,_,_,_,B,_⟩:=m.node z
   have hi:=H i (s1++[x]) (d++[y]) Gd Gd
    Gd
    Gd h.2 (by simp[w,h.1])
   rw[fv,fv,hi]
   congr 1
   unfold yF
   rw[l]
   congr 1
   have c:∀f∈qN (ad M y).kind,f.bytes (ad L x) (c9 s1 (ad L x).a) (c9 s1 (ad L x).b)=f.bytes (ad M y) (c9 d (ad M y).a) (c9 d (ad M y).b):=by
    intro f c;have v:bq.fst∈qN (ad M y).kind->c9 s1 (ad L x).a=c9 d (ad M y).a:=fun c=>by
     have j:=II (n:=ad L x) (by rw[l];exact c);have u:=II c;refine Ob o m (C _ j).1 (B _ u).1 ?_ s1 d h3 p w;unfold zB at g j;rw[l]at g j;rcases qV (ad M y).kind with e|e|e<;>rw[e]at g j<;>simp at g j
     .exact g
     .exact g.1
    have r:bq.snd∈qN (ad M y).kind->c9 s1 (ad L x).b=c9 d (ad M y).b:=fun c=>by
     have j:=GB (n:=ad L x) (by rw[l];exact c);have u:=GB c;have e:(bk (ad M y).kind).kids=2:=by
      unfold qN at c
      repeat' split at c
      all_goals first|(exfalso;revert c;decide)|skip
      all_goals (rename_i p;rw[p];rfl)
     refine Ob o m (C _ j).1 (B _ u).1 ?_ s1 d h3 p w;unfold zB at g;rw[l,e]at g;simp at g;exact g.2
    cases f
    .simp only[bq.bytes,F]
    .simp only[bq.bytes,G]
    .simp only[bq.bytes,E]
    .simp only[bq.bytes,D]
    .simp only[bq.bytes,v c]
    .simp only[bq.bytes,r c]
   have I:∀(fs:List bq) (t s:bq->List UInt8),(∀f∈fs,t f=s f)->fs.flatMap t=fs.flatMap s:=by
    intro fs t s;induction fs with
    |nil=>intro _;rfl
    |cons f fs q=>intro hh;rw[List.flatMap_cons,List.flatMap_cons,hh f Sm,q Gd]
   exact I _ _ _ c
def FI{L M}(b:Wf L)(a:Wf M){s t}(hs:al L s=true)(ht:al M t=true)(e:zA L s=zA M t):qD L s=qD M t:=
 KC b a _ _ [] [] (fun _ h=>xH b h) (fun _ h=>xH a h) Sm Sm (J0 b a hs ht e) rfl
def _root_.Go.Proofs.bq.tj(n:df)(d c:Nat)(x:gk):bq->gk
 |.mn=>{ x with ay:=n.ay.toNat }
 |.oG=>{ x with to:=n.to.toNat }
 |.num=>{ x with num:=n.num.toNat }
 |.ba=>{ x with ba:=n.ba.data.toList }
 |.fst=>{ x with a:=d,kids:=1 }
 |.snd=>{ x with b:=c,kids:=2 }
def BJ{bs r}(a:r.cm=0){m}(hm:m<18446744073709551616){rest}(h:bs.drop r.at_=vF m++rest):vY bs r=(m,⟨r.at_+(vF m).length,0,r.spot⟩):=by
 unfold vY;rw[if_pos a,h,JI hm]
def TY{bs r}(d:r.cm=0){s}(hs:s.size<=64){rest}(h:bs.drop r.at_=vV s++rest):qI bs 64 r=(s.data.toList,⟨r.at_+(vV s).length,0,r.spot⟩):=by
 have b:s.data.toList.length=s.size:=Array.length_toList;have a:=congrArg List.length h;unfold vV at h a|-;rw[List.append_assoc]at h;rw[List.length_drop,List.length_append,List.length_append,b]at a;unfold qI;rw[if_pos d,h,JI Om];simp only;have e:0<(vF s.size).length:=by unfold vF;split<;>simp
 rw[if_neg Om,if_neg Om];have c:bs.drop (r.at_+(vF s.size).length)=s.data.toList++rest:=by
  rw[<-List.drop_drop,h,List.drop_left]
 rw[c,<-b,List.take_left,List.length_append];simp only[Prod.mk.injEq,Rd.mk.injEq,and_true,true_and];omega
def jWO{bs n na nb}(h1:n.ay<16)(h2:n.to<16)(h3:qW n.num)(g:n.ba.size<=64)(j:na<65537)(k:nb<65537):∀(fs:List bq) (x:gk) (r:Rd) (b:List UInt8),r.cm=0->bs.drop r.at_=fs.flatMap (bq.bytes n na nb)++b ->
  vD bs fs (x,r)=(fs.foldl (fun x f=>f.tj n na nb x) x,⟨r.at_+(fs.flatMap<|bq.bytes n na nb).length,0,r.spot⟩):=by
 intro fs
 induction fs with
 |nil=>intro x r b c _;rw[vD];have⟨a,e,s⟩:=r;simp only at c;subst c;rfl
 |cons f fs d =>
  intro x r b c h
  rw[List.flatMap_cons,List.append_assoc]at h
  have i:=h3.2
  have key:f.pg bs r x=f.tj n na nb x/\f.rd bs r=⟨r.at_+(f.bytes n na nb).length,0,r.spot⟩:=by
   cases f;have:=BJ c (m:=n.ay.toNat) Om h;simp only[bq.pg,bq.rd,bq.tj,bq.bytes,this,and_self];have:=BJ c (m:=n.to.toNat) Om h;simp only[bq.pg,bq.rd,bq.tj,bq.bytes,this,and_self];have:=BJ c (m:=n.num.toNat) Om h;simp only[bq.pg,bq.rd,bq.tj,bq.bytes,this,and_self];have:=TY c g h;simp only[bq.pg,bq.rd,bq.tj,bq.bytes,this,and_self];have:=BJ c (m:=na) Om h;simp only[bq.pg,bq.rd,bq.tj,bq.bytes,this,and_self];have:=BJ c (m:=nb) Om h;simp only[bq.pg,bq.rd,bq.tj,bq.bytes,this,and_self]
  rw[vD,key.1,key.2,d _ _ b rfl (by simp only;rw[<-List.drop_drop,h,List.drop_left]),List.foldl_cons,List.flatMap_cons,List.length_append,Nat.add_assoc]
def uY(seen:List Int)(x:Int):Int:=if x∈seen then(c9 seen x:Int)+1 else 0
def jWS{seen z}(h:z∉seen):uY (seen++[z])=fun x=>if x=z then((seen.length:Int)+1)else uY seen x:=by
 funext x;unfold uY;by_cases e:x=z;subst e;simp only[List.mem_append,List.mem_singleton,or_true,if_true];rw[CK h];rw[if_neg e];by_cases a:x∈seen;rw[if_pos<|List.mem_append_left _ a,if_pos a,Gh a];grind
def zDF{L}(c:Wf L)(s:yP L){z}(q:al L z=true){seen}(F:(0:Int) ∉ seen)(l:∀k∈zB (ad L z),k∈seen):
  let x:=(qN (ad L z).kind).foldl (fun x f=>f.tj (ad L z) (c9 seen (ad L z).a) (c9 seen (ad L z).b) x) yC
  x.node (ad L z).kind.toNat={ ad L z with a:=uY seen (ad L z).a,b:=uY seen (ad L z).b }/\kv (ad L z).kind.toNat seen.length x 0=0:=by
 have⟨O,N,M,Q,K,R,P⟩:=xx c q
 have⟨d1,d2,d3,C,G,D⟩:=zDP c q
 have⟨_,_,_,m,_⟩:=c.node q
 have v:=s.node z
 have w:=II (n:=ad L z)
 have hs:=GB (n:=ad L z)
 generalize ad L z=n at *
 have⟨k,f,t,u,p,a,b⟩:=n
 simp only at *
 have o:=v.1
 have I:uY seen 0=0:=by unfold uY;rw[if_neg F]
 have A:bq.fst∈qN k->uY seen a=(c9 seen a:Int)+1/\c9 seen a<seen.length:=fun h=>by
  have:=l _<|w h;unfold uY;rw[if_pos this];exact⟨rfl,EO this⟩
 have H:bq.snd∈qN k->uY seen b=(c9 seen b:Int)+1/\c9 seen b<seen.length:=fun h=>by
  have:=l _<|hs h;unfold uY;rw[if_pos this];exact⟨rfl,EO this⟩
 have J:(f.toNat:Int)=f:=Om
 have E:(t.toNat:Int)=t:=Om
 have B:(u.toNat:Int)=u:=Om
 have d:¬16<=f.toNat:=Om
 have g:¬16<=t.toNat:=Om
 have y:(⟨p.data.toList.toArray⟩:ByteArray)=p:=by cases p;simp
 have j:f.toNat=t.toNat->f=t:=fun h=>Om
 have r:k=8\/k=9->f.toNat≠t.toNat:=fun i e=>by
  have:=j e;subst this;unfold zR at m;rcases i with rfl|rfl<;>simp[bk]at m
 clear m w hs l v o c s
 have:k=1\/k=2\/k=3\/k=4\/k=5\/k=6\/k=7\/k=8\/k=9:=Om
 rcases this with rfl|rfl|rfl|rfl|rfl|rfl|rfl|rfl|rfl <;>
  simp[qN,bk,yC,bq.tj,gk.node,kv,I,J,E,B,d,g,y]at d1 d2 d3 C G D A H r|-<;>simp_all<;>omega
def jbX{L q seen}(h:Cp L q (uY seen) seen)(f:q.length=seen.length)(e:seen.Nodup){v}(d:al q v=true):∃s∈seen,uY seen s=v/\zA q v=zA L s:=by
 have⟨h1,h2⟩:=zI.1 d;have hi:(v-1).toNat<seen.length:=Om;have hm:seen[(v-1).toNat]∈seen:=List.getElem_mem hi;have c:c9 seen seen[(v-1).toNat]=(v-1).toNat:=by
  have a:=EO hm;refine(List.getElem_inj (h₀:=a) (h₁:=hi) e).1 ?_;exact List.getElem_idxOf a
 have b:uY seen seen[(v-1).toNat]=v:=by unfold uY;rw[if_pos hm,c];omega
 refine⟨_,hm,b,?_⟩;have:=(h.at_ _ hm).2;rw[b]at this;exact this
def Qn(L seen z):0<(yF L seen z).length:=by unfold yF;simp
def Wm{L}(u:Wf L)(X:yP L){bs}:∀(l seen:List Int) (q:av) (r:Rd) (B:List Nat) (c:Nat),Cp L q (uY seen) seen->q.length=seen.length->B.length=seen.length->wz L seen l->(seen++l).Nodup->(∀z∈l,al L z=true) ->
  r.cm=0->r.at_<=bs.length->bs.drop r.at_=fv L seen l->bs.length-r.at_<=c->seen.length+l.length<=65535 ->
  ∃E i,oB bs c q r B=qh E i/\Cp L E (uY<|seen++l) (seen++l)/\E.length=(seen++l).length/\i.length=(seen++l).length:=by
 intro l
 induction l with
 |nil =>
  intro seen q r B c m C P _ _ _ _ V H _ _
  refine⟨q,B,Fz ?_ c,by rw[List.append_nil];exact m,by rw[List.append_nil];exact C,by rw[List.append_nil];exact P⟩
  have:=congrArg List.length H
  simp[fv]at this;omega
 |cons z l ih =>
  intro seen q r B c m C P J y hl he V H hfu T
  have A:=hl z Sm
  have D:z∉seen:=fun h=>(List.nodup_append.1 y).2.2 z h z Sm rfl
  have M:seen.Nodup:=(List.nodup_append.1 y).1
  have h0:(0:Int)∉seen:=fun h=>Oh<|(zI.1<|m.Ez 0 h).1
  rw[fv]at H
  have hpos:=Qn L seen z
  have S:=congrArg List.length H
  rw[List.length_drop,List.length_append]at S
  have p:r.at_<bs.length:=Om
  obtain⟨c,rfl⟩:∃k,c=k+1:=⟨c-1,Om⟩
  rw[List.length_cons]at T
  have⟨k1,k9,f0,f1,t0,t1,x1⟩:=xx u A
  have G:=X.node z
  have w:bs.drop r.at_=bs[r.at_] ::bs.drop (r.at_+1):=List.drop_eq_getElem_cons p
  have f:=H
  rw[w]at f
  unfold yF at f
  rw[List.cons_append,List.cons.injEq]at f
  have⟨hb,d⟩:=f
  have U:bs[r.at_].toNat=(ad L z).kind.toNat:=by rw[hb,toNat_ofNat Om]
  have O:(((ad L z).kind.toNat:Nat):Int)=(ad L z).kind:=Om
  have Q:=jWO f1 t1 G x1 (Oh<|tR seen (ad L z).a) (Oh<|tR seen (ad L z).b) (qN (ad L z).kind) yC ⟨r.at_+1,0,r.spot⟩ (fv L (seen++[z]) l) rfl d
  have⟨n,I⟩:=zDF u X A h0 J.1
  have g:=m.A7 u A J.1
  have o:∀v,al q v=true->zA q v≠zA L z:=fun v hv e=>by
   have⟨s,hs,_,e2⟩:=jbX m C M hv;have:=yI u _ s z rfl (m.Ez s hs) A (e2.symm.trans e);exact D<|this▸hs
  have j:=g.Cd u m.wf A o Om
  have N:=g.yr u m.wf A o
  have aq:=m.step u A J.1 g (by rw[j])
  have t:vT bs q r=((ax q { ad L z with a:=uY seen (ad L z).a,b:=uY seen (ad L z).b }).2.2,0,⟨r.at_+1+((qN (ad L z).kind).flatMap<|bq.bytes (ad L z) (c9 seen (ad L z).a)<|c9 seen (ad L z).b).length,0,r.spot⟩):=by
   rw[zv bs q r p he,U,O,Q,if_pos (by unfold uE;simp;omega)];unfold jl;simp only at n I|-;rw[n,C,I,N,if_neg Sm,if_neg Sm,j]
  have K:(ax q { ad L z with a:=uY seen (ad L z).a,b:=uY seen (ad L z).b }).2.2.length=(seen++[z]).length:=by rw[j];simp[C]
  have F:(fun x=>if x=z then(ax q { ad L z with a:=uY seen (ad L z).a,b:=uY seen (ad L z).b }).1 else uY seen x)=uY (seen++[z]):=by rw[jWS D,j,C]
  rw[F]at aq
  have R:bs.drop (r.at_+1+((qN (ad L z).kind).flatMap<|bq.bytes (ad L z) (c9 seen (ad L z).a)<|c9 seen (ad L z).b).length)=fv L (seen++[z]) l:=by
   rw[<-List.drop_drop,d,List.drop_left]
  have W:r.at_+1+((qN (ad L z).kind).flatMap<|bq.bytes (ad L z) (c9 seen (ad L z).a)<|c9 seen (ad L z).b).length<=bs.length:=by
   have:=congrArg List.length d;rw[List.length_drop,List.length_append]at this;omega
  rw[oB,if_pos p,t]
  simp only
  rw[if_neg Sm]
  have⟨E,i,g1,Y,Z,g4⟩:=ih (seen++[z]) _ ⟨_,0,r.spot⟩ (B++[r.at_]) c aq K (by simp[P]) J.2 (by simpa using y) Gd rfl W R Sy Gd
  rw[List.append_assoc,List.singleton_append]at Y Z g4
  exact⟨E,i,g1,Y,Z,g4⟩
def zAI:∀(l:List Int) (i:Nat),(∀j (h:j<l.length),l[j]=((i+j:Nat):Int)+1)->gy i l=i+l.length:=by
 intro l;induction l with
 |nil=>intro i _;rfl
 |cons s l c =>
  intro i h
  have a:=h 0 Sm
  simp only[List.getElem_cons_zero,Nat.add_zero]at a
  rw[gy,if_pos a,c (i+1) fun j b=>by have:=h (j+1) (by simpa using b);simp only[List.getElem_cons_succ]at this;rw[this];congr 2;omega,List.length_cons]
  omega
def jWC{L t}(h:al L t=true):∃az,dc L t=az++[t]:=by
 unfold dc;rw[yU,if_pos ⟨h,rfl⟩];exact⟨_,rfl⟩
def Fx{L}(f:Wf L)(A:yP L){t}(ht:al L t=true)(G:(qD L t).length<=4096):
  ∃q:av,vB (qD L t)=(some q,0,0)/\Wf q/\al q q.length=true/\zA q q.length=zA L t:=by
 have a:=EH f ht
 have c:=BU f t
 have y:(dc L t).length<=(qD L t).length:=by
  have:∀(l seen:List Int),l.length<=(fv L seen l).length:=by
   intro l;induction l with
   |nil=>intro _;simp
   |cons z l E=>intro seen;have:=Qn L seen z;have:=E<|seen++[z];rw[fv,List.length_append,List.length_cons];omega
  exact this _ _
 have B:0<(dc L t).length:=List.length_pos_of_mem a
 have⟨q, D, C, d, s, v⟩:=Wm f A (bs:=qD L t) (dc L t) [] [] ⟨0, 0, 0⟩ [] (qD L t).length (by
   have:=Cp.start (Lq:=L) Wf.nil;have e:uY []=fun _=>0:=by funext x;simp[uY]
   rw[e];exact this) rfl rfl (xJ f t) (by simpa using c) (fun z F=>xH f F) rfl (Nat.zero_le _) rfl (Nat.le_refl _) So
 rw[List.nil_append]at d s v
 have m:uY (dc L t) t=q.length:=by
  have⟨az,n⟩:=jWC ht;have p:t∉az:=by rw[n]at c;exact fun h=>(List.nodup_append.1 c).2.2 t h t Sm rfl
  unfold uY;rw[if_pos a,s,n,CK p];simp
 have⟨a1,a2⟩:=d.at_ t a
 rw[m]at a1 a2
 have b:dc q q.length=(dc L t).map (uY<|dc L t):=by
  refine OH d.wf (fun k o=>xH d.wf o) (fun k o=>?_) ?_;obtain⟨x,r,rfl⟩:=List.mem_map.1 o;exact(d.at_ x r).1;rw[J0 d.wf f a1 ht a2,List.map_map];exact List.map_congr_left fun x r=>((d.at_ x r).2).symm
 have u:gy 0 (dc q q.length)=D.length:=by
  rw[zAI,b,List.length_map,Nat.zero_add,v];intro j w;have i:j<(dc L t).length:=by rw[b,List.length_map]at w;exact w
  simp only[b,List.getElem_map,Nat.zero_add];have hm:(dc L t)[j]∈dc L t:=List.getElem_mem i;have n:c9 (dc L t) (dc L t)[j]=j:=by
   have g:=EO hm;exact(List.getElem_inj (h₀:=g) (h₁:=i) c).1<|List.getElem_idxOf g
  unfold uY;rw[if_pos hm,n]
 refine⟨q,?_,d.wf,a1,a2⟩
 unfold vB
 rw[if_neg Om,if_neg Om,C]
 unfold qh
 simp only
 rw[dif_neg Om]
def PX{L}(c:Wf L)(e:yP L){t}(ht:al L t=true)(d:(qD L t).length<=4096):
  yM L (qD L t)=(t,0,0,L)/\(yM []<|qD L t).2.1=0/\zA (yM []<|qD L t).2.2.2 (yM []<|qD L t).1=zA L t:=by
 have⟨q,h1,h2,h3,a⟩:=Fx c e ht d
 refine⟨?_,?_⟩
 unfold yM;rw[h1];simp only
 rw[zAW c h2 h3 ht a.symm]
 unfold yM;rw[h1];simp only
 have b:=VD h2 h3
 exact⟨b,by rw[(xZ Wf.nil h2 h3 b).2.2,a]⟩
def lv:Nat->List Int
 |0=>[]
 |n+1=>lv n++[(n:Int)+1]
def Ek(n):(lv n).length=n:=by induction n with
 |zero=>rfl
 |succ n a=>simp[lv,a]
def FC{n x}:x∈lv n↔1<=x/\x<=n:=by
 induction n with
 |zero=>simp[lv];omega
 |succ n a=>simp only[lv,List.mem_append,a,List.mem_singleton];omega
def NB{n:Nat}:∀{x:Int},1<=x->x<=n->c9 (lv n) x=(x-1).toNat:=by
 induction n with
 |zero=>intro x h1 h2;omega
 |succ n a =>
  intro x h1 h2
  rw[lv]
  by_cases h:x<=n
  rw[Gh<|FC.2 ⟨h1,h⟩,a h1 h]
  have:x=(n:Int)+1:=Om
  subst this
  rw[CK (by rw[FC];omega),Ek];omega
def zDM{n j}(h:j<(lv n).length):(lv n)[j]=(j:Int)+1:=by
 induction n with
 |zero=>simp[lv]at h
 |succ n a =>
  simp only[lv]
  rw[List.getElem_append]
  split
  exact a _
  rename_i h1
  have:j=n:=by rw[Ek]at h h1;omega
  subst this;simp
def _root_.Go.Proofs.bq.rT(x:gk):bq->List UInt8
 |.mn=>vF x.ay|.oG=>vF x.to|.num=>vF x.num|.ba=>vV ⟨x.ba.toArray⟩|.fst=>vF x.a|.snd=>vF x.b
def Hz:∀{l:List UInt8} {i n x:Nat},xU i n l=.error x->x≠0:=by
 intro l;induction l with
 |nil=>intro i n x h;simp[xU]at h;omega
 |cons c l a =>
  intro i n x h
  rw[xS]at h
  split at h
  cases h;decide
  grind
def uN{bs r}(h:(vY bs r).2.cm=0):r.cm=0/\bs.drop r.at_=vF (vY bs r).1++bs.drop (vY bs r).2.at_/\(vY bs r).1<18446744073709551616:=by
 unfold vY at h|-;by_cases a:r.cm=0;rw[if_pos a]at h|-;cases hr:xU 0 0 (bs.drop r.at_)with
 |error x =>
  rw[hr]at h
  simp only at h
  exact absurd h<|Hz hr
 |ok p =>
  have⟨n,k⟩:=p
  have⟨c,h1,h2,h3⟩:=Pd hr
  refine⟨a,?_,h3⟩
  simp only
  rw[<-List.drop_drop,h1,h2,List.drop_left]
 grind
def QV{bs r}(h:(qI bs 64 r).2.cm=0):r.cm=0/\bs.drop r.at_=vV ⟨(qI bs 64 r).1.toArray⟩++bs.drop (qI bs 64 r).2.at_:=by
 have a:=@uN bs r;unfold vY at a;unfold qI at h|-;by_cases i:r.cm=0;rw[if_pos i]at h a|-;cases hr:xU 0 0 (bs.drop r.at_)with
 |error x =>
  rw[hr]at h a
  simp only at h a
  exact absurd (a h).2.1 (by
   have:=(a h).2.1;intro _;have g:=congrArg List.length this;rw[List.length_append,tD Om]at g;simp at g)
 |ok p =>
  have⟨n,k⟩:=p
  rw[hr]at h a
  simp only at h a|-
  have⟨c,h1,h2,h3⟩:=Pd hr
  split at h
  simp at h
  rename_i d
  rw[if_neg d]
  split at h
  simp at h
  rename_i b
  rw[if_neg b]
  refine⟨i,?_⟩
  simp only
  have e:bs.drop (r.at_+k)=c:=by rw[<-List.drop_drop,h1,h2,List.drop_left]
  have j:n<=c.length:=by rw[<-e,List.length_drop];omega
  have hs:(ByteArray.mk (c.take n).toArray).size=n:=by show(c.take n).toArray.size=n;simp;omega
  have f:bs.drop (r.at_+k+n)=c.drop n:=by rw[<-List.drop_drop,e]
  rw[e,f]
  unfold vV
  rw[hs,h1,List.append_assoc]
  congr 1
  simp
 grind
def zHX{bs:List UInt8}{r:Rd}{x:gk}(f:bq)(h:(f.rd bs r).cm=0):r.cm=0/\bs.drop r.at_=f.rT (f.pg bs r x)++bs.drop (f.rd bs r).at_:=by
 cases f;exact⟨(uN h).1,(uN h).2.1⟩;exact⟨(uN h).1,(uN h).2.1⟩;exact⟨(uN h).1,(uN h).2.1⟩;exact QV h;exact⟨(uN h).1,(uN h).2.1⟩;exact⟨(uN h).1,(uN h).2.1⟩
def UI{bs:List UInt8}{r:Rd}{x:gk}{f g:bq}(h:f≠g):f.rT (g.pg bs r x)=f.rT x:=by
 cases f<;>cases g<;>first|rfl|exact absurd rfl h
def VC{bs f}:∀(fs:List bq) (x:gk) (r:Rd),f∉fs->f.rT (vD bs fs (x,r)).1=f.rT x:=by
 intro fs;induction fs with
 |nil=>intro x r _;rfl
 |cons g fs a =>
  intro x r h
  simp only[List.mem_cons,not_or]at h
  rw[vD,a _ _ h.2,UI h.1]
def V5{bs:List UInt8}:∀(fs:List bq) (x:gk) (r:Rd),fs.Nodup->(vD bs fs (x,r)).2.cm=0->r.cm=0/\bs.drop r.at_=fs.flatMap (fun f=>f.rT (vD bs fs (x,r)).1)++bs.drop (vD bs fs (x,r)).2.at_:=by
 intro fs;induction fs with
 |nil=>intro x r _ h;exact⟨h,rfl⟩
 |cons f fs c =>
  intro x r a h
  rw[vD]at h|-
  rw[List.nodup_cons]at a
  have⟨h1,h2⟩:=c _ _ a.2 h
  have⟨h3,b⟩:=zHX (x:=x) f h1
  refine⟨h3,?_⟩
  rw[List.flatMap_cons,b,h2,VC fs _ _ a.1,List.append_assoc]
def jXF(k):(qN k).Nodup:=by
 unfold qN;repeat' split
 all_goals decide
def zHO{bs}:∀(fs:List bq) (x:gk) (r:Rd),(x.num<18446744073709551616)->(vD bs fs (x,r)).1.num<18446744073709551616:=by
 intro fs;induction fs with
 |nil=>intro x r h;exact h
 |cons f fs b =>
  intro x r h
  rw[vD]
  refine b _ _ ?_
  cases f<;>try exact h
  simp only[bq.pg]
  by_cases a:(vY bs r).2.cm=0
  .exact(uN a).2.2
  .unfold vY at a|-
   split
   .grind
   .simp
def Lz{bs k}(h1:1<=k)(a:k<=9)(r):(vD bs (qN k) (yC,r)).1.kids=(bk k).kids.toNat/\(bq.fst∈qN k↔0<(bk k).kids)/\(bq.snd∈qN k↔1<(bk k).kids):=by
 have:k=1\/k=2\/k=3\/k=4\/k=5\/k=6\/k=7\/k=8\/k=9:=Om;rcases this with rfl|rfl|rfl|rfl|rfl|rfl|rfl|rfl|rfl<;>simp[qN,vD,bq.pg,yC,bk]
def Sw{bs:List UInt8}{q:av}{r:Rd}(R:Wf q)(K:yP q)(A:r.at_<bs.length)(P:r.cm=0)(j:(vT bs q r).2.1=0):
  Wf (vT bs q r).1/\yP (vT bs q r).1/\(vT bs q r).1.length=q.length+1/\(∀v,al q v=true->al (vT bs q r).1 v=true/\zA (vT bs q r).1 v=zA q v) /\
  bs.drop r.at_=yF (vT bs q r).1 (lv q.length) ((q.length:Int)+1)++bs.drop (vT bs q r).2.2.at_:=by
 rw[zv bs q r A P]at j|-
 have g:bs.drop r.at_=bs[r.at_] ::bs.drop (r.at_+1):=List.drop_eq_getElem_cons A
 have z:UInt8.ofNat bs[r.at_].toNat=bs[r.at_]:=Sm
 generalize bs[r.at_]=c at *
 split at j
 rename_i p
 rw[if_pos p]
 have U:1<=c.toNat/\c.toNat<=9:=by unfold uE at p;simpa using p
 have e:=@V5 bs (qN c.toNat) yC ⟨r.at_+1,0,r.spot⟩<|jXF _
 have H:=@zHO bs (qN c.toNat) yC ⟨r.at_+1,0,r.spot⟩ De
 have⟨S,l,y⟩:=@Lz bs (c.toNat:Int) Om Om ⟨r.at_+1,0,r.spot⟩
 generalize vD bs (qN c.toNat) (yC,⟨r.at_+1,0,r.spot⟩)=s at *
 have⟨x,O⟩:=s
 simp only at *
 have⟨J,B,F,h,E⟩:=HV j
 simp only at J B F h E
 rw[E]
 simp only
 have⟨_,e⟩:=e J
 have⟨W,G,T⟩:=uU h
 have u:=uQ R<|x.node c.toNat
 have n:yP (ax q<|x.node c.toNat).2.2:=K.ax (by simp only[gk.node,qW];omega)
 have i:(ax q<|x.node c.toNat).1=(q.length:Int)+1/\(ax q<|x.node c.toNat).2.2.length=q.length+1:=by
  have Q:=T;unfold ax at h|-;simp only[F]at h|-;rw[if_neg (by rw[Q];simp)]at h|-;split at h;simp at h;grind
 have⟨M,L⟩:=yG q<|x.node c.toNat
 refine⟨u,n,i.2,fun v D=>?_,?_⟩
 rw[L]at u|-;exact⟨uF D,uL u _ v rfl D⟩
 rw[i.1]at G
 rw[g,e]
 unfold yF
 rw[G]
 have o:(x.node c.toNat).kind=c.toNat:=rfl
 rw[o,Int.toNat_natCast,z,List.cons_append]
 congr 1
 congr 1
 have d:kv c.toNat q.length x O.cm=0:=B
 unfold kv at d
 rw[if_neg Om]at d
 split at d
 simp at d
 split at d
 simp at d
 rename_i C
 have V:∀(fs:List bq) (t m:bq->List UInt8),(∀f∈fs,t f=m f)->fs.flatMap t=fs.flatMap m:=by
  intro fs t m;induction fs with
  |nil=>intro _;rfl
  |cons f fs k=>intro hh;rw[List.flatMap_cons,List.flatMap_cons,hh f Sm,k Gd]
 refine V _ _ _ fun f I=>?_
 cases f
 simp[bq.rT,bq.bytes,gk.node]
 simp[bq.rT,bq.bytes,gk.node]
 simp[bq.rT,bq.bytes,gk.node]
 simp[bq.rT,bq.bytes,gk.node]
 have h2:=l.1 I
 have w:0<x.kids:=Om
 have N:x.a<q.length:=Om
 simp only[bq.rT,bq.bytes,gk.node,if_pos w]
 rw[NB Om Om]
 congr 1;omega
 have h2:=y.1 I
 have w:1<x.kids:=Om
 have N:x.b<q.length:=Om
 simp only[bq.rT,bq.bytes,gk.node,if_pos w]
 rw[NB Om Om]
 congr 1;omega
 simp at j
def Lf{bs}:∀(b:Nat) (q:av) (r:Rd) (c:List Nat) (a:av),Wf q->yP q->c.length=q.length->r.cm=0->r.at_<=bs.length->bs.length - r.at_<=b->bs.take r.at_=fv q [] (lv q.length)->(oB bs b q r c).1=some a ->
  Wf a/\yP a/\q.length<=a.length/\bs=fv a [] (lv a.length)/\a.length<=gy 0 (dc a a.length):=by
 have e:∀(q:av) (c:List Nat) (a:av),c.length=q.length->(qh q c).1=some a->q=a/\q.length<=gy 0 (dc q q.length):=by
  intro q c a j h;unfold qh at h;simp only at h;split at h;cases h;grind
 intro b
 induction b with
 |zero =>
  intro q r c a k n j o s C ht h
  obtain⟨rfl,h2⟩:=e q c a j h
  rw[List.take_of_length_le Om]at ht
  exact⟨k,n,Nat.le_refl _,ht,h2⟩
 |succ b B =>
  intro q r c a k n j o s C ht h
  by_cases m:r.at_<bs.length
  rw[oB,if_pos m]at h
  by_cases p:(vT bs q r).2.1=0
  rw[if_neg<|by simpa using p]at h
  have⟨s1,A,u,E,t⟩:=Sw k n m o p
  have⟨a1,a2,a3⟩:=Iu bs q r m o p
  have f:bs.take (vT bs q r).2.2.at_=fv (vT bs q r).1 [] (lv (vT bs q r).1.length):=by
   have i:∀z∈lv q.length,al q z=true:=fun z D=>zI.2<|FC.1 D;have g:fv q [] (lv q.length)=fv (vT bs q r).1 [] (lv q.length):=
    KC k s1 _ _ [] [] i Gd Sm Sm (List.map_congr_left Gd) rfl
   rw[u,lv,H6,List.nil_append,<-g,<-ht];have d:bs.take (vT bs q r).2.2.at_=bs.take r.at_++(bs.drop r.at_).take ((vT bs q r).2.2.at_-r.at_):=by
    rw[<-List.take_add];congr 1;omega
   rw[d];congr 1;have l:=congrArg List.length t;rw[List.length_drop,List.length_append,List.length_drop]at l;rw[t,List.take_append_of_le_length Om,List.take_of_length_le Om]
  have⟨y,w,F,x,v⟩:=B _ _ _ a s1 A (by simp[j,u]) a3 a2 Om f h
  exact⟨y,w,Om,x,v⟩
  grind
  rw[Fz m]at h
  obtain⟨rfl,h2⟩:=e q c a j h
  rw[List.take_of_length_le Om]at ht
  exact⟨k,n,Nat.le_refl _,ht,h2⟩
def Mn:∀(l:List Int) (i m:Nat),i+m<=gy i l->m<=l.length/\∀j (h:j<l.length),j<m->l[j]=((i+j:Nat):Int)+1:=by
 intro l;induction l with
 |nil=>intro i m h;rw[gy]at h;exact⟨So,fun j h=>(by simp at h)⟩
 |cons s l c =>
  intro i m h
  rw[gy]at h
  split at h
  rename_i hs
  cases m with
  |zero=>exact⟨Sm,fun j _ a=>Om⟩
  |succ m =>
   have⟨h1,h2⟩:=c (i+1) m Om
   refine⟨by rw[List.length_cons];omega,fun j a b=>?_⟩
   cases j with
   |zero=>simp[hs]
   |succ j=>simp only[List.getElem_cons_succ];rw[h2 j (by simpa using a) Om];congr 2;omega
  exact⟨So,fun j _ a=>Om⟩
def xB{bs q}(h:(vB bs).1=some q):Wf q/\yP q/\al q q.length=true/\qD q q.length=bs/\bs.length<=4096:=by
 unfold vB at h;split at h;cases h;split at h;cases h;rename_i h1 h2;have⟨c,i,_,a,k⟩:=Lf bs.length [] ⟨0,0,0⟩ [] q Wf.nil yP.nil rfl rfl (Nat.zero_le _) (Nat.le_refl _) (by simp[lv,fv]) h;have d:0<q.length:=by
  rcases Nat.eq_zero_or_pos q.length with e|e;rw[e,lv,fv]at a;rw[a]at h2;simp at h2;exact e
 have b:al q q.length=true:=zI.2 ⟨Om,Om⟩;have⟨l,g⟩:=Mn (dc q q.length) 0 q.length Om;have f:=uW c q.length;have hs:dc q q.length=lv q.length:=by
  refine List.ext_getElem (by rw[Ek];omega) fun j h1 h2=>?_;rw[g j h1 Gd,zDM];simp
 refine⟨c,i,b,?_,Om⟩;unfold qD;rw[hs];exact a.symm
def jTH{Lq}(d:yP Lq):∀(l:List Int) (L:av) (ak:Int->Int),yP L->yP (zT Lq l L ak).1:=by
 intro l;induction l with
 |nil=>intro L ak h;exact h
 |cons z l f =>
  intro L ak h
  obtain⟨x,e,c,hm⟩:∃x e c,ax L { ad Lq z with a:=ak (ad Lq z).a,b:=ak (ad Lq z).b }=(x,e,c):=⟨_,_,_,rfl⟩
  have h2:=h.ax (n:={ ad Lq z with a:=ak (ad Lq z).a,b:=ak (ad Lq z).b })<|d.node z
  rw[qG Lq z l L ak rfl hm]
  rw[hm]at h2
  split
  exact h
  exact f _ _ h2
def Np{L Lq}(h:yP L)(a:yP Lq)(t):yP (vI L Lq t).2.2:=by
 unfold vI;split;simp only;split;exact h;exact jTH a _ _ _ h;exact h
def I4{L}(h:yP L)(bs):yP (yM L bs).2.2.2:=by
 unfold yM;cases a:(vB bs).1 with
 |none=>exact h
 |some q=>exact Np h (xB a).2.1 _
def CP{L}(h:Wf L)(bs):Wf (yM L bs).2.2.2:=by
 unfold yM;cases d:(vB bs).1 with
 |none=>exact h
 |some q =>
  have⟨b,_,c,_⟩:=xB d
  by_cases a:(vI L q q.length).2.1=0
  exact(xZ h b c a).1
  simp only;rw[((Zn h b _).resolve_left a).2];exact h
def xQ{bs}(h:(vB bs).1=none):(vB bs).2.1≠0:=by
 have c:∀(q:av) (b:List Nat),(qh q b).1=none->(qh q b).2.1≠0:=by
  intro q b h;unfold qh at h|-;simp only at h|-;split at h;grind;cases h
 have d:∀(bs:List UInt8) (a:Nat) (q:av) (r:Rd) (b:List Nat),(oB bs a q r b).1=none->(oB bs a q r b).2.1≠0:=by
  intro bs a;induction a with
  |zero=>intro q r b h;exact c _ _ h
  |succ a e =>
   intro q r b h
   rw[oB]at h|-
   split at h
   grind
   grind
 unfold vB at h|-;split at h;grind;grind
def JF{bs q}(h:(vB bs).1=some q):(vB bs).2.1=0:=by
 have c:∀(q:av) (b:List Nat) (x:av),(qh q b).1=some x->(qh q b).2.1=0:=by
  intro q b x h;unfold qh at h|-;simp only at h|-;split at h;cases h;grind
 have d:∀(a:Nat) (q:av) (r:Rd) (b:List Nat) (x:av),(oB bs a q r b).1=some x->(oB bs a q r b).2.1=0:=by
  intro a;induction a with
  |zero=>intro q r b x h;exact c _ _ _ h
  |succ a e =>
   intro q r b x h
   rw[oB]at h|-
   split at h
   grind
   grind
 unfold vB at h|-;split at h;cases h;grind
def Rm{L}(j:Wf L){bs}(a:(yM L bs).2.1=0):Wf (yM L bs).2.2.2/\al (yM L bs).2.2.2 (yM L bs).1=true/\qD (yM L bs).2.2.2 (yM L bs).1=bs/\bs.length<=4096:=by
 cases b:(vB bs).1 with
 |none =>
  unfold yM at a;rw[b]at a
  exact absurd a<|xQ b
 |some q =>
  have⟨e,k,c,h,g⟩:=xB b
  unfold yM at a|-
  rw[b]at a|-
  simp only at a|-
  have⟨f,d,i⟩:=xZ j e c a
  exact⟨f,d,by rw[FI f e d c i,h],g⟩
end Go.Proofs
end
section
open Go Go.SE
namespace Go.Proofs
open Tryz
attribute [local irreducible] Calls CallsD
def gk.cells(k:Nat)(x:gk):List Value:=[vi k,vi 0,vi 0,vu x.num,vs ⟨x.ba.toArray⟩,vi 0,vi 0,vu x.ay,vu x.to,vu x.a,vu x.b,vi x.kids]
def jYS(bs:List UInt8)(r:Rd)(k:Nat)(x:gk)(f:bq):f.rH bs r (x.cells k)=(f.pg bs r x).cells k:=by cases f<;>rfl
def W5(bs):∀(a b:List bq) (s:gk×Rd),vD bs (a++b) s=vD bs b (vD bs a s):=by
 intro a;induction a with
 |nil=>intro b s;rfl
 |cons f a c=>intro b s;have⟨x,r⟩:=s;rw[List.cons_append,vD,vD,c]
def jSL(bs)(fs:List bq)(j)(a:j<fs.length)(s:gk×Rd):vD bs (fs.take<|j+1) s=(fs[j].pg bs (vD bs (fs.take j) s).2 (vD bs (fs.take j) s).1,fs[j].rd bs (vD bs (fs.take j) s).2):=by
 rw[List.take_succ_eq_append_getElem a,W5];have⟨x,r⟩:=vD bs (fs.take j) s;rfl
def VG(f:bq):∀args w,(callFunc f.get args).run prog w=.ok (.enter f.get args) w:=by
 cases f;exact call251;exact call254;exact call256;exact call259;exact call262;exact call264
structure pr(w:World)(q a:Addr)(s:Sl)(bs:List UInt8)(L:av)(r:Rd)(m:Nat)(S c F:NP):Prop where
 bj:zD w q L c
 rd:fj S w a s bs r
 mf:pQ w m F
 lS:∀b,S b->b<w.heap.size
 la:a.block<w.heap.size
 dP:∀b,c b->b≠a.block/\¬S b/\¬F b/\b≠m
 dF:∀b,F b->b≠a.block/\¬S b
 dm:m≠a.block/\¬S m
def pr.ext{w w' q a s bs L r m S FP F G}(h:pr w q a s bs L r m S FP F)(E:ab G w w')(d:∀b,b<w.heap.size->¬G b):pr w' q a s bs L r m S FP F:=
 ⟨h.bj.ext E fun b c=>d b<|h.bj.lt c,h.rd.ext E (fun b c=>d b<|h.lS b c)<|d _ h.la,h.mf.ext E fun b c=>d b<|c.elim (h.mf.lt b) fun e=>e▸h.mf.Ar,fun b c=>Nat.lt_of_lt_of_le (h.lS b c) E.size,Nat.lt_of_lt_of_le h.la E.size,h.dP,h.dF,h.dm⟩
def pr.pure{w w' q a s bs L r m S FP F}(h:pr w q a s bs L r m S FP F)(E:Pure w w'):pr w' q a s bs L r m S FP F:=h.ext E fun _ _ h=>h
def sM{n:Nat}(h:n<9223372036854775808):IntKind.i64.wrap (n:Int)=(n:Int):=IntWalk.i64_in _ Om
def DM(n:Nat):pG (n:Int)=if 2147483647<n then -1 else(n:Int):=by
 unfold pG;by_cases h:2147483647<n;grind;rw[if_neg h,show decide ((n:Int)>2147483647)=false by simp;omega];exact sM Om
def RD(k f t:Nat)(u:Int)(x:ByteArray)(a b:Int):AS (k:Int) (pG (f:Int)) (pG (t:Int)) u x a b=if 16<=f\/16<=t\/((k=8\/k=9)/\f=t)then 50 else 0:=by
 unfold AS;rw[DM,DM];have key:((((decide ((if 2147483647<f then -1 else(f:Int))<0) ||decide ((if 2147483647<f then -1 else(f:Int))>=16)) ||decide ((if 2147483647<t then -1 else(t:Int))<0)) ||decide ((if 2147483647<t then -1 else(t:Int))>=16)) ||((((k:Int)==8) ||((k:Int)==9))&&((if 2147483647<f then -1 else(f:Int))==(if 2147483647<t then -1 else(t:Int)))))=decide (16<=f\/16<=t\/((k=8\/k=9)/\f=t)):=Gd;rw[key];by_cases h:16<=f\/16<=t\/((k=8\/k=9)/\f=t);grind;grind
def Iw{w p n cs T}(h:ai w p (tK n++cs) T):Row w p (tK n):=fun i hi=>by
 have:=h.row i Gd;rw[List.getElem?_append_left hi]at this;exact this
def TL(q a s bs r m){S FP F L}(p n cs){w}(h:pr w q a s bs L r m S FP F)(g:Ok L)(hB:ai w p (tK n++cs) 314)(z:¬ FP p.block)(K:Int->WP)(i:∀x w',x=(if (find L n).isSome=true then 72 else (ax L n).2.1)->(∃F',zD w' q (if (find L n).isSome=true then L else (ax L n).2.2) F'/\fj S w' a s bs r/\ab FP w w'/\∀b,F' b->FP b\/w.heap.size<=b)->K x w'):
  Ck (some q) p ar w K:=by
 refine⟨n.kind,n.ay,n.to,n.num,n.ba,n.a,n.b,Iw hB,?_⟩
 refine(Gp q n w h.bj g).mono ?_
 rintro _ o ⟨x,ok,rfl,y,c⟩
 refine⟨_,_,rfl,c.bo,fun e=>?_,fun e=>?_⟩
 have:(find L n).isSome=true:=Gd
 rw[if_pos this,if_pos this]at i
 exact i _ _ rfl ⟨FP,h.bj.pure c,h.rd.pure c,ab.pure c,fun b d=>.inl d⟩
 have:¬(find L n).isSome=true:=Gd
 rw[if_neg this,if_neg this]at i
 refine⟨n.kind,n.ay,n.to,n.num,n.ba,n.a,n.b,Iw<|hB.pure c,?_⟩
 refine(rY q n.kind n.ay n.to n.num n.ba n.a n.b o (h.bj.pure c) g).mono ?_
 rintro _ A ⟨u,l,rfl,t,F',v,j,k⟩
 have f:=congrArg Prod.snd t
 simp only at f
 refine⟨u,l,rfl,j.bl fun b d=>d.elim,i _ _ f ⟨F',v,(h.rd.pure c).ext j (fun b d hh=>(h.dP b hh).2.1 d) fun hh=>(h.dP _ hh).1 rfl,(ab.pure c).trans j,fun b d=>(k b d).elim .inl fun d=>.inr<|Oh c.size⟩⟩
def ZH(k:Nat)(x:gk):(((x.cells k).set 1<|vi<|pG x.ay).set 2<|vi<|pG x.to)=tK ⟨k,pG x.ay,pG x.to,x.num,⟨x.ba.toArray⟩,0,0⟩++[vu x.ay,vu x.to,vu x.a,vu x.b,vi x.kids]:=rfl
def SZ(n cs v):(tK n++cs).set 5 (vi v)=tK { n with a:=v }++cs:=rfl
def zDD(n cs v):(tK n++cs).set 6 (vi v)=tK { n with b:=v }++cs:=rfl
def U2(q a:Addr)(s:Sl)(bs:List UInt8)(r:Rd)(m:Nat){S l F:NP}{L:av}(p:Addr)(k:Nat)(x:gk){w:World}(h:pr w q a s bs L r m S l F)(t:Ok L)(h1:x.ay<16)(h2:x.to<16)(P:0<x.kids->x.a<L.length)(B:1<x.kids->x.b<L.length)(hB:ai w p (tK ⟨k,pG x.ay,pG x.to,x.num,⟨x.ba.toArray⟩,0,0⟩++[vu x.ay,vu x.to,vu x.a,vu x.b,vi x.kids]) 314)(z:p.block≠a.block/\¬ S p.block/\¬ l p.block/\¬ F p.block/\p.block≠m)(K:Int->WP)(U:∀y w',y=(if (find L<|x.node k).isSome=true then 72 else (ax L<|x.node k).2.1)->(∃F',zD w' q (if (find L<|x.node k).isSome=true then L else (ax L<|x.node k).2.2) F'/\fj S w' a s bs r/\ab (fun b=>l b\/b=p.block) w w'/\∀b,F' b->l b\/w.heap.size<=b)->K y w'):
  Ax (some q) p false ar w K:=by
 have J:=t.fm
 have fs:pG (x.ay:Int)=(x.ay:Int):=by rw[DM,if_neg Om]
 have ts:pG (x.to:Int)=(x.to:Int):=by rw[DM,if_neg Om]
 rw[fs,ts]at hB
 have A:∀{w w':World} {i:Nat} {v:Value},pr w q a s bs L r m S l F->w'=w.setCell (p.add i) v->pr w' q a s bs L r m S l F/\ab (·=p.block) w w':=fun {w w' i v} h e=>by
  have E:ab (·=p.block) w w':=by rw[e];exact qR
  refine⟨⟨h.bj.ext E Gd,h.rd.ext E Gd fun e=>z.1 e.symm,h.mf.ext E Gd,fun b B=>Nat.lt_of_lt_of_le (h.lS b B) E.size,Nat.lt_of_lt_of_le h.la E.size,h.dP,h.dF,h.dm⟩,E⟩
 have O:∀n:Nat,n<L.length->IntKind.i64.wrap (IntKind.u64.wrap<|(n:Int)+1)=(n:Int)+1:=fun n M=>by
  rw[show(n:Int)+1=((n+1:Nat):Int) by omega,qB Om,sM Om]
 have D : ∀ (j vb : Int) (g : World), pr g q a s bs L r m S l F -> ai g p (tK ⟨k, x.ay, x.to, x.num, ⟨x.ba.toArray⟩, j, vb⟩ ++ [vu x.ay, vu x.to, vu x.a, vu x.b, vi x.kids]) 314 -> ab (· = p.block) w g ->
   j=(if 0<x.kids then(x.a:Int)+1 else 0)->vb=(if 1<x.kids then(x.b:Int)+1 else 0)->Ck (some q) p ar g K:=by
  intro j vb g h1 d C o G
  have M:(⟨k,x.ay,x.to,x.num,⟨x.ba.toArray⟩,j,vb⟩:df)=x.node k:=by subst o G;rfl
  rw[M]at d
  refine TL q a s bs r m p (x.node k) _ h1 t d z.2.2.1 K fun y w' W ⟨F',V,Q,R,T⟩=>U y w' W ⟨F',V,Q,(C.mono fun b _ h=>.inr h).trans<|R.mono fun b _ h=>.inl h,fun b B=>(T b B).imp id fun h=>Oh C.size⟩
 refine⟨fun c=>(by cases c),fun _=>⟨x.kids,hB.cell (i:=11) rfl,?_⟩⟩
 have N : ∀ (j : Int) (g : World), pr g q a s bs L r m S l F -> ai g p (tK ⟨k, x.ay, x.to, x.num, ⟨x.ba.toArray⟩, j, 0⟩ ++ [vu x.ay, vu x.to, vu x.a, vu x.b, vi x.kids]) 314 -> ab (· = p.block) w g ->
   j=(if 0<x.kids then(x.a:Int)+1 else 0)->Fb (some q) p ar g K:=by
  intro j g h1 d C o
  refine⟨x.kids,d.cell (i:=11) rfl,fun c=>?_,fun c=>?_⟩
  have c:1<x.kids:=Oh<|of_decide_eq_true c
  refine⟨x.b,d.cell (i:=10) rfl,d.ee (i:=6)<|by simp[tK],id,?_⟩
  rintro I u
  have⟨h2,H⟩:=A h1 u
  have f:=d.set 6<|vi<|IntKind.i64.wrap<|IntKind.u64.wrap<|(x.b:Int)+1
  rw[<-u,zDD,O _<|B c]at f
  exact D j _ I h2 f (C.trans H) o (by rw[if_pos c])
  grind
 refine⟨fun c=>?_,fun c=>?_⟩
 have c:0<x.kids:=Oh<|of_decide_eq_true c
 refine⟨x.a,hB.cell (i:=9) rfl,hB.ee (i:=5)<|by simp[tK],id,?_⟩
 rintro I u
 have⟨h2,H⟩:=A h u
 have f:=hB.set 5<|vi<|IntKind.i64.wrap<|IntKind.u64.wrap<|(x.a:Int)+1
 rw[<-u,SZ,O _<|P c]at f
 exact N _ I h2 f H (by rw[if_pos c])
 have c:¬0<x.kids:=Oh<|of_decide_eq_false c
 exact N 0 w h hB (ab.refl _) (by rw[if_neg c])
def zBC(q a s bs r m){S FP F L w0}(h:pr w0 q a s bs L r m S FP F)(hok:Ok L)(I:r.at_<bs.length)(he:r.cm=0):
  cl 185 #[vp<|some q,vp<|some a,.map<|some m] w0<|XB fun y w'=>y=(vT bs L r).2.1/\∃F',zD w' q (vT bs L r).1 F'/\fj S w' a s bs (vT bs L r).2.2/\ab (fun b=>FP b\/b=a.block) w0 w'/\∀b,F' b->FP b\/w0.heap.size<=b:=by
 refine w_H (some q) (some a) (some m) w0 _ ?_
 refine(jaQ a s bs r w0 h.rd (Nat.le_of_lt I) h.lS).mono ?_
 rintro _ w1 ⟨_,rfl,rfl,J,K⟩
 refine⟨_,rfl,K.bl fun b c=>c.elim,?_⟩
 rw[zv bs L r I he]
 rw[PD bs r I he]at J|-
 simp only at J|-
 generalize hk:bs[r.at_].toNat=k at *
 have hk256:k<256:=by rw[<-hk];exact bs[r.at_].toNat_lt
 have S1:pr w1 q a s bs L ⟨r.at_+1,0,r.spot⟩ m S FP F:=⟨h.bj.ext K fun b c e=>(h.dP b c).1 e,J,h.mf.ext K fun b c e=>c.elim (fun c=>(h.dF b c).1 e) fun c=>h.dm.1<|c.symm.trans e,fun b c=>Nat.lt_of_lt_of_le (h.lS b c) K.size,Nat.lt_of_lt_of_le h.la K.size,h.dP,h.dF,h.dm⟩
 intro l w2 n2
 rw[sM Om]at n2
 have E2:Pure w1 w2:=ab.aw n2
 have S2:=S1.pure E2
 have B2:ai w2 l (yC.cells k) 314:=ai.fp n2
 have bp:=n2.cu
 have z1:=K.size
 have E02:ab (·=a.block) w0 w2:=K.fb E2
 refine⟨k,B2.bd,?_⟩
 by_cases z:uE k=true
 have hk19:1<=k/\k<=9:=by unfold uE at z;simpa using z
 have⟨v2,P,U⟩:=S2.mf.get (k:Int) Om Om true
 refine⟨v2,true,P,fun d=>(by cases d),fun _=>?_⟩
 rw[if_pos z]
 generalize X:qN (k:Int)=fs at *
 have hf3:fs.length<=3:=by rw[<-X];exact FS _
 have hrat:∀j,(vD bs (fs.take j) (yC,⟨r.at_+1,0,r.spot⟩)).2.at_<=bs.length:=fun j=>(QO bs (fs.take j) yC ⟨r.at_+1,0,r.spot⟩ Sy).2
 refine⟨fun x1 Hl w=>∃j:Nat,x1=j/\j<=fs.length/\Hl=ar/\pr w q a s bs L (vD bs (fs.take j) (yC,⟨r.at_+1,0,r.spot⟩)).2 m S FP F/\ai w l ((vD bs (fs.take j) (yC,⟨r.at_+1,0,r.spot⟩)).1.cells k) 314/\dn F w 2 v2 (fs.map bq.row)/\ab (·=a.block) w0 w,fun x1 _=>((fs.length:Int)-x1).toNat,⟨0,rfl,Nat.zero_le _,rfl,S2,B2,U,E02⟩,?_⟩
 rintro _ _ wl _ ⟨j,rfl,hj,rfl,hS,hB,hL,hE⟩
 unfold QA
 have H:v2.len=fs.length:=by rw[hL.len,List.length_map]
 have ple:l.block<wl.heap.size:=hB.lt
 have zE:=hE.size
 have nS:¬S l.block:=fun hh=>Oh<|h.lS _ hh
 have nF:¬F l.block:=fun hh=>Oh<|h.mf.lt _ hh
 have nP:¬FP l.block:=fun hh=>Oh<|h.bj.lt hh
 have na:l.block≠a.block:=fun hh=>Oh h.la
 have nm:l.block≠m:=fun hh=>Oh h.mf.Ar
 refine⟨fun d=>?_,fun d=>?_⟩
 have d:=vW H d
 have⟨a1,hat,_,W⟩:=hL.mm d
 refine⟨a1,hat,_,_,W,?_⟩
 intro p2 w3 n3
 have E3:Pure wl w3:=ab.aw n3
 refine⟨⟨rfl,fun i hi=>(ai.fp n3).ee<|by simpa using hi⟩,id,?_⟩
 rintro w4 e4
 have X4:ab (·=p2.block) w3 w4:=by rw[e4];exact ab.bb _ _ _
 have B4:ai w4 p2 [.func (.func fs[j].put) #[] #[],.func (.func fs[j].get) #[] #[]] 255:=by rw[e4];exact(ai.fp n3).store rfl
 have hp2:=n3.cu
 have B:Pure wl w4:=E3.ak Gd X4
 have S4:=hS.pure B
 refine⟨_,B4.cell (i:=1) rfl,fs[j].get,#[],#[],rfl,VG fs[j],?_⟩
 refine(jcR fs[j] a l s bs _ _ w4 S4.rd (hrat j) S4.lS (hB.pure B) rfl (fun e=>na e.symm) fun b c e=>nS<|e▸c).mono ?_
 rintro _ w5 ⟨rfl,hR5,V,N⟩
 rw[jYS]at V
 have Q:=jSL bs fs j d (yC,⟨r.at_+1,0,r.spot⟩)
 refine⟨rfl,N.bl fun b c=>c.elim,⟨j+1,zN d Om,d,rfl,?_,?_,?_,?_⟩,by rw[zN d Om];exact yY d⟩
 rw[Q]
 exact⟨S4.bj.ext N fun b c e=>e.elim (fun e=>(h.dP b c).1 e) fun e=>nP<|e▸c,hR5,S4.mf.ext N fun b c e=>c.elim (fun c=>e.elim (fun e=>(h.dF b c).1 e) fun e=>nF<|e▸c) fun c=>e.elim (fun e=>h.dm.1<|c.symm.trans e) fun e=>nm<|e.symm.trans c,fun b c=>Nat.lt_of_lt_of_le (S4.lS b c) N.size,Nat.lt_of_lt_of_le S4.la N.size,h.dP,h.dF,h.dm⟩
 rw[Q];exact V
 exact(hL.pure B).ext N fun b c e=>e.elim (fun e=>(h.dF b c).1 e) fun e=>nF<|e▸c
 exact(hE.fb B).cg N Gd
 have d:=yJ H hj d
 subst d
 rw[List.take_length]at hS hB
 have Y:=(@Lz bs (k:Int) Om Om ⟨r.at_+1,0,r.spot⟩).1
 rw[X]at Y
 generalize vD bs fs (yC,⟨r.at_+1,0,r.spot⟩)=st at *
 have⟨x,f⟩:=st
 simp only at hS hB Y
 have fin : ∀ (y : Int) (w : World) (F' : NP), zD w q (jl L k (x, f)).1 F' -> fj S w a s bs (jl L k (x, f)).2.2 -> ab (fun b => FP b \/ b = a.block) w0 w -> (∀ b, F' b -> FP b \/ w0.heap.size <= b) -> y = (jl L k (x, f)).2.1 ->
   y=(jl L k (x,f)).2.1/\∃F',zD w q (jl L k (x,f)).1 F'/\fj S w a s bs (jl L k (x,f)).2.2/\ab (fun b=>FP b\/b=a.block) w0 w/\∀b,F' b->FP b\/w0.heap.size<=b:=fun y w F' a1 a2 a3 a4 a5=>⟨a5,F',a1,a2,a3,a4⟩
 have hEo:ab (fun b=>FP b\/b=a.block) w0 wl:=hE.mono fun b _ h=>.inr h
 have M:∀(e:Nat) (w:World),kv k L.length x f.cm=e->e≠0->ab (·=l.block) wl w->(((e:Nat):Int)=(jl L k (x,f)).2.1/\∃F',zD w q (jl L k (x,f)).1 F'/\fj S w a s bs (jl L k (x,f)).2.2/\ab (fun b=>FP b\/b=a.block) w0 w/\∀b,F' b->FP b\/w0.heap.size<=b):=by
  intro e w C h0 E;have hr:jl L k (x,f)=(L,(e:Int),f):=by
   unfold jl;simp only;rw[if_pos (by rw[C];exact h0),C]
  rw[hr];exact⟨rfl,FP,hS.bj.ext E fun b c e=>nP<|e▸c,hS.rd.ext E (fun b c e=>nS<|e▸c) fun e=>na e.symm,hEo.cg E fun i hi e=>Om,fun b c=>.inl c⟩
 refine(jcG a s bs f wl hS.rd).mono ?_
 rintro _ w6 ⟨_,_,rfl,rfl,rfl,Z⟩
 have S6:=hS.pure Z
 have B6:=hB.pure Z
 refine⟨_,_,rfl,Z.bo,fun d=>?_,fun d=>?_⟩
 have d:f.cm≠0:=Oh<|bne_iff_ne.1 d
 exact M f.cm w6 (by unfold kv;rw[if_pos d]) d<|ab.pure Z
 have d:f.cm=0:=Gd
 refine⟨fun w'=>w'.cell? (l.add 8)=some (vu x.to),(B6.pure<|ab.drew w6).cell (i:=8) rfl,?_⟩
 rintro w7 e7
 have E7:Pure w6 w7:=by rw[e7];exact ab.drew w6
 have B7:=B6.pure E7
 refine⟨x.ay,B7.cell (i:=7) rfl,x.to,fun w' hw'=>hw',?_⟩
 refine(Nw (x.ay:Int) w7).mono ?_
 rintro _ w8 ⟨rfl,E8⟩
 have B8:=B7.pure E8
 refine⟨_,rfl,B8.cell (i:=8) rfl,E8.bo,?_⟩
 refine(Nw (x.to:Int) w8).mono ?_
 rintro _ w9 ⟨rfl,E9⟩
 have B9:=B8.pure E9
 refine⟨_,rfl,B9.cell (i:=8) rfl,E9.bo,B9.ee (i:=1)<|by simp[gk.cells],id,?_⟩
 rintro R e10
 have X10:ab (·=l.block) w9 R:=by rw[e10];exact qR
 have G:=B9.set 1<|vi<|pG x.ay
 rw[<-e10]at G
 refine⟨G.cell (i:=8) rfl,G.ee (i:=2)<|by simp[gk.cells],id,?_⟩
 rintro D e11
 have X11:ab (·=l.block) R D:=by rw[e11];exact qR
 have O:=G.set 2<|vi<|pG x.to
 rw[<-e11,ZH]at O
 have g:ab (·=l.block) wl D:=((ab.pure<|((Z.trans E7).trans E8).trans E9).trans X10).trans X11
 have S11:pr D q a s bs L f m S FP F:=⟨hS.bj.ext g fun b c e=>nP<|e▸c,hS.rd.ext g (fun b c e=>nS<|e▸c) fun e=>na e.symm,hS.mf.ext g Gd,fun b c=>Nat.lt_of_lt_of_le (hS.lS b c) g.size,Nat.lt_of_lt_of_le hS.la g.size,h.dP,h.dF,h.dm⟩
 refine⟨k,pG x.ay,pG x.to,x.num,⟨x.ba.toArray⟩,0,0,Iw O,?_⟩
 rw[RD]
 by_cases u:16<=x.ay\/16<=x.to\/((k=8\/k=9)/\x.ay=x.to)
 rw[if_pos u]
 refine⟨fun _ A p=>?_,fun d=>(by cases d)⟩
 exact M 50 A (by unfold kv;rw[if_neg Om,if_pos u]) De<|g.fb p.ext
 rw[if_neg u]
 refine⟨fun d=>(by cases d),fun _ A p=>?_⟩
 have t:Pure D A:=p.ext
 have T:=S11.pure t
 refine(HZ q A T.bj).mono ?_
 rintro _ n ⟨_,rfl,rfl,rfl⟩
 have o:=O.pure t
 have hLs:=hok.fm
 refine⟨_,rfl,aj.refl _,x.kids,o.cell (i:=11) rfl,?_⟩
 rw[qB Om]
 have v:((0<x.kids/\L.length<=x.a)\/(1<x.kids/\L.length<=x.b))->((71:Int)=(jl L k (x,f)).2.1/\∃F',zD n q (jl L k (x,f)).1 F'/\fj S n a s bs (jl L k (x,f)).2.2/\ab (fun b=>FP b\/b=a.block) w0 n/\∀b,F' b->FP b\/w0.heap.size<=b):=fun hh =>
  M 71 n (by unfold kv;rw[if_neg Om,if_neg u,if_pos hh]) De<|g.fb t
 have good:¬((0<x.kids/\L.length<=x.a)\/(1<x.kids/\L.length<=x.b))->Ax (some q) l false ar n (fun y w'=>y=(jl L k (x,f)).2.1/\∃F',zD w' q (jl L k (x,f)).1 F'/\fj S w' a s bs (jl L k (x,f)).2.2/\ab (fun b=>FP b\/b=a.block) w0 w'/\∀b,F' b->FP b\/w0.heap.size<=b):=fun hh=>by
  have hr:jl L k (x,f)=(if(find L<|x.node k).isSome=true then L else(ax L<|x.node k).2.2,if(find L<|x.node k).isSome=true then 72 else(ax L<|x.node k).2.1,f):=by
   have C:kv k L.length x f.cm=0:=by unfold kv;rw[if_neg Om,if_neg u,if_neg hh]
   unfold jl;simp only;rw[if_neg (by rw[C];simp)];split<;>rfl
  rw[hr];refine U2 q a s bs f m l k x T hok Om Om Om Om o ⟨na,nS,nP,nF,nm⟩ _ ?_;rintro y w' hy ⟨F',g1,g2,g3,g4⟩;exact⟨hy,F',g1,g2,(hEo.cg (g.fb t) fun i hi e=>Om).cg g3 Gd,fun b c=>(g4 b c).imp id fun hh=>Oi g.size t.size⟩
 have j5:∀x3:Bool,x3=decide (0<x.kids/\L.length<=x.a)->Dm (some q) l (L.length:Int) x3 ar n (fun y w'=>y=(jl L k (x,f)).2.1/\∃F',zD w' q (jl L k (x,f)).1 F'/\fj S w' a s bs (jl L k (x,f)).2.2/\ab (fun b=>FP b\/b=a.block) w0 w'/\∀b,F' b->FP b\/w0.heap.size<=b):=by
  intro x3 h3;refine⟨fun d=>?_,fun d=>?_⟩;rw[d]at h3;have h3:=of_decide_eq_true h3.symm;exact⟨fun _=>v<|.inl h3,fun d=>(by cases d)⟩;rw[d]at h3;have h3:=of_decide_eq_false h3.symm;refine⟨x.kids,o.cell (i:=11) rfl,fun d=>?_,fun d=>?_⟩;have d:=of_decide_eq_true d;refine⟨x.b,o.cell (i:=10) rfl,?_⟩;rw[qB Om];by_cases c:L.length<=x.b;rw[decide_eq_true<|show(x.b:Int)>=(L.length:Int) by omega];exact⟨fun _=>v<|.inr ⟨Om,c⟩,fun d=>(by cases d)⟩;grind;grind
 refine⟨fun d=>?_,fun d=>?_⟩
 have d:=of_decide_eq_true d
 refine⟨x.a,o.cell (i:=9) rfl,j5 _ ?_⟩
 rw[decide_eq_decide];omega
 have d:=of_decide_eq_false d
 refine j5 _ ?_
 rw[decide_eq_false];omega
 have hnk:¬(1<=(k:Int)/\(k:Int)<=9):=fun hh=>z (by unfold uE;simp;omega)
 refine⟨_,false,S2.mf.none (k:Int) hnk,fun _=>?_,fun d=>(by cases d)⟩
 rw[if_neg z]
 exact⟨rfl,FP,S2.bj,S2.rd,E02.mono fun b _ h=>.inr h,fun b c=>.inl c⟩
end Go.Proofs
end
section
open Go Go.SE List
open Go.IntKind renaming i64 -> q6
namespace Go.Proofs
open Tryz
set_option maxRecDepth 100000
set_option maxHeartbeats 4000000
attribute [local irreducible] bu ft fg dw Calls
attribute [local irreducible] jq W WV WR yW pv ku jd nz ka lq ky lj mz mo iq fa im mv kq kp uP xG yA bn ub
def SJ(p1:Option Addr)(aA:Option Addr)(t1:Int)(L:World)(K:Int->Int->WP):Prop:=∀p2 w1,au L (.cells #[(vp p1)] 91) p2 w1->∀p3 w2,au w1 (.cells #[(vp aA)] 91) p3 w2->∀d w3,au w2 (.cells #[(vi 0)] 73) d w3->∀g C,au w3 (.cells #[(vi 0)] 54) g C->∃v1,C.cell? p2=some (vp v1)/\Br (Option.isNone v1) (zL C d/\¬ar d.block/\∀w5,w5=C.setCell d (vi 0)->zL w5 g/\¬ar g.block/\∀w6,w6=w5.setCell g (vi 0)->∃aB,w6.cell? d=some (vi aB)/\∃aC,w6.cell? g=some (vi aC)/\K aB aC w6) (∃v2,C.cell? p3=some (vp v2)/\cl 130 #[(vp v2),(vi t1)] C fun e J=>∃r1,e=.returned (vb r1)/\aj ar C J/\Br (!r1) (zL J d/\¬ar d.block/\∀w8,w8=J.setCell d (vi 0)->zL w8 g/\¬ar g.block/\∀w9,w9=w8.setCell g (vi 51)->∃aD,w9.cell? d=some (vi aD)/\∃aE,w9.cell? g=some (vi aE)/\K aD aE w9) (∃v3,J.cell? p2=some (vp v3)/\∃a1,v3=some a1/\∃v4:Sl,J.cell? a1=some v4.v/\∀R z,au J (.cells #[(vi 0)] 3) R z->zL z R/\¬ar R.block/\∀S,S=z.setCell R (vi (v4.len:Int))->∀p7 P,au S (.map #[] 0) p7 P->∀t F,au P (.cells #[(.map none)] 197) t F->zL F t/\¬ar t.block/\∀n,n=F.setCell t (.map<|some p7.block)->∃v5,n.cell? p3=some (vp v5)/\cl 131 #[(vp v5),(vi t1)] n fun e q=>∃r2:Value,e=.returned r2/\aj ar n q/\∃(f1:FuncId) (X:Array Value),r2=.func (.func f1) #[] X/\(∀args w,(callFunc f1 args).run prog w=.ok (.enter f1 args) w)/\∃(A:List (Int)) (Rd1:WP),sK prog f1 X (fun(G:Int)=>#[(vi G)]) A Rd1 q/\∃(I1 B:List (Int)->NP->WP),Bg L Rd1 I1 (fun _ _ _=>False) B/\I1 [] ar q/\(∀(h:List (Int)) (G:Int) (H:NP) (r:World),I1 h H r->af L H r H r->(∃post,A=h++G ::post)->∃v6,r.cell? p3=some (vp v6)/\cl 109 #[(vp v6),(vi G)] r fun e Z=>∃aF aG aH aI aJ aK aL r3,e=.returned (.tuple #[(Ac aF aG aH aI aJ aK aL),(vb r3)])/\aj ar r Z/\∀k u,au Z (.cells #[(vi 0),(vi 0),(vi 0),(vu 0),ve,(vi 0),(vi 0)] 119) k u->(∀j,j<7->zL u (k.add j))/\¬ar k.block/\∀E,E=bb u k (Ab aF aG aH aI aJ aK aL)->∃C1:WP,C1 E.drew/\∀f,f=E.drew->∃v7:Option Nat,f.cell? t=some (.map v7)/\∃v8,f.cell? (k.add 5)=some (vi v8)/\∃v9,(Instr.lookup 197 (.map v7) (vi v8) false).run prog f=.ok (vi v9) f/\∃Q:Option Nat,(∀w',C1 w'->w'.cell? t=some (.map Q))/\∃v11,f.cell? (k.add 6)=some (vi v11)/\∃N,(∀w',C1 w'->(Instr.lookup 197 (.map Q) (vi v11) false).run prog w'=.ok (vi N) w')/\zL f (k.add 5)/\¬ar (k.add 5).block/\∀o,o=f.setCell (k.add 5) (vi v9)->C1 o/\zL o (k.add 6)/\¬ar (k.add 6).block/\∀l,l=o.setCell (k.add 6) (vi N)->∃W,l.cell? p2=some (vp W)/\∃aQ aR aS aT aU aV aW,Row l k (Ab aQ aR aS aT aU aV aW)/\cl 132 #[(vp W),(.agg #[(vi aQ),(vi aR),(vi aS),(vu aT),(vs aU),(vi aV),(vi aW)])] l fun e c=>∃r4 r5,e=.returned (.tuple #[(vi r4),(vi r5)])/\aj ar l c/\Br (r5 !=0) (∃M,c.cell? p2=some (vp M)/\∃U,c.cell? R=some (vi U)/\cl 126 #[(vp M),(vi U)] c fun e x=>e=.returned (.tuple #[])/\aj ar c x/\zL x d/\¬ar d.block/\∀y,y=x.setCell d (vi 0)->zL y g/\¬ar g.block/\∀D,D=y.setCell g (vi r5)->aj H r D/\B (h++[G]) H D) (∃v16:Option Nat,c.cell? t=some (.map v16)/\∃p:World,(Instr.mapUpdate 197 (.map v16) (vi G)<|vi r4).run prog c=.ok () p/\aj ar c p/\aj H r p/\I1 (h++[G]) H p))/\(∀s a,af L s a s a->(∀b,ar b->s b)->aj ar q a->I1 A s a->∃V:Option Nat,a.cell? t=some (.map V)/\∃Y,(Instr.lookup 197 (.map V) (vi t1) false).run prog a=.ok (vi Y) a/\zL a d/\¬s d.block/\∀I,I=a.setCell d (vi Y)->zL I g/\¬s g.block/\∀T,T=I.setCell g (vi 0)->∀m,af L s T s m->∃aM,m.cell? d=some (vi aM)/\∃aN,m.cell? g=some (vi aN)/\K aM aN m)/\(∀(O:List (Int)) (H2:NP) (i:World),af L H2 i H2 i->B O H2 i->∃aO,i.cell? d=some (vi aO)/\∃aP,i.cell? g=some (vi aP)/\K aO aP i)))
def UM(p1 aA t1 w0 K)(h:SJ p1 aA t1 w0 K):
  cl 69 #[(vp p1),(vp aA),(vi t1)] w0<|XH K:=by
 refine cw (args:=[(vp p1),(vp aA),(vi t1)]) func69 ntmps69 ?_
 have⟨hs,a⟩:=sr w0
 refine eg (rZ hs a h xb fun p2 w1 hs a h=>rZ hs a h xb fun p3 w2 hs a h=>rZ hs a h (uA (zeroValue73 _) rfl) fun X w3 hs a h=>rZ hs a h (uA (zeroValue54 _) rfl) fun Y w4 hs a h=>ln<|zK<|eg<|ql (isAgg91 _) h fun v1 h=>q2 (vb<|Option.isNone v1) (Du Kf rfl underlying91)<|ln<|ib h ?_ ?_)<;>intro h
 refine eg<|jy (sizeOf73 _) hs a h fun w5 hs a h=>jy (sizeOf54 _) hs a h fun w6 hs a h=>ln<|er<|l0 ?_
 have⟨aB,hv1,h⟩:=h
 have⟨aC,hv2,h⟩:=h
 refine rO results69 (RV.vj (A:=X) Kf (isAgg73 _) hv1) (RV.vj (A:=Y) Kf (isAgg54 _) hv2) ⟨aB,aC,rfl,h⟩
 refine zW<|yZ<|zK<|eg<|ql (isAgg91 _) h fun v2 h=>q<|sc call130 (h.mono fun e w7 ⟨r1,k,c,h⟩=>have⟨hs,a⟩:=c.hh hs a;⟨_,k,?_⟩)
 refine q (ln<|ib h ?_ ?_)<;>intro h
 refine eg<|jy (sizeOf73 _) hs a h fun w8 hs a h=>jy (sizeOf54 _) hs a h fun w9 hs a h=>ln<|er<|l0 ?_
 have⟨aD,hv3,h⟩:=h
 have⟨aE,hv4,h⟩:=h
 refine rO results69 (RV.vj (A:=X) Kf (isAgg73 _) hv3) (RV.vj (A:=Y) Kf (isAgg54 _) hv4) ⟨aD,aE,rfl,h⟩
 refine zW<|yZ<|eg<|ql (isAgg91 _) h fun v3 h=>qm h fun a1 h=>q<|ql (isAgg158 _) h fun v4 h=>q<|sn (O:=(.cells #[(vi 0)] 3)) (uA (zeroValue3 _) rfl) ?_
 intro p6 w10 i
 have h:=h p6 w10 i
 have⟨hs,a⟩:=hs.nw a i
 refine jy (sizeOf3 _) hs a h fun w11 hs a h=>ln<|eg<|Fo (fun p=>.map<|some p.block) hs a h fun p7 w12 hs a h=>rZ hs a h (uA (zeroValue197 _) rfl) fun p8 w13 hs a h=>jy (sizeOf197 _) hs a h fun w14 hs a h=>ln<|EF<|rg<|ql (isAgg91 _) h fun v5 h=>q<|sc call131 (h.mono fun e w15 ⟨r2,k,c,h⟩=>have⟨hs,a⟩:=c.hh hs a;⟨_,k,?_⟩)
 refine ln ?_
 have⟨f1,cs1,hv5,hf1,h⟩:=h
 have⟨xs1,Rd1,iu,I1,Ir1,W,h0,m,h⟩:=h
 refine Er (encs:=(fun(z2:Int)=>#[(vi z2)])) (Eq.trans (b:=r2) Kf hv5) hf1 iu (fun _=>rfl) De hs I1 (fun _ _ _=>False) Ir1 W h0 ?ha ?hr ?ht
 case ha =>
  intro l z2 w34
  refine rg<|q<|ln ⟨rfl,?_⟩
  intro z Y1 A1 hi hY n
  have h:=m z z2 Y1 A1 hi hY n
  have⟨hs,a⟩:=sr A1
  refine vP<|eg<|ql (isAgg91 _) h fun v6 h=>q<|sc call109 (h.mono fun e w17 ⟨aF,aG,aH,aI,aJ,aK,aL,r3,k,c,h⟩=>have⟨hs,a⟩:=c.hh hs a;⟨_,k,?_⟩)
  refine qc<|rZ hs a h (uA (zeroValue119 _) rfl) fun L w18 hs a h=>?_
  have⟨hp8,d,h⟩:=h
  refine ss (xo L (Ab aF aG aH aI aJ aK aL) (sizeOf119 _) hp8) ?_
  intro P y
  have h:=h P y
  have c:aj ar w18 P:=by rw[y];exact aj.bb d
  have⟨hs,a⟩:=c.hh hs a
  refine q<|ln<|zK ?_
  have⟨C1,hC,h⟩:=h
  refine Qu C1 [9,11] [11] hC h hs a fun w20 hs a h=>?_
  have hs:=hs.fi
  refine qg 0 ?_
  have⟨v7,u,h⟩:=h
  refine sf wi (xl (isAgg197 _) u)<|qx 1 (vp<|some<|L.add 5) vm<|qg 2 ?_
  have⟨v8,T,h⟩:=h
  refine sf wQ (xl (isAgg73 _) T)<|qg 3 ?_
  have⟨v9,t,h⟩:=h
  refine sf (v:=(vi v9)) vq (Dj Kf Kf t)<|qg 4 ?_
  have⟨v10,R,h⟩:=h
  refine sy wB (fun _ k=>xl (isAgg197 _)<|R _ k)<|qx 5 (vp<|some<|L.add 6) wO<|qg 6 ?_
  have⟨v11,C,h⟩:=h
  refine sf wK (xl (isAgg73 _) C)<|qg 7 ?_
  have⟨w,D,h⟩:=h
  refine sy (v:=(vi w)) yt (fun w' j=>(Dj Kf Kf<|D w' j))<|qx 8 (vp<|some<|L.add 5) xk<|lg 9 ?_
  have⟨hp9,d,h⟩:=h
  refine IB yv (xs (v:=(vi v9)) (sizeOf73 _) hp9) ?_
  intro w21 N
  have h:=h w21 N
  refine⟨.inr h.1,?_⟩
  have h:=h.2
  have c:=aj.sc d N
  have⟨hs,a⟩:=c.hh hs a
  refine qx 10 (vp<|some<|L.add 6) (od<|S8<|yV<|yV ni)<|lg 11 ?_
  have⟨V,d,h⟩:=h
  refine IB (od<|S8<|yV<|yV<|yV ni) (xs (v:=(vi w)) (sizeOf73 _) V) ?_
  intro Z B
  have h:=h Z B
  refine⟨.inl Kf,?_⟩
  have c:=aj.sc d B
  have⟨hs,a⟩:=c.hh hs a
  refine wn<|yZ<|eg<|ql (isAgg91 _) h fun v13 h=>?_
  have⟨aQ,aR,aS,aT,aU,aV,aW,G,h⟩:=h
  refine qa (isAgg119 _) (sizeOf119 _) G<|sc call132 (h.mono fun e w23 ⟨r4,r5,k,c,h⟩=>have⟨hs,a⟩:=c.hh hs a;⟨_,k,?_⟩)
  refine q (qd<|ln<|zK<|eg<|qb<|ln<|ib h ?_ ?_)<;>intro h
  refine eg<|ql (isAgg91 _) h fun v14 h=>ql (isAgg3 _) h fun v15 h=>sc call126 (h.mono fun e w24 ⟨k,c,h⟩=>have⟨hs,a⟩:=c.hh hs a;⟨_,k,?_⟩)
  refine ln<|eg<|q<|jy (sizeOf73 _) hs a h fun w25 hs a h=>jy (sizeOf54 _) hs a h fun w26 hs a h=>ln<|er<|l0<|rJ ?_
  exact WC h
  refine zW<|yZ<|rg<|ql (isAgg197 _) h fun v16 h=>qb ?_
  have⟨w27,hv8,c,h⟩:=h
  refine wx (qC rfl) (JS Kf Kf Kf hv8) ?_
  have⟨hs,a⟩:=c.hh hs a
  refine vJ<|pO ?_
  exact DR h
 case hr =>
  intro D1 H1 w28 s hD M aX E H
  have hb':=a.tv E aX hD M
  have hs:=s
  have a:=hb'
  have h:=h.1 H1 w28 hs aX E<|H.elim id fun h=>h.elim fun _ h=>h.elim
  refine eg<|ql (isAgg197 _) h fun v17 h=>q ?_
  have⟨v18,F,h⟩:=h
  refine q2 (vi v18) (Dj Kf Kf F)<|jy (sizeOf73 _) hs a h fun w29 hs a h=>jy (sizeOf54 _) hs a h fun w30 hs a h=>ln<|er<|Ba a.By ?_
  intro w31 j
  have hl:=a.Co hs j
  have⟨hs,a⟩:=hl
  -- tv the loop
  have⟨h,hs⟩:=hs.hr<|h w31
  have⟨aM,U,h⟩:=h
  have⟨aN,S,h⟩:=h
  refine rO results69 (RV.vj (A:=X) Kf (isAgg73 _) U) (RV.vj (A:=Y) Kf (isAgg54 _) S) ⟨aM,aN,rfl,h⟩
 case ht =>
  intro D1 x H2 w32 s hD M f
  have g:=s.jbc (o:=.deferred none) hD
  have f:=W.r _ _ _ _ _ f g
  have g:=g.fi
  have hs:=g
  generalize World.putObj w32 D1 (.deferred none)=J at hs f|-
  have a:=HB.nil H2 J
  have h:=h.2 x H2 J hs f
  have⟨aO,Q,h⟩:=h
  have⟨aP,I,h⟩:=h
  refine rO results69 (RV.vj (A:=X) Kf (isAgg73 _) Q) (RV.vj (A:=Y) Kf (isAgg54 _) I) ⟨aO,aP,rfl,h⟩
def KO(a:Value)(r1:Sl)(e:Int)(b:World)(d:Int->WP)(K:WP):Prop:=Br (decide (e<(r1.len:Int))) (∃a1:Addr,At r1 e 1 a1/\li b a1 fun g=>∃(c:Nat),a=.func (.yield c) #[] #[]/\xr prog c #[(vi g)] b (XC fun b1 f=>Br (!b1) (K f)<|d (q6.wrap<|e+1) f))<|K b
def Vb(a:Value)(f e:Addr)(g:World)(K:WP):Prop:=lp g f fun k=>li g e fun j=>cl 179 #[(vp k),(vi j)] g<|XA fun r1 l=>∃(i:Int->WP) (d:Int->World->Nat),i 0 l/\∀(h:Int) (b:World),i h b->KO a r1 h b (fun c w'=>i c w'/\d c w'<d h b) K
def Xn(yield1 cap1 cap2 w0 K)(h:Vb yield1 cap1 cap2 w0 K):
  cl 178 #[yield1,(vp<|some cap1),(vp<|some cap2)] w0<|fun e w'=>e=.returned (.tuple #[])/\K  w':=by
 refine cw (args:=[yield1,(vp<|some cap1),(vp<|some cap2)]) func178 ntmps178<|eg ?_
 refine ql (isAgg91 _) h fun r h=>ql (isAgg73 _) h fun p h=>sc call179<|h.mono fun e g ⟨r1,k,h⟩=>⟨_,k,?_⟩
 refine qb<|ln<|vP ?_
 have⟨o,b,l,hr⟩:=h
 refine vn (σ:=Int×World) (fun s ρ w=>w=s.2/\ed ρ [(0,yield1),(8,r1.v),(9,(vi (r1.len:Int))),(10,(vi s.1))]/\o s.1 s.2) (fun s=>b s.1 s.2) (0,g) ⟨rfl,hm,l⟩ ?_
 rintro⟨f,c⟩ ρ w ⟨j,d,i⟩
 dsimp only at j d;subst w
 have h:=hr f c i
 refine qS d (eg<|q<|ln<|zK<|ib h ?_ ?_)<;>intro h
 refine zW<|yZ<|zK<|vP<|eg<|qi (runUnderlying46 _) (sizeOf73 _) h fun a1 h=>ql (isAgg73 _) h fun t h=>q<|ln<|eg<|qb ?_
 have⟨m,a,h⟩:=h
 refine K9 (qC rfl) Kf a Kf<|h.mono ?_
 rintro e n ⟨b1,rfl,h⟩
 refine⟨_,rfl,?_⟩
 refine q (ln<|ib h ?_ ?_)<;>intro h
 refine er<|rJ<|l0<|l0<|rJ<|wV (.inl rfl) results178 ⟨rfl,h⟩
 refine zW<|pO<|yZ<|rg<|qb<|ln ⟨((q6.wrap<|f+1),n),⟨rfl,hm,h.1⟩,h.2⟩
 refine tQ<|qv<|qv<|wU<|wV (.inr rfl) results178 ⟨rfl,h⟩
def Qw(a:Value)(f:Sl)(e:Int)(b:World)(d:Int->WP)(K:WP):Prop:=Br (decide (e<(f.len:Int))) (∃a1:Addr,At f e 1 a1/\li b a1 fun h=>∃(c:Nat),a=.func (.yield c) #[] #[]/\xr prog c #[(vi h)] b (XC fun b1 g=>Br (!b1) (K g)<|d (q6.wrap<|e+1) g))<|K b
def Vn(a:Value)(e:Addr)(h:World)(K:WP):Prop:=lx h e fun i=>∃(g:Int->WP) (d:Int->World->Nat),g 0 h/\∀(f:Int) (b:World),g f b->Qw a i f b (fun c w'=>g c w'/\d c w'<d f b) K
def SX(yield1 cap1 w0 K)(h:Vn yield1 cap1 w0 K):
  cl 188 #[yield1,(vp<|some cap1)] w0<|fun e w'=>e=.returned (.tuple #[])/\K  w':=by
 refine cw (args:=[yield1,(vp<|some cap1)]) func188 ntmps188<|eg ?_
 refine ql (isAgg46 _) h fun d h=>qb<|ln<|vP ?_
 have⟨n,b,l,hr⟩:=h
 refine vn (σ:=Int×World) (fun s ρ w=>w=s.2/\ed ρ [(0,yield1),(5,d.v),(6,(vi (d.len:Int))),(7,(vi s.1))]/\n s.1 s.2) (fun s=>b s.1 s.2) (0,w0) ⟨rfl,hm,l⟩ ?_
 rintro⟨g,c⟩ ρ w ⟨k,f,i⟩
 dsimp only at k f;subst w
 have h:=hr g c i
 refine qS f (eg<|q<|ln<|zK<|ib h ?_ ?_)<;>intro h
 refine zW<|yZ<|zK<|vP<|eg<|qi (runUnderlying46 _) (sizeOf73 _) h fun a1 h=>ql (isAgg73 _) h fun o h=>q<|ln<|eg<|qb ?_
 have⟨m,a,h⟩:=h
 refine K9 (qC rfl) Kf a Kf<|h.mono ?_
 rintro e j ⟨b1,rfl,h⟩
 refine⟨_,rfl,?_⟩
 refine q (ln<|ib h ?_ ?_)<;>intro h
 refine er<|rJ<|l0<|l0<|rJ<|wV (.inl rfl) results188 ⟨rfl,h⟩
 refine zW<|pO<|yZ<|rg<|qb<|ln ⟨((q6.wrap<|g+1),j),⟨rfl,hm,h.1⟩,h.2⟩
 refine tQ<|qv<|qv<|wU<|wV (.inr rfl) results188 ⟨rfl,h⟩
def Km(s1:Sl)(o:Value)(n:World)(K:Sl->WP):Prop:=∀f r,au n (.cells #[s1.v] 46) f r->∃(q:FuncId) (l:Array Value),o=.func (.func q) #[] l/\(∀args w,(callFunc q args).run prog w=.ok (.enter q args) w)/\∃(c:List (Int)) (m:WP),sK prog q l (fun(h:Int)=>#[(vi h)]) c m r/\∃(i:List (Int)->NP->WP),Bg n m i (fun _ _ _=>False) (fun _ _ _=>False)/\i [] ar r/\(∀(a:List (Int)) (h:Int) (j:NP) (d:World),i a j d->af n j d j d->(∃k,c=a++h ::k)->lx d f fun A=>∀y t,au d (.cells #[(vi h)] 73) y t->∃x:Sl,∃p:World,(Builtin.append_ #[46,46] 46 #[A.v,(Sl.mk (some y) 1 1).v]).run prog t=.ok x.v p/\aj ar t p/\zL p f/\¬ar f.block/\∀s,s=p.setCell f x.v->aj j d s/\i (a++[h]) j s)/\∀g e,af n g e g e->(∀b,ar b->g b)->aj ar r e->i c g e->lx e f fun z=>∀u,af n g e g u->K z u
def QZ(s1 seq1 w0 K)(h:Km s1 seq1 w0 K):
  cl 276 #[s1.v,seq1] w0<|XA K:=by
 refine cw (args:=[s1.v,seq1]) func276 ntmps276 ?_
 have⟨hs,a⟩:=sr w0
 refine eg<|rZ hs a h xb fun T Y hs a h=>q<|ln<|EF<|rg<|q0 seq1<|ln ?_
 have⟨X,I,t,o,h⟩:=h
 have⟨D,R,iu,B,u,N,c,h⟩:=h
 refine Er (encs:=(fun(f:Int)=>#[(vi f)])) (Eq.trans (b:=seq1) Kf t) o iu (fun _=>rfl) De hs B (fun _ _ _=>False) (fun _ _ _=>False) u N ?ha ?hr ?ht
 case ha =>
  intro l f U
  refine rg<|q<|ln ⟨rfl,?_⟩
  intro g C w hi A d
  have h:=c g f C w hi A d
  have⟨hs,a⟩:=sr w
  refine vP<|rg<|ql (isAgg46 _) h fun L h=>q<|ym (O:=(.cells #[(vi f)] 73)) (fun p=>(Sl.mk (some p) 1 1).v) (qC rfl) (LH (vs:=#[(0,(vi f))]) Kf Kf) ?_
  intro y G i
  have h:=h y G i
  have⟨hs,a⟩:=hs.nw a i
  have⟨P,V,m,H,h⟩:=h
  refine st (v:=P.v) (qC rfl) (BB (args:=#[L.v,(Sl.mk (some y) 1 1).v]) Kf (fun _=>rfl) m) ?_
  have⟨hs,a⟩:=H.hh hs a
  refine jy (sizeOf46 _) hs a h fun S hs a h=>vJ<|pO ?_
  exact DR h
 case hr =>
  intro W M E s Q r x j e
  have k:=a.tv j x Q r
  have hs:=s
  have a:=k
  have h:=h M E hs x j<|e.elim id fun h=>h.elim fun _ h=>h.elim
  refine eg<|ql (isAgg46 _) h fun F h=>q<|ln<|er<|Ba a.By ?_
  intro J n
  have z:=a.Co hs n
  have⟨hs,a⟩:=z
  -- tv the loop
  have⟨h,hs⟩:=hs.hr<|h J
  refine BL results276 ⟨F,rfl,h⟩
 case ht =>
  intro _ _ _ _ _ _ _ h
  exact h.elim
end Go.Proofs
end
section
open Go Go.SE List
namespace Go.SE
def bf.bl{w w' X e sz s rs}(h:bf w e sz s rs)(f:aj X w w')(i:∀b,s.ao b->X b):bf w' e sz s rs:=by
 refine⟨h.mi,h.len,?_⟩;rcases h.ak with d|⟨g,cur,c,a,r⟩;exact .inl d;exact .inr ⟨g,cur,c,by rw[f.gq g (xY a)<|i g ⟨_,c,rfl⟩];exact a,r⟩
end Go.SE
namespace Go.Proofs
def Wh{L}(c:Wf L){t}(ht:al L t=true)(n)(st:(Int->Bool)×List Int):(zB<|ad L t).foldl (fun st k=>yU L n k st) st=yU L n (ad L t).b (yU L n (ad L t).a st):=by
 have z:∀st,yU L n 0 st=st:=fun st=>by
  cases n with
  |zero=>rfl
  |succ n=>rw[yU,if_neg<|by simp[al]]
 have h1:=(c.node ht).2.1;have h2:=(c.node ht).2.2.1;unfold zB;rcases qV (ad L t).kind with e|e|e;rw[e,h1 Om,h2 Om,z,z];rfl;rw[e,h2 Om,z];rfl;rw[e];rfl
end Go.Proofs
namespace Go.Proofs
open Tryz
attribute [local irreducible] Calls
def yf(M:List Int):List (Int×Unit):=M.map fun t=>(t,())
def Vm(M):(yf M).map Prod.fst=M:=by simp[yf,Function.comp_def]
def GV(_:Unit):Value:=vi 1
structure uq(w:World)(p c1 c2 c3 c4:Addr)(m:Nat)(so:Sl)(L:av)(FP:NP)(st:(Int->Bool)×List Int):Prop where
 b1:ai w c1 [.map<|some m] 231
 b2:ai w c2 [vp<|some p] 91
 b3:ai w c3 [.func (.func 267) #[] #[vp<|some c1,vp<|some c2,vp<|some c3,vp<|some c4]] 192
 b4:ai w c4 [so.v] 46
 mp:∃M,fc GV w m (yf M)/\∀x,st.1 x=decide (x∈M)
 ji:bf w 73 1 so (bz st.2)
 bj:zD w p L FP
 n4:c4.block≠c1.block/\c4.block≠c2.block/\c4.block≠c3.block/\c4.block≠m
 nm:m≠c1.block/\m≠c2.block/\m≠c3.block
 ns:∀b,so.ao b->b≠c1.block/\b≠c2.block/\b≠c3.block/\b≠c4.block/\b≠m
 nf:∀b,FP b->b≠c4.block/\b≠m/\¬so.ao b
def CZ(c4:Addr)(m:Nat)(so:Sl)(b:Nat):Prop:=b=c4.block\/b=m\/so.ao b
section
variable {w w':World} {p c1 c2 c3 c4:Addr} {m:Nat} {so:Sl} {L:av} {FP:NP} {st:(Int->Bool)×List Int}
def uq.pure(h:uq w p c1 c2 c3 c4 m so L FP st)(E:Pure w w'):uq w' p c1 c2 c3 c4 m so L FP st:=
 ⟨h.b1.pure E,h.b2.pure E,h.b3.pure E,h.b4.pure E,let ⟨M,h1,h2⟩:=h.mp;⟨M,h1.pure E,h2⟩,h.ji.pure E,h.bj.pure E,h.n4,h.nm,h.ns,h.nf⟩
end
def Z0(p c1 c2 c3 c4:Addr)(m:Nat){L:av}{FP:NP}(Q:Wf L):∀(n:Nat) (t:Int) (q:World) (st:(Int->Bool)×List Int) (so:Sl),t.toNat<n->al L t=true->uq q p c1 c2 c3 c4 m so L FP st->tp L st->(∀y,st.1 y=true->y<=t->y∈st.2) ->
  cl 267 #[vi t,vp (some c1),vp (some c2),vp (some c3),vp (some c4)] q (fun e w'=>e=.returned (.tuple #[])/\∃l,uq w' p c1 c2 c3 c4 m l L FP (yU L n t st)/\ab (CZ c4 m so) q w'/\∀b,l.ao b->so.ao b\/q.heap.size<=b):=by
 intro n
 induction n with
 |zero=>intro t q st so h;omega
 |succ n ih =>
 intro t q st so hn I h aq hm
 have hR:=tw Q (n+1) t st hn aq hm
 suffices key:∀K:WP,(∀l w',uq w' p c1 c2 c3 c4 m l L FP (yU L (n+1) t st)->ab (CZ c4 m so) q w'->(∀b,l.ao b->so.ao b\/q.heap.size<=b)->K w')->HA t c1 c2 c3 c4 q K from
  Zc _ _ _ _ _ q _ (key _ Gd)
 intro K O
 unfold HA
 have⟨M,hM,hV⟩:=h.mp
 have hz:∀w,(zeroValue 3).run prog w=.ok (vi 0) w:=fun w=>zeroValue3 w
 rcases hM.get underlying231 underlying73 (hz q) t false with⟨hno,hl⟩|⟨u,hyes,hl⟩
 have hnot:t∉M:=by have:=uV.1 hno;rwa [Vm]at this
 have hv:st.1 t=false:=by rw[hV];simpa using hnot
 rw[yU,if_pos ⟨I,hv⟩]at O hR
 refine⟨some m,h.b1.bd,0,hl,Br.f Sm ?_⟩
 have⟨Y,hu,hM1,C⟩:=hM.put (f:=GV) underlying231 underlying73 hno ()
 refine⟨some m,h.b1.bd,0,hl,Y,by rw[i64 Om Om];exact hu,?_⟩
 have U:uq Y p c1 c2 c3 c4 m so L FP (gu st.1 t true,st.2):=
  ⟨h.b1.ext C fun e=>h.nm.1 e.symm,h.b2.ext C fun e=>h.nm.2.1 e.symm,h.b3.ext C fun e=>h.nm.2.2 e.symm,h.b4.ext C h.n4.2.2.2,
  ⟨M ++ [t], by rw[show yf (M ++ [t]) = yf M ++ [(t, ())] by simp[yf]]; exact hM1, fun x => by
    simp only[gu,mem_append,mem_singleton];by_cases e:x=t;simp[e];rw[if_neg e,hV];simp[e]⟩,
  h.ji.ext C fun b d=>(h.ns b d).2.2.2.2,h.bj.ext C fun b d=>(h.nf b d).2.1,h.n4,h.nm,h.ns,h.nf⟩
 refine⟨some p,U.b2.bd,?_⟩
 refine(jcc p t Y U.bj Q.ok).mono ?_
 rintro _ w2 ⟨r1,rfl,R,E2⟩
 refine⟨_,rfl,?_⟩
 have A2:=U.pure E2
 have o1:tp L (gu st.1 t true,st.2):=⟨fun y B=>by simp only[gu];split<;>simp[aq.AB y B],aq.rW,aq.nd,aq.gm⟩
 have D:=(Q.node I).2.2.2.2.1
 have hlen:(zB (ad L t)).length<=2:=by rw[zB];simp;omega
 generalize W:zB (ad L t)=ks at *
 let sj:Nat->(Int->Bool)×List Int:=fun j=>(ks.take j).foldl (fun st k=>yU L n k st) (gu st.1 t true,st.2)
 have X:∀j,j<=ks.length->tp L (sj j)/\∀y,(sj j).1 y=true->y<t->y∈(sj j).2:=by
  intro j;induction j with
  |zero =>
   intro _
   refine⟨o1,fun y B E=>?_⟩
   simp only[sj,take_zero,foldl_nil,gu]at B|-
   rw[if_neg Om]at B
   exact hm y B Om
  |succ j ihj =>
   intro hj
   have⟨g1,g2⟩:=ihj Om
   have hk:=D ks[j] (getElem_mem _)
   have hk1:=(zI.1 hk.1).1
   have e:sj (j+1)=yU L n ks[j] (sj j):=by simp only[sj];rw[take_succ_eq_append_getElem Om,foldl_append];rfl
   have r:=tw Q n ks[j] (sj j) Om g1 Gd
   rw[e]
   refine⟨r.totp,fun y B E=>?_⟩
   rcases r.ue y B with h1|h1
   have⟨M',e',_⟩:=r.gn
   rw[e'];exact mem_append_left _ (g2 y h1 E)
   exact h1
 refine⟨fun x A=>∃(j:Nat) (l:Sl),x=j/\j<=ks.length/\uq A p c1 c2 c3 c4 m l L FP (sj j)/\ab (CZ c4 m so) w2 A/\∀b,l.ao b->so.ao b\/w2.heap.size<=b,fun x _=>((ks.length:Int)-x).toNat,⟨0,so,rfl,Nat.zero_le _,A2,ab.refl _,fun b d=>.inl d⟩,?_⟩
 rintro _ N ⟨j,o,rfl,hj,g,Z,f3⟩
 unfold Mt
 have hlen1:r1.len=ks.length:=by rw[R.len,vA]
 have V:dn (fun b=>Y.heap.size<=b/\b<w2.heap.size) N 1 r1 (bz ks):=R.ext Z (fun b d hx=>by
  rcases hx with hx|hx|hx;have:=U.b4.lt;omega;have:m<Y.heap.size:=hM1.lt;omega;have:=U.ji.lt hx;omega)
 have⟨g1,g2⟩:=X j hj
 refine⟨fun z=>?_,fun z=>?_⟩
 have z:j<ks.length:=Oh (of_decide_eq_true z)
 have⟨a,hat,_,hv⟩:=uB V z
 refine⟨a,hat,_,hv,_,g.b3.bd,_,_,_,rfl,call267,?_⟩
 have hk:=D ks[j] (getElem_mem _)
 have hk1:=(zI.1 hk.1).1
 refine(ih ks[j] N (sj j) o Om hk.1 g g1 fun y B hle=>g2 y B Om).mono ?_
 rintro _ w4 ⟨rfl,so4,A4,X4,f4⟩
 refine⟨rfl,⟨j+1,so4,zN z Om,z,?_,Z.cg X4 fun i hi d=>?_,fun b d=>?_⟩,?_⟩
 have e:sj (j+1)=yU L n ks[j] (sj j):=by simp only[sj];rw[take_succ_eq_append_getElem Om,foldl_append];rfl
 rw[e];exact A4
 rcases d with d|d|d
 exact .inl d
 exact .inr (.inl d)
 exact .inr (.inr ((f3 i d).elim id fun h=>Om))
 rcases f4 b d with h1|h1
 exact f3 b h1
 have:=Z.size;right;omega
 rw[zN z Om]
 show((ks.length:Int)-((j+1:Nat):Int)).toNat<((ks.length:Int)-(j:Int)).toNat
 omega
 have z:j=ks.length:=Oh (of_decide_eq_false z)
 subst z
 have es:sj ks.length=yU L n (ad L t).b (yU L n (ad L t).a (gu st.1 t true,st.2)):=by
  rw[<-Wh Q I,W];simp only[sj,take_length]
 simp only at O hR
 rw[<-es]at O hR
 generalize sj ks.length=s3 at *
 refine⟨o,g.b4.bd,?_⟩
 intro p1 w4 h4
 have J:Pure N w4:=ab.aw h4
 have hfew:s3.2.length<=65536:=Oi (tT g1.nd g1.gm) Q.ok.fm
 have⟨s,w5,hr5,R5,X5,f5⟩:=(g.ji.pure J).append (P:=prog) (ty:=46) (c:=1) te (r:=[vi t]) (ai.bh h4).row rfl rfl (by rw[vA];omega) (by rw[vA];simp[maxLen];omega)
 have b5:=(g.b4.pure J).ext X5 fun d=>(g.ns _ d).2.2.2.1 rfl
 refine⟨s,w5,hr5,b5.ia Sm,?_⟩
 intro w6 h6
 have E6:ab (·=c4.block) w5 w6:=by rw[h6];exact ab.setCell c4 _
 have b6:ai w6 c4 [s.v] 46:=by rw[h6];exact b5.jb
 have z1:=C.size
 have z2:=E2.size
 have z3:=Z.size
 have z4:=J.size
 have S:∀b,s.ao b->o.ao b\/N.heap.size<=b:=fun b d=>(f5 b d).imp_right fun h=>Om
 have ns':∀b,s.ao b->b≠c1.block/\b≠c2.block/\b≠c3.block/\b≠c4.block/\b≠m:=fun b d=>(S b d).elim (g.ns b) (fun hh=>by
  have q1:=g.b1.lt;have q2:=g.b2.lt;have q3:=g.b3.lt;have q4:=g.b4.lt;have q5:m<N.heap.size:=by have⟨M',G,_⟩:=g.mp;exact G.lt
  exact⟨Om,Om,Om,Om,Om⟩)
 have up:∀{T:TypeId} {c:Addr} {vs:List Value},ai N c vs T->¬o.ao c.block->c.block≠c4.block->ai w6 c vs T:=fun h h1 h2=>((h.pure J).ext X5 h1).ext E6 h2
 refine O s w6 ⟨up g.b1 (fun d=>(g.ns _ d).1 rfl) g.n4.1.symm,up g.b2 (fun d=>(g.ns _ d).2.1 rfl) g.n4.2.1.symm,up g.b3 (fun d=>(g.ns _ d).2.2.1 rfl) g.n4.2.2.1.symm,b6,?_,?_,((g.bj.pure J).ext X5 fun b d=>(g.nf b d).2.2).ext E6 fun b d e=>(g.nf b d).1 e,g.n4,g.nm,ns',fun b d=>⟨(g.nf b d).1,(g.nf b d).2.1,fun hh=>(S b hh).elim (g.nf b d).2.2 fun hh=>Oh (g.bj.lt d)⟩⟩ ?_ ?_
 have⟨M',G,hV'⟩:=g.mp
 exact⟨M',((G.pure J).ext X5 fun d=>(g.ns _ d).2.2.2.2 rfl).ext E6 g.n4.2.2.2.symm,hV'⟩
 show bf _ _ _ _ (bz (s3.2++[t]))
 rw[show bz (s3.2++[t])=bz s3.2++[[vi t]] by simp[bz]]
 exact R5.ext E6 Gd
 have f33:∀b,o.ao b->b<q.heap.size->so.ao b:=fun b d E=>(f3 b d).elim id fun h2=>Om
 refine(((C.mono fun b _ d=>.inr (.inl d)).fb E2).trans Z).cg ((J.pure (F:=CZ c4 m o)).trans ((X5.mono fun b _ d=>.inr (.inr d)).trans (E6.mono fun b _ e=>.inl e))) fun i hi d=>?_
 rcases d with d|d|d
 exact .inl d
 exact .inr (.inl d)
 exact .inr (.inr (f33 i d hi))
 grind
 have H:t∈M:=by have:=tU hyes;simp[yf]at this;exact this
 have hv:st.1 t=true:=by rw[hV];simpa using H
 rw[yU,if_neg (by simp[hv])]at O
 refine⟨some m,h.b1.bd,1,hl,Br.t Sm ?_⟩
 exact O so q h (ab.refl _) fun b d=>.inl d
def jbd(p:Addr)(t:Int)(l:World){L:av}{FP:NP}(Z:Wf L)(Q:zD l p L FP):
  cl 179 #[vp (some p),vi t] l (XA fun r w'=>fx l 73 1 (bz (dc L t)) r w'):=by
 refine W0 _ _ l _ ?_
 intro H V h1 B S h2 E P h3 k G J
 have O:=ai.bh h1
 have M:=ai.bh h2
 have K:=fc.bh (f:=GV) h3
 have I:=ai.bh J
 have X:Pure l V:=ab.aw h1
 have F:Pure V S:=ab.aw h2
 have q:Pure S P:=ab.aw h3
 have o:Pure P G:=ab.aw J
 have s1:=h1.cu;have s2:=h2.cu;have s3:=h3.cu;have s4:=J.cu
 have z1:=X.size;have z2:=F.size;have z3:=q.size;have z4:=o.size
 have l1:=O.lt;have l2:=M.lt;have l3:=K.lt;have l4:=I.lt
 refine⟨I.ia Sm,fun w W=>?_⟩
 have s:ab (·=k.block) G w:=by rw[W];exact ab.setCell k _
 have y:ai w k [.map (some E.block)] 231:=by rw[W];exact I.jb
 intro j N D
 have z:=ai.bh D
 have n:Pure w N:=ab.aw D
 have s6:=D.cu;have z5:=s.size;have z6:=n.size;have l6:=z.lt
 refine⟨z.ia Sm,fun g R=>?_⟩
 have m:ab (·=j.block) N g:=by rw[R];exact ab.setCell j _
 have u:ai g j [.func (.func 267) #[] #[vp (some k),vp (some H),vp (some j),vp (some B)]] 192:=by rw[R];exact z.jb
 have z7:=m.size
 have v:Pure l g:=((((((X.trans F).trans q).trans o).ak Om s).trans n).ak Om m)
 have up:∀{T:TypeId} {c:Addr} {vs:List Value},ai G c vs T->c.block≠k.block->c.block≠j.block->ai g c vs T:=fun h h1 h2=>((h.ext s h1).pure n).ext m h2
 have d:∀b,¬Sl.nil.ao b:=fun b e=>by have⟨a,h,_⟩:=e;cases h
 have A:uq g p k H j B E.block Sl.nil L FP (fun _=>false,[]):=
  ⟨(y.pure n).ext m Om,up (((O.pure F).pure q).pure o) Om Om,u,up ((M.pure q).pure o) Om Om,
  ⟨[],(((K.pure o).ext s Om).pure n).ext m Om,fun x=>Sm⟩,bf.nil _ _ _,Q.pure v,⟨Om,Om,Om,Om⟩,⟨Om,Om,Om⟩,fun b e=>(d b e).elim,fun b e=>by
   have:=Q.lt e;exact⟨Om,Om,d b⟩⟩
 refine⟨some p,A.b2.bd,?_⟩
 refine(zm p t g A.bj).mono ?_
 rintro _ _ ⟨r1,rfl,rfl,rfl⟩
 refine⟨_,rfl,fun C=>?_,fun C=>?_⟩
 refine⟨_,A.b3.bd,_,_,_,rfl,call267,?_⟩
 refine(Z0 p k H j B E.block Z (t.toNat+1) t g _ Sl.nil Om C A ⟨Sm,Sm,Sm,Sm⟩ Sm).mono ?_
 rintro _ w8 ⟨rfl,so,U,Y,f8⟩
 refine⟨rfl,so,U.b4.bd,U.ji,fun b e=>?_,v.cg Y fun i hi e=>?_⟩
 grind
 rcases e with e|e|e
 omega
 omega
 exact d _ e
 have:dc L t=[]:=by
  unfold dc;rw[yU,if_neg (by simp[C])]
 rw[this]
 exact⟨Sl.nil,A.b4.bd,bf.nil _ _ _,fun b e=>(d b e).elim,v⟩
def GX(p t w0):cl 131 #[vp<|some p,vi t] w0 (fun e w'=>∃r:Value,e=.returned r/\∃a b:Addr,r=.func (.func 178) #[] #[vp<|some a,vp<|some b]/\ai w' a [vp<|some p] 91/\ai w' b [vi t] 73/\Pure w0 w'):=by
 refine jcz _ _ w0 (fun r w'=>∃a b:Addr,r=.func (.func 178) #[] #[vp<|some a,vp<|some b]/\ai w' a [vp<|some p] 91/\ai w' b [vi t] 73/\Pure w0 w') ?_;intro a c h1 b d h2;exact⟨a,b,rfl,(ai.bh h1).pure<|ab.aw h2,ai.bh h2,(show Pure w0 c from ab.aw h1).trans<|ab.aw h2⟩
def GO{p p2 p3 t w0 L FP}(u:Wf L)(I:zD w0 p L FP)(G:ai w0 p2 [vp<|some p] 91)(C:ai w0 p3 [vi t] 73):
  sK prog 178 #[vp<|some p2,vp<|some p3] (fun z:Int=>#[vi z]) (dc L t) (fun _=>True) w0:=by
 intro l J K W E _ D N c M
 refine(Xn (.func (.yield l) #[] #[]) p2 p3 W (fun A=>∃X,af W X A X A/\(J (dc L t) X A\/∃az,K az X A)) ?_).mono fun e A h=>⟨⟨_,h.1⟩,h.2⟩
 refine⟨some p,(G.pure E).bd,t,(C.pure E).bd,?_⟩
 refine(jbd p t W u<|I.pure E).mono ?_
 rintro _ i ⟨r,rfl,hr⟩
 refine⟨_,rfl,?_⟩
 generalize o:dc L t=xs at *
 have B:xs.length<=65536:=by rw[<-o];have:=uW u t;have:=u.ok.fm;omega
 have m:af W ar W (fun b=>W.heap.size<=b/\b<i.heap.size) i:=⟨hr.pure.pure,fun _ h=>h.elim,fun b h=>.inr h.1,fun b h=>h.1,fun b h=>h.2,hr.pure.size⟩
 have F:∀b,r.ao b->W.heap.size<=b/\b<i.heap.size:=fun b y=>⟨hr.ak b y,hr.cj.lt y⟩
 refine⟨fun x A=>∃j:Nat,x=j/\j<=xs.length/\af W (fun b=>W.heap.size<=b/\b<i.heap.size) A (fun b=>W.heap.size<=b/\b<i.heap.size) A/\J (xs.take j) (fun b=>W.heap.size<=b/\b<i.heap.size) A/\bf A 73 1 r (bz xs),fun x _=>((xs.length:Int)-x).toNat,⟨0,rfl,Nat.zero_le _,m.fi,D _ _ _ _ _ M m,hr.cj⟩,?_⟩
 rintro _ A ⟨j,rfl,O,s,q,k⟩
 unfold KO
 have w:r.len=xs.length:=by rw[hr.cj.len,vA]
 refine⟨fun d=>?_,fun d=>?_⟩
 have d:j<xs.length:=Oh<|of_decide_eq_true d
 have⟨a,v,_,H⟩:=uB k.ei d
 refine⟨a,v,_,H,l,rfl,?_⟩
 refine(c (xs.take j) xs[j] _ A q s ⟨xs.drop<|j+1,by rw[<-drop_eq_getElem_cons d,take_append_drop]⟩).mono ?_
 rintro e A' (⟨rfl,n,g⟩|⟨rfl,n,g⟩)
 refine⟨_,rfl,Br.f rfl ⟨⟨j+1,zN d Om,d,s.gi n,by rw[take_succ_eq_append_getElem d];exact g,k.bl n F⟩,?_⟩⟩
 rw[zN d Om]
 show((xs.length:Int)-((j+1:Nat):Int)).toNat<((xs.length:Int)-(j:Int)).toNat
 omega
 exact⟨_,rfl,Br.t rfl ⟨_,s.gi n,.inr ⟨_,g⟩⟩⟩
 grind
end Go.Proofs
end
section
open Go Go.SE List
namespace Go.Proofs
open Tryz
attribute [local irreducible] Calls CallsD
def DI(a w':World)(bs:List UInt8)(x:Option Addr):Prop:=
 (∀q,(vB bs).1=some q->∃p F,x=some p/\zD w' p q F/\∀b,F b->a.heap.size<=b)/\((vB bs).1=none->x=none)
structure PO(c w:World)(q a:Addr)(s:Sl)(bs:List UInt8)(L:av)(r:Rd)(m:Nat)(S d F:NP)(f:List Nat)(e:Sl):Prop where
 st:pr w q a s bs L r m S d F
 pure:Pure c w
 oP:∀b,d b->c.heap.size<=b
 oa:c.heap.size<=a.block
 cj:bf w 3 1 e (bz<|f.map Int.ofNat)
 ak:∀b,e.ao b->c.heap.size<=b/\¬d b/\b≠a.block/\¬S b/\¬F b/\b≠m
def Q9:∀(l:List Int) (i:Nat) (z:Int),gy i l=i+l.length->gy i (l++[z])=if z=((i+l.length:Nat):Int)+1 then i+l.length+1 else i+l.length:=by
 intro l;induction l with
 |nil=>intro i z _;simp only[nil_append,gy,length_nil,Nat.add_zero]
 |cons s l a =>
  intro i z h
  rw[gy]at h
  rw[cons_append,gy]
  split
  grind
  grind
def Xp:∀(l:List Int) (i:Nat) (z:Int) (post:List Int),gy i l=i+l.length->z≠((i+l.length:Nat):Int)+1->gy i (l++z ::post)=i+l.length:=by
 intro l;induction l with
 |nil=>intro i z post _ a;simp only[nil_append,gy,length_nil,Nat.add_zero]at *;rw[if_neg a]
 |cons s l b =>
  intro i z post h a
  rw[gy]at h
  rw[cons_append,gy]
  split
  grind
  grind
def Ue{p:NP}(sb:Sl)(bs:List UInt8)(t:World)(hs:dn p t 1 sb (dj bs))(hz:sb.a=none->sb=Sl.nil):
  cl 135 #[sb.v] t<|XY fun x y z w'=>y=(vB bs).2.1/\z=((vB bs).2.2:Int)/\DI t w' bs x/\Pure t w':=by
 refine jaG sb t _ ?_
 unfold NT
 have hl:sb.len=bs.length:=by rw[hs.len,qA]
 have bad:∀(e:Int) (n:Nat) (w':World),vB bs=(none,e,n)->Pure t w'->e=(vB bs).2.1/\(n:Int)=((vB bs).2.2:Int)/\DI t w' bs none/\Pure t w':=fun e n w' h E=>by
  rw[h];exact⟨rfl,rfl,⟨fun q hq=>(by rw[h]at hq;cases hq),fun _=>rfl⟩,E⟩
 refine⟨fun g=>?_,fun g=>?_⟩
 have g:4096<bs.length:=Oh<|of_decide_eq_true g
 exact bad 1 0 t (by unfold vB;rw[if_pos g])<|ab.refl _
 have g:bs.length<=4096:=Oh<|of_decide_eq_false g
 refine⟨fun B=>?_,fun B=>?_⟩
 have B:bs.length=0:=Oh<|beq_iff_eq.1 B
 exact bad 3 0 t (by unfold vB;rw[if_neg Om,if_pos B])<|ab.refl _
 have B:bs.length≠0:=Oh<|beq_eq_false_iff_ne.1 B
 have htxt:vB bs=oB bs bs.length [] ⟨0,0,0⟩ []:=by unfold vB;rw[if_neg Om,if_neg B]
 refine(KB t).mono ?_
 rintro _ w1 ⟨_,rfl,q,rfl,E1,FP0,hP,hFP⟩
 refine⟨_,rfl,E1.bo,?_⟩
 refine(Tc sb bs w1 (hs.pure E1) hz Om).mono ?_
 rintro _ w2 ⟨_,rfl,a,s,rfl,hR,E2,ha,S⟩
 refine⟨_,rfl,E2.bo,?_⟩
 refine(N9 w2).mono ?_
 rintro _ w3 ⟨_,rfl,m,F,rfl,hK,E3,hm,hF⟩
 refine⟨_,rfl,E3.bo,?_⟩
 have z1:=E1.size;have z2:=E2.size;have z3:=E3.size
 have la:a.block<w2.heap.size:=hR.box.lt
 have hnil:∀b,¬Sl.nil.ao b:=fun b d=>by have⟨a,h,_⟩:=d;cases h
 have R3:PO t w3 q a s bs [] ⟨0,0,0⟩ m s.ao FP0 F [] Sl.nil:=
  ⟨⟨(hP.pure E2).pure E3,hR.pure E3,hK,fun b d=>Oh<|S b d,Om,fun b d=>by have h1:=hP.lt d;exact⟨Om,fun hh=>Oh<|S b hh,fun hh=>Oh<|hF b hh,Om⟩,fun b d=>by have:=hF b d;exact⟨Om,fun hh=>Oh<|S b hh⟩,Om,fun hh=>Oh<|S _ hh⟩,(E1.trans E2).trans E3,hFP,Om,bf.nil _ _ _,fun b d=>(hnil b d).elim⟩
 refine⟨fun o Hl w=>∃(L:av) (r:Rd) (D:List Nat) (G:NP) (n:Nat),Hl=ar/\PO t w q a s bs L r m s.ao G F D o/\Wf L/\D.length=L.length/\D.length<=r.at_/\r.at_<=bs.length/\r.cm=0/\bs.length-r.at_<=n/\oB bs n L r D=vB bs,fun o _=>bs.length+1-o.len,⟨[],⟨0,0,0⟩,[],FP0,bs.length,rfl,R3,Wf.nil,rfl,Nat.zero_le _,Nat.zero_le _,rfl,Nat.le_refl _,htxt.symm⟩,?_⟩
 rintro o _ wl _ ⟨L,r,D,G,n,rfl,f,hW,hps,hpr,hra,hre,hn,l⟩
 unfold KG
 have hpl:o.len=D.length:=by rw[f.cj.len,vA,length_map]
 refine(Vy a s bs r wl f.st.rd hra).mono ?_
 rintro _ w4 ⟨_,rfl,rfl,E4⟩
 refine⟨_,rfl,E4.bo,fun hc3=>?_,fun hc3=>?_⟩
 have Q:r.at_<bs.length:=Oh<|of_decide_eq_true hc3
 obtain⟨n,rfl⟩:∃k,n=k+1:=⟨n-1,Om⟩
 rw[oB,if_pos Q]at l
 have S4:=f.st.pure E4
 refine(jaz a s bs r w4 S4.rd).mono ?_
 rintro _ _ ⟨_,rfl,rfl,rfl⟩
 refine⟨_,rfl,aj.refl _,?_⟩
 refine(zBC q a s bs r m S4 hW.ok Q hre).mono ?_
 rintro _ w6 ⟨_,rfl,rfl,F',hP6,hR6,E6,hF6⟩
 have z4:=E4.size;have z6:=E6.size
 have E06:Pure t w6:=(f.pure.trans E4).cg E6 fun i hi hh=>hh.elim (fun hh=>Oh<|f.oP i hh) Gd
 refine⟨_,rfl,E6.bl fun b d=>d.elim,fun hc4=>?_,fun hc4=>?_⟩
 grind
 have h0:(vT bs L r).2.1=0:=by simpa using hc4
 rw[if_neg<|by simpa using h0]at l
 have⟨a1,a2,a3⟩:=Iu bs L r Q hre h0
 have hw6:Wf (vT bs L r).1/\(vT bs L r).1.length=L.length+1:=by
  rw[zv bs L r Q hre]at h0|-;split at h0;rename_i hk;rw[if_pos hk];have⟨_,_,e3,e4,e5⟩:=HV h0;rw[e5];simp only;refine⟨uQ hW _,?_⟩;have g:=(uU e4).2.2;unfold ax at e4|-;simp only[e3]at e4|-;rw[if_neg (by rw[g];simp)]at e4|-;split at e4;simp at e4;grind;simp at h0
 intro p1 w7 n7
 have E7:Pure w6 w7:=ab.aw n7
 have z7:=E7.size
 have R7:bf w7 3 1 o (bz<|D.map Int.ofNat):=((f.cj.pure E4).ext E6 fun b d hh=>hh.elim (f.ak b d).2.1 (f.ak b d).2.2.1).pure E7
 have⟨s1,w8,hr8,hR8,J,hb8⟩:=R7.append (P:=prog) (ty:=42) (c:=1) yc (ai.fp n7).row rfl rfl (by rw[vA,length_map];omega) (by rw[vA,length_map];simp only[maxLen];omega)
 have hpw:∀b,o.ao b->b<wl.heap.size:=fun b d=>f.cj.lt d
 have z8:=J.size
 have E08:Pure t w8:=(E06.trans E7).cg J fun i hi hh=>Oh<|(f.ak i hh).1
 have W:∀b,F' b->¬o.ao b:=fun b d hh=>(hF6 b d).elim (fun h=>(f.ak b hh).2.1 h) Gd
 have p:=S4
 have S8:pr w8 q a s bs (vT bs L r).1 (vT bs L r).2.2 m s.ao F' F:=by
  refine⟨(hP6.pure E7).ext J W,(hR6.pure E7).ext J (fun b d hh=>(f.ak b hh).2.2.2.1 d) fun hh=>(f.ak _ hh).2.2.1 rfl,((p.mf.ext E6 fun b d hh=>?_).pure E7).ext J fun b d hh=>?_,fun b d=>Oh<|p.lS b d,Oh p.la,fun b d=>?_,p.dF,p.dm⟩;rcases d with d|rfl;exact hh.elim (fun hh=>(p.dP b hh).2.2.1 d) fun hh=>(p.dF b d).1 hh;exact hh.elim (fun hh=>(p.dP _ hh).2.2.2 rfl) fun hh=>p.dm.1 hh;rcases d with d|rfl;exact(f.ak b hh).2.2.2.2.1 d;exact(f.ak _ hh).2.2.2.2.2 rfl;rcases hF6 b d with h|h;exact p.dP b h;exact⟨Oh p.la,fun hh=>Oh<|p.lS b hh,fun hh=>Oh<|p.mf.lt b hh,Oh p.mf.Ar⟩
 refine⟨s1,w8,hr8,J.bl fun b d=>d.elim,⟨(vT bs L r).1,(vT bs L r).2.2,D++[r.at_],F',n,rfl,⟨S8,E08,fun b d=>(hF6 b d).elim (f.oP b) fun h=>Oh f.pure.size,f.oa,?_,fun b d=>?_⟩,hw6.1,by rw[length_append,length_singleton,hw6.2];omega,by rw[length_append,length_singleton];omega,a2,a3,Om,l⟩,?_⟩
 have:bz ((D++[r.at_]).map Int.ofNat)=bz (D.map Int.ofNat)++[[vi (r.at_:Int)]]:=by simp[bz]
 rw[this];exact hR8
 rcases hb8 b d with h|h
 have:=f.ak b h
 exact⟨this.1,fun hh=>W b hh h,this.2.2⟩
 have h1:=f.pure.size
 exact⟨Om,fun hh=>Oh<|hP6.lt hh,Oh p.la,fun hh=>Oh<|p.lS b hh,fun hh=>Oh<|p.mf.lt b hh,Oh p.mf.Ar⟩
 have h1:s1.len=D.length+1:=by rw[hR8.len,length_append,vA,length_map];rfl
 show bs.length+1-s1.len<bs.length+1-o.len
 omega
 have hge:¬r.at_<bs.length:=Oh<|of_decide_eq_false hc3
 rw[Fz hge]at l
 intro u w9 n9
 have E9:Pure w4 w9:=ab.aw n9
 have B9:=ai.fp n9
 have b9:=n9.cu
 refine⟨B9.ia Sm,id,?_⟩
 rintro I e10
 have X10:ab (·=u.block) w9 I:=by rw[e10];exact ab.setCell _ _
 have B10:ai I u [vi 0] 3:=by rw[e10];exact B9.jb
 have z4:=E4.size;have z9:=E9.size;have z10:=X10.size
 have E4':Pure wl I:=(E4.trans E9).ak Om X10
 have zw:=f.pure.size
 have Z:=f.st.bj.pure E4'
 have R10:=f.cj.pure E4'
 refine(HZ q I Z).mono ?_
 rintro _ I ⟨_,rfl,rfl,rfl⟩
 refine⟨_,rfl,aj.refl _,?_⟩
 refine(GX q L.length I).mono ?_
 rintro _ w12 ⟨_,rfl,q2,q3,rfl,Bq2,Bq3,C⟩
 have z12:=C.size
 refine⟨_,rfl,C.bo,_,_,rfl,call178,_,_,GO hW (Z.pure C) Bq2 Bq3,?_⟩
 have hfew:=uW hW L.length
 have hlf:=hW.ok.fm
 unfold qh at l
 simp only at l
 generalize hxs:dc L L.length=xs at *
 have E012:Pure t w12:=(f.pure.trans E4').trans C
 have vb:∀b,(b=u.block\/G b\/o.ao b)->t.heap.size<=b:=fun b d=>d.elim (fun h=>Om) fun d=>d.elim (f.oP b) fun h=>(f.ak b h).1
 have dP2:¬G u.block/\¬o.ao u.block:=⟨fun hh=>Oh<|f.st.bj.lt hh,fun hh=>Oh<|f.cj.lt hh⟩
 refine⟨fun az Y A=>ai A u [vi (az.length:Int)] 3/\gy 0 az=az.length/\zD A q L G/\bf A 3 1 o (bz<|D.map Int.ofNat)/\(∀b,(b=u.block\/G b\/o.ao b)->¬Y b)/\Pure t A,
  fun az Y A=>ai A u [vi (gy 0 xs:Int)] 3/\zD A q L G/\bf A 3 1 o (bz<|D.map Int.ofNat)/\(∀b,(b=u.block\/G b\/o.ao b)->¬Y b)/\Pure t A,⟨fun _ _ _ _=>trivial,?_,?_,fun _ _ _ _ _ h=>h.elim⟩,?_,?_,?_⟩
 rintro az Y A Y' A' ⟨H,g2,N,O,X,U⟩ aq
 have hv:∀b,(b=u.block\/G b\/o.ao b)->¬Y' b:=aq.ja fun b d=>⟨d.elim (fun e=>e▸H.lt) fun d=>d.elim (fun h=>N.lt h) fun h=>O.lt h,X b d⟩
 exact⟨H.ext aq.ext<|hv _<|.inl rfl,g2,N.ext aq.ext Gd,O.ext aq.ext Gd,hv,U.aq aq⟩
 rintro az Y A Y' A' ⟨H,N,O,X,U⟩ aq
 have hv:∀b,(b=u.block\/G b\/o.ao b)->¬Y' b:=aq.ja fun b d=>⟨d.elim (fun e=>e▸H.lt) fun d=>d.elim (fun h=>N.lt h) fun h=>O.lt h,X b d⟩
 exact⟨H.ext aq.ext<|hv _<|.inl rfl,N.ext aq.ext fun b d=>hv b<|.inr<|.inl d,O.ext aq.ext fun b d=>hv b<|.inr<|.inr d,hv,U.aq aq⟩
 exact⟨B10.pure C,rfl,Z.pure C,R10.pure C,fun _ _ h=>h,E012⟩
 rintro az z Y A ⟨H,g2,N,O,X,U⟩ hsA ⟨post,K⟩
 have hpl2:az.length<65536:=by have:=congrArg List.length K;simp only[length_append,length_cons]at this;omega
 have hw:IntKind.i64.wrap ((az.length:Int)+1)=((az.length+1:Nat):Int):=zN (n:=az.length+1) Om Om
 refine⟨_,H.bd,fun g=>?_,fun g=>?_⟩
 have g:z≠((az.length+1:Nat):Int):=by rw[hw]at g;exact bne_iff_ne.1 g
 have aq:=Xp az 0 z post Om Om
 rw[<-K,Nat.zero_add]at aq
 exact⟨aj.refl _,by rw[aq];exact H,N,O,X,U⟩
 have g:z=((az.length+1:Nat):Int):=by rw[hw]at g;simpa using g
 have hsn:=Q9 az 0 z Om
 rw[if_pos Om]at hsn
 refine⟨_,H.bd,H.ia Sm,id,?_⟩
 rintro w13 e13
 have R:ab (·=u.block) A w13:=by rw[e13];exact ab.setCell _ _
 have B13:ai w13 u [vi ((az++[z]).length:Int)] 3:=by
  rw[e13,length_append,length_singleton,<-hw];exact H.jb
 exact⟨R.bl Gd,B13,by rw[hsn,length_append,length_singleton];omega,N.ext R fun b d e=>dP2.1<|e▸d,O.ext R fun b d e=>dP2.2<|e▸d,X,U.cg R fun i hi e=>Om⟩
 rintro H1 T hs14 _ _ hI
 have hI:ai T u [vi (gy 0 xs:Int)] 3/\zD T q L G/\bf T 3 1 o (bz<|D.map Int.ofNat)/\(∀b,(b=u.block\/G b\/o.ao b)->¬H1 b)/\Pure t T:=Gd
 have⟨H,N,O,X,U⟩:=hI
 refine⟨_,H.bd,fun g=>?_,fun g=>?_⟩
 have g:=vW hpl g
 rw[dif_pos g]at l
 intro w15 M
 have hv15:∀b,(b=u.block\/G b\/o.ao b)->¬H1 b:=X
 have g1':=H.ext M.ext<|hv15 _<|.inl rfl
 have g4':=O.ext M.ext Gd
 have⟨a1,hat,_,hv5⟩:=uB g4'.ei (j:=gy 0 xs) (by simpa using g)
 refine⟨_,g1'.bd,a1,hat,_,hv5,fun w16 hs16=>?_⟩
 have:=bad _ _ w16 l.symm<|(U.aq M).aq hs16
 rw[getElem_map]
 exact this
 have g:¬gy 0 xs<D.length:=Oh<|of_decide_eq_false g
 rw[dif_neg g]at l
 intro w17 V
 have hF17:zD w17 q L G:=N.ext V.ext Gd
 rw[<-l]
 exact⟨rfl,rfl,⟨fun q' hq'=>by rw[<-l]at hq';cases hq';exact⟨q,G,rfl,hF17,f.oP⟩,fun hn=>by rw[<-l]at hn;cases hn⟩,U.aq V⟩
def DI.bj{w0 w' bs x}(h:DI w0 w' bs x){q}(a:(vB bs).1=some q):∃p F,x=some p/\zD w' p q F/\∀b,F b->w0.heap.size<=b:=h.1 q a
end Go.Proofs
end
section
open Go Go.SE
namespace Go.Proofs
def Li(Lq):∀(c d:List Int) (L:av) (ak:Int->Int),zT Lq (c++d) L ak=if(zT Lq c L ak).2.1≠0 then zT Lq c L ak else zT Lq d (zT Lq c L ak).1 (zT Lq c L ak).2.2:=by
 intro c;induction c with
 |nil=>intro d L ak;rw[List.nil_append];exact(if_neg fun h=>h rfl).symm
 |cons z c g =>
  intro d L ak
  obtain⟨x,e,f,hm⟩:∃x e f,ax L { ad Lq z with a:=ak (ad Lq z).a,b:=ak (ad Lq z).b }=(x,e,f):=⟨_,_,_,rfl⟩
  rw[List.cons_append,qG Lq z (c++d) L ak rfl hm,qG Lq z c L ak rfl hm]
  by_cases i:e≠0
  grind
  grind
def GN(Lq):∀(l:List Int) (L:av) (ak:Int->Int),∃M,(zT Lq l L ak).1=L++M:=by
 intro l;induction l with
 |nil=>intro L ak;exact⟨[],(List.append_nil L).symm⟩
 |cons z l h =>
  intro L ak
  obtain⟨x,e,c,hm⟩:∃x e c,ax L { ad Lq z with a:=ak (ad Lq z).a,b:=ak (ad Lq z).b }=(x,e,c):=⟨_,_,_,rfl⟩
  rw[qG Lq z l L ak rfl hm]
  split
  exact⟨[],Sm⟩
  have⟨i,d⟩:=yG L { ad Lq z with a:=ak (ad Lq z).a,b:=ak (ad Lq z).b }
  rw[hm]at d
  have⟨g,f⟩:=h c fun y=>if y=z then x else ak y
  simp only at d
  exact⟨i++g,by rw[f,d,List.append_assoc]⟩
def MD{Lq}:∀(l:List Int) (L:av) (ak:Int->Int),Wf L->Wf (zT Lq l L ak).1:=by
 intro l;induction l with
 |nil=>intro L ak h;exact h
 |cons z l f =>
  intro L ak h
  obtain⟨x,e,c,hm⟩:∃x e c,ax L { ad Lq z with a:=ak (ad Lq z).a,b:=ak (ad Lq z).b }=(x,e,c):=⟨_,_,_,rfl⟩
  have d:=uQ h { ad Lq z with a:=ak (ad Lq z).a,b:=ak (ad Lq z).b }
  rw[qG Lq z l L ak rfl hm]
  rw[hm]at d
  split
  exact h
  exact f _ _ d
def QP{Lq l post z L}{ak:Int->Int}(g:(zT Lq l L ak).2.1=0){n}(f:{ ad Lq z with a:=(zT Lq l L ak).2.2 (ad Lq z).a,b:=(zT Lq l L ak).2.2 (ad Lq z).b }=n)(d:(ax (zT Lq l L ak).1 n).2.1≠0):
  (zT Lq (l++z ::post) L ak).2.1=(ax (zT Lq l L ak).1 n).2.1:=by
 obtain⟨x,e,c,hm⟩:∃x e c,ax (zT Lq l L ak).1 n=(x,e,c):=⟨_,_,_,rfl⟩
 rw[hm]at d|-
 rw[Li,if_neg Gd,qG Lq z post _ _ f hm,if_pos d]
def Nv{Lq l z L}{ak:Int->Int}(g:(zT Lq l L ak).2.1=0){n}(f:{ ad Lq z with a:=(zT Lq l L ak).2.2 (ad Lq z).a,b:=(zT Lq l L ak).2.2 (ad Lq z).b }=n)(d:(ax (zT Lq l L ak).1 n).2.1=0):
  zT Lq (l++[z]) L ak=((ax (zT Lq l L ak).1 n).2.2,0,fun x=>if x=z then(ax (zT Lq l L ak).1 n).1 else(zT Lq l L ak).2.2 x):=by
 obtain⟨x,e,c,hm⟩:∃x e c,ax (zT Lq l L ak).1 n=(x,e,c):=⟨_,_,_,rfl⟩
 rw[hm]at d|-
 rw[Li,if_neg Gd,qG Lq z [] _ _ f hm,if_neg fun h=>h d]
 rfl
end Go.Proofs
namespace Go.Proofs
open Tryz
attribute [local irreducible] Calls CallsD
def Pa{w:World}{a:Addr}{k:Nat}{v:Value}:ab (·=a.block) w (w.setCell (a.add k) v):=(ab.setCell _ _).mono (fun i _ e=>by rw[zC]at e;exact e)
def Am(M:List (Int×Int))(x:Int):Int:=(SE.eu M x).getD 0
def HR(c f d g a e:Addr)(h:Nat)(F' FQ:NP)(b:Nat):Prop:=b=c.block\/b=f.block\/b=d.block\/b=g.block\/b=a.block\/b=e.block\/b=h\/F' b\/FQ b
structure rL(A:World)(p q b e c f a d:Addr)(g n:Nat):Prop where
 b2:ai A b [vp<|some p] 91
 b3:ai A e [vp<|some q] 91
 b4:ai A c [vi 0] 73
 b5:ai A f [vi 0] 54
 b6:ai A a [vi (n:Int)] 3
 b8:ai A d [.map<|some g] 197
def rL.ext{A A':World}{p q d g e i c f:Addr}{j n:Nat}{F' FQ G:NP}(h:rL A p q d g e i c f j n)(E:ab G A A')(a:∀b,(b=d.block\/b=g.block\/b=e.block\/b=i.block\/b=c.block\/b=f.block)->¬G b):rL A' p q d g e i c f j n:=
 ⟨h.b2.ext E<|a _<|.inl rfl,h.b3.ext E<|a _<|.inr<|.inl rfl,h.b4.ext E<|a _<|.inr<|.inr<|.inl rfl,h.b5.ext E<|a _<|.inr<|.inr<|.inr<|.inl rfl,h.b6.ext E<|a _<|.inr<|.inr<|.inr<|.inr<|.inl rfl,h.b8.ext E<|a _<|.inr<|.inr<|.inr<|.inr<|.inr rfl⟩
def rL.pure{A A':World}{p q b e c f a d:Addr}{g n:Nat}(h:rL A p q b e c f a d g n)(E:Pure A A'):rL A' p q b e c f a d g n:=h.ext (F':=ar) (FQ:=ar) E fun _ _ h=>h
def rL.lt{A p q p2 p3 p4 p5 p6 p8 mb n b}(h:rL A p q p2 p3 p4 p5 p6 p8 mb n)(a:b=p2.block\/b=p3.block\/b=p4.block\/b=p5.block\/b=p6.block\/b=p8.block):b<A.heap.size:=by
 rcases a with rfl|rfl|rfl|rfl|rfl|rfl;exact h.b2.lt;exact h.b3.lt;exact h.b4.lt;exact h.b5.lt;exact h.b6.lt;exact h.b8.lt
def Lp(p q:Addr)(t:Int)(n:World){L Lq:av}{FP FQ:NP}(hW:Wf L)(hQ:Wf Lq)(hP:zD n p L FP)(hPQ:zD n q Lq FQ)(hd:∀b,FP b->¬ FQ b):
  cl 69 #[vp<|some p,vp<|some q,vi t] n<|XH fun r1 r2 w'=>r1=(vI L Lq t).1/\r2=(vI L Lq t).2.1/\∃F',zD w' p (vI L Lq t).2.2 F'/\ab FP n w'/\∀b,F' b->FP b\/n.heap.size<=b:=by
 refine UM _ _ _ n _ ?_
 intro W w1 n2 Q w2 n3 j w3 n4 l w4 n5
 have E1:Pure n w1:=ab.aw n2
 have E2:Pure w1 w2:=ab.aw n3
 have E3:Pure w2 w3:=ab.aw n4
 have E4:Pure w3 w4:=ab.aw n5
 have B2:=(((ai.fp n2).pure E2).pure E3).pure E4
 have B3:=((ai.fp n3).pure E3).pure E4
 have B4:=(ai.fp n4).pure E4
 have B5:=ai.fp n5
 have b2:=n2.cu;have b3:=n3.cu;have b4:=n4.cu;have b5:=n5.cu
 have z1:=E1.size;have z2:=E2.size;have z3:=E3.size;have z4:=E4.size
 have l1:=(ai.fp n2).lt;have l2:=(ai.fp n3).lt;have l3:=(ai.fp n4).lt;have l4:=B5.lt
 have E04:Pure n w4:=((E1.trans E2).trans E3).trans E4
 refine⟨some p,B2.bd,fun hc=>(by cases hc),fun _=>⟨some q,B3.bd,?_⟩⟩
 refine(zm q t w4<|hPQ.pure E04).mono ?_
 rintro _ _ ⟨_,rfl,rfl,rfl⟩
 refine⟨_,rfl,aj.refl _,fun hc=>?_,fun hc=>?_⟩
 have hin:al Lq t=false:=by simpa using hc
 have e:vI L Lq t=(0,51,L):=by unfold vI;rw[if_neg (by rw[hin];simp)]
 rw[e]
 refine⟨B4.ia Sm,id,?_⟩
 rintro w8 e8
 have X8:ab (·=j.block) w4 w8:=by rw[e8];exact ab.setCell _ _
 have B48:ai w8 j [vi 0] 73:=by rw[e8];exact B4.jb
 have B58:=B5.ext X8 Om
 refine⟨B58.ia Sm,id,?_⟩
 rintro w9 e9
 have X9:ab (·=l.block) w8 w9:=by rw[e9];exact ab.setCell _ _
 have B59:ai w9 l [vi 51] 54:=by rw[e9];exact B58.jb
 have B49:=B48.ext X9 Om
 refine⟨_,B49.bd,_,B59.bd,rfl,rfl,FP,((hP.pure E04).ext X8 fun b d e=>Oh<|hP.lt d).ext X9 fun b d e=>Oh<|hP.lt d,ab.pure<|(E04.ak Om X8).ak Om X9,fun b d=>.inl d⟩
 have hin:al Lq t=true:=by simpa using hc
 obtain⟨sl,hsl,hsll⟩:∃v4:Sl,w4.cell? p=some v4.v/\v4.len=L.length:=by
  have⟨s,m,h,_⟩:=hP.pure E04;exact⟨s,h.box.bd,by rw[h.cj.len,List.length_map]⟩
 refine⟨some p,B2.bd,p,rfl,sl,hsl,?_⟩
 rw[hsll]
 intro D w10 n6
 have E10:Pure w4 w10:=ab.aw n6
 have B6:=ai.fp n6
 have b6:=n6.cu
 refine⟨B6.ia Sm,id,?_⟩
 rintro w11 e11
 have X11:ab (·=D.block) w10 w11:=by rw[e11];exact ab.setCell _ _
 have B6':ai w11 D [vi (L.length:Int)] 3:=by rw[e11];exact B6.jb
 intro p7 w12 n7
 have E12:Pure w11 w12:=ab.aw n7
 have M7:=fc.bh (f:=fun i:Int=>vi i) n7
 have b7:=n7.cu
 intro C w13 n8
 have U:Pure w12 w13:=ab.aw n8
 have B8:=ai.fp n8
 have b8:=n8.cu
 refine⟨B8.ia Sm,id,?_⟩
 rintro S e14
 have V:ab (·=C.block) w13 S:=by rw[e14];exact ab.setCell _ _
 have B8':ai S C [.map<|some p7.block] 197:=by rw[e14];exact B8.jb
 have z10:=E10.size;have z11:=X11.size;have z12:=E12.size;have z13:=U.size;have z14:=V.size
 have l6:=B6'.lt;have l7:=M7.lt;have l8:=B8.lt
 have E07:Pure n S:=((((E04.trans E10).ak Om X11).trans E12).trans U).ak Om V
 have up:∀{T:TypeId} {c:Addr} {vs:List Value},ai w4 c vs T->c.block≠D.block->c.block≠C.block->ai S c vs T:=fun h h1 h2=>((((h.pure E10).ext X11 h1).pure E12).pure U).ext V h2
 have C14:rL S p q W Q j l D C p7.block L.length:=⟨up B2 Om Om,up B3 Om Om,up B4 Om Om,up B5 Om Om,((B6'.pure E12).pure U).ext V Om,B8'⟩
 have M14:=(M7.pure U).ext V Om
 refine⟨some q,C14.b3.bd,?_⟩
 refine(GX q t S).mono ?_
 rintro _ w15 ⟨_,rfl,q2,q3,rfl,Bq2,Bq3,E15⟩
 have E015:=E07.trans E15
 have z15:=E15.size
 refine⟨_,rfl,E15.bo,_,_,rfl,call178,_,_,GO hQ (hPQ.pure E015) Bq2 Bq3,?_⟩
 have hfew:=uW hQ t
 have hlq:=hQ.ok.fm
 have hsub:∀u∈dc Lq t,al Lq u=true:=fun u hu=>xH hQ hu
 have hnd:=BU hQ t
 generalize fa:vI L Lq t=cs at *
 have hcs':cs=if(zT Lq (dc Lq t) L fun _=>0).2.1≠0 then(0,(zT Lq (dc Lq t) L fun _=>0).2.1,L)else((zT Lq (dc Lq t) L fun _=>0).2.2 t,0,(zT Lq (dc Lq t) L fun _=>0).1):=by rw[<-fa];unfold vI;rw[if_pos hin]
 have htin:t∈dc Lq t:=EH hQ hin
 generalize dc Lq t=xs at *
 have C15:=C14.pure E15
 have M15:=M14.pure E15
 have o2:n.heap.size<=W.block:=Om
 have o3:n.heap.size<=Q.block:=Om
 have o4:n.heap.size<=j.block:=Om
 have o5:n.heap.size<=l.block:=Om
 have o6:n.heap.size<=D.block:=Om
 have o8:n.heap.size<=C.block:=Om
 have om:n.heap.size<=p7.block:=Om
 have d45:j.block≠l.block:=Om
 have dm:∀b,(b=W.block\/b=Q.block\/b=j.block\/b=l.block\/b=D.block\/b=C.block)->b≠p7.block:=fun b d=>by rcases d with rfl|rfl|rfl|rfl|rfl|rfl<;>omega
 have ob:∀b,(b=W.block\/b=Q.block\/b=j.block\/b=l.block\/b=D.block\/b=C.block\/b=p7.block)->n.heap.size<=b/\b<w15.heap.size:=fun b d=>by rcases d with rfl|rfl|rfl|rfl|rfl|rfl|rfl<;>omega
 generalize p7.block=r at *
 clear up B2 B3 B4 B5 B6 B6' B8 B8' M7 M14 C14 n2 n3 n4 n5 n6 n7 n8 X11 V E10 E12 U e11 e14 Bq2 Bq3 hsl
 have hPq:∀b,FQ b->b<n.heap.size:=fun b d=>hPQ.lt d
 refine⟨fun az Y A=>∃(F':NP) (M:List (Int×Int)),(zT Lq az L fun _=>0).2.1=0/\zD A p (zT Lq az L fun _=>0).1 F'/\fc (fun i:Int=>vi i) A r M/\M.map Prod.fst=az/\(∀x,(zT Lq az L fun _=>0).2.2 x=Am M x)/\rL A p q W Q j l D C r L.length/\zD A q Lq FQ/\(∀b,F' b->FP b\/(n.heap.size<=b/\¬(b=W.block\/b=Q.block\/b=j.block\/b=l.block\/b=D.block\/b=C.block\/b=r)))/\(∀b,HR W Q j l D C r F' FQ b->¬Y b)/\ab FP n A/\w15.heap.size<=A.heap.size,
  fun az Y A=>∃(F':NP) (e:Int),cs=(0,e,L)/\zD A p L F'/\ai A j [vi 0] 73/\ai A l [vi e] 54/\(∀b,F' b->FP b\/n.heap.size<=b)/\(∀b,(b=j.block\/b=l.block\/F' b)->¬Y b)/\ab FP n A,⟨fun _ _ _ _=>trivial,?_,fun _ _ _ _ _ h=>h.elim,?_⟩,?_,?_,?_,?_⟩
 rintro az Y A Y' A' ⟨F',M,g1,X,Z,g4,g5,F,g7,g8,B,R,g11⟩ aq
 have N:∀b,HR W Q j l D C r F' FQ b->¬Y' b:=aq.ja (fun b d=>⟨by
  rcases d with d|d|d|d|d|d|d|d|d;exact F.lt<|.inl d;exact F.lt<|.inr<|.inl d;exact F.lt<|.inr<|.inr<|.inl d;grind;grind;grind;exact d▸Z.lt;exact X.lt d;exact g7.lt d,B b d⟩)
 exact⟨F',M,g1,X.ext aq.ext fun b d=>N b<|.inr<|.inr<|.inr<|.inr<|.inr<|.inr<|.inr<|.inl d,Z.ext aq.ext<|N _<|.inr<|.inr<|.inr<|.inr<|.inr<|.inr<|.inl rfl,g4,g5,F.ext (F':=F') (FQ:=FQ) aq.ext fun b d=>N b (by rcases d with h|h|h|h|h|h<;>simp only[HR,h,true_or,or_true]),g7.ext aq.ext fun b d=>N b<|.inr<|.inr<|.inr<|.inr<|.inr<|.inr<|.inr<|.inr d,g8,N,R.aq aq,Nat.le_trans g11 aq.ext.size⟩
 rintro az Y A Y' A' ⟨F',e,g1,X,Z,g4,g5,F,g7⟩ aq
 have N:∀b,(b=j.block\/b=l.block\/F' b)->¬Y' b:=aq.ja (fun b d=>⟨by
  rcases d with d|d|d;exact d▸Z.lt;exact d▸g4.lt;exact X.lt d,F b d⟩)
 exact⟨F',e,g1,X.ext aq.ext fun b d=>N b<|.inr<|.inr d,Z.ext aq.ext<|N _<|.inl rfl,g4.ext aq.ext<|N _<|.inr<|.inl rfl,g5,N,g7.aq aq⟩
 exact⟨FP,[],rfl,hP.pure E015,M15,rfl,fun _=>rfl,C15,hPQ.pure E015,fun b d=>.inl d,fun _ _ h=>h,ab.pure E015,Nat.le_refl _⟩
 rintro az z Y A ⟨F',M,g1,X,Z,g4,g5,F,g7,g8,B,R,g11⟩ hsA ⟨post,hpost⟩
 have hzin:al Lq z=true:=hsub z (by rw[hpost];simp)
 have hzn:z∉az:=Gd
 generalize o:zT Lq az L (fun _=>0)=g at *
 have hok:Ok g.1:=by rw[<-o];exact(MD az L _ hW).ok
 have hA0:=hsA.lt
 refine⟨some q,F.b3.bd,?_⟩
 refine(tz q z A g7 hQ.ok).mono ?_
 rintro _ w16 ⟨k,f,t',u,x,a,b,r3,rfl,⟨hn,_⟩,E16⟩
 have z16:=E16.size
 refine⟨_,_,_,_,_,_,_,_,rfl,E16.bl fun b d=>d.elim,?_⟩
 intro p9 w17 n9
 have E17:Pure w16 w17:=ab.aw n9
 have B9:=ai.fp n9
 have b9:=n9.cu
 have z17:=E17.size
 refine⟨B9.uz Sm,id,?_⟩
 rintro O e18
 have X18:ab (·=p9.block) w17 O:=by rw[e18];exact ab.bb _ _ _
 have B18:ai O p9 (tK ⟨k,f,t',u,x,a,b⟩) 119:=by rw[e18];exact B9.store rfl
 have z18:=X18.size
 have l9:=B18.lt
 have gq:∀{G:NP} {w':World},ab G A w'->(∀b,b<A.heap.size->¬G b)->fc (fun i:Int=>vi i) w' r M/\rL w' p q W Q j l D C r L.length/\zD w' q Lq FQ/\zD w' p g.1 F':=fun {G w'} E hG =>
  ⟨Z.ext E<|hG _ Z.lt,F.ext (F':=F') (FQ:=FQ) E fun b d=>hG b<|F.lt d,g7.ext E fun b d=>hG b<|g7.lt d,X.ext E fun b d=>hG b<|X.lt d⟩
 have E18:ab (·=p9.block) A O:=(ab.pure<|E16.trans E17).trans X18
 have hg9:∀b,b<A.heap.size->¬(b=p9.block):=fun b d e=>Om
 have eu:∀{w':World},fc (fun i:Int=>vi i) w' r M->∀y,(Instr.lookup 197 (.map<|some r) (vi y) false).run prog w'=.ok (vi<|g.2.2 y) w':=fun {w'} h y=>by
  rw[g5 y];rcases h.get (P:=prog) (T:=197) underlying197 underlying73 (zeroValue73 _) y false with⟨hn,hr⟩|⟨v,N,hr⟩;unfold Am;rw[hn];exact hr;unfold Am;rw[N];exact hr
 refine⟨fun w'=>w'.cell? C=some (.map<|some r)/\fc (fun i:Int=>vi i) w' r M,?_,?_⟩
 have⟨k1,k2,_,_⟩:=gq (E18.fb<|ab.drew O) hg9
 exact⟨k2.b8.bd,k1⟩
 rintro w19 e19
 have E19:ab (·=p9.block) A w19:=by rw[e19];exact E18.fb<|ab.drew O
 have B19:ai w19 p9 (tK ⟨k,f,t',u,x,a,b⟩) 119:=by rw[e19];exact B18.pure<|ab.drew O
 have⟨k1,k2,k3,k4⟩:=gq E19 hg9
 refine⟨some r,k2.b8.bd,a,B19.cell (i:=5) rfl,_,eu k1 a,some r,fun w' h=>h.1,b,B19.cell (i:=6) rfl,_,fun w' h=>eu h.2 b,B19.ee (i:=5)<|by simp[tK],id,?_⟩
 rintro w20 e20
 have X20:ab (·=p9.block) w19 w20:=by rw[e20];exact Pa
 have B20:ai w20 p9 (tK ⟨k,f,t',u,x,g.2.2 a,b⟩) 119:=by rw[e20];exact B19.set 5 _
 have E20:=E19.trans X20
 have⟨k1',k2',_,_⟩:=gq E20 hg9
 refine⟨⟨k2'.b8.bd,k1'⟩,B20.ee (i:=6)<|by simp[tK],id,?_⟩
 rintro w21 e21
 have X21:ab (·=p9.block) w20 w21:=by rw[e21];exact Pa
 have B21:ai w21 p9 (tK ⟨k,f,t',u,x,g.2.2 a,g.2.2 b⟩) 119:=by rw[e21];exact B20.set 6 _
 have E21:=E20.trans X21
 have⟨m1,m2,m3,m4⟩:=gq E21 hg9
 have z21:=E21.size
 refine⟨some p,m2.b2.bd,k,f,t',u,x,g.2.2 a,g.2.2 b,B21.row,?_⟩
 have hnn:({ ad Lq z with a:=g.2.2 (ad Lq z).a,b:=g.2.2 (ad Lq z).b }:df)=⟨k,f,t',u,x,g.2.2 a,g.2.2 b⟩:=by rw[<-hn]
 refine(rY p k f t' u x (g.2.2 a) (g.2.2 b) w21 m4 hok).mono ?_
 rintro _ w22 ⟨r4,r5,rfl,he,F2,hP2,I,hF2⟩
 have he1:=congrArg Prod.fst he
 have he2:=congrArg Prod.snd he
 simp only at he1 he2
 have z22:=I.size
 have hF'o:∀b,F' b->¬(b=W.block\/b=Q.block\/b=j.block\/b=l.block\/b=D.block\/b=C.block\/b=r):=fun b d hh=>(g8 b d).elim (fun h=>Oi (hP.lt h)<|(ob b hh).1) fun h=>h.2 hh
 have n22:rL w22 p q W Q j l D C r L.length:=m2.ext (F':=F') (FQ:=FQ) I Gd
 have M22:=m1.ext I fun hh=>hF'o _ hh Sm
 have Q22:=m3.ext I Gd
 have kY:aj Y A w22:=(E21.bl fun b d e=>Oh<|hA0 b d).trans<|I.bl fun b d hh=>B b (.inr<|.inr<|.inr<|.inr<|.inr<|.inr<|.inr<|.inl hh) d
 have E022:ab FP n w22:=(R.cg E21 fun i hi e=>Oh R.size).cg I Gd
 have J:∀b,F2 b->FP b\/(n.heap.size<=b/\¬(b=W.block\/b=Q.block\/b=j.block\/b=l.block\/b=D.block\/b=C.block\/b=r)):=fun b d=>(hF2 b d).elim (g8 b) Gd
 have hF2Y:∀b,F2 b->¬Y b:=fun b d hY=>(hF2 b d).elim (fun h=>B b (.inr<|.inr<|.inr<|.inr<|.inr<|.inr<|.inr<|.inl h) hY) fun h=>Oh<|hA0 b hY
 refine⟨r4,r5,rfl,I.bl fun b d=>d.elim,fun hc=>?_,fun hc=>?_⟩
 have h5:(ax g.1 ⟨k,f,t',u,x,g.2.2 a,g.2.2 b⟩).2.1≠0:=by rw[<-he2];exact bne_iff_ne.1 hc
 have hfail:=@QP Lq az post z L (fun _=>0) (by rw[o];exact g1) ⟨k,f,t',u,x,g.2.2 a,g.2.2 b⟩ (by rw[o];exact hnn) (by rw[o];exact h5)
 rw[<-hpost,o,<-he2]at hfail
 have hcs2:cs=(0,r5,L):=by rw[hcs',hfail,if_pos (by rw[he2];exact h5)]
 refine⟨some p,n22.b2.bd,_,n22.b6.bd,?_⟩
 have⟨Mg,hMg⟩:=GN Lq az L fun _=>0
 rw[o]at hMg
 have hmk:∃M2,(ax g.1 ⟨k,f,t',u,x,g.2.2 a,g.2.2 b⟩).2.2=g.1++M2:=yG _ _
 have⟨M2,hM2⟩:=hmk
 rw[hM2,hMg,List.append_assoc]at hP2
 have hok2:Ok (L++(Mg++M2)):=by rw[<-List.append_assoc,<-hMg,<-hM2];exact Je hok _
 refine(KV p L.length w22 hP2 hok2 (by rw[List.length_append];omega)).mono ?_
 rintro _ w23 ⟨rfl,hP3,E23⟩
 rw[List.take_left]at hP3
 have n23:rL w23 p q W Q j l D C r L.length:=n22.ext (F':=F') (FQ:=FQ) E23 Gd
 refine⟨rfl,E23.bl fun b d=>d.elim,n23.b4.ia Sm,id,?_⟩
 rintro w24 e24
 have X24:ab (·=j.block) w23 w24:=by rw[e24];exact ab.setCell _ _
 have B24:ai w24 j [vi 0] 73:=by rw[e24];exact n23.b4.jb
 have B25:=n23.b5.ext X24 fun e=>d45 e.symm
 refine⟨B25.ia Sm,id,?_⟩
 rintro w25 e25
 have X25:ab (·=l.block) w24 w25:=by rw[e25];exact ab.setCell _ _
 have B25':ai w25 l [vi r5] 54:=by rw[e25];exact B25.jb
 have nF:∀b,F2 b->b≠j.block/\b≠l.block:=fun b d=>(J b d).elim (fun h=>Oh<|hP.lt h) Gd
 have nY4:¬Y j.block:=B _<|.inr<|.inr<|.inl rfl
 have nY5:¬Y l.block:=B _<|.inr<|.inr<|.inr<|.inl rfl
 refine⟨((kY.trans<|E23.bl fun b d hh=>hF2Y b hh d).trans<|X24.bl fun b d e=>nY4<|e▸d).trans (X25.bl fun b d e=>nY5<|e▸d),F2,r5,hcs2,(hP3.ext X24 fun b d e=>(nF b d).1 e).ext X25 fun b d e=>(nF b d).2 e,B24.ext X25 d45,B25',fun b d=>(J b d).imp id fun h=>h.1,?_,((E022.cg E23 Gd).cg X24 fun i hi e=>Om).cg X25 fun i hi e=>Om⟩
 rintro b (rfl|rfl|d)
 exact nY4
 exact nY5
 exact hF2Y b d
 have h5:(ax g.1 ⟨k,f,t',u,x,g.2.2 a,g.2.2 b⟩).2.1=0:=by rw[<-he2];simpa using hc
 have w:=@Nv Lq az z L (fun _=>0) (by rw[o];exact g1) ⟨k,f,t',u,x,g.2.2 a,g.2.2 b⟩ (by rw[o];exact hnn) (by rw[o];exact h5)
 rw[o,<-he1]at w
 have hlk:SE.eu M z=none:=uV.2 (by rw[g4];exact hzn)
 have⟨w26,hr26,hM26,H⟩:=M22.put (P:=prog) (T:=197) underlying197 underlying73 hlk r4
 have nm:∀b,F2 b->b≠r:=fun b d=>(J b d).elim Gd fun h e=>h.2 (by simp[e])
 have nYm:¬Y r:=B _<|.inr<|.inr<|.inr<|.inr<|.inr<|.inr<|.inl rfl
 have hmbo:=(ob r Sm).1
 refine⟨some r,n22.b8.bd,w26,hr26,H.bl fun b d=>d.elim,kY.trans<|H.bl fun b d e=>nYm<|e▸d,F2,M++[(z,r4)],by rw[w],by rw[w];exact hP2.ext H fun b d e=>nm b d e,hM26,by simp[g4],?_,n22.ext (F':=F') (FQ:=FQ) H fun b d e=>dm b d e,Q22.ext H Gd,J,?_,E022.cg H fun i hi e=>Om,Oh H.size⟩
 intro y
 rw[w]
 simp only
 unfold Am
 rw[Ov (by rw[g4];exact hzn)]
 by_cases e:y=z
 rw[if_pos e,if_pos e.symm];rfl
 rw[if_neg e,if_neg fun h=>e h.symm];exact g5 y
 rintro b (d|d|d|d|d|d|d|d|d)
 exact B b<|.inl d
 exact B b<|.inr<|.inl d
 exact B b<|.inr<|.inr<|.inl d
 exact B b<|.inr<|.inr<|.inr<|.inl d
 exact B b<|.inr<|.inr<|.inr<|.inr<|.inl d
 exact B b<|.inr<|.inr<|.inr<|.inr<|.inr<|.inl d
 grind
 exact hF2Y b d
 exact B b<|.inr<|.inr<|.inr<|.inr<|.inr<|.inr<|.inr<|.inr d
 rintro H1 w27 hs27 _ _ ⟨F',M,g1,X,Z,g4,g5,F,g7,g8,B,R,g11⟩
 have hcs2:cs=((zT Lq xs L fun _=>0).2.2 t,0,(zT Lq xs L fun _=>0).1):=by rw[hcs',if_neg<|by simpa using g1]
 have hlk:(Instr.lookup 197 (.map<|some r) (vi t) false).run prog w27=.ok (vi<|(zT Lq xs L fun _=>0).2.2 t) w27:=by
  rw[g5 t];rcases Z.get (P:=prog) (T:=197) underlying197 underlying73 (zeroValue73 _) t false with⟨hn,hr⟩|⟨v,N,hr⟩;unfold Am;rw[hn];exact hr;unfold Am;rw[N];exact hr
 generalize o:zT Lq xs L (fun _=>0)=g at *
 have nY4:¬H1 j.block:=B _<|.inr<|.inr<|.inl rfl
 have nY5:¬H1 l.block:=B _<|.inr<|.inr<|.inr<|.inl rfl
 refine⟨some r,F.b8.bd,_,hlk,F.b4.ia Sm,nY4,?_⟩
 rintro w28 e28
 have X28:ab (·=j.block) w27 w28:=by rw[e28];exact ab.setCell _ _
 have B28:ai w28 j [vi<|g.2.2 t] 73:=by rw[e28];exact F.b4.jb
 have B28':=F.b5.ext X28 fun e=>d45 e.symm
 refine⟨B28'.ia Sm,nY5,?_⟩
 rintro w29 e29
 have X29:ab (·=l.block) w28 w29:=by rw[e29];exact ab.setCell _ _
 have B29:ai w29 l [vi 0] 54:=by rw[e29];exact B28'.jb
 have B29':=B28.ext X29 d45
 intro w30 K
 have nF:∀b,F' b->b≠j.block/\b≠l.block:=fun b d=>(g8 b d).elim (fun h=>Oh<|hP.lt h) fun h=>⟨fun e=>h.2<|.inr<|.inr<|.inl e,fun e=>h.2<|.inr<|.inr<|.inr<|.inl e⟩
 refine⟨_,(B29'.ext K.ext nY4).bd,_,(B29.ext K.ext nY5).bd,?_⟩
 rw[hcs2]
 refine⟨rfl,rfl,F',((X.ext X28 fun b d e=>(nF b d).1 e).ext X29 fun b d e=>(nF b d).2 e).ext K.ext fun b d=>B b<|.inr<|.inr<|.inr<|.inr<|.inr<|.inr<|.inr<|.inl d,((R.cg X28 fun i hi e=>Om).cg X29 fun i hi e=>Om).aq K,fun b d=>(g8 b d).imp id fun h=>h.1⟩
 rintro az H2 w32 hs32 ⟨F',e,g1,X,Z,g4,g5,F,g7⟩
 refine⟨_,Z.bd,_,g4.bd,?_⟩
 rw[g1]
 exact⟨rfl,rfl,F',X,g7,g5⟩
end Go.Proofs
end
section
open Go Go.SE List
namespace Go.Proofs
open Tryz
attribute [local irreducible] Calls CallsD
def zFH{S0}(p sb bs w0){L FP}(u:Wf L)(m:zD w0 p L FP)(hs:dn S0 w0 1 sb (dj bs))(E:sb.a=none->sb=Sl.nil):
  cl 71 #[vp<|some p,sb.v] w0<|XJ fun t x y w'=>t=(yM L bs).1/\x=(yM L bs).2.1/\y=((yM L bs).2.2.1:Int)/\∃F',zD w' p (yM L bs).2.2.2 F'/\ab FP w0 w'/\∀b,F' b->FP b\/w0.heap.size<=b:=by
 refine jak _ _ w0 _ ?_
 refine⟨fun d=>(by cases d),fun _=>?_⟩
 refine(Ue sb bs w0 hs E).mono ?_
 rintro _ C ⟨x,y,z,rfl,j,o,e,i⟩
 refine⟨_,_,_,rfl,?_⟩
 cases c:(vB bs).1 with
 |none =>
  have n:yM L bs=(0,(vB bs).2.1,(vB bs).2.2,L):=by unfold yM;rw[c]
  have s:y≠0:=by rw[j];exact xQ c
  refine⟨fun _=>?_,fun d=>absurd (by simpa using d) s⟩
  rw[n]
  exact⟨rfl,j,o,FP,m.pure i,ab.pure i,fun b f=>.inl f⟩
 |some q =>
  obtain⟨a,F,rfl,g,D⟩:=e.bj c
  have⟨w,_,G,_⟩:=xB c
  have A:=JF c
  have n:yM L bs=((vI L q q.length).1,(vI L q q.length).2.1,0,(vI L q q.length).2.2):=by unfold yM;rw[c]
  rw[A]at j
  refine⟨fun d=>absurd j<|by simpa using d,fun _=>?_⟩
  refine(HZ a C g).mono ?_
  rintro _ B ⟨_,rfl,rfl,rfl⟩
  refine⟨_,rfl,?_⟩
  refine(Lp p a q.length B u w (m.pure i) g fun b f hh=>Oi (m.lt f)<|D b hh).mono ?_
  rintro _ H ⟨r1,r2,rfl,h1,h2,F',k,r,l⟩
  refine⟨_,_,rfl,?_⟩
  rw[n]
  exact⟨h1,h2,rfl,F',k,(ab.pure i).trans r,fun b f=>(l b f).imp id fun h=>Oh i.size⟩
end Go.Proofs
end
section
open Go Go.SE
namespace Go.Proofs
open Tryz
attribute [local irreducible] Calls CallsD
def jaB{w e sz s rs}(h:bf w e sz s rs):s.a=none->s=Sl.nil:=by
 intro b;rcases h.ak with⟨h,_⟩|⟨g,cur,h,_⟩;exact h;rw[b]at h;cases h
def zEU(f:bq):∀args w,(callFunc f.put args).run prog w=.ok (.enter f.put args) w:=by
 cases f;exact call249;exact call253;exact call255;exact call257;exact call261;exact call263
def zBA{P T K E Q w m}{es:List (Value×Value)}(h:jn w m es)(d:P.underlying T=some (.map K E)):(Builtin.len_ #[T] Q #[.map<|some m]).run P w=.ok (vi (es.length:Int)) w:=by
 obtain⟨b,a,hm,rfl,_,_⟩:=h.ex;have c:(getObj m).run P w=.ok (.map b a) w:=by simp[getObj,Sem.run,hm]
 simp[Builtin.len_,run_underlying d,c,goInt]
def zEF{n}(h:bq.fst∈qN n.kind):n.a∈zB n:=by
 unfold qN at h;unfold zB bk
 repeat' split at h
 all_goals first|(exfalso;revert h;decide)|skip
 all_goals (rename_i h1;rw[h1];simp)
def Zh{n}(h:bq.snd∈qN n.kind):n.b∈zB n:=by
 unfold qN at h;unfold zB bk
 repeat' split at h
 all_goals first|(exfalso;revert h;decide)|skip
 all_goals (rename_i h1;rw[h1];simp)
structure Lx(p2 p3 p4 p6:Addr)(m mb:Nat)(FP F:NP)(B:Nat):Prop where
 lt:p2.block<B/\p3.block<B/\p4.block<B/\p6.block<B/\m<B/\mb<B
 lF:∀b,F b->b<B
 lP:∀b,FP b->b<B
 d3:p2.block≠p3.block/\p4.block≠p3.block/\p6.block≠p3.block/\mb≠p3.block/\m≠p3.block/\¬F p3.block/\¬FP p3.block
 db:p2.block≠mb/\p4.block≠mb/\p6.block≠mb/\m≠mb/\¬F mb/\¬FP mb
def EB(p2 p3 p4 p6:Addr)(m mb:Nat)(FP F:NP)(s:Sl)(b:Nat):Prop:=
 b=p2.block\/b=p3.block\/b=p4.block\/b=p6.block\/b=m\/b=mb\/F b\/FP b\/s.ao b
structure qp(A:World)(p p2 p3 p4 p6:Addr)(m mb:Nat)(L:av)(FP F:NP)(s:Sl)(bs:List UInt8)(M:List (Int×Int)):Prop where
 b2:ai A p2 [vp<|some p] 91
 b3:ai A p3 [s.v] 59
 b4:ai A p4 [.map<|some m] 249
 b6:ai A p6 [.map<|some mb] 231
 cj:bf A 5 1 s (dj bs)
 re:fc (fun i:Int=>vi i) A mb M
 mf:pQ A m F
 bj:zD A p L FP
section
variable {A A':World} {p p2 p3 p4 p6:Addr} {m mb B:Nat} {L:av} {FP F G:NP} {s s':Sl} {bs bs':List UInt8} {M:List (Int×Int)}
def qp.ext(h:qp A p p2 p3 p4 p6 m mb L FP F s bs M)(E:ab G A A')(a:∀b,EB p2 p3 p4 p6 m mb FP F s b->¬G b):qp A' p p2 p3 p4 p6 m mb L FP F s bs M:=
 ⟨h.b2.ext E<|a _<|.inl rfl,h.b3.ext E<|a _<|.inr<|.inl rfl,h.b4.ext E<|a _<|.inr<|.inr<|.inl rfl,h.b6.ext E<|a _<|.inr<|.inr<|.inr<|.inl rfl,
 h.cj.ext E fun b c=>a b<|.inr<|.inr<|.inr<|.inr<|.inr<|.inr<|.inr<|.inr c,h.re.ext E<|a _<|.inr<|.inr<|.inr<|.inr<|.inr<|.inl rfl,
 h.mf.ext E fun b c=>c.elim (fun c=>a b<|.inr<|.inr<|.inr<|.inr<|.inr<|.inr<|.inl c) fun e=>a b<|.inr<|.inr<|.inr<|.inr<|.inl e,
 h.bj.ext E fun b c=>a b<|.inr<|.inr<|.inr<|.inr<|.inr<|.inr<|.inr<|.inl c⟩
def qp.pure(h:qp A p p2 p3 p4 p6 m mb L FP F s bs M)(E:Pure A A'):qp A' p p2 p3 p4 p6 m mb L FP F s bs M:=h.ext E fun _ _ h=>h
def qp.lt(h:qp A p p2 p3 p4 p6 m mb L FP F s bs M){b}(a:EB p2 p3 p4 p6 m mb FP F s b):b<A.heap.size:=by
 rcases a with rfl|rfl|rfl|rfl|rfl|rfl|a|a|a;exact h.b2.lt;exact h.b3.lt;exact h.b4.lt;exact h.b6.lt;exact h.mf.Ar;exact h.re.lt;exact h.mf.lt _ a;exact h.bj.lt a;exact h.cj.lt a
def qp.put(h:qp A p p2 p3 p4 p6 m mb L FP F s bs M)(S:Lx p2 p3 p4 p6 m mb FP F B)(hs:∀b,s.ao b->B<=b)(g:∀b,s'.ao b->B<=b)(E:ab s.ao A A')(l:bf A' 5 1 s' (dj bs')):
  qp (A'.setCell p3 s'.v) p p2 p3 p4 p6 m mb L FP F s' bs' M/\ab (fun b=>s.ao b\/b=p3.block) A (A'.setCell p3 s'.v):=by
 have e:ab (·=p3.block) A' (A'.setCell p3 s'.v):=ab.setCell p3 _
 have a:ab (fun b=>s.ao b\/b=p3.block) A (A'.setCell p3 s'.v):=(E.mono fun b _ h=>.inl h).trans<|e.mono fun b _ h=>.inr h
 have⟨q,j,u,o,k,lb⟩:=S.lt
 have⟨d2,n,r,t,f,i,d⟩:=S.d3
 have ns:∀b,b<B->¬s.ao b:=fun b c hh=>Oh<|hs b hh
 have b3:=(h.b3.ext E<|ns _ j).jb (v:=s'.v)
 refine⟨⟨h.b2.ext a ?_,b3,h.b4.ext a ?_,h.b6.ext a ?_,l.ext e Gd,h.re.ext a ?_,h.mf.ext a ?_,h.bj.ext a ?_⟩,a⟩
 grind
 grind
 grind
 grind
 rintro b (c|rfl) (hh|hh)
 exact ns _ (S.lF b c) hh
 subst hh;exact i c
 exact ns _ k hh
 exact f hh
 rintro b c (hh|hh)
 exact ns _ (S.lP b c) hh
 subst hh;exact d c
end
def Xk(p:Addr)(t:Int)(I:World){L:av}{FP:NP}(hW:Wf L)(hN:yP L)(hP:zD I p L FP):
  cl 110 #[vp<|some p,vi t] I<|XA fun r w'=>fx I 5 1 (dj<|qD L t) r w':=by
 refine jbt _ _ I _ ?_
 intro p2 w1 h1 p3 w2 h2
 have E1:Pure I w1:=ab.aw h1
 have E2:Pure w1 w2:=ab.aw h2
 have B2:=(ai.bh h1).pure E2
 have B3:=ai.bh h2
 have s1:=h1.cu;have s2:=h2.cu;have l2:=(ai.bh h1).lt;have l3:=B3.lt;have z1:=E1.size;have z2:=E2.size
 refine(N9 w2).mono ?_
 rintro _ w3 ⟨_,rfl,m,F,rfl,hK,E3,hm,hF⟩
 have z3:=E3.size
 have lm:=hK.Ar
 refine⟨_,rfl,E3.bo,?_⟩
 intro p4 w4 h4
 have E4:Pure w3 w4:=ab.aw h4
 have B4:=ai.bh h4
 have s4:=h4.cu;have l4:=B4.lt;have z4:=E4.size
 refine⟨B4.ia Sm,fun h=>h,?_⟩
 rintro w5 h5
 have X5:ab (·=p4.block) w4 w5:=by rw[h5];exact ab.setCell p4 _
 have B4':ai w5 p4 [.map<|some m] 249:=by rw[h5];exact B4.jb
 have z5:=X5.size
 intro p5 w6 h6
 have E6:Pure w5 w6:=ab.aw h6
 have M5:=fc.bh (f:=fun i:Int=>vi i) h6
 have s6:=h6.cu;have l5:=M5.lt;have z6:=E6.size
 intro p6 w7 h7
 have E7:Pure w6 w7:=ab.aw h7
 have B6:=ai.bh h7
 have s7:=h7.cu;have l6:=B6.lt;have z7:=E7.size
 refine⟨B6.ia Sm,fun h=>h,?_⟩
 rintro w8 h8
 have X8:ab (·=p6.block) w7 w8:=by rw[h8];exact ab.setCell p6 _
 have B6':ai w8 p6 [.map<|some p5.block] 231:=by rw[h8];exact B6.jb
 have z8:=X8.size
 have E08:Pure I w8:=((((((E1.trans E2).trans E3).trans E4).ak Om X5).trans E6).trans E7).ak Om X8
 have P8:=hP.pure E08
 have up:∀{T:TypeId} {c:Addr} {vs:List Value},ai w5 c vs T->c.block≠p6.block->ai w8 c vs T:=fun h h2=>((h.pure E6).pure E7).ext X8 h2
 have up3:∀{T:TypeId} {c:Addr} {vs:List Value},ai w2 c vs T->c.block≠p4.block->c.block≠p6.block->ai w8 c vs T:=fun h h1 h2=>up (((h.pure E3).pure E4).ext X5 h1) h2
 have B28:=up3 B2 Om Om
 have B38:=up3 B3 Om Om
 have B48:=up B4' Om
 have M58:=(M5.pure E7).ext X8 Om
 have C:=hK.lt
 have K8:pQ w8 m F:=(((((hK.pure E4).ext X5 fun b d e=>d.elim (fun d=>Oh<|C b d) fun d=>Om).pure E6).pure E7).ext X8 fun b d e=>d.elim (fun d=>Oh<|C b d) fun d=>Om)
 refine⟨some p,B28.bd,?_⟩
 refine(GX p t w8).mono ?_
 rintro _ w9 ⟨_,rfl,q2,q3,rfl,Bq2,Bq3,O⟩
 have z9:=O.size
 have E09:=E08.trans O
 refine⟨_,rfl,O.bo,_,_,rfl,call178,_,_,GO hW (P8.pure O) Bq2 Bq3,?_⟩
 have R:∀b,FP b->b<I.heap.size:=fun b d=>hP.lt d
 have S:Lx p2 p3 p4 p6 m p5.block FP F w9.heap.size:=⟨⟨Om,Om,Om,Om,Om,Om⟩,fun b d=>Oh<|C b d,fun b d=>Oh<|R b d,
  ⟨Om,Om,Om,Om,Om,fun d=>Oh<|hF _ d,fun d=>Oh<|R _ d⟩,⟨Om,Om,Om,Om,fun d=>Oh<|C _ d,fun d=>Oh<|R _ d⟩⟩
 have A9:qp w9 p p2 p3 p4 p6 m p5.block L FP F Sl.nil [] []:=⟨B28.pure O,B38.pure O,B48.pure O,B6'.pure O,bf.nil _ _ _,M58.pure O,K8.pure O,P8.pure O⟩
 have hnil:∀b,¬Sl.nil.ao b:=fun b d=>by have⟨a,h,_⟩:=d;cases h
 have hfew:=uW hW t
 have hsub:∀u∈dc L t,al L u=true:=fun u hu=>have h:=(zt hW).1 hu;(iw.le hW h.1 h.2).1
 have hord:=GL hW t
 have hnd:=BU hW t
 have htx:qD L t=fv L [] (dc L t):=rfl
 rw[htx]
 generalize hxs:dc L t=xs at *
 have hL:=hW.ok.fm
 generalize hB:w9.heap.size=B at *
 have hw3:I.heap.size<=p3.block:=Om
 have hw5:I.heap.size<=p5.block:=Om
 have hwB:I.heap.size<=B:=Om
 generalize p5.block=mb at *
 clear up up3 B28 B38 B48 M58 K8 P8 B2 B3 B4 B4' M5 B6 B6' X5 X8 E1 E2 E3 E4 E6 E7 h1 h2 h4 h5 h6 h7 h8 hK hF C Bq2 Bq3
 refine⟨fun az Y A=>∃s:Sl,qp A p p2 p3 p4 p6 m mb L FP F s (fv L [] az) (uZ 0 az)/\(∀b,s.ao b->B<=b)/\(∀b,EB p2 p3 p4 p6 m mb FP F s b->¬Y b)/\B<=A.heap.size/\Pure I A,⟨fun _ _ _ _=>trivial,?_,fun _ _ _ _ _ h=>h.elim,fun _ _ _ _ _ h=>h.elim⟩,?_,?_,?_⟩
 rintro az Y A Y' A' ⟨s,K,hs,D,hz,hE⟩ aq
 have hv':∀b,EB p2 p3 p4 p6 m mb FP F s b->¬Y' b:=aq.ja fun b d=>⟨K.lt d,D b d⟩
 exact⟨s,K.ext aq.ext hv',hs,hv',Nat.le_trans hz aq.ext.size,hE.aq aq⟩
 exact⟨Sl.nil,A9,fun b d=>(hnil b d).elim,fun b _ h=>h,Om,E09⟩
 rintro az z Y A ⟨s,K,hs,D,hz,hE⟩ hsA ⟨post,l⟩
 have hzin:al L z=true:=hsub z (by rw[l];simp)
 have hprein:∀u∈az,al L u=true:=fun u hu=>hsub u (by rw[l];simp[hu])
 have hplen:az.length<65536:=by have:=congrArg List.length l;simp only[List.length_append,List.length_cons]at this;omega
 have hzn:z∉az:=by
  rw[l]at hnd;have:=(List.nodup_append.1 hnd).2.2;exact fun h=>this z h z Sm rfl
 have hbs:=KR hW hN az [] hprein (by simp only[List.length_nil];omega)
 refine⟨some p,K.b2.bd,?_⟩
 refine(tz p z A K.bj hW.ok).mono ?_
 rintro _ w10 ⟨k,r,N,u,x,a,b,r3,rfl,⟨hn,_⟩,V⟩
 refine⟨_,_,_,_,_,_,_,_,rfl,V.bo,fun H1 w12 v=>?_⟩
 have⟨k1,k9,f0,f1,t0,t1,x1⟩:=xx hW hzin
 have J:=hN.node z
 have hko:=hord az z post l
 have hnt:yF L az z=UInt8.ofNat k.toNat ::(qN k).flatMap (bq.bytes ⟨k,r,N,u,x,a,b⟩ (c9 az a)<|c9 az b):=by rw[yF,<-hn]
 rw[<-hn]at k1 k9 f0 f1 t0 t1 x1 J hko
 simp only at k1 k9 f0 f1 t0 t1 x1 J
 have q:∀b,H1 b->A.heap.size<=b:=v.old
 have A12:=(K.pure V).ext v.ext fun b d hh=>Oi (q b hh)<|K.lt d
 have E012:Pure I w12:=(hE.trans V).cg v.ext fun i hi hh=>Oi (q i hh) hE.size
 have k12:aj Y A w12:=(V.bo).trans<|v.ext.bl fun b d hh=>Oi (q b hh)<|hsA.lt b d
 have z10:=V.size
 have z12:=v.ext.size
 refine⟨s,A12.b3.bd,fun p8 w13 h8=>?_⟩
 have E13:Pure w12 w13:=ab.aw h8
 have A13:=A12.pure E13
 have z13:=E13.size
 obtain⟨kn,rfl⟩:∃kn:Nat,k=kn:=⟨k.toNat,Om⟩
 simp only[Int.toNat_natCast]at hnt
 rw[vz]at h8
 have⟨s1,w14,hr,hR,hEx,d⟩:=A13.cj.append (P:=prog) (ty:=59) (c:=1) uu (ai.fp h8).row rfl rfl (by rw[qA];omega) (by rw[qA];simp only[maxLen];omega)
 have hs1:∀b,s1.ao b->B<=b:=fun b hh=>(d b hh).elim (hs b) fun h=>Om
 have hy1:∀b,s1.ao b->¬Y b:=fun b hh g=>(d b hh).elim (fun h=>D b (.inr<|.inr<|.inr<|.inr<|.inr<|.inr<|.inr<|.inr h) g) fun h=>Oh<|hsA.lt b g
 have h3A:p3.block<A.heap.size:=K.b3.lt
 have hH3:¬H1 p3.block:=fun h=>Oh<|q _ h
 have hHs:∀b,H1 b->¬s.ao b:=fun b hh d=>Oi (q b hh)<|K.cj.lt d
 have hY3:¬Y p3.block:=D _<|.inr<|.inl rfl
 have hYs:∀b,Y b->¬s.ao b:=fun b g d=>D b (.inr<|.inr<|.inr<|.inr<|.inr<|.inr<|.inr<|.inr d) g
 refine⟨s1,w14,hr,hEx.bl hHs,((A13.b3.ext hEx fun d=>Oi (hs _ d) S.lt).ia Sm),hH3,?_⟩
 rintro w15 h15
 have hR':bf w14 5 1 s1 (dj<|fv L [] az++[UInt8.ofNat kn]):=by rw[DP];exact hR
 have⟨A15,X15⟩:=A13.put S hs hs1 hEx hR'
 rw[<-h15]at A15 X15
 have E015:Pure I w15:=(E012.trans E13).cg X15 fun i hi hh=>hh.elim (fun hh=>Oh<|hs _ hh) fun hh=>Om
 have k15:aj Y A w15:=(k12.trans E13.bo).trans (X15.bl fun b g hh=>hh.elim (hYs b g) fun e=>by subst e;exact hY3 g)
 have z15:=X15.size
 have⟨fs,hlk,hLf⟩:=A15.mf.get kn k1 k9 false
 refine⟨some m,A15.b4.bd,fs,hlk,?_⟩
 have hfl3:=FS kn
 refine⟨fun y H w=>∃(j:Nat) (s:Sl),y=j/\j<=(qN kn).length/\H=H1/\qp w p p2 p3 p4 p6 m mb L FP F s (fv L [] az++UInt8.ofNat kn ::((qN kn).take j).flatMap (bq.bytes ⟨kn,r,N,u,x,a,b⟩ (c9 az a)<|c9 az b)) (uZ 0 az)/\dn F w 2 fs ((qN kn).map bq.row)/\(∀b,s.ao b->B<=b)/\(∀b,s.ao b->¬Y b)/\aj Y A w/\Pure I w/\A.heap.size<=w.heap.size,fun y _=>(((qN kn).length:Int)-y).toNat,⟨0,s1,rfl,Nat.zero_le _,rfl,by simpa using A15,hLf,hs1,hy1,k15,E015,Om⟩,?_⟩
 rintro _ _ wl aq ⟨j,s2,rfl,hj,rfl,E,hL2,W,hy2,k2,E2,z2⟩
 unfold P6
 have hlen:fs.len=(qN kn).length:=by rw[hL2.len,List.length_map]
 refine⟨fun M=>?_,fun M=>?_⟩
 have M:=vW hlen M
 have⟨a1,hat,hF1,hrow⟩:=hL2.at_ j (by simpa using M)
 rw[List.getElem_map]at hrow
 refine⟨a1,hat,.func (.func (qN kn)[j].put) #[] #[],.func (.func (qN kn)[j].get) #[] #[],hrow,fun p9 w16 h9=>?_⟩
 have U:Pure wl w16:=ab.aw h9
 have B9:=ai.fp h9
 have s9:=h9.cu
 have z16:=U.size
 refine⟨⟨rfl,B9.uz Sm⟩,fun hh=>Oh<|aq.lt _ hh,?_⟩
 rintro Z h17
 have X17:ab (·=p9.block) w16 Z:=by rw[h17];exact ab.bb _ _ _
 have B9':ai Z p9 [.func (.func (qN kn)[j].put) #[] #[],.func (.func (qN kn)[j].get) #[] #[]] 255:=by rw[h17];exact B9.store rfl
 have G:=(E.pure U).ext X17 fun b d e=>Oh<|E.lt d
 have L17:=(hL2.pure U).ext X17 fun b d e=>Oh<|E.mf.lt b d
 have z17:=X17.size
 have E017:Pure I Z:=(E2.trans U).ak (Oh E2.size) X17
 have k17:aj Y A Z:=(k2.trans U.bo).trans<|X17.bl fun b g e=>Oh<|hsA.lt b g
 refine⟨_,B9'.bd,s2,G.b3.bd,some mb,G.b6.bd,_,#[],#[],rfl,zEU _,?_⟩
 simp only[Array.empty_append,Array.append_empty]
 have hbl:=MO (bq.bytes ⟨kn,r,N,u,x,a,b⟩ (c9 az a)<|c9 az b) 74 ((qN kn).take j) fun f _=>Ql _ _ _ f f1 t1 J x1 (Oh<|tR az a)<|Oh<|tR az b
 have hbl2:((qN kn).take j).length<=3:=by rw[List.length_take];omega
 have hbn:(fv L [] az++UInt8.ofNat kn ::((qN kn).take j).flatMap (bq.bytes ⟨kn,r,N,u,x,a,b⟩ (c9 az a)<|c9 az b)).length<=10000000000:=by
  rw[List.length_append,List.length_cons];omega
 refine(QY (qN kn)[j] s2 _ ⟨kn,r,N,u,x,a,b⟩ (c9 az a) (c9 az b) mb (uZ 0 az) Z G.cj.ei (jaB G.cj) hbn ⟨f0,Sy⟩ ⟨t0,Sy⟩ J Sy G.re (fun e=>?_) fun e=>?_).mono ?_
 have X:a∈az:=hko _<|zEF (n:=⟨kn,r,N,u,x,a,b⟩) (by rw[<-e];exact List.getElem_mem _)
 exact⟨by rw[KP az a X 0];simp,Oh<|tR az a⟩
 have X:b∈az:=hko _<|Zh (n:=⟨kn,r,N,u,x,a,b⟩) (by rw[<-e];exact List.getElem_mem _)
 exact⟨by rw[KP az b X 0];simp,Oh<|tR az b⟩
 rintro _ w18 ⟨r4,rfl,hR4⟩
 have E18:=hR4.pure
 have z18:=E18.size
 refine⟨r4,rfl,hR4.bl,(G.b3.pure E18).ia Sm,hH3,?_⟩
 rintro w19 h19
 have hs4:∀b,r4.ao b->B<=b:=fun b d=>Oh<|hR4.ak b d
 have hR5:bf w18 5 1 r4 (dj (fv L [] az++UInt8.ofNat kn ::((qN kn).take<|j+1).flatMap (bq.bytes ⟨kn,r,N,u,x,a,b⟩ (c9 az a)<|c9 az b))):=by
  have e:fv L [] az++UInt8.ofNat kn ::((qN kn).take<|j+1).flatMap (bq.bytes ⟨kn,r,N,u,x,a,b⟩ (c9 az a)<|c9 az b)=(fv L [] az++UInt8.ofNat kn ::((qN kn).take j).flatMap (bq.bytes ⟨kn,r,N,u,x,a,b⟩ (c9 az a)<|c9 az b))++(qN kn)[j].bytes ⟨kn,r,N,u,x,a,b⟩ (c9 az a) (c9 az b):=by
   rw[List.take_succ_eq_append_getElem M,List.flatMap_append];simp
  rw[e];exact hR4.cj
 have⟨A19,X19⟩:=G.put S W hs4 E18.pure hR5
 rw[<-h19]at A19 X19
 have z19:=X19.size
 refine⟨⟨j+1,r4,zN M Om,M,trivial,A19,L17.ext X19 fun b d hh=>?_,hs4,fun b d g=>Oi (hR4.ak b d)<|hsA.lt b g,k17.trans (X19.bl fun b g hh=>hh.elim (fun h=>hy2 b h g) fun e=>by subst e;exact hY3 g),E017.cg X19 fun i hi hh=>hh.elim (fun hh=>Oh<|W _ hh) fun hh=>Om,Om⟩,?_⟩
 rcases hh with hh|hh
 have:=W b hh;have:=S.lF b d;omega
 subst hh;exact S.d3.2.2.2.2.2.1 d
 rw[zN M Om];exact yY M
 have M:=yJ hlen hj M
 subst M
 rw[List.take_length]at E
 have e:fv L [] (az++[z])=fv L [] az++UInt8.ofNat kn ::(qN kn).flatMap (bq.bytes ⟨kn,r,N,u,x,a,b⟩ (c9 az a)<|c9 az b):=by rw[H6,List.nil_append,hnt]
 have hlk0:SE.eu (uZ 0 az) z=none:=uV.2 (by rw[Ts];exact hzn)
 have⟨w20,hr20,hM20,o⟩:=E.re.put (P:=prog) (T:=231) underlying231 underlying73 hlk0 ((az.length:Nat):Int)
 have hz3:(Builtin.len_ #[231] 3 #[.map<|some mb]).run prog wl=.ok (vi ((az.length:Nat):Int)) wl:=by
  have:=zBA E.re.map (P:=prog) (T:=231) (Q:=3) underlying231;rw[List.length_map,TI]at this;exact this
 have hYb:¬Y mb:=D _<|.inr<|.inr<|.inr<|.inr<|.inr<|.inl rfl
 have kk:∀{H:NP},¬H mb->aj H wl w20:=fun h=>o.bl (fun b d e=>by subst e;exact h d)
 have hmbA:mb<A.heap.size:=K.re.lt
 refine⟨some mb,E.b6.bd,some mb,E.b6.bd,_,hz3,w20,hr20,kk fun h=>Oh<|q _ h,k2.trans<|kk hYb,s2,?_,W,fun b d g=>?_,Oi o.size E2.size,E2.cg o fun i hi e=>Om⟩
 rw[e,jPG,Nat.zero_add]
 have⟨g1,g2,g3,g4,g5,g6⟩:=S.db
 exact⟨E.b2.ext o g1,E.b3.ext o fun e=>S.d3.2.2.2.1 e.symm,E.b4.ext o g2,E.b6.ext o g3,E.cj.ext o fun b d e=>Oi (W b d) S.lt,hM20,E.mf.ext o fun b d e=>d.elim (fun d=>by subst e;exact g5 d) fun d=>g4<|d▸e,E.bj.ext o fun b d e=>by subst e;exact g6 d⟩
 rcases d with d|d|d|d|d|d|d|d|d
 exact D b (.inl d) g
 exact D b (.inr<|.inl d) g
 exact D b (.inr<|.inr<|.inl d) g
 exact D b (.inr<|.inr<|.inr<|.inl d) g
 exact D b (.inr<|.inr<|.inr<|.inr<|.inl d) g
 exact D b (.inr<|.inr<|.inr<|.inr<|.inr<|.inl d) g
 exact D b (.inr<|.inr<|.inr<|.inr<|.inr<|.inr<|.inl d) g
 exact D b (.inr<|.inr<|.inr<|.inr<|.inr<|.inr<|.inr<|.inl d) g
 exact hy2 b d g
 rintro H2 w21 hs21 _ _ ⟨s,K,hs,D,hz,hE⟩
 refine⟨s,K.b3.bd,fun w22 hs22=>⟨K.cj.ext hs22.ext fun b d=>D b<|.inr<|.inr<|.inr<|.inr<|.inr<|.inr<|.inr<|.inr d,fun b d=>Oh<|hs b d,hE.aq hs22⟩⟩
def Vw(p t w0){L FP}(q:Wf L)(s:yP L)(o:zD w0 p L FP):
  cl 53 #[vp<|some p,vi t] w0<|XM fun r n w'=>n=(iv L t).2/\fx w0 5 1 (dj (iv L t).1) r w':=by
 refine SB _ _ w0 _ ?_
 unfold Nr
 have f:∀b,¬Sl.nil.ao b:=fun b i=>by have⟨a,h,_⟩:=i;cases h
 refine(tz p t w0 o q.ok).mono ?_
 rintro _ z ⟨k,r,y,u,x,a,b,r3,rfl,⟨B,rfl⟩,l⟩
 refine⟨_,_,_,_,_,_,_,_,rfl,l.bo,fun d v m g=>?_,fun d v m g=>?_⟩
 have c:al L t=false:=by simpa using d
 have e:iv L t=([],51):=by unfold iv;rw[c];rfl
 rw[e]
 exact⟨rfl,bf.nil _ _ _,fun b i=>(f b i).elim,l.aq g⟩
 have c:al L t=true:=by simpa using d
 have j:Pure w0 m:=l.aq g
 refine(Xk p t m q s<|o.pure j).mono ?_
 rintro _ A ⟨r2,rfl,h⟩
 have w:r2.len=(qD L t).length:=by rw[h.cj.len,qA]
 refine⟨r2,rfl,h.bl,fun d=>?_,fun d=>?_⟩
 have d:=of_decide_eq_true d
 have e:iv L t=([],1):=by unfold iv;rw[c,if_pos rfl,if_pos Om]
 rw[e]
 exact⟨rfl,bf.nil _ _ _,fun b i=>(f b i).elim,j.trans h.pure⟩
 have d:=of_decide_eq_false d
 have e:iv L t=(qD L t,0):=by unfold iv;rw[c,if_pos rfl,if_neg Om]
 rw[e]
 exact⟨rfl,h.cj,fun b i=>Oi (h.ak b i) j.size,j.trans h.pure⟩
end Go.Proofs
end
section
open Go Go.SE List
namespace Go.Proofs
end Go.Proofs
namespace Go.Proofs
open Tryz
attribute [local irreducible] Calls CallsD
def W2{w:World}{s:Sl}{bs:List UInt8}{S:NP}(h:dn S w 1 s (dj bs)):(convert 59 9 s.v).run prog w=.ok (vs ⟨bs.toArray⟩) w:=
 Cj underlying59 underlying5 underlying9 h
end Go.Proofs
end
section
open Go Go.SE List
namespace Go.Proofs
open Tryz
attribute [local irreducible] Calls CallsD
structure gg(S:NP)(w:World)(a:Addr)(s:Sl)(bs:List UInt8)(r:Rd):Prop where
 box:ai w a [s.v,vi (r.at_:Int),vi (r.cm:Int),vi (r.spot:Int)] 117
 ei:dn S w 1 s (dj bs)
 apart:∀b,S b->b≠a.block
 pE:bs.length<=100000000
 room:s.len<=s.cap
section
variable {S:NP} {w w':World} {a:Addr} {s:Sl} {bs:List UInt8} {r:Rd}
def gg.ext{F}(h:gg S w a s bs r)(E:ab F w w')(c:∀b,(b=a.block\/S b)->¬F b):gg S w' a s bs r:=
 ⟨h.box.ext E<|c _<|.inl rfl,h.ei.ext E fun b d=>c b<|.inr d,h.apart,h.pE,h.room⟩
def gg.pure(h:gg S w a s bs r)(E:Pure w w'):gg S w' a s bs r:=h.ext E fun _ _ h=>h
def gg.jv(h:gg S w a s bs r):w.cell? (a.add 1)=some (vi (r.at_:Int)):=h.box.cell (i:=1) rfl
def gg.rm(h:gg S w a s bs r):w.cell? (a.add 2)=some (vi (r.cm:Int)):=h.box.cell (i:=2) rfl
def gg.len(h:gg S w a s bs r):s.len=bs.length:=by rw[h.ei.len,qA]
def gg.wL(h:gg S w a s bs r)(k:Nat):gg S (w.setCell (a.add 1)<|vi (k:Int)) a s bs ⟨k,r.cm,r.spot⟩:=
 ⟨h.box.set 1 _,h.ei.ext (ab.setCell _ _) fun b c e=>h.apart b c (by rw[zC]at e;exact e),h.apart,h.pE,h.room⟩
def gg.Hu(h:gg S w a s bs r)(k:Nat):gg S (w.setCell (a.add 2)<|vi (k:Int)) a s bs ⟨r.at_,k,r.spot⟩:=
 ⟨h.box.set 2 _,h.ei.ext (ab.setCell _ _) fun b c e=>h.apart b c (by rw[zC]at e;exact e),h.apart,h.pE,h.room⟩
def gg.GZ(h:gg S w a s bs r)(k:Nat):gg S (w.setCell (a.add 3)<|vi (k:Int)) a s bs ⟨r.at_,r.cm,k⟩:=
 ⟨h.box.set 3 _,h.ei.ext (ab.setCell _ _) fun b c e=>h.apart b c (by rw[zC]at e;exact e),h.apart,h.pE,h.room⟩
end
section
variable {S:NP} (a:Addr) (s:Sl) (bs:List UInt8) (r:Rd) (w0:World)
def LY(h:gg S w0 a s bs r)(c:r.cm=0)(e x:Nat):
  cl 170 #[vp<|some a,vi e,vi x] w0<|fun b w'=>b=.returned (.tuple #[])/\(gg S w' a s bs ⟨r.at_,e,x⟩/\ab (·=a.block) w0 w'):=by
 refine jaM (some a) _ _ w0 _ ?_
 refine⟨a,rfl,_,h.rm,fun _=>⟨a,rfl,h.box.ee (i:=2) Sm,?_⟩,fun d=>absurd (by rw[c];rfl) (beq_eq_false_iff_ne.1 d)⟩
 rintro f rfl
 have h1:=h.Hu e
 refine⟨a,rfl,h1.box.ee (i:=3) Sm,?_⟩
 rintro g rfl
 exact⟨h1.GZ x,qR.trans qR⟩
def Z7(h:gg S w0 a s bs r)(d:r.at_<=bs.length):
  cl 58 #[vp<|some a] w0<|XB fun x w'=>x=((bs.length-r.at_:Nat):Int)/\Pure w0 w':=by
 refine UH (some a) w0 _ ?_
 refine⟨a,rfl,fun c hs=>?_⟩
 have b:Pure w0 c:=hs.first
 have h1:=h.pure b
 refine⟨s,h1.box.bd,a,rfl,_,h1.jv,?_,b⟩
 rw[h.len,IntWalk.i64_in _<|Oh h.pE];omega
def ZZ(h:gg S w0 a s bs r)(d:r.at_<bs.length)(t:r.cm=0):
  cl 115 #[vp<|some a] w0<|XV fun x w'=>x=(bs[r.at_].toNat:Int)/\gg S w' a s bs ⟨r.at_+1,0,r.spot⟩/\ab (·=a.block) w0 w':=by
 refine WE (some a) w0 _ ?_
 unfold OI
 have v:=h.pE
 refine⟨a,rfl,_,h.rm,fun l=>absurd (by rw[t];rfl) (bne_iff_ne.1 l),fun _=>⟨a,rfl,fun o f=>?_⟩⟩
 have p:Pure w0 o:=f.first
 have h1:=h.pure p
 refine⟨_,h1.jv,a,rfl,s,h1.box.bd,fun l=>?_,fun _=>⟨a,rfl,_,h1.jv,a,rfl,h1.box.ee (i:=1) Sm,id,?_⟩⟩
 .have:=beq_iff_eq.1 l;rw[h.len]at this;omega
 rintro q k
 have w:IntKind.i64.wrap ((r.at_:Int)+1)=((r.at_+1:Nat):Int):=zN d Om
 rw[w]at k
 have h3:=h1.wL<|r.at_+1
 rw[<-k]at h3
 have y:ab (·=a.block) o q:=by rw[k];exact qR
 refine⟨a,rfl,fun u e=>?_⟩
 have n:Pure q u:=e.ext
 have b:=h3.pure n
 have j:IntKind.i64.wrap (((r.at_+1:Nat):Int)-1)=(r.at_:Int):=by rw[IntWalk.i64_in _ Om];omega
 have⟨c,g,_,m⟩:=BY b.ei d
 refine⟨s,b.box.bd,a,rfl,_,b.jv,c,by simp only;rw[j];exact g,_,m,rfl,?_,((ab.pure p).trans y).fb n⟩
 rw[t]at b;exact b
def SF{P t w}(x k:Nat)(b:k<64)(h:x*2^k<18446744073709551616):(Go.binOp .shl t (.int .u64 (x:Int))<|.int .u64 (k:Int)).run P w=.ok (.int .u64 ((x*2^k:Nat):Int)) w:=by
 have hr:IntKind.u64.wrap ((x:Int)*2^min (k:Int).toNat IntKind.u64.bits)=((x*2^k:Nat):Int):=by
  have:min (k:Int).toNat IntKind.u64.bits=k:=by simp[IntKind.bits];omega
  rw[this,<-qB h];simp
 have a:¬((k:Int)<0):=Om;show(Op.shift .shl .u64 (x:Int) .u64 (k:Int)).run P w=_;unfold Op.shift;rw[if_neg a];show((pure (Value.int .u64<|IntKind.u64.wrap<|(x:Int)*2^min (k:Int).toNat IntKind.u64.bits):Sem Value)).run P w=_;rw[hr];rfl
def Zl{P t w}(c:Nat)(h:c<256):(Go.binOp .rem t (.int .u8 (c:Int))<|.int .u8 128).run P w=.ok (.int .u8 ((c%128:Nat):Int)) w:=by
 have a:((c:Int).tmod 128)=((c%128:Nat):Int):=by rw[Int.tmod_eq_emod_of_nonneg Om];omega
 simp[Go.binOp,Op.intDiv,a]
def Qo(h:gg S w0 a s bs r)(hat:r.at_<=bs.length)(hS:∀b,(b=a.block\/S b)->b<w0.heap.size):
  cl 118 #[vp (some a)] w0 (XW fun x w'=>x=((vY bs r).1:Int)/\gg S w' a s bs (vY bs r).2/\ab (·=a.block) w0 w'):=by
 refine YO (some a) w0 _ ?_
 unfold Kk
 have hsm:=h.pE
 refine⟨a,rfl,_,h.rm,fun v=>?_,fun v=>?_⟩
 have K:r.cm≠0:=Oh (bne_iff_ne.1 v)
 have hr:vY bs r=(0,r):=by unfold vY;rw[if_neg K]
 rw[hr];exact⟨rfl,h,ab.refl _⟩
 have K:r.cm=0:=Gd
 have A : ∀ (x : Nat) (H : NP) (w : World), (∀ b, (b = a.block \/ S b) -> ¬ H b) -> gg S w a s bs r -> ab (· = a.block) w0 w -> xU 0 0 (bs.drop r.at_) = .error x ->
   cl 170 #[vp (some a),vi x,vi (r.at_:Int)] w (fun e w'=>e=.returned (.tuple #[])/\aj H w w'/\((0:Int)=((vY bs r).1:Int)/\gg S w' a s bs (vY bs r).2/\ab (·=a.block) w0 w')):=by
  intro x H w O Y hE d
  have hr:vY bs r=(0,⟨r.at_,x,r.at_⟩):=by unfold vY;rw[if_pos K,d]
  refine(LY a s bs r w Y K x r.at_).mono ?_
  rintro _ w' ⟨rfl,hR',X⟩
  rw[hr]
  exact⟨rfl,X.bl Gd,rfl,hR',hE.trans X⟩
 refine⟨fun n i W w=>∃f k:Nat,n=(f:Int)/\i=(k:Int)/\k<=9/\f<2^(7*k)/\r.at_+k<=bs.length/\xU k f (bs.drop (r.at_+k))=xU 0 0 (bs.drop r.at_)/\gg S w a s bs r/\(∀b,(b=a.block\/S b)->¬W b)/\Pure w0 w,fun _ i _=>(10-i).toNat,⟨0,0,rfl,rfl,Om,Sm,by simpa using hat,rfl,h,fun _ _ h=>h,ab.refl _⟩,?_⟩
 rintro _ _ W wl hl ⟨f,k,rfl,rfl,hk,t,hle,d,Y,O,hE⟩
 unfold Ou
 have hSl:∀{w:World},Pure w0 w->∀b,(b=a.block\/S b)->b<w.heap.size:=fun E b Q=>Oi (hS b Q) E.size
 refine⟨a,rfl,fun w1 D=>?_⟩
 have C:=Y.ext D.ext (D.ja Gd)
 have E1:=hE.aq D
 have q:IntKind.i64.wrap ((r.at_:Int)+(k:Int))=((r.at_+k:Nat):Int):=by rw[IntWalk.i64_in _ Om];omega
 refine⟨_,C.jv,a,rfl,s,C.box.bd,fun v=>?_,fun v=>?_⟩
 have hge:r.at_+k=bs.length:=by rw[q]at v;have:=of_decide_eq_true v;have:=C.len;omega
 refine⟨a,rfl,_,C.jv,?_⟩
 exact A 3 W w1 O C (ab.pure E1) (by rw[<-d,hge,drop_length];rfl)
 have M:r.at_+k<bs.length:=by rw[q]at v;have:=of_decide_eq_false v;have:=C.len;omega
 refine⟨a,rfl,fun w3 F=>?_⟩
 have U:=C.ext F.ext (F.ja Gd)
 have V:=E1.aq F
 have⟨a7,T,_,hv7⟩:=BY U.ei M
 have B:bs.drop (r.at_+k)=bs[r.at_+k] ::bs.drop (r.at_+k+1):=drop_eq_getElem_cons M
 refine⟨s,U.box.bd,a,rfl,_,U.jv,a7,by rw[q];exact T,_,hv7,?_⟩
 generalize bs[r.at_+k]=c at *
 have I:=c.toNat_lt
 rw[B,xS]at d
 have m:∀{H H':NP} {w w':World},Pure w0 w->(∀b,(b=a.block\/S b)->¬H b)->af w0 H w H' w'->∀b,(b=a.block\/S b)->¬H' b:=fun E O hs=>hs.ja Gd
 refine⟨fun Q=>⟨a,rfl,fun H1 w4 g=>?_⟩,fun Q H1 w4 g=>?_⟩
 have l:=m V O g
 have L:=U.ext g.ext l
 have z:k=9/\1<c.toNat:=by simp at Q;omega
 rw[if_pos z]at d
 exact⟨_,L.jv,A 11 H1 w4 l L (ab.pure (V.aq g)) d.symm⟩
 have l:=m V O g
 have L:=U.ext g.ext l
 have R:=V.aq g
 have z:¬(k=9/\1<c.toNat):=by intro hh;simp at Q;omega
 rw[if_neg z]at d
 have N:c.toNat%128*2^(7*k)<18446744073709551616:=by
  by_cases h9:k=9;subst h9;omega;have h8:2^(7*k)<=2^56:=Nat.pow_le_pow_right Om Om;have u:c.toNat%128<=127:=Om
  calc c.toNat%128*2^(7*k)<=127*2^56:=Nat.mul_le_mul u h8
   _<18446744073709551616:=De
 have hac:f<18446744073709551616:=Nat.lt_of_lt_of_le t (by
  calc 2^(7*k)<=2^63:=Nat.pow_le_pow_right Om Om
   _<=18446744073709551616:=by decide)
 have h7:IntKind.u64.wrap (IntKind.i64.wrap (7*(k:Int)))=((7*k:Nat):Int):=by
  rw[IntWalk.i64_in _ Om,show(7*(k:Int))=((7*k:Nat):Int) by omega,qB Om]
 have y:128^k=2^(7*k):=by rw[Nat.pow_mul]
 have P:f |||(c.toNat%128*2^(7*k))=f+c.toNat%128*2^(7*k):=Nz t
 have Z:f+c.toNat%128*2^(7*k)<18446744073709551616:=by rw[<-P];exact Nat.or_lt_two_pow (n:=64) hac N
 have hwn:IntKind.u64.wrap ((f:Int)+((c.toNat%128*2^(7*k):Nat):Int))=((f+c.toNat%128*2^(7*k):Nat):Int):=by
  rw[show((f:Int)+((c.toNat%128*2^(7*k):Nat):Int))=((f+c.toNat%128*2^(7*k):Nat):Int) by omega,qB Z]
 refine⟨_,Zl c.toNat I,((c.toNat%128*2^(7*k):Nat):Int),by rw[h7,qB Om];exact SF _ _ Om N,?_⟩
 rw[hwn]
 refine⟨fun hs=>?_,fun hs=>⟨fun hz=>⟨a,rfl,fun H2 w6 j=>?_⟩,fun hz=>⟨a,rfl,fun H2 w6 j=>?_⟩⟩⟩
 have o:¬c.toNat<128:=Oh (of_decide_eq_true hs)
 rw[if_neg o,y]at d
 have hk9:k≠9:=Om
 rw[zN (n:=10) Om Om]
 refine⟨⟨_,k+1,rfl,rfl,Om,?_,Om,d,L,l,R⟩,by show(10-((k+1:Nat):Int)).toNat<(10-(k:Int)).toNat;omega⟩
 have:2^(7*(k+1))=128*2^(7*k):=by rw[Nat.mul_add,Nat.pow_add];omega
 rw[this]
 have u:c.toNat%128*2^(7*k)<=127*2^(7*k):=Nat.mul_le_mul_right _ Om
 omega
 have o:c.toNat<128:=Oh (of_decide_eq_false hs)
 rw[if_pos o]at d
 have p:=m R l j
 have J:=L.ext j.ext p
 have G:c.toNat=0/\0<k:=by simp at hz;omega
 rw[if_pos G]at d
 exact⟨_,J.jv,A 10 H2 w6 p J (ab.pure (R.aq j)) d.symm⟩
 have o:c.toNat<128:=Oh (of_decide_eq_false hs)
 rw[if_pos o]at d
 have p:=m R l j
 have J:=L.ext j.ext p
 have G:¬(c.toNat=0/\0<k):=by intro hh;simp at hz;omega
 rw[if_neg G,y]at d
 have hr:vY bs r=(f+c.toNat*2^(7*k),⟨r.at_+(k+1),0,r.spot⟩):=by unfold vY;rw[if_pos K,<-d]
 rw[hr]
 have hwa:IntKind.i64.wrap (IntKind.i64.wrap ((r.at_:Int)+(k:Int))+1)=((r.at_+(k+1):Nat):Int):=by
  rw[q,IntWalk.i64_in _ Om];omega
 refine⟨_,J.jv,a,rfl,J.box.ee (i:=1) Sm,by rw[zC];exact p _ (.inl rfl),?_⟩
 rintro w8 e8
 rw[hwa]at e8
 have R8:=J.wL (r.at_+(k+1))
 rw[<-e8,K]at R8
 refine⟨by rw[Nat.mod_eq_of_lt o],R8,?_⟩
 rw[e8]
 exact(ab.pure (R.aq j)).trans qR
def Vx(c:Nat)(hm:c<1000000)(h:gg S w0 a s bs r)(M:r.at_<=bs.length)(hS:∀b,(b=a.block\/S b)->b<w0.heap.size):
  cl 119 #[vp (some a),vi c] w0 (XS fun x w'=>x=⟨(qI bs c r).1.toArray⟩/\gg S w' a s bs (qI bs c r).2/\ab (·=a.block) w0 w'):=by
 refine Rf (some a) _ w0 _ ?_
 unfold PP
 have hsm:=h.pE
 refine⟨a,rfl,_,h.jv,?_⟩
 refine(Qo a s bs r w0 h M hS).mono ?_
 rintro _ w1 ⟨_,rfl,rfl,l,J⟩
 refine⟨_,rfl,J.bl fun b y=>y.elim,a,rfl,_,l.rm,fun g=>?_,fun g=>?_⟩
 have he:(vY bs r).2.cm≠0:=Oh (bne_iff_ne.1 g)
 have hr:qI bs c r=([],(vY bs r).2):=by
  unfold qI vY at *;by_cases h0:r.cm=0;grind;rw[if_neg h0,if_neg h0]
 rw[hr];exact⟨rfl,l,J⟩
 have d:(vY bs r).2.cm=0:=Gd
 have⟨v,hdr,hn64⟩:=uN d
 have hat1:=(EP bs r M)
 have T:qI bs c r=(if c<(vY bs r).1 then([],⟨r.at_,1,r.at_⟩)else if bs.length<(vY bs r).2.at_+(vY bs r).1 then([],⟨r.at_,3,r.at_⟩)else((bs.drop (vY bs r).2.at_).take (vY bs r).1,⟨(vY bs r).2.at_+(vY bs r).1,0,r.spot⟩)):=by
  unfold qI vY at *;rw[if_pos v]at d|-;rw[if_pos v];cases j:xU 0 0 (bs.drop r.at_)with
  |error x=>rw[j]at d;simp only at d;exfalso;exact Hz j d
  |ok p=>rfl
 have O:(vY bs r).2.spot=r.spot:=by
  unfold vY at d|-;rw[if_pos v]at d|-;cases j:xU 0 0 (bs.drop r.at_)with
  |error x=>rw[j]at d;simp only at d;exfalso;exact Hz j d
  |ok p=>rfl
 rw[T]
 generalize vY bs r=q at *
 have⟨n,r1⟩:=q
 simp only at *
 have K:∀b,(b=a.block\/S b)->b<w1.heap.size:=fun b y=>Oi (hS b y) J.size
 have B : ∀ (e : Nat) (H : NP) (w w' : World), (∀ b, (b = a.block \/ S b) -> ¬ H b) -> gg S w a s bs r1 -> ab (· = a.block) w0 w -> w' = w.setCell (a.add 1) (vi (r.at_ : Int)) ->
   cl 170 #[vp (some a),vi e,vi (r.at_:Int)] w' (fun en A=>en=.returned (.tuple #[])/\aj H w' A/\(gg S A a s bs ⟨r.at_,e,r.at_⟩/\ab (·=a.block) w0 A)):=by
  intro e H w w' m hR hE e'
  have F:=hR.wL r.at_
  rw[<-e']at F
  refine(LY a s bs _ w' F d e r.at_).mono ?_
  rintro _ A ⟨rfl,R,X⟩
  refine⟨rfl,X.bl Gd,R,(hE.trans ?_).trans X⟩
  rw[e'];exact qR
 have I:IntKind.u64.wrap (c:Int)=(c:Int):=qB Om
 refine⟨fun g=>⟨a,rfl,fun z A u=>?_⟩,fun g=>⟨a,rfl,fun z w5 t=>?_⟩⟩
 have g:c<n:=by rw[I]at g;simp at g;omega
 rw[if_pos g]
 have m:∀b,(b=a.block\/S b)->¬z b:=u.ja fun b y=>⟨K b y,id⟩
 have R2:=l.ext u.ext m
 refine⟨R2.box.ee (i:=1) Sm,by rw[zC];exact m _ (.inl rfl),?_⟩
 rintro w3 e3
 refine(B 1 z A w3 m R2 (J.aq u) e3).mono ?_
 rintro _ w4 ⟨rfl,Q,Y,X4⟩
 exact⟨rfl,Q,rfl,Y,X4⟩
 have g:¬c<n:=by rw[I]at g;simp at g;omega
 rw[if_neg g]
 have m:∀b,(b=a.block\/S b)->¬z b:=t.ja fun b y=>⟨K b y,id⟩
 have E:=l.ext t.ext m
 have X5:=J.aq t
 have D:IntKind.u64.wrap (IntKind.i64.wrap ((s.len:Int)-(r1.at_:Int)))=((bs.length-r1.at_:Nat):Int):=by
  rw[l.len,IntWalk.i64_in _ Om,show((bs.length:Int)-(r1.at_:Int))=((bs.length-r1.at_:Nat):Int) by omega,qB Om]
 refine⟨s,E.box.bd,a,rfl,_,E.jv,fun f=>⟨a,rfl,E.box.ee (i:=1) Sm,by rw[zC];exact m _ (.inl rfl),?_⟩,fun f=>⟨a,rfl,fun w8 C=>?_⟩⟩
 have f:bs.length<r1.at_+n:=by rw[D]at f;have:=of_decide_eq_true f;omega
 rw[if_pos f]
 rintro w6 e6
 refine(B 3 z w5 w6 m E X5 e6).mono ?_
 rintro _ w7 ⟨rfl,Q,V,X7⟩
 exact⟨rfl,Q,rfl,V,X7⟩
 have f:¬bs.length<r1.at_+n:=by rw[D]at f;have:=of_decide_eq_false f;omega
 rw[if_neg f]
 have U:∀b,(b=a.block\/S b)->¬z b:=m
 have o:=E.ext C.ext U
 have W:IntKind.i64.wrap (n:Int)=(n:Int):=IntWalk.i64_in _ Om
 have L:IntKind.i64.wrap ((r1.at_:Int)+(n:Int))=((r1.at_+n:Nat):Int):=by rw[IntWalk.i64_in _ Om];omega
 rw[W]
 have⟨s1,N,G⟩:=o.ei.sub (P:=prog) uu o.room (k:=.i64) (lo:=r1.at_) (n:=n) (by rw[qA];omega)
 have Z:((dj bs).drop r1.at_).take n=dj ((bs.drop r1.at_).take n):=by simp[dj,map_take,map_drop]
 rw[Z]at G
 refine⟨s,o.box.bd,a,rfl,_,o.jv,a,rfl,_,o.jv,s1,by rw[L];exact N,_,W2 G,a,rfl,_,o.jv,a,rfl,o.box.ee (i:=1) Sm,by rw[zC];exact m _ (.inl rfl),?_⟩
 rintro w9 e9
 rw[L]at e9
 have R9:=o.wL (r1.at_+n)
 rw[<-e9,d,O]at R9
 refine⟨rfl,R9,?_⟩
 rw[e9]
 exact(X5.aq C).trans qR
def jbP{S0}(sb bs w0)(hs:dn S0 w0 1 sb (dj bs))(r:bs.length<=100000000):
  cl 57 #[sb.v] w0<|XD fun x w'=>∃a s',x=some a/\gg s'.ao w' a s' bs ⟨0,0,0⟩/\Pure w0 w'/\w0.heap.size<=a.block/\(∀b,s'.ao b->w0.heap.size<=b/\b<w'.heap.size):=by
 refine Xm _ w0 _ ?_
 intro m p n2
 have n:Pure w0 p:=ab.aw n2
 have z:bf p 5 1 ⟨some m,0,0⟩ []:=bf.empty n2
 have s:=n2.cu
 have C:=n.size
 have⟨s1,l,hr,f,q,j⟩:=z.Bb (P:=prog) (ty:=59) uu (hs.pure n) (zk bs) (Iv bs) (by rw[qA];simp;omega) (by rw[qA];simp only[maxLen,length_nil];omega)
 rw[nil_append]at f
 have o2:∀b,(Sl.mk (some m) 0 0).ao b->b=m.block:=fun b c=>by obtain⟨a,t,rfl⟩:=c;cases t;rfl
 have k:∀b,s1.ao b->w0.heap.size<=b:=fun b c=>(j b c).elim Gd fun h=>Om
 have o:Pure w0 l:=n.cg q Gd
 refine⟨s1,l,hr,?_⟩
 intro u w n3
 have i:Pure l w:=ab.aw n3
 have A:=n3.cu
 have B:=o.size;have D:=i.size
 have d:s1.len<=s1.cap:=by
  rcases f.ak with⟨rfl,_⟩|⟨g,cur,_,_,y,_⟩;exact Nat.le_refl _;rw[f.len];exact y
 exact⟨u,s1,rfl,⟨ai.fp n3,f.ei.pure i,fun b c e=>Oh<|f.lt c,r,d⟩,o.trans i,Om,fun b c=>⟨k b c,Oh<|f.lt c⟩⟩
end
end Go.Proofs
end
section
open Go Go.SE
namespace Go.Proofs
open Tryz
attribute [local irreducible] Calls
def SL:j1 prog 189 4 1 1:=by
 refine⟨underlying189,⟨t4,_,Kf,(by kernel_rfl:t4.zero=some (vb false)),Kf,Kf,rfl⟩,Om⟩
def jYD:∀i z,prog.info? 4=some i->i.zero=some z->z.cells=#[Value.bool false]:=by
 intro i z hi a;have h1:prog.info? 4=some t4:=Kf;rw[h1]at hi;cases hi;have h2:t4.zero=some (vb false):=Kf;rw[h2]at a;cases a;rfl
def pw(n:Nat)(V:Int->Bool):List (List Value):=(List.range n).map fun i:Nat=>[Value.bool<|V (i:Int)]
def CO(n V):(pw n V).length=n:=by simp[pw]
def Vk(n):List.replicate n [Value.bool false]=pw n (fun _=>false):=by
 unfold pw;rw[List.map_const',List.length_range]
def zJB(n V t b):(pw n V).set t [vb b]=pw n (gu V (t:Int) b):=by
 apply List.ext_getElem?;intro i;rw[List.getElem?_set];by_cases h:t=i;subst h;rw[if_pos rfl];by_cases a:t<n;simp[pw,a,gu];simp[pw,a];rw[if_neg h];by_cases a:i<n;simp[pw,a,gu,show ¬(i:Int)=t by omega];simp[pw,a]
section
variable {w w':World} {e:TypeId} {s:Sl} {n:Nat} {V:Int->Bool}
def zJD(h:bf w e 1 s (pw n V)){t:Int}(b:0<=t)(ht:t<n):∃a,At s t 1 a/\s.ao a.block/\w.cell? a=some (vb<|V t):=by
 have⟨a,h1,h2,h3⟩:=h.at b (by rw[CO];omega);refine⟨a,h1,h3,?_⟩;have:(pw n V)[t.toNat]'(by rw[CO];omega)=[Value.bool<|V t]:=by
  simp only[pw,List.getElem_map,List.getElem_range];rw[show((t.toNat:Nat):Int)=t by omega]
 rw[this]at h2;exact Ap h2
def zJC(h:bf w e 1 s (pw n V)){t:Int}(r:0<=t)(ht:t<n):∃a,At s t 1 a/\s.ao a.block/\zL w a/\∀b,bf (w.setCell a<|vb b) e 1 s (pw n<|gu V t b)/\ab s.ao w (w.setCell a<|vb b):=by
 have c:∀b:Bool,∃a,At s t 1 a/\(∀j,j<1->zL w (a.add j))/\∀w',w'=bb w a [Value.bool b]->bf w' e 1 s ((pw n V).set t.toNat [vb b])/\ab s.ao w w':=fun b=>h.set (i:=t.toNat) (by rw[CO];omega) rfl Om;have⟨a,f,q,_⟩:=c true;have⟨u,h1,_,p⟩:=h.at r (by rw[CO];omega);have o:∀{x:Addr},At s t 1 x->x=a:=fun m=>by
  obtain⟨_,_,b1,k,rfl⟩:=m;obtain⟨_,_,b2,g,rfl⟩:=f;rw[k]at g;cases g;rfl
 have d:a.add 0=a:=by simp[Addr.add]
 refine⟨a,f,?_,by have:=q 0 Om;rwa [d]at this,fun b=>?_⟩;grind;have⟨x,m,_,l⟩:=c b;have:=o m;subst this;have aq:bb w x [Value.bool b]=w.setCell x (vb b):=by show w.setCell (x.add 0) (vb b)=_;rw[d]
 have⟨r1,r2⟩:=l _ rfl;rw[aq]at r1 r2;rw[zJB,show((t.toNat:Nat):Int)=t by omega]at r1;exact⟨r1,r2⟩
end
structure AW(w:World)(x q:Addr)(L:av)(st:(Int->Bool)×List Int)(a:NP)(sv so:Sl):Prop where
 box:ai w x [vp<|some q,sv.v,so.v] 191
 seen:bf w 4 1 sv (pw (L.length+1) st.1)
 ji:bf w 73 1 so (bz st.2)
 bj:vR w q L a
 n1:¬sv.ao x.block
 n2:¬so.ao x.block
 n3:∀b,sv.ao b->¬so.ao b
 n4:∀b,a b->b≠x.block/\¬sv.ao b/\¬so.ao b
def WF(x:Addr)(sv so:Sl)(b:Nat):Prop:=b=x.block\/sv.ao b\/so.ao b
def vR.LB{w q L FR}(h:vR w q L FR){t}(ht:al L t=true)(c:Ok L):∃v,w.cell? q=some (Sl.v v)/\∃a,At v (IntKind.i64.wrap<|t-1) 7 a/\w.cell? (a.add 5)=some (vi (ad L t).a)/\w.cell? (a.add 6)=some (vi (ad L t).b):=by
 have⟨s1,g,f,h,_⟩:=h;obtain⟨i,hi,rfl⟩:=si ht;have:=c.fm;have⟨a,h1,h2⟩:=h.r1.mm hi;rw[IntWalk.i64_in _ Om,show(i:Int)+1-1=i by omega];have d:=qL hi;have e:CX L[i]=tK (ad L<|(i:Int)+1):=by rw[d];rfl
 rw[e]at h2;exact⟨s1,h.box.bd,a,h1,h2 5<|by simp[tK],h2 6<|by simp[tK]⟩
def WD(x q:Addr){L:av}(s:Wf L):∀(n:Nat) (t:Int) (j:World) (st:(Int->Bool)×List Int) (A:NP) (sv so:Sl),t.toNat<n->AW j x q L st A sv so->tp L st->(∀y,st.1 y=true->y<=t->y∈st.2) ->
  cl 123 #[vp (some x),vi t] j (fun e w'=>e=.returned (.tuple #[])/\∃m,AW w' x q L (yU L n t st) A sv m/\ab (WF x sv so) j w'/\∀b,m.ao b->so.ao b\/j.heap.size<=b):=by
 intro n
 induction n with
 |zero=>intro t j st A sv so h;omega
 |succ n ih =>
 intro t j st A sv so hn h aq hm
 have hR:=tw s (n+1) t st hn aq hm
 suffices key:∀K:WP,(∀m w',AW w' x q L (yU L (n+1) t st) A sv m->ab (WF x sv so) j w'->(∀b,m.ao b->so.ao b\/j.heap.size<=b)->K w')->LA (some x) t j K from
  YV _ _ j _ (key _ Gd)
 intro K D
 refine⟨x,rfl,_,h.box.bd,?_⟩
 refine(uO q t j h.bj).mono ?_
 rintro _ j ⟨r1,rfl,rfl,rfl⟩
 refine⟨_,rfl,fun X=>?_,fun X=>?_⟩
 have f:al L t=false:=by simpa using X
 refine Br.t rfl ?_
 rw[yU,if_neg (by simp[f])]at D
 exact D so j h (ab.refl _) fun b d=>.inl d
 have f:al L t=true:=by simpa using X
 have⟨t1,tL⟩:=zI.1 f
 have⟨a13,G,_,c13⟩:=zJD h.seen (t:=t) Om Om
 refine⟨x,rfl,sv,h.box.cell rfl,a13,G,_,c13,?_⟩
 refine⟨fun hv=>?_,fun hv=>?_⟩
 rw[yU,if_neg (by simp[hv])]at D
 exact D so j h (ab.refl _) fun b d=>.inl d
 rw[yU,if_pos ⟨f,hv⟩]at D hR
 have⟨a2,at2,z,Z,I⟩:=zJC h.seen (t:=t) Om Om
 refine⟨x,rfl,sv,h.box.cell rfl,a2,at2,Z,?_⟩
 rintro _ rfl
 have⟨R2,R⟩:=I true
 have A2:AW (j.setCell a2 (vb true)) x q L (gu st.1 t true,st.2) A sv so:=
  ⟨h.box.ext R h.n1,R2,h.ji.ext R fun b d z=>h.n3 b z d,h.bj.ext R fun b d z=>(h.n4 b d).2.1 z,h.n1,h.n2,h.n3,h.n4⟩
 generalize j.setCell a2 (vb true)=w2 at *
 have⟨v3,c3,a5,at5,ca,cb⟩:=A2.bj.LB f s.ok
 refine⟨x,rfl,_,A2.box.bd,q,rfl,v3,c3,a5,at5,_,ca,?_⟩
 have S:∀k,k=(ad L t).a\/k=(ad L t).b->k<t:=by
  intro k u;have p:=(s.node f).2.2.2.2.1;cases hp:al L k with
  |true=>exact(p k (BA s f u hp)).2
  |false =>
   have h1:=(s.node f).2.1
   have h2:=(s.node f).2.2.1
   rcases qV (ad L t).kind with e|e|e
   grind
   have b0:=h2 Om
   rcases u with u|u
   have:=(p k (by unfold zB;rw[e,u];simp)).2;exact this
   omega
   exact(p k (by unfold zB;rw[e];rcases u with u|u<;>simp[u])).2
 have la:=S _ (.inl rfl)
 have lb:=S _ (.inr rfl)
 have o1:tp L (gu st.1 t true,st.2):=⟨fun y C=>by simp only[gu];split<;>simp[aq.AB y C],aq.rW,aq.nd,aq.gm⟩
 have m1:∀y,(gu st.1 t true,st.2).1 y=true->y<=(ad L t).a->y∈(gu st.1 t true,st.2).2:=fun y C hle=>by
  simp only[gu]at C;rw[if_neg Om]at C;exact hm y C Om
 have r1:=tw s n (ad L t).a _ Om o1 m1
 refine(ih (ad L t).a w2 _ A sv so Om A2 o1 m1).mono ?_
 rintro _ w3 ⟨rfl,J,A3,X3,f3⟩
 generalize hs1:yU L n (ad L t).a (gu st.1 t true,st.2)=s1 at *
 have⟨v6,c6,a8,Y,_,cb3⟩:=A3.bj.LB f s.ok
 refine⟨rfl,x,rfl,_,A3.box.bd,q,rfl,v6,c6,a8,Y,_,cb3,?_⟩
 have m2:∀y,s1.1 y=true->y<=(ad L t).b->y∈s1.2:=fun y C hle=>by
  rcases r1.ue y C with O|O;simp only[gu]at O;rw[if_neg Om]at O;have:=hm y O Om;have⟨M,e,_⟩:=r1.gn;simp only at e;rw[e];exact List.mem_append_left _ this;exact O
 have r2:=tw s n (ad L t).b s1 Om r1.totp m2
 refine(ih (ad L t).b w3 s1 A sv J Om A3 r1.totp m2).mono ?_
 rintro _ w4 ⟨rfl,o,g,X4,f4⟩
 generalize hs2:yU L n (ad L t).b s1=T at *
 refine⟨rfl,x,rfl,o,g.box.cell rfl,?_⟩
 intro p1 w5 h5
 have E:Pure w4 w5:=ab.aw h5
 have hfew:T.2.length<=65536:=Oi (tT r2.nd r2.gm) s.ok.fm
 have⟨l,w6,W,R6,U,f6⟩:=(g.ji.pure E).append (P:=prog) (ty:=46) (c:=1) te (r:=[vi t]) (ai.bh h5).row rfl rfl (by rw[vA];omega) (by rw[vA];simp[maxLen];omega)
 have b6:=(g.box.pure E).ext U g.n2
 refine⟨l,w6,W,x,rfl,b6.ee Sm,?_⟩
 rintro _ rfl
 have Q:=ab.setCell (w:=w6) (x.add 2) l.v
 rw[zC]at Q
 have z2:j.heap.size<=w2.heap.size:=R.size
 have z3:=X3.size
 have z4:=X4.size
 have z5:=E.size
 have B:∀b,l.ao b->o.ao b\/w4.heap.size<=b:=fun b d=>(f6 b d).imp_right fun h=>Om
 have nx:¬l.ao x.block:=fun hh=>(B _ hh).elim g.n2 fun hh=>Oh g.box.lt
 have nv:∀b,sv.ao b->¬l.ao b:=fun b d hh=>(B b hh).elim (g.n3 b d) fun hh=>Oh (g.seen.lt d)
 have N:=D l (w6.setCell (x.add 2) l.v)
 refine N ⟨b6.set 2 l.v,((g.seen.pure E).ext U g.n3).ext Q fun b d e=>g.n1 (e▸d),?_,((g.bj.pure E).ext U fun b d=>(g.n4 b d).2.2).ext Q fun b d e=>(g.n4 b d).1 e,g.n1,nx,nv,fun b d=>⟨(g.n4 b d).1,(g.n4 b d).2.1,fun hh=>(B b hh).elim (g.n4 b d).2.2 fun hh=>Oh (g.bj.lt d)⟩⟩ ?_ ?_
 show bf _ _ _ _ (bz (T.2++[t]))
 rw[show bz (T.2++[t])=bz T.2++[[vi t]] by simp[bz]]
 exact R6.ext Q fun b d e=>nx (e▸d)
 have H:∀b,o.ao b->b<j.heap.size->so.ao b:=fun b d V=>Gd
 have f33:∀b,J.ao b->b<j.heap.size->so.ao b:=fun b d V=>(f3 b d).elim id fun h2=>Om
 refine((((R.mono fun b _ d=>.inr (.inl d)).trans X3).cg X4 fun i hi d=>?_).cg (E.pure (F:=WF x sv o)) fun i hi d=>?_).cg ((U.mono fun b _ d=>.inr (.inr d)).trans (Q.mono fun b _ e=>.inl e)) fun i hi (d:WF x sv o i)=>?_
 rcases d with d|d|d
 exact .inl d
 exact .inr (.inl d)
 exact .inr (.inr (f33 i d hi))
 rcases d with d|d|d
 exact .inl d
 exact .inr (.inl d)
 exact .inr (.inr (H i d hi))
 rcases d with d|d|d
 exact .inl d
 exact .inr (.inl d)
 exact .inr (.inr (H i d hi))
 grind
def FO(q t w0){L FR}(y:Wf L)(j:vR w0 q L FR):
  cl 61 #[vp<|some q,vi t] w0<|XA fun r w'=>fx w0 73 1 (bz<|dc L t) r w':=by
 refine jbm _ _ w0 _ ?_
 unfold Ns
 obtain⟨l,s,g⟩:∃l:Sl,w0.cell? q=some l.v/\l.len=L.length:=by
  have⟨s1,I,J,h,_⟩:=j;exact⟨s1,h.box.bd,by rw[h.r1.len];simp⟩
 have H:=y.ok.fm
 refine⟨q,rfl,l,s,?_⟩
 rw[g,IntWalk.i64_in _ Om,show((L.length:Int)+1)=((L.length+1:Nat):Int) by omega]
 have⟨w,u,o,x⟩:=bf.ax (P:=prog) SL jYD (k:=.i64) (k':=.i64) (n:=L.length+1) Om (by simp[maxLen];omega) w0
 rw[Vk]at o
 refine⟨_,w,u,?_⟩
 intro z p h2
 have m:Pure w p:=ab.aw h2
 have E:=h2.cu
 have c:∀b,¬Sl.nil.ao b:=fun b d=>by have⟨a,h,_⟩:=d;cases h
 have f:∀b,(Sl.mk (some ⟨w0.heap.size,0,none⟩) (L.length+1)<|L.length+1).ao b->b=w0.heap.size:=by rintro b ⟨a,D,rfl⟩;cases D;rfl
 have M:=x.size
 have K:w0.heap.size<w.heap.size:=o.lt ⟨_,rfl,rfl⟩
 have F:AW p z q L (fun _=>false,[]) FR ⟨some ⟨w0.heap.size,0,none⟩,L.length+1,L.length+1⟩ Sl.nil:=by
  refine⟨ai.bh h2,o.pure m,bf.nil _ _ _,(j.pure x).pure m,fun d=>Oh<|f _ d,c _,fun b _=>c b,fun b d=>⟨fun e=>?_,fun hh=>?_,c b⟩⟩;have:=j.lt d;omega;have:=f _ hh;have:=j.lt d;omega
 refine(WD z q y (t.toNat+1) t p _ FR _ Sl.nil Om F ⟨Sm,Sm,Sm,Sm⟩ Sm).mono ?_
 rintro _ G ⟨rfl,so,A,C,B⟩
 refine⟨rfl,so,A.box.cell rfl,A.ji,fun b d=>?_,(x.trans m).cg C fun i hi d=>?_⟩
 rcases B b d with h|h
 exact(c b h).elim
 have:=m.size;omega
 rcases d with d|d|d
 omega
 have:=f _ d;omega
 exact c _ d
end Go.Proofs
end
section
open Go Go.SE
namespace Go.Proofs
open Tryz
attribute [local irreducible] Calls CallsD
def AA{s i sz a}(h:At s i sz a):s.ao a.block:=by
 obtain⟨_,_,b,c,rfl⟩:=h;exact⟨b,c,(zC _ _).symm⟩
def PA{w e s A}(h:bf w e 1 s (bz A)){k:Int}{j:Nat}(p:k=j)(r:j<A.length):
  ∃a,At s k 1 a/\s.ao a.block/\zL w a/\∀v,bf (w.setCell a<|.int .i64 v) e 1 s (bz<|A.set j v)/\ab s.ao w (w.setCell a<|.int .i64 v):=by
 have b:∀v:Int,∃a,At s k 1 a/\(∀j,j<1->zL w (a.add j))/\∀w',w'=bb w a [Value.int .i64 v]->bf w' e 1 s ((bz A).set j [.int .i64 v])/\ab s.ao w w':=fun v=>h.set (i:=j) (by rw[vA];omega) rfl p
 have⟨a,c,o,_⟩:=b 0
 have n:∀{x:Addr},At s k 1 x->x=a:=fun m=>by
  obtain⟨_,_,b1,g,rfl⟩:=m;obtain⟨_,_,b2,f,rfl⟩:=c;rw[g]at f;cases f;rfl
 have d:a.add 0=a:=by simp[Addr.add]
 refine⟨a,c,AA c,by have:=o 0 Om;rwa [d]at this,fun v=>?_⟩
 have⟨x,m,_,l⟩:=b v
 have:=n m;subst this
 have aq:bb w x [Value.int .i64 v]=w.setCell x (.int .i64 v):=by show w.setCell (x.add 0) (.int .i64 v)=_;rw[d]
 have⟨r1,r2⟩:=l _ rfl
 rw[aq]at r1 r2
 have q:(bz A).set j [.int .i64 v]=bz (A.set j v):=by simp[bz,List.map_set]
 rw[q]at r1
 exact⟨r1,r2⟩
def jc(c:Bool)(f:bq)(n:df)(na nb:Nat):List UInt8:=if c then f.bytes n na nb else[]
def Vd(n na nb)(h1:1<=n.kind)(a:n.kind<=9):(qN n.kind).flatMap (bq.bytes n na nb) =
  jc (rz n.kind) .mn n na nb++jc ((n.kind==8) ||(n.kind==9)) .oG n na nb++jc (n.kind==2) .num n na nb++jc (n.kind==3) .ba n na nb++jc (decide (di n.kind>=1)) .fst n na nb++jc (di n.kind==2) .snd n na nb:=by
 rw[qT]
 have:n.kind=1\/n.kind=2\/n.kind=3\/n.kind=4\/n.kind=5\/n.kind=6\/n.kind=7\/n.kind=8\/n.kind=9:=Om
 rcases this with e|e|e|e|e|e|e|e|e<;>simp[e,qN,jc,rz,bk]
def V8{n}(h:di n.kind>=1):n.a∈zB n:=by
 rw[qT]at h;unfold zB;rcases qV n.kind with e|e|e<;>rw[e]at h|-<;>simp at h|-
def zDV{n}(h:di n.kind=2):n.b∈zB n:=by
 rw[qT]at h;unfold zB;rw[h];simp
structure I8(w0:World)(q:Addr)(FR:NP)(s1 r1:Sl)(B:Nat):Prop where
 lR:∀x,FR x->x<B
 lr:∀x,r1.ao x->x<B
 ls:∀x,s1.ao x->x<B/\w0.heap.size<=x/\¬FR x/\¬r1.ao x
 ew:w0.heap.size<=B
structure mu(w0 w:World)(H:NP)(q:Addr)(L:av)(FR:NP)(s1 r1:Sl)(A xs:List Int)(B:Nat)(b:Sl)(bs:List UInt8):Prop where
 bj:vR w q L FR
 at_:bf w 3 1 s1 (bz A)
 dc:bf w 73 1 r1 (bz xs)
 cj:bf w 5 1 b (dj bs)
 pure:Pure w0 w
 hB:∀x,H x->B<=x/\x<w.heap.size
 ak:∀x,b.ao x->B<=x/\¬H x
 lt:B<=w.heap.size
section
variable {w0 w w':World} {H H':NP} {q:Addr} {L:av} {FR:NP} {s1 r1:Sl} {A xs:List Int} {B:Nat} {b b':Sl} {bs bs':List UInt8}
def mu.aq(h:mu w0 w H q L FR s1 r1 A xs B b bs)(S:I8 w0 q FR s1 r1 B)(hs:af w0 H w H' w'):mu w0 w' H' q L FR s1 r1 A xs B b bs:=by
 have c:∀x,H' x->B<=x:=fun x a=>(hs.aw x a).elim (fun h1=>(h.hB x h1).1) fun h1=>Oh h.lt;have d:∀x,b.ao x->¬H' x:=hs.ja fun x a=>⟨h.cj.lt a,(h.ak x a).2⟩;exact⟨h.bj.ext hs.ext fun x a hh=>Oi (S.lR x a)<|c x hh,h.at_.ext hs.ext fun x a hh=>Oi (S.ls x a)<|c x hh,h.dc.ext hs.ext fun x a hh=>Oi (S.lr x a)<|c x hh,h.cj.ext hs.ext d,h.pure.aq hs,fun x a=>⟨c x a,hs.lt x a⟩,fun x a=>⟨(h.ak x a).1,d x a⟩,Nat.le_trans h.lt hs.ext.size⟩
def mu.call(h:mu w0 w H q L FR s1 r1 A xs B b bs)(hr:fx w 5 1 (dj bs') b' w'):mu w0 w' H q L FR s1 r1 A xs B b' bs':=
 ⟨h.bj.pure hr.pure,h.at_.pure hr.pure,h.dc.pure hr.pure,hr.cj,h.pure.trans hr.pure,fun x a=>⟨(h.hB x a).1,Nat.lt_of_lt_of_le (h.hB x a).2 hr.pure.size⟩,fun x a=>⟨Nat.le_trans h.lt<|hr.ak x a,fun hh=>Oi (hr.ak x a)<|(h.hB x hh).2⟩,Nat.le_trans h.lt hr.pure.size⟩
end
section
variable (w0:World) (q:Addr) {L:av} (hW:Wf L) (hN:yP L) {FR:NP} {s1 r1:Sl} {A xs:List Int} {B:Nat} (S:I8 w0 q FR s1 r1 B) (i1:Int) (n:df) (na nb:Nat)
include S
def Ni(u:di n.kind=2->0<=n.b/\A[n.b.toNat]?=some (nb:Int)/\nb<65537){H w b bs}(h:mu w0 w H q L FR s1 r1 A xs B b bs)(x:bs.length<=1000000000)(o:Sl->Int->NP->WP)(K:Sl->WP)(g:∀b' H' w',mu w0 w' H' q L FR s1 r1 A xs B b' (bs++jc (di n.kind==2) .snd n na nb)->o b' (IntKind.i64.wrap<|i1+1) H' w'):DZ s1 i1 n.kind n.b b w0 H w o K:=by
 refine⟨fun i=>?_,fun i=>?_⟩;rw[i]at g;have⟨z,s,h2⟩:=u (by simpa using i);have⟨p,k⟩:=List.getElem?_eq_some_iff.1 s;have⟨a,d,_,y⟩:=uB h.at_.ei p;rw[show((n.b.toNat:Nat):Int)=n.b by omega]at d;refine⟨a,d,fun e hs=>?_⟩;have l:=h.aq S hs;have⟨v,c,_,j⟩:=uB l.at_.ei p;rw[show((n.b.toNat:Nat):Int)=n.b by omega]at c;have:v=a:=by
  obtain⟨_,_,b1,m,rfl⟩:=d;obtain⟨_,_,b2,f,rfl⟩:=c;rw[m]at f;cases f;rfl
 subst this;refine⟨_,j,?_⟩;rw[k,qB Om];refine(Ay b bs nb e l.cj.ei Om Om).mono ?_;rintro _ t ⟨r,rfl,hr⟩;exact⟨r,rfl,hr.bl,g _ _ _<|l.call hr⟩;rw[i]at g;simp only[jc,Bool.false_eq_true,if_false,List.append_nil]at g;exact fun e hs=>g _ _ _<|h.aq S hs
def Ny(t:di n.kind>=1->0<=n.a/\A[n.a.toNat]?=some (na:Int)/\na<65537)(s:di n.kind=2->0<=n.b/\A[n.b.toNat]?=some (nb:Int)/\nb<65537){H w b bs}(h:mu w0 w H q L FR s1 r1 A xs B b bs)(y:bs.length<=900000000)(i:Sl->Int->NP->WP)(K:Sl->WP)(g:∀b' H' w',mu w0 w' H' q L FR s1 r1 A xs B b' (bs++jc (decide (di n.kind>=1)) .fst n na nb++jc (di n.kind==2) .snd n na nb)->i b' (IntKind.i64.wrap<|i1+1) H' w'):Dh s1 i1 n.kind n.a n.b b w0 H w i K:=by
 refine⟨fun j=>?_,fun j=>?_⟩;rw[j]at g;have⟨C,u,h2⟩:=t<|of_decide_eq_true j;have⟨p,l⟩:=List.getElem?_eq_some_iff.1 u;have⟨a,d,_,z⟩:=uB h.at_.ei p;rw[show((n.a.toNat:Nat):Int)=n.a by omega]at d;refine⟨a,d,fun e hs=>?_⟩;have m:=h.aq S hs;have⟨x,c,_,k⟩:=uB m.at_.ei p;rw[show((n.a.toNat:Nat):Int)=n.a by omega]at c;have:x=a:=by
  obtain⟨_,_,b1,o,rfl⟩:=d;obtain⟨_,_,b2,f,rfl⟩:=c;rw[o]at f;cases f;rfl
 subst this;refine⟨_,k,?_⟩;rw[l,qB Om];refine(Ay b bs na e m.cj.ei Om Om).mono ?_;rintro _ v ⟨r,rfl,hr⟩;have:=vU (n:=na) Om;exact⟨r,rfl,hr.bl,Ni w0 q S i1 n na nb s (m.call hr) Gd i K g⟩;rw[j]at g;simp only[jc,Bool.false_eq_true,if_false,List.append_nil]at g;exact fun e hs=>Ni w0 q S i1 n na nb s (h.aq S hs) Om i K g
def QL(l:n.ba.size<=64)(g:di n.kind>=1->0<=n.a/\A[n.a.toNat]?=some (na:Int)/\na<65537)(i:di n.kind=2->0<=n.b/\A[n.b.toNat]?=some (nb:Int)/\nb<65537){H w b bs}(h:mu w0 w H q L FR s1 r1 A xs B b bs)(k:bs.length<=800000000)(d:Sl->Int->NP->WP)(K:Sl->WP)(c:∀b' H' w',mu w0 w' H' q L FR s1 r1 A xs B b' (bs++jc (n.kind==3) .ba n na nb++jc (decide (di n.kind>=1)) .fst n na nb++jc (di n.kind==2) .snd n na nb)->d b' (IntKind.i64.wrap<|i1+1) H' w'):CS s1 i1 n.kind n.ba n.a n.b b w0 H w d K:=by
 refine⟨fun f=>?_,fun f=>?_⟩;rw[f]at c;refine(ZY b bs n.ba w h.cj.ei Om Om).mono ?_;rintro _ j ⟨r,rfl,hr⟩;have:=vU (n:=n.ba.size) Om;have e:n.ba.data.toList.length=n.ba.size:=Array.length_toList;exact⟨r,rfl,hr.bl,Ny w0 q S i1 n na nb g i (h.call hr) (by rw[List.length_append,vV,List.length_append];omega) d K c⟩;rw[f]at c;simp only[jc,Bool.false_eq_true,if_false,List.append_nil]at c;exact Ny w0 q S i1 n na nb g i h Om d K c
def PC(l:qW n.num)(i:n.ba.size<=64)(g:di n.kind>=1->0<=n.a/\A[n.a.toNat]?=some (na:Int)/\na<65537)(j:di n.kind=2->0<=n.b/\A[n.b.toNat]?=some (nb:Int)/\nb<65537){H w b bs}(h:mu w0 w H q L FR s1 r1 A xs B b bs)(o:bs.length<=700000000)(d:Sl->Int->NP->WP)(K:Sl->WP)(c:∀b' H' w',mu w0 w' H' q L FR s1 r1 A xs B b' (bs++jc (n.kind==2) .num n na nb++jc (n.kind==3) .ba n na nb++jc (decide (di n.kind>=1)) .fst n na nb++jc (di n.kind==2) .snd n na nb)->d b' (IntKind.i64.wrap<|i1+1) H' w'):CU s1 i1 n.kind n.num n.ba n.a n.b b w0 H w d K:=by
 refine⟨fun f=>?_,fun f=>?_⟩;rw[f]at c;have⟨m,p⟩:=l;have e:n.num=((n.num.toNat:Nat):Int):=Om;rw[e];refine(Ay b bs n.num.toNat w h.cj.ei Om Om).mono ?_;rintro _ k ⟨r,rfl,hr⟩;have:=vU (n:=n.num.toNat) Om;exact⟨r,rfl,hr.bl,QL w0 q S i1 n na nb i g j (h.call hr) Gd d K c⟩;rw[f]at c;simp only[jc,Bool.false_eq_true,if_false,List.append_nil]at c;exact QL w0 q S i1 n na nb i g j h Om d K c
def KZ(ht:0<=n.to/\n.to<16)(l:qW n.num)(j:n.ba.size<=64)(i:di n.kind>=1->0<=n.a/\A[n.a.toNat]?=some (na:Int)/\na<65537)(k:di n.kind=2->0<=n.b/\A[n.b.toNat]?=some (nb:Int)/\nb<65537){H w b bs}(h:mu w0 w H q L FR s1 r1 A xs B b bs)(s:bs.length<=600000000)(f:Sl->Int->NP->WP)(K:Sl->WP)(d:∀b' H' w',mu w0 w' H' q L FR s1 r1 A xs B b' (bs++jc ((n.kind==8) ||(n.kind==9)) .oG n na nb++jc (n.kind==2) .num n na nb++jc (n.kind==3) .ba n na nb++jc (decide (di n.kind>=1)) .fst n na nb++jc (di n.kind==2) .snd n na nb)->f b' (IntKind.i64.wrap<|i1+1) H' w'):Fa s1 i1 n.kind n.to n.num n.ba n.a n.b b w0 H w f K:=by
 refine⟨fun g p c hs=>?_,fun g p c hs=>?_⟩;rw[g]at d;have m:=h.aq S hs;have e:n.to=((n.to.toNat:Nat):Int):=Om;rw[e,qB Om];refine(Ay b bs n.to.toNat c m.cj.ei Om Om).mono ?_;rintro _ o ⟨r,rfl,hr⟩;have:=vU (n:=n.to.toNat) Om;exact⟨r,rfl,hr.bl,PC w0 q S i1 n na nb l j i k (m.call hr) Gd f K d⟩;rw[g]at d;simp only[jc,Bool.false_eq_true,if_false,List.append_nil]at d;exact PC w0 q S i1 n na nb l j i k (h.aq S hs) Om f K d
end
def jQQ(q:Addr)(t:Int)(w0:World){L:av}{FR:NP}(hW:Wf L)(hN:yP L)(hP:vR w0 q L FR):
  cl 157 #[.pointer<|some q,.int .i64 t] w0<|XA fun r w'=>fx w0 5 1 (dj<|qD L t) r w':=by
 refine w_D _ _ w0 _ ?_
 refine(FO q t w0 hW hP).mono ?_
 rintro _ w1 ⟨r1,rfl,f⟩
 have P1:=hP.pure f.pure
 have hfew:=uW hW t
 have V:∀u∈dc L t,al L u=true:=fun u y=>have h:=(zt hW).1 y;(iw.le hW h.1 h.2).1
 have hord:=GL hW t
 have hnd:=BU hW t
 have htx:qD L t=fv L [] (dc L t):=rfl
 rw[htx]
 generalize hxs:dc L t=xs at *
 have hL:=hW.ok.fm
 have Z:∃v1:Sl,w1.cell? q=some v1.v/\v1.len=L.length:=by
  have⟨sa,sb,sc,h,_⟩:=P1;exact⟨sa,h.box.bd,by rw[h.r1.len];simp⟩
 have⟨v1,Z,hv1l⟩:=Z
 refine⟨r1,rfl,f.bl,q,rfl,v1,Z,?_⟩
 rw[hv1l,show IntKind.i64.wrap ((L.length:Int)+1)=((L.length+1:Nat):Int) by rw[i64 Om Om];omega]
 have⟨w2, hmk, W, E2⟩:=bf.ax (P:=prog) yc (zr:=[.int .i64 0]) (fun i z hi hz => by
   have h1:prog.info? 3=some t3:=Kf;rw[h1]at hi;cases hi;have h2:t3.zero=some (.int .i64 0):=Kf;rw[h2]at hz;cases hz;rfl) (k:=.i64) (k':=.i64) (n:=L.length+1) Om (by simp only[maxLen];omega) w1
 refine⟨_,w2,hmk,E2.bo,?_⟩
 generalize hs1e:(Sl.mk (some ⟨w1.heap.size,0,none⟩) (L.length+1)<|L.length+1)=s1 at *
 have E:∀x,s1.ao x->x=w1.heap.size:=fun x d=>by subst hs1e;obtain⟨a,ha,rfl⟩:=d;cases ha;rfl
 have hrep:List.replicate (L.length+1) [Value.int .i64 0]=bz (List.replicate (L.length+1) 0):=by simp[bz]
 rw[hrep]at W
 have z1:=f.pure.size
 have z2:=E2.size
 have X:∀x,s1.ao x->x<w2.heap.size:=fun x d=>W.lt d
 have hnil:∀b,¬Sl.nil.ao b:=fun b hb=>by have⟨a,h,_⟩:=hb;cases h
 have S:I8 w0 q FR s1 r1 w2.heap.size:=⟨fun x d=>Oh<|hP.lt d,fun x d=>Oh<|f.cj.lt d,fun x d=>⟨X x d,Oh<|E x d,fun hh=>Oi (hP.lt hh)<|E x d,fun hh=>Oi (f.cj.lt hh)<|E x d⟩,Om⟩
 have T2:mu w0 w2 ar q L FR s1 r1 (List.replicate (L.length+1) 0) xs w2.heap.size Sl.nil []:=⟨P1.pure E2,W,f.cj.pure E2,bf.nil _ _ _,f.pure.trans E2,fun x d=>d.elim,fun x d=>(hnil x d).elim,Nat.le_refl _⟩
 generalize w2.heap.size=B at *
 refine⟨fun b i H w=>∃(j:Nat) (A:List Int),i=j/\j<=xs.length/\A.length=L.length+1/\(∀u∈xs.take j,A[u.toNat]?=some ((c9 (xs.take j) u:Nat):Int))/\mu w0 w H q L FR s1 r1 A xs B b (fv L []<|xs.take j),fun _ i _=>((xs.length:Int)-i).toNat,⟨0,_,rfl,Nat.zero_le _,Sm,Sm,T2⟩,?_⟩
 rintro b _ Hl wl aq ⟨j,A,rfl,hj,hAl,hA,K⟩
 unfold Pw
 have U:r1.len=xs.length:=by rw[K.dc.len,vA]
 refine⟨fun g=>?_,fun g=>?_⟩
 have g:=vW U g
 have G:=V xs[j]<|List.getElem_mem _
 have hz:=zI.1 G
 have N:xs=xs.take j++xs[j] ::xs.drop (j+1):=by rw[<-List.drop_eq_getElem_cons g,List.take_append_drop]
 have hko:=hord _ _ _ N
 have hzn:xs[j]∉xs.take j:=Gd
 have htk:xs.take (j+1)=xs.take j++[xs[j]]:=List.take_succ_eq_append_getElem g
 have hbs:=KR hW hN (xs.take j) [] Gd Gd
 have hjl:(xs.take j).length=j:=by rw[List.length_take];omega
 rw[hjl]at hbs
 have⟨k1,k9,f0,f1,t0,t1,x1⟩:=xx hW G
 have Q:=hN.node xs[j]
 have⟨a3,m,_,hv3⟩:=uB K.dc.ei g
 have hnode:∃(v2:Sl) (a4:Addr),wl.cell? q=some v2.v/\FR q.block/\At v2 (IntKind.i64.wrap<|xs[j]-1) 7 a4/\Row wl a4 (tK<|ad L xs[j])/\FR a4.block:=by
  have⟨sa,sb,sc,h,hF⟩:=K.bj;have⟨e,he,⟨a,g1,g2⟩,_⟩:=h.kh G hW.ok;refine⟨sa,a,h.box.bd,(hF _).2<|.inl rfl,g1,?_,(hF _).2<|.inr<|.inl<|AA g1⟩;have:ad L xs[j]=e.node:=by simp only[ad,he,Option.map_some,Option.getD_some]
  rw[this];exact g2
 have⟨v2,a4,hv2,hFq,hat4,Y,hF4⟩:=hnode
 have hHR:∀x,FR x->¬Hl x:=fun x d hh=>Oi (S.lR x d)<|(K.hB x hh).1
 refine⟨q,rfl,v2,hv2,hHR _ hFq,a3,m,_,hv3,fun hh=>Oi (S.lr _<|AA m)<|(K.hB _ hh).1,a4,hat4,_,_,_,_,_,_,_,Y,hHR _ hF4,a3,m,fun H2 w6 hs6=>?_⟩
 have s:=K.aq S hs6
 have⟨a3',hat3',_,hv3'⟩:=uB s.dc.ei g
 have:a3'=a3:=by
  obtain⟨_,_,b1,hb1,rfl⟩:=m;obtain⟨_,_,b2,hb2,rfl⟩:=hat3';rw[hb1]at hb2;cases hb2;rfl
 subst this
 have⟨a6,hat6,hb6,hw6,hset⟩:=PA s.at_ (k:=xs[j]) (j:=xs[j].toNat) Om Om
 refine⟨_,hv3',a6,hat6,hw6,fun hh=>Oi (S.ls _ hb6)<|(s.hB _ hh).1,?_⟩
 rintro w9 h9
 have⟨hA9,X9⟩:=hset (j:Int)
 rw[<-h9]at hA9 X9
 have l:mu w0 w9 H2 q L FR s1 r1 (A.set xs[j].toNat j) xs B b (fv L []<|xs.take j):=
  ⟨s.bj.ext X9 fun x d hh=>(S.ls x hh).2.2.1 d,hA9,s.dc.ext X9 fun x d hh=>(S.ls x hh).2.2.2 d,s.cj.ext X9 fun x d hh=>Oi ((s.ak x d).1)<|(S.ls x hh).1,s.pure.cg X9 Gd,fun x d=>⟨(s.hB x d).1,Oi ((s.hB x d).2) X9.size⟩,s.ak,Oi s.lt X9.size⟩
 generalize hz':xs[j]=z at *
 have hnt:yF L (xs.take j) z=UInt8.ofNat (ad L z).kind.toNat ::(qN (ad L z).kind).flatMap (bq.bytes (ad L z) (c9 (xs.take j) (ad L z).a)<|c9 (xs.take j) (ad L z).b):=rfl
 rw[Vd _ _ _ k1 k9]at hnt
 have R:∀u∈zB (ad L z),0<=u/\(A.set z.toNat (j:Int))[u.toNat]?=some ((c9 (xs.take j) u:Nat):Int)/\c9 (xs.take j) u<65537:=fun u y=>by
  have hm:=hko u y;have hin:=zI.1<|V u<|List.mem_of_mem_take hm;refine⟨Om,?_,by have:=tR (xs.take j) u;rw[hjl]at this;omega⟩;rw[List.getElem?_set_ne Gd];exact hA u hm
 have hA':∀u∈xs.take (j+1),(A.set z.toNat (j:Int))[u.toNat]?=some ((c9 (xs.take<|j+1) u:Nat):Int):=fun u y=>by
  rw[htk]at y|-;rcases List.mem_append.1 y with y|y;rw[Gh y,List.getElem?_set_ne Gd];exact hA u y;rw[List.mem_singleton]at y;subst y;rw[CK hzn,hjl,List.getElem?_set_self Om]
 have hlA':(A.set z.toNat (j:Int)).length=L.length+1:=by rw[List.length_set];exact hAl
 have I:fv L [] (xs.take<|j+1)=fv L [] (xs.take j)++yF L (xs.take j) z:=by rw[htk,H6,List.nil_append]
 rw[hnt]at I
 generalize hnz:ad L z=n at *
 obtain⟨kn,hkn⟩:∃kn:Nat,n.kind=kn:=⟨n.kind.toNat,Om⟩
 intro p5 w10 h10
 have o:Pure w9 w10:=ab.aw h10
 rw[hkn,vz]at h10
 have⟨s2,w11,hr11,hR11,p,O⟩:=(l.cj.pure o).append (P:=prog) (ty:=59) (c:=1) uu (ai.fp h10).row rfl rfl (by rw[qA];omega) (by rw[qA];simp only[maxLen];omega)
 have z10:=o.size
 have z11:=p.size
 have nb:∀x,x<B->¬b.ao x:=fun x d hh=>Oh<|(l.ak x hh).1
 have T11:mu w0 w11 H2 q L FR s1 r1 (A.set z.toNat j) xs B s2 (fv L [] (xs.take j)++[UInt8.ofNat kn]):=
  ⟨(l.bj.pure o).ext p fun x d hh=>nb x (S.lR x d) hh,(l.at_.pure o).ext p Gd,(l.dc.pure o).ext p fun x d hh=>nb x (S.lr x d) hh,by rw[DP];exact hR11,(l.pure.trans o).cg p Gd,fun x d=>⟨(l.hB x d).1,Oh<|(l.hB x d).2⟩,fun x d=>⟨(O x d).elim (fun h=>(l.ak x h).1) fun h=>Oh l.lt,(O x d).elim (fun h=>(l.ak x h).2) fun h hh=>Oh<|(l.hB x hh).2⟩,Oh l.lt⟩
 refine⟨s2,w11,hr11,p.bl fun x d hh=>(l.ak x hh).2 d,?_⟩
 have F:n.kind.toNat=kn:=Om
 rw[F]at I
 have T : ∀ (b' : Sl) (H' : NP) (w' : World), mu w0 w' H' q L FR s1 r1 (A.set z.toNat j) xs B b' (fv L [] (xs.take j) ++ [UInt8.ofNat kn] ++ jc (rz n.kind) .mn n (c9 (xs.take j) n.a) (c9 (xs.take j) n.b) ++ jc ((n.kind == 8) || (n.kind == 9)) .oG n (c9 (xs.take j) n.a) (c9 (xs.take j) n.b) ++ jc (n.kind == 2) .num n (c9 (xs.take j) n.a) (c9 (xs.take j) n.b) ++ jc (n.kind == 3) .ba n (c9 (xs.take j) n.a) (c9 (xs.take j) n.b) ++ jc (decide (di n.kind >= 1)) .fst n (c9 (xs.take j) n.a) (c9 (xs.take j) n.b) ++ jc (di n.kind == 2) .snd n (c9 (xs.take j) n.a) (c9 (xs.take j) n.b)) ->
   (∃(j':Nat) (A':List Int),IntKind.i64.wrap ((j:Int)+1)=j'/\j'<=xs.length/\A'.length=L.length+1/\(∀u∈xs.take j',A'[u.toNat]?=some ((c9 (xs.take j') u:Nat):Int))/\mu w0 w' H' q L FR s1 r1 A' xs B b' (fv L []<|xs.take j'))/\((xs.length:Int)-IntKind.i64.wrap ((j:Int)+1)).toNat<((xs.length:Int)-(j:Int)).toNat:=fun b' H' w' h=>by
  refine⟨⟨j+1,_,zN g Om,g,hlA',hA',?_⟩,by rw[zN g Om];exact yY g⟩
  rw[I]
  simpa using h
 have J:di n.kind>=1->0<=n.a/\(A.set z.toNat (j:Int))[n.a.toNat]?=some ((c9 (xs.take j) n.a:Nat):Int)/\c9 (xs.take j) n.a<65537:=fun h=>R _<|V8 h
 have D:di n.kind=2->0<=n.b/\(A.set z.toNat (j:Int))[n.b.toNat]?=some ((c9 (xs.take j) n.b:Nat):Int)/\c9 (xs.take j) n.b<65537:=fun h=>R _<|zDV h
 refine⟨fun F w12 C=>?_,fun F w12 C=>?_⟩
 have M:=T11.aq S C
 have e:n.ay=((n.ay.toNat:Nat):Int):=Om
 rw[e,qB Om]
 refine(Ay s2 _ n.ay.toNat w12 M.cj.ei Gd Om).mono ?_
 rintro _ w16 ⟨r,rfl,hr⟩
 have:=vU (n:=n.ay.toNat) Om
 refine⟨r,rfl,hr.bl,?_⟩
 refine KZ w0 q S j n (c9 (xs.take j) n.a) (c9 (xs.take j) n.b) ⟨t0,t1⟩ Q x1 J D (M.call hr) Gd _ _ fun b' H' w' h=>T b' H' w' ?_
 rw[F];exact h
 have M:=T11.aq S C
 refine KZ w0 q S j n (c9 (xs.take j) n.a) (c9 (xs.take j) n.b) ⟨t0,t1⟩ Q x1 J D M (by rw[List.length_append,List.length_singleton];omega) _ _ fun b' H' w' h=>T b' H' w' ?_
 rw[F]
 simp only[jc,Bool.false_eq_true,if_false,List.append_nil]at h|-
 exact h
 have g:=yJ U hj g
 subst g
 rw[List.take_length]at K
 exact⟨K.cj,fun x d=>Oi ((K.ak x d).1) S.ew,K.pure⟩
def MQ(q t w0){L FR}(hW:Wf L)(hN:yP L)(i:vR w0 q L FR):
  cl 102 #[vp<|some q,vi t] w0<|XM fun r n w'=>n=(iv L t).2/\fx w0 5 1 (dj (iv L t).1) r w':=by
 refine jaw _ _ w0 _ ?_
 unfold NG
 have f:∀b,¬Sl.nil.ao b:=fun b g=>by have⟨a,h,_⟩:=g;cases h
 refine(uO q t w0 i).mono ?_
 rintro _ _ ⟨_,rfl,rfl,rfl⟩
 refine⟨_,rfl,fun d=>?_,fun d=>?_⟩
 have c:al L t=false:=by simpa using d
 have e:iv L t=([],51):=by unfold iv;rw[c];rfl
 rw[e]
 exact⟨rfl,bf.nil _ _ _,fun b g=>(f b g).elim,ab.refl _⟩
 have c:al L t=true:=by simpa using d
 refine(jQQ q t _ hW hN i).mono ?_
 rintro _ k ⟨r2,rfl,h⟩
 have j:r2.len=(qD L t).length:=by rw[h.cj.len,qA]
 refine⟨r2,rfl,fun d=>?_,fun d=>?_⟩
 have d:=of_decide_eq_true d
 have e:iv L t=([],1):=by unfold iv;rw[c,if_pos rfl,if_pos Om]
 rw[e]
 exact⟨rfl,bf.nil _ _ _,fun b g=>(f b g).elim,h.pure⟩
 have d:=of_decide_eq_false d
 have e:iv L t=(qD L t,0):=by unfold iv;rw[c,if_pos rfl,if_neg Om]
 rw[e]
 exact⟨rfl,h⟩
end Go.Proofs
end
section
open Go Go.SE List
namespace Go.Proofs
open Tryz
attribute [local irreducible] Calls CallsD
def fe(bs:List UInt8)(c:Bool)(f:bq)(s:gk×Rd):gk×Rd:=if c then(f.pg bs s.2 s.1,f.rd bs s.2)else s
def AF(bs:List UInt8)(f:bq)(s:gk×Rd):fe bs false f s=s:=rfl
def Ww(bs:List UInt8)(u f t a b kd:Nat)(c:List UInt8)(r:Rd):fe bs true .snd (⟨u,c,f,t,a,b,kd⟩,r)=(⟨u,c,f,t,a,(vY bs r).1,2⟩,(vY bs r).2):=rfl
def zHC(bs:List UInt8)(u f t a b kd:Nat)(c:List UInt8)(r:Rd):fe bs true .fst (⟨u,c,f,t,a,b,kd⟩,r)=(⟨u,c,f,t,(vY bs r).1,b,1⟩,(vY bs r).2):=rfl
def UJ(bs:List UInt8)(u f t a b kd:Nat)(c:List UInt8)(r:Rd):fe bs true .ba (⟨u,c,f,t,a,b,kd⟩,r)=(⟨u,(qI bs 64 r).1,f,t,a,b,kd⟩,(qI bs 64 r).2):=rfl
def Rv(bs:List UInt8)(u f t a b kd:Nat)(c:List UInt8)(r:Rd):fe bs true .num (⟨u,c,f,t,a,b,kd⟩,r)=(⟨(vY bs r).1,c,f,t,a,b,kd⟩,(vY bs r).2):=rfl
def Zm(bs:List UInt8)(u f t a b kd:Nat)(c:List UInt8)(r:Rd):fe bs true .oG (⟨u,c,f,t,a,b,kd⟩,r)=(⟨u,c,f,(vY bs r).1,a,b,kd⟩,(vY bs r).2):=rfl
def zCO(bs:List UInt8)(u f t a b kd:Nat)(c:List UInt8)(r:Rd):fe bs true .mn (⟨u,c,f,t,a,b,kd⟩,r)=(⟨u,c,(vY bs r).1,t,a,b,kd⟩,(vY bs r).2):=rfl
def UD(bs:List UInt8)(k:Nat)(h1:1<=k)(a:k<=9)(s:gk×Rd):vD bs (qN (k:Int)) s =
  fe bs (di (k:Int)==2) .snd (fe bs (decide (di (k:Int)>=1)) .fst (fe bs ((k:Int)==3) .ba (fe bs ((k:Int)==2) .num (fe bs (((k:Int)==8) ||((k:Int)==9)) .oG (fe bs (rz (k:Int)) .mn s))))):=by
 have⟨x,r⟩:=s
 rw[qT]
 have:k=1\/k=2\/k=3\/k=4\/k=5\/k=6\/k=7\/k=8\/k=9:=Om
 rcases this with e|e|e|e|e|e|e|e|e<;>subst e<;>simp[qN,fe,rz,bk,vD]
structure yb(k:Nat)(x:gk):Prop where
 ay:rz (k:Int)=false->x.ay=0
 to:(((k:Int)==8) ||((k:Int)==9))=false->x.to=0
 kids:di (k:Int)=(x.kids:Int)
def Tf(bs:List UInt8)(k:Nat)(h1:1<=k)(a:k<=9)(r:Rd):yb k (vD bs (qN (k:Int)) (yC,r)).1:=by
 have:k=1\/k=2\/k=3\/k=4\/k=5\/k=6\/k=7\/k=8\/k=9:=Om;refine⟨?_,?_,?_⟩;rcases this with e|e|e|e|e|e|e|e|e<;>subst e<;>simp[qN,rz,vD,bq.pg,yC];rcases this with e|e|e|e|e|e|e|e|e<;>subst e<;>simp[qN,vD,bq.pg,yC];rw[qT];rcases this with e|e|e|e|e|e|e|e|e<;>subst e<;>simp[qN,bk,vD,bq.pg,yC]
def tG(n:Nat):jw (n:Int)=if 1073741824<n then 1073741824 else(n:Int):=by
 unfold jw;by_cases h:1073741824<n;grind;rw[if_neg h,show decide ((n:Int)>1073741824)=false by simp;omega];exact sM Om
def Ey:List Value:=[vi 0,vi 0,vi 0,vu 0,vs ⟨#[]⟩,vi 0,vi 0]
structure nq(S:NP)(w0:World)(H:NP)(w:World)(p1 a:Addr)(s:Sl)(bs:List UInt8)(r:Rd):Prop where
 rd:gg S w a s bs r
 box:ai w p1 Ey 119
 jf:∀b,(b=a.block\/S b\/b=p1.block)->¬H b/\b<w.heap.size
 ext:ab (·=a.block) w0 w
 at_:r.at_<=bs.length
 o1:w0.heap.size<=p1.block
 d1:p1.block≠a.block/\¬S p1.block
section
variable {S:NP} {w0 w w':World} {H H':NP} {p1 a:Addr} {s:Sl} {bs:List UInt8} {r:Rd}
def nq.aq(h:nq S w0 H w p1 a s bs r)(hs:af w0 H w H' w'):nq S w0 H' w' p1 a s bs r:=by
 have d:∀b,(b=a.block\/S b\/b=p1.block)->¬H' b:=hs.ja fun b c=>⟨(h.jf b c).2,(h.jf b c).1⟩;exact⟨h.rd.ext hs.ext Gd,h.box.ext hs.ext<|d _<|.inr<|.inr rfl,fun b c=>⟨d b c,Oi ((h.jf b c).2) hs.ext.size⟩,h.ext.aq hs,h.at_,h.o1,h.d1⟩
def nq.hS(h:nq S w0 H w p1 a s bs r):∀b,(b=a.block\/S b)->b<w.heap.size:=fun b c=>(h.jf b<|c.elim .inl fun h=>.inr<|.inl h).2
def nq.next{f:Rd}(h:nq S w0 H w p1 a s bs r)(g:gg S w' a s bs f)(E:ab (·=a.block) w w')(d:f.at_<=bs.length):nq S w0 H w' p1 a s bs f/\aj H w w':=
 ⟨⟨g,h.box.ext E h.d1.1,fun b c=>⟨(h.jf b c).1,Oi ((h.jf b c).2) E.size⟩,h.ext.trans E,d,h.o1,h.d1⟩,E.bl fun b c e=>(h.jf _<|.inl rfl).1<|e▸c⟩
def nq.num(h:nq S w0 H w p1 a s bs r){R:Int->WP}(c:∀w',nq S w0 H w' p1 a s bs (vY bs r).2->R ((vY bs r).1:Int) w'):
  cl 118 #[vp<|some a] w<|XW fun x w'=>aj H w w'/\R x w':=by
 refine(Qo a s bs r w h.rd h.at_ h.hS).mono ?_
 rintro _ w' ⟨_,rfl,rfl,b,E⟩
 have⟨d,e⟩:=h.next b E (EP bs r h.at_).2
 exact⟨_,rfl,e,c w' d⟩
def yl(S:NP)(w0:World)(a:Addr)(s:Sl)(bs:List UInt8)(k i:Nat)(K:Int->Int->Int->Int->ByteArray->Int->Int->Int->WP)(b:gk×Rd):Prop:=
 ∀kd f t u d c vb e w',e=((kv k i b.1 b.2.cm:Nat):Int)->(e=0->(⟨kd,f,t,u,d,c,vb⟩:df)=b.1.node k)->gg S w' a s bs b.2->ab (·=a.block) w0 w'->K kd f t u d c vb e w'
variable (k i:Nat) (hk:1<=k/\k<=9) (hi:i<=100000) {K:Int->Int->Int->Int->ByteArray->Int->Int->Int->WP}
include hk hi
def OS(x:gk)(h:nq S w0 H w p1 a s bs r)(hF:yb k x)(hK:yl S w0 a s bs k i K (x,r)):
  A0 (some a) i p1 k k (jw x.ay) (jw x.to) x.num ⟨x.ba.toArray⟩ 0 0 (jw x.a) (jw x.b) w0 H w K:=by
 unfold A0
 have hwk:IntKind.i64.wrap (k:Int)=(k:Int):=sM Om
 rw[hwk]
 have o : ∀ (c : List Value) (kd f t u : Int) (L : ByteArray) (J vb : Int) (e : Nat) (H' : NP) (F I : World), nq S w0 H' F p1 a s bs r -> I = bb F p1 [vi kd, vi f, vi t, vu u, vs L, vi J, vi vb] -> e = kv k i x r.cm -> (e = 0 -> (⟨kd, f, t, u, L, J, vb⟩ : df) = x.node k) ->
   Row I p1 [vi kd,vi f,vi t,vu u,vs L,vi J,vi vb]/\K kd f t u L J vb e I:=by
  intro c kd f t u L J vb e H' F I h1 e2 P hn
  have X:ab (·=p1.block) F I:=by rw[e2];exact ab.bb _ _ _
  have B:ai I p1 [vi kd,vi f,vi t,vu u,vs L,vi J,vi vb] 119:=by rw[e2];exact h1.box.store rfl
  refine⟨B.row,hK _ _ _ _ _ _ _ _ _ (by rw[P]) (fun n=>hn Om) (h1.rd.ext X fun b D e=>?_)<|h1.ext.cg X fun j hj e=>Oh h1.o1⟩
  rcases D with rfl|D
  .exact h1.d1.1 e.symm
  .exact h1.d1.2<|e▸D
 have q:∀{H':NP} {F:World},nq S w0 H' F p1 a s bs r->(∀j,j<7->zL F (p1.add j)):=fun h1 j hj=>h1.box.ee (by simpa[Ey]using hj)
 refine⟨a,rfl,_,h.rd.rm,fun hc=>?_,fun hc=>?_⟩
 .have P:r.cm≠0:=Oh<|bne_iff_ne.1 hc
  have hne:kv k i x r.cm=r.cm:=by unfold kv;rw[if_pos P]
  refine⟨fun w'=>gg S w' a s bs r,h.rd.pure<|ab.drew w,?_⟩
  rintro p e11
  have m:nq S w0 H p p1 a s bs r:=by
   have E:Pure w p:=by rw[e11];exact ab.drew w
   exact(h.next (h.rd.pure E) (ab.pure E) h.at_).1
  refine⟨a,rfl,_,fun w' hw'=>hw'.rm,q m,(m.jf _<|.inr<|.inr rfl).1,?_⟩
  rintro N R
  have⟨A,y⟩:=o [] _ _ _ _ _ _ _ r.cm H p N m R hne.symm fun n=>absurd n P
  have X:ab (·=p1.block) p N:=by rw[R];exact ab.bb _ _ _
  refine⟨m.rd.ext X fun b D e=>?_,_,_,_,_,_,_,_,A,y⟩
  rcases D with rfl|D
  .exact m.d1.1 e.symm
  .exact m.d1.2<|e▸D
 have P:r.cm=0:=Gd
 have hfr:=hF.ay
 have hto:=hF.to
 have l:=hF.kids
 have O:(((k:Int)==8) ||((k:Int)==9))=decide (k=8\/k=9):=Gd
 rintro y1 Z
 have hy:y1=decide (16<=x.ay\/16<=x.to\/((k=8\/k=9)/\x.ay=x.to)):=by
  rw[Z,tG,tG,O];rw[O]at hto;rw[Bool.eq_iff_iff];simp only[Bool.or_eq_true,Bool.and_eq_true,decide_eq_true_eq,beq_iff_eq];by_cases hn:rz (k:Int)=true
  .grind
  .grind
 rw[hy]
 refine⟨fun d=>?_,fun d=>?_⟩
 .have d:=of_decide_eq_true d
  intro H9 w19 T
  have z:=h.aq T
  refine⟨q z,(z.jf _<|.inr<|.inr rfl).1,fun w26 U=>?_⟩
  have⟨A,y⟩:=o [] _ _ _ _ _ _ _ 50 H9 w19 w26 z U (by unfold kv;rw[if_neg Om,if_pos d]) (fun n=>by cases n)
  exact⟨_,_,_,_,_,_,_,A,y⟩
 have d:=of_decide_eq_false d
 rintro y2 V
 have hy:y2=decide ((0<x.kids/\i<=x.a)\/(1<x.kids/\i<=x.b)):=by
  rw[V,tG,tG,l];have hle:x.kids<=2:=by
   rw[qT]at l;rcases qV (k:Int)with e|e|e<;>rw[e]at l<;>omega
  rw[Bool.eq_iff_iff];simp only[Bool.or_eq_true,Bool.and_eq_true,decide_eq_true_eq,beq_iff_eq];split<;>split<;>omega
 rw[hy]
 refine⟨fun g=>?_,fun g=>?_⟩
 .have g:=of_decide_eq_true g
  intro H17 W M
  have v:=h.aq M
  refine⟨q v,(v.jf _<|.inr<|.inr rfl).1,fun w36 e36=>?_⟩
  have⟨A,y⟩:=o [] _ _ _ _ _ _ _ 71 H17 W w36 v e36 (by unfold kv;rw[if_neg Om,if_neg d,if_pos g]) (fun n=>by cases n)
  exact⟨_,_,_,_,_,_,_,A,y⟩
 have g:=of_decide_eq_false g
 intro Y w43 Q
 have G:=h.aq Q
 refine⟨q G,(G.jf _<|.inr<|.inr rfl).1,fun w45 e45=>?_⟩
 have hle:x.kids<=2:=by
  rw[qT]at l;rcases qV (k:Int)with e|e|e<;>rw[e]at l<;>omega
 have C:(⟨(k:Int),jw x.ay,jw x.to,x.num,⟨x.ba.toArray⟩,cond (decide (di (k:Int)>=1)) (IntKind.i64.wrap<|jw x.a+1) 0,cond ((di (k:Int):Int)==2) (IntKind.i64.wrap<|jw x.b+1) 0⟩:df)=x.node k:=by
  have ef:jw x.ay=x.ay:=by rw[tG,if_neg Om]
  have et:jw x.to=x.to:=by rw[tG,if_neg Om]
  have ea:cond (decide (di (k:Int)>=1)) (IntKind.i64.wrap<|jw x.a+1) 0=(if 0<x.kids then(x.a:Int)+1 else 0):=by
   rw[l];by_cases n:0<x.kids
   .rw[if_pos n,decide_eq_true Om,tG,if_neg Om];show IntKind.i64.wrap ((x.a:Int)+1)=_;rw[IntWalk.i64_in _ Om]
   .grind
  have eb:cond ((di (k:Int):Int)==2) (IntKind.i64.wrap<|jw x.b+1) 0=(if 1<x.kids then(x.b:Int)+1 else 0):=by
   rw[l];by_cases n:1<x.kids
   .rw[if_pos n,show((x.kids:Int)==2)=true by simp;omega,tG,if_neg Om];show IntKind.i64.wrap ((x.b:Int)+1)=_;rw[IntWalk.i64_in _ Om]
   .grind
  rw[ef,et,ea,eb];rfl
 have⟨A,y⟩:=o [] _ _ _ _ _ _ _ 0 Y w43 w45 G e45 (by unfold kv;rw[if_neg Om,if_neg d,if_neg g]) fun _=>C
 exact⟨_,_,_,_,_,_,_,A,y⟩
def Pn(u f t e kd:Nat)(c:List UInt8)(h:nq S w0 H w p1 a s bs r)(j:yb k (fe bs (di (k:Int) == 2) .snd (⟨u,c,f,t,e,0,kd⟩,r)).1)(g:yl S w0 a s bs k i K (fe bs (di (k:Int) == 2) .snd (⟨u,c,f,t,e,0,kd⟩,r))):
  BW (some a) i p1 k k (jw f) (jw t) u ⟨c.toArray⟩ 0 0 (jw e) w0 H w K:=by
 unfold BW
 have m:IntKind.i64.wrap (k:Int)=(k:Int):=sM Om
 rw[m]
 refine⟨fun n l b=>?_,fun n l b=>?_⟩
 rw[n,Ww]at j g
 exact(h.aq b).num fun w' p o d=>OS k i hk hi ⟨u,c,f,t,e,(vY bs r).1,2⟩ (p.aq d) j g
 rw[n,AF]at j g
 exact OS k i hk hi ⟨u,c,f,t,e,0,kd⟩ (h.aq b) j g
def Pg(u f t:Nat)(c:List UInt8)(h:nq S w0 H w p1 a s bs r)(g:yb k (fe bs (di (k:Int) == 2) .snd<|fe bs (decide (di (k:Int)>=1)) .fst (⟨u,c,f,t,0,0,0⟩,r)).1)(e:yl S w0 a s bs k i K (fe bs (di (k:Int) == 2) .snd<|fe bs (decide (di (k:Int)>=1)) .fst (⟨u,c,f,t,0,0,0⟩,r))):
  Ch (some a) i p1 k k (jw f) (jw t) u ⟨c.toArray⟩ 0 0 w0 H w K:=by
 unfold Ch
 have j:IntKind.i64.wrap (k:Int)=(k:Int):=sM Om
 rw[j]
 refine⟨fun l n b=>?_,fun l n b=>?_⟩
 rw[l,zHC]at g e
 exact(h.aq b).num fun w' o m d=>Pn k i hk hi u f t (vY bs r).1 1 c (o.aq d) g e
 rw[l,AF]at g e
 exact Pn k i hk hi u f t 0 0 c (h.aq b) g e
def ME(u f t:Nat)(h:nq S w0 H w p1 a s bs r)(d:yb k (fe bs (di (k:Int) == 2) .snd<|fe bs (decide (di (k:Int)>=1)) .fst<|fe bs ((k:Int) == 3) .ba (⟨u,[],f,t,0,0,0⟩,r)).1)(c:yl S w0 a s bs k i K (fe bs (di (k:Int) == 2) .snd<|fe bs (decide (di (k:Int)>=1)) .fst<|fe bs ((k:Int) == 3) .ba (⟨u,[],f,t,0,0,0⟩,r))):
  Bs (some a) i p1 k k (jw f) (jw t) u ⟨#[]⟩ 0 0 w0 H w K:=by
 unfold Bs
 have j:IntKind.i64.wrap (k:Int)=(k:Int):=sM Om
 rw[j]
 refine⟨fun g=>?_,fun g=>?_⟩
 .rw[g,UJ]at d c
  refine(Vx a s bs r w 64 Om h.rd h.at_ h.hS).mono ?_
  rintro _ w' ⟨_,rfl,rfl,e,E⟩
  have⟨m,l⟩:=h.next e E (O7 bs 64 r h.at_).2
  exact⟨_,rfl,l,fun n b=>Pg k i hk hi u f t (qI bs 64 r).1 (m.aq b) d c⟩
 .rw[g,AF]at d c
  exact Pg k i hk hi u f t [] h d c
def NS(f t:Nat)(h:nq S w0 H w p1 a s bs r)(d:yb k (fe bs (di (k:Int) == 2) .snd<|fe bs (decide (di (k:Int)>=1)) .fst<|fe bs ((k:Int) == 3) .ba<|fe bs ((k:Int) == 2) .num (⟨0,[],f,t,0,0,0⟩,r)).1)(c:yl S w0 a s bs k i K (fe bs (di (k:Int) == 2) .snd<|fe bs (decide (di (k:Int)>=1)) .fst<|fe bs ((k:Int) == 3) .ba<|fe bs ((k:Int) == 2) .num (⟨0,[],f,t,0,0,0⟩,r))):
  CE (some a) i p1 k k (jw f) (jw t) 0 ⟨#[]⟩ 0 0 w0 H w K:=by
 unfold CE
 have e:IntKind.i64.wrap (k:Int)=(k:Int):=sM Om
 rw[e]
 refine⟨fun g=>?_,fun g=>?_⟩
 rw[g,Rv]at d c
 exact h.num fun w' l j b=>ME k i hk hi (vY bs r).1 f t (l.aq b) d c
 rw[g,AF]at d c
 exact ME k i hk hi 0 f t h d c
def K4(f:Nat)(h:nq S w0 H w p1 a s bs r)(e:yb k (fe bs (di (k:Int) == 2) .snd<|fe bs (decide (di (k:Int)>=1)) .fst<|fe bs ((k:Int) == 3) .ba<|fe bs ((k:Int) == 2) .num<|fe bs (((k:Int) == 8) || ((k:Int) == 9)) .oG (⟨0,[],f,0,0,0,0⟩,r)).1)(d:yl S w0 a s bs k i K (fe bs (di (k:Int) == 2) .snd<|fe bs (decide (di (k:Int)>=1)) .fst<|fe bs ((k:Int) == 3) .ba<|fe bs ((k:Int) == 2) .num<|fe bs (((k:Int) == 8) || ((k:Int) == 9)) .oG (⟨0,[],f,0,0,0,0⟩,r))):
  Bd (some a) i p1 k k (jw f) 0 0 ⟨#[]⟩ 0 0 w0 H w K:=by
 unfold Bd
 have g:IntKind.i64.wrap (k:Int)=(k:Int):=sM Om
 rw[g]
 refine⟨fun j m n b=>?_,fun j m n b=>?_⟩
 rw[j,Zm]at e d
 exact(h.aq b).num fun w' o l c=>NS k i hk hi f (vY bs r).1 (o.aq c) e d
 rw[j,AF]at e d
 exact NS k i hk hi f 0 (h.aq b) e d
end
def zIE{S:NP}(a:Addr)(s:Sl)(bs:List UInt8)(r:Rd)(i:Nat)(w0:World)(h:gg S w0 a s bs r)(J:r.at_<bs.length)(Z:r.cm=0)(hS:∀b,(b=a.block\/S b)->b<w0.heap.size)(hi:i<=100000):
  cl 59 #[vp<|some a,vi i] w0 (fun e w'=>∃kd f t u:Int,∃o:ByteArray,∃n vb x:Int,e=.returned (.tuple #[.agg #[vi kd,vi f,vi t,vu u,vs o,vi n,vi vb],vi x]) /\
   (∃d:Rd,(if uE bs[r.at_].toNat=true then x=((kv bs[r.at_].toNat i (vD bs (qN bs[r.at_].toNat) (yC,⟨r.at_+1,0,r.spot⟩)).1 (vD bs (qN bs[r.at_].toNat) (yC,⟨r.at_+1,0,r.spot⟩)).2.cm:Nat):Int)/\(x=0->(⟨kd,f,t,u,o,n,vb⟩:df)=(vD bs (qN bs[r.at_].toNat) (yC,⟨r.at_+1,0,r.spot⟩)).1.node bs[r.at_].toNat)/\d=(vD bs (qN bs[r.at_].toNat) (yC,⟨r.at_+1,0,r.spot⟩)).2 else x=70/\d=⟨r.at_+1,0,r.spot⟩)/\gg S w' a s bs d/\ab (·=a.block) w0 w')):=by
 generalize p:bs[r.at_].toNat=k
 have A:k<256:=by rw[<-p];exact bs[r.at_].toNat_lt
 refine RF _ _ w0 _ ?_
 intro p1 H n1
 have I:Pure w0 H:=ab.aw n1
 have R:ai H p1 Ey 119:=ai.fp n1
 have b1:=n1.cu
 have z1:=I.size
 refine(ZZ a s bs r H (h.pure I) J Z).mono ?_
 rintro _ w2 ⟨_,rfl,rfl,F,z⟩
 rw[p]
 have z2:=z.size
 have dp:p1.block≠a.block/\¬S p1.block:=⟨fun e=>Oh<|hS _<|.inl e,fun hh=>Oh<|hS _<|.inr hh⟩
 have L:nq S w0 ar w2 p1 a s bs ⟨r.at_+1,0,r.spot⟩:=⟨F,R.ext z dp.1,fun b g=>⟨id,by
  rcases g with g|g|g;have:=hS b<|.inl g;omega;grind;have:=R.lt;omega⟩,(ab.pure I).trans z,Sy,Om,dp⟩
 have M:IntKind.i64.wrap (k:Int)=(k:Int):=sM Om
 refine⟨_,rfl,z.bl fun b g=>g.elim,?_⟩
 rw[M]
 have E:((decide ((k:Int)<1)) ||(decide ((k:Int)>9)))=!uE k:=by
  rw[Bool.eq_iff_iff];unfold uE;simp;omega
 rw[E]
 refine⟨fun l=>?_,fun l=>?_⟩
 have l:¬uE k=true:=by simpa using l
 intro N T G
 have v:=L.aq G
 refine⟨fun j Q=>v.box.ee<|by simpa[Ey]using Q,(v.jf _<|.inr<|.inr rfl).1,?_⟩
 rintro P O
 have X:ab (·=p1.block) T P:=by rw[O];exact ab.bb _ _ _
 have B:ai P p1 [vi (k:Int),vi 0,vi 0,vu 0,vs ⟨#[]⟩,vi 0,vi 0] 119:=by rw[O];exact v.box.store rfl
 refine⟨_,_,_,_,_,_,_,B.row,_,by rw[if_neg l];exact⟨rfl,rfl⟩,v.rd.ext X fun b g e=>?_,v.ext.cg X fun j Q e=>Om⟩
 rcases g with rfl|g
 exact dp.1 e.symm
 exact dp.2<|e▸g
 have l:uE k=true:=by simpa using l
 have c:1<=k/\k<=9:=by unfold uE at l;simpa using l
 have y:=Tf bs k c.1 c.2 ⟨r.at_+1,0,r.spot⟩
 have D:=UD bs k c.1 c.2 (yC,⟨r.at_+1,0,r.spot⟩)
 have q:yl S w0 a s bs k i (fun kd f t u o n vb x w'=>∃d:Rd,(if uE k=true then x=((kv k i (vD bs (qN k) (yC,⟨r.at_+1,0,r.spot⟩)).1 (vD bs (qN k) (yC,⟨r.at_+1,0,r.spot⟩)).2.cm:Nat):Int)/\(x=0->(⟨kd,f,t,u,o,n,vb⟩:df)=(vD bs (qN k) (yC,⟨r.at_+1,0,r.spot⟩)).1.node k)/\d=(vD bs (qN k) (yC,⟨r.at_+1,0,r.spot⟩)).2 else x=70/\d=⟨r.at_+1,0,r.spot⟩)/\gg S w' a s bs d/\ab (·=a.block) w0 w') (vD bs (qN k) (yC,⟨r.at_+1,0,r.spot⟩)):=
  fun kd f t u o n vb e w' g1 V W Y=>⟨_,by rw[if_pos l];exact⟨g1,V,rfl⟩,W,Y⟩
 generalize (fun(kd f t u:Int) (o:ByteArray) (n vb x:Int) (w':World)=>∃d:Rd,(if uE k=true then x=((kv k i (vD bs (qN k) (yC,⟨r.at_+1,0,r.spot⟩)).1 (vD bs (qN k) (yC,⟨r.at_+1,0,r.spot⟩)).2.cm:Nat):Int)/\(x=0->(⟨kd,f,t,u,o,n,vb⟩:df)=(vD bs (qN k) (yC,⟨r.at_+1,0,r.spot⟩)).1.node k)/\d=(vD bs (qN k) (yC,⟨r.at_+1,0,r.spot⟩)).2 else x=70/\d=⟨r.at_+1,0,r.spot⟩)/\gg S w' a s bs d/\ab (·=a.block) w0 w')=K at *
 rw[D,show yC=⟨0,[],0,0,0,0,0⟩from rfl]at y q
 refine⟨fun C N w7 m=>?_,fun C N w7 m=>?_⟩
 rw[C,zCO]at y q
 exact(L.aq m).num fun w' h' U w=>K4 k i c hi (vY bs ⟨r.at_+1,0,r.spot⟩).1 (h'.aq w) y q
 rw[C,AF]at y q
 exact K4 k i c hi 0 (L.aq m) y q
end Go.Proofs
end
section
open Go Go.SE
namespace Go.Proofs
def LG{L}(a:Wf L){n i}(h:find L n=some i):ax L n=((i:Int)+1,0,L):=by
 have⟨hi,e⟩:=Bj h;have b:al L ((i:Int)+1)=true:=zI.2 ⟨Om,Om⟩;have g:ad L ((i:Int)+1)=n:=by rw[qL hi,e]
 have⟨_,c,d,_,f,_⟩:=a.node b;rw[g]at c d f;have l:Ren L L ((i:Int)+1) n:=by
  refine⟨?_,?_,?_,?_,?_,fun k j=>(f k j).1,?_,c,d⟩<;>rw[g]
 exact l.AQ a a b b rfl
def Cd{L n}(h:find L n=none)(a:(ax L n).2.1=0):(ax L n).2.2.length=L.length+1:=by
 have b:=(uU a).2.2;unfold ax at a|-;simp only[h]at a|-;rw[if_neg (by rw[b];simp)]at a|-;split at a;simp at a;grind
def J6:∀(l:List Int) (i:Nat),i<=gy i l/\gy i l<=i+l.length:=by
 intro l;induction l with
 |nil=>intro i;simp[gy]
 |cons s l a =>
  intro i
  rw[gy]
  split
  grind
  simp
def jXE:∀(l:List Int) (i j:Nat) (h:j<l.length),i+j<=gy i l->l[j]=((i+j:Nat):Int)+1->i+j+1<=gy i l:=by
 intro l;induction l with
 |nil=>intro i j h;simp at h
 |cons s l a =>
  intro i j h h1 h2
  rw[gy]at h1|-
  cases j with
  |zero =>
   simp only[List.getElem_cons_zero,Nat.add_zero]at h2
   rw[if_pos h2]
   have:=(J6 l<|i+1).1;omega
  |succ j =>
   simp only[List.getElem_cons_succ]at h2
   split
   rename_i hs
   rw[if_pos hs]at h1
   have:=a (i+1) j (by simpa using h) Om (by rw[h2];congr 2;omega)
   omega
   grind
end Go.Proofs
namespace Go.Proofs
open Tryz
attribute [local irreducible] Calls CallsD
def DN(a w':World)(bs:List UInt8)(x:Option Addr):Prop:=
 (∀q,(vB bs).1=some q->∃p F,x=some p/\vR w' p q F/\∀b,F b->a.heap.size<=b)/\((vB bs).1=none->x=none)
def IU(a:Addr)(S c:NP)(d:Sl)(b:Nat):Prop:=c b\/b=a.block\/S b\/d.ao b
structure rN(e:World)(H:NP)(w:World)(q a:Addr)(s:Sl)(bs:List UInt8)(L:av)(r:Rd)(S d:NP)(f:List Nat)(c:Sl):Prop where
 bj:vR w q L d
 rd:gg S w a s bs r
 cj:bf w 3 1 c (bz<|f.map Int.ofNat)
 pure:Pure e w
 ak:∀b,IU a S d c b->e.heap.size<=b/\¬H b
 lt:∀b,(b=a.block\/S b)->b<w.heap.size
 dR:∀b,d b->b≠a.block/\¬S b/\¬c.ao b
 dp:∀b,c.ao b->b≠a.block/\¬S b
def rN.IZ{w0 w H q a s bs L r S FR ps pl}(h:rN w0 H w q a s bs L r S FR ps pl):∀b,IU a S FR pl b->b<w.heap.size:=by
 rintro b (c|c|c|c);exact h.bj.lt c;exact h.lt b<|.inl c;exact h.lt b<|.inr c;exact h.cj.lt c
def rN.aq{w0 w w' H H' q a s bs L r S FR ps pl}(h:rN w0 H w q a s bs L r S FR ps pl)(hs:af w0 H w H' w'):rN w0 H' w' q a s bs L r S FR ps pl:=by
 have d:∀b,IU a S FR pl b->¬H' b:=hs.ja fun b c=>⟨h.IZ b c,(h.ak b c).2⟩;exact⟨h.bj.ext hs.ext fun b c=>d b<|.inl c,h.rd.ext hs.ext fun b c=>d b<|c.elim (fun h=>.inr<|.inl h) fun h=>.inr<|.inr<|.inl h,h.cj.ext hs.ext fun b c=>d b<|.inr<|.inr<|.inr c,h.pure.aq hs,fun b c=>⟨(h.ak b c).1,d b c⟩,fun b c=>Oi (h.lt b c) hs.ext.size,h.dR,h.dp⟩
def rN.BN{w0 w w' H q a s bs L r S FR ps pl}(h:rN w0 H w q a s bs L r S FR ps pl)(E:Pure w w'):rN w0 H w' q a s bs L r S FR ps pl:=
 ⟨h.bj.pure E,h.rd.pure E,h.cj.pure E,h.pure.trans E,h.ak,fun b c=>Oi (h.lt b c) E.size,h.dR,h.dp⟩
def Mh{S0}(sb bs w0)(hs:dn S0 w0 1 sb (dj bs)):
  cl 18 #[sb.v] w0<|XY fun x y z w'=>y=(vB bs).2.1/\z=((vB bs).2.2:Int)/\DN w0 w' bs x/\Pure w0 w':=by
 refine jby sb w0 _ ?_
 unfold N2
 have hl:sb.len=bs.length:=by rw[hs.len,qA]
 have M:∀(e:Int) (n:Nat) (w':World),vB bs=(none,e,n)->Pure w0 w'->e=(vB bs).2.1/\(n:Int)=((vB bs).2.2:Int)/\DN w0 w' bs none/\Pure w0 w':=fun e n w' h E=>by
  rw[h];exact⟨rfl,rfl,⟨fun q hq=>(by rw[h]at hq;cases hq),fun _=>rfl⟩,E⟩
 refine(HU w0).mono ?_
 rintro _ w1 ⟨_,rfl,q,FR0,rfl,hP,E1,hFR⟩
 refine⟨_,rfl,E1.bo,fun W=>?_,fun W=>?_⟩
 have W:4096<bs.length:=Oh<|of_decide_eq_true W
 exact M 1 0 w1 (by unfold vB;rw[if_pos W]) E1
 have W:bs.length<=4096:=Oh<|of_decide_eq_false W
 refine⟨fun I=>?_,fun I=>?_⟩
 have I:bs.length=0:=Oh<|beq_iff_eq.1 I
 exact M 3 0 w1 (by unfold vB;rw[if_neg Om,if_pos I]) E1
 have I:bs.length≠0:=Oh<|beq_eq_false_iff_ne.1 I
 have htxt:vB bs=oB bs bs.length [] ⟨0,0,0⟩ []:=by unfold vB;rw[if_neg Om,if_neg I]
 refine(jbP sb bs w1 (hs.pure E1) Om).mono ?_
 rintro _ w2 ⟨_,rfl,a,s,rfl,hR,E2,ha,hsb⟩
 refine⟨_,rfl,E2.bo,?_⟩
 have z1:=E1.size;have z2:=E2.size
 have la:a.block<w2.heap.size:=hR.box.lt
 have S:∀b,¬Sl.nil.ao b:=fun b d=>by have⟨a,h,_⟩:=d;cases h
 have R2:rN w0 ar w2 q a s bs [] ⟨0,0,0⟩ s.ao FR0 [] Sl.nil:=
  ⟨hP.pure E2,hR,bf.nil _ _ _,E1.trans E2,fun b d=>⟨by
   rcases d with d|d|d|d;exact hFR b d;omega;have:=hsb b d;omega;exact(S b d).elim,id⟩,fun b d=>d.elim (fun h=>Om) fun h=>(hsb b h).2,fun b d=>by have:=hP.lt d;exact⟨Om,fun hh=>Oh<|hsb b hh,S b⟩,fun b d=>(S b d).elim⟩
 refine⟨fun Q Hl w=>∃(L:av) (r:Rd) (D:List Nat) (FR:NP) (n:Nat),rN w0 Hl w q a s bs L r s.ao FR D Q/\Wf L/\D.length=L.length/\D.length<=r.at_/\r.at_<=bs.length/\r.cm=0/\bs.length-r.at_<=n/\oB bs n L r D=vB bs,fun Q _=>bs.length+1-Q.len,⟨[],⟨0,0,0⟩,[],FR0,bs.length,R2,Wf.nil,rfl,Nat.zero_le _,Nat.zero_le _,rfl,Nat.le_refl _,htxt.symm⟩,?_⟩
 rintro Q Hl wl aq ⟨L,r,D,FR,n,m,hW,hps,hpr,hra,hre,hn,g⟩
 unfold Lm
 have hpl:Q.len=D.length:=by rw[m.cj.len,vA,List.length_map]
 have hok:=hW.ok
 have hfew:=hok.fm
 refine(Z7 a s bs r wl m.rd hra).mono ?_
 rintro _ w3 ⟨_,rfl,rfl,E3⟩
 have V:=m.BN E3
 have o:∀{w:World} {L:av} {F:NP},vR w q L F->∃v:Sl,w.cell? q=some v.v/\v.len=L.length:=fun h=>by
  have⟨sa,sb,sc,h,_⟩:=h;exact⟨sa,h.box.bd,by rw[h.r1.len];simp⟩
 refine⟨_,rfl,E3.bo,fun hc3=>?_,fun hc3=>?_⟩
 have p:r.at_<bs.length:=Oh<|of_decide_eq_true hc3
 obtain⟨n,rfl⟩:∃k,n=k+1:=⟨n-1,Om⟩
 rw[oB,if_pos p]at g
 have⟨v2,hv2,hv2l⟩:=o V.bj
 refine⟨a,rfl,_,V.rd.jv,q,rfl,v2,hv2,?_⟩
 rw[hv2l]
 refine(zIE a s bs r L.length w3 V.rd p hre (fun b d=>V.lt b d) Om).mono ?_
 rintro _ w4 ⟨kd,f,t,u,O,N,vb,x,rfl,r',hx,hR4,X4⟩
 have l:=zv bs L r p hre
 generalize bs[r.at_].toNat=k at *
 have z3:=E3.size;have z4:=X4.size
 have R4:rN w0 Hl w4 q a s bs L r' s.ao FR D Q:=⟨V.bj.ext X4 fun b d e=>(m.dR b d).1 e,hR4,V.cj.ext X4 fun b d e=>(m.dp b d).1 e,V.pure.cg X4 Gd,m.ak,fun b d=>Oh<|V.lt b d,m.dR,m.dp⟩
 refine⟨_,_,_,_,_,_,_,_,rfl,X4.bl fun b d e=>(m.ak _<|.inr<|.inl rfl).2<|e▸d,fun hc4=>?_,fun hc4=>⟨q,rfl,?_⟩⟩
 have hx0:x≠0:=bne_iff_ne.1 hc4
 have he:(vT bs L r).2.1=x:=by
  rw[l];split at hx;rename_i hk;rw[if_pos hk];unfold jl;rw[if_pos Gd];exact hx.1.symm;grind
 intro H1 w6 T
 rw[if_pos (by rw[he];exact hx0),he]at g
 exact M _ _ w6 g.symm (R4.aq T).pure
 have hx0:x=0:=by simpa using hc4
 have hk:uE k=true:=Gd
 rw[if_pos hk]at hx
 have⟨hx1,hx2',hx3⟩:=hx
 have hx2:=hx2' hx0
 clear hx2'
 rw[if_pos hk]at l
 generalize vD bs (qN k) (yC,⟨r.at_+1,0,r.spot⟩)=st at *
 have⟨X,rX⟩:=st
 simp only at hx1 hx2 hx3
 subst hx3
 have hne:kv k L.length X r'.cm=0:=Om
 have hin:jl L k (X,r')=(if(find L<|X.node k).isSome=true then(L,72,r')else((ax L<|X.node k).2.2,(ax L<|X.node k).2.1,r')):=by
  unfold jl;simp only;rw[if_neg (by rw[hne];simp)]
 rw[hin,<-hx2]at l
 intro H1 w6 T
 have B:=R4.aq T
 have⟨v3,hv3,hv3l⟩:=o B.bj
 refine⟨v3,hv3,?_⟩
 refine(vZ q ⟨kd,f,t,u,O,N,vb⟩ w6 B.bj hok).mono ?_
 rintro _ w7 ⟨r5,r6,rfl,he56,FR',hP7,X7,hF7⟩
 have Z:=congrArg Prod.snd he56
 simp only at Z
 have hH1:∀b,H1 b->b<w6.heap.size:=fun b d=>T.lt b d
 have z6:=T.ext.size
 have z7:=X7.size
 have A:Pure w0 w7:=B.pure.cg X7 fun i hi d=>Oh<|(m.ak i<|.inl d).1
 refine⟨r5,r6,rfl,X7.bl fun b d hh=>(B.ak b<|.inl hh).2 d,fun hc5=>?_,fun hc5=>⟨q,rfl,?_⟩⟩
 have G:(ax L ⟨kd,f,t,u,O,N,vb⟩).2.1≠0:=by rw[<-Z];exact bne_iff_ne.1 hc5
 have Y:¬(find L ⟨kd,f,t,u,O,N,vb⟩).isSome=true:=fun hs=>by
  have⟨i,hi⟩:=Option.isSome_iff_exists.1 hs;rw[LG hW hi]at G;exact G rfl
 rw[if_neg Y]at l
 rw[l]at g
 simp only at g
 rw[if_pos G,<-Z]at g
 exact M _ _ w7 g.symm A
 have G:(ax L ⟨kd,f,t,u,O,N,vb⟩).2.1=0:=by rw[<-Z];simpa using hc5
 have⟨v4,hv4,hv4l⟩:=o hP7
 refine⟨v4,hv4,fun J=>?_,fun J=>?_⟩
 have J:(ax L ⟨kd,f,t,u,O,N,vb⟩).2.2.length=L.length:=Oh<|beq_iff_eq.1 J
 have hfs:(find L ⟨kd,f,t,u,O,N,vb⟩).isSome=true:=by
  cases hf:find L ⟨kd,f,t,u,O,N,vb⟩with
  |some i=>rfl
  |none=>have:=Cd hf G;omega
 rw[if_pos hfs]at l
 rw[l]at g
 simp only at g
 rw[if_pos De]at g
 exact M 72 _ w7 g.symm A
 have J:(ax L ⟨kd,f,t,u,O,N,vb⟩).2.2.length≠L.length:=Oh<|beq_eq_false_iff_ne.1 J
 have Y:¬(find L ⟨kd,f,t,u,O,N,vb⟩).isSome=true:=fun hs=>by
  have⟨i,hi⟩:=Option.isSome_iff_exists.1 hs;rw[LG hW hi]at J;exact J rfl
 have hlen7:(ax L ⟨kd,f,t,u,O,N,vb⟩).2.2.length=L.length+1:=Cd (by simpa using Y) G
 rw[if_neg Y]at l
 have K:=Iu bs L r p hre (by rw[l];exact G)
 rw[l]at g K
 simp only at g K
 rw[if_neg<|by simpa using G]at g
 have hW7:=uQ hW ⟨kd,f,t,u,O,N,vb⟩
 generalize ax L ⟨kd,f,t,u,O,N,vb⟩=mk at *
 intro p2 w8 n8
 have E8:Pure w7 w8:=ab.aw n8
 have b8:=n8.cu
 have z8:=E8.size
 have hdr:∀b,FR' b->b≠a.block/\¬s.ao b/\¬Q.ao b:=fun b d=>(hF7 b d).elim (m.dR b) fun h=>⟨Oh<|B.lt a.block<|.inl rfl,fun hh=>Oh<|B.lt b<|.inr hh,fun hh=>Oh<|B.cj.lt hh⟩
 have Rw8:=(B.cj.ext X7 fun b d hh=>(m.dR b hh).2.2 d).pure E8
 have⟨s1,w9,hr9,hR9,X9,hb9⟩:=Rw8.append (P:=prog) (ty:=42) (c:=1) yc (ai.fp n8).row rfl rfl (by rw[vA,List.length_map];omega) (by rw[vA,List.length_map];simp only[maxLen];omega)
 have hpo:∀b,Q.ao b->w0.heap.size<=b/\¬H1 b:=fun b d=>B.ak b<|.inr<|.inr<|.inr d
 have hpure9:Pure w0 w9:=(A.trans E8).cg X9 Gd
 have z9:=X9.size
 refine⟨s1,w9,hr9,X9.bl Gd,⟨mk.2.2,r',D++[r.at_],FR',n,⟨(hP7.pure E8).ext X9 Gd,((B.rd.ext X7 fun b d hh=>?_).pure E8).ext X9 fun b d hh=>?_,?_,hpure9,fun b d=>?_,fun b d=>Oh<|B.lt b d,fun b d=>⟨(hdr b d).1,(hdr b d).2.1,fun hh=>?_⟩,fun b d=>?_⟩,hW7,by rw[List.length_append,List.length_singleton];omega,by rw[List.length_append,List.length_singleton];omega,K.2.1,K.2.2,Om,g⟩,?_⟩
 rcases d with d|d
 exact(m.dR b hh).1 d
 exact(m.dR b hh).2.1 d
 rcases d with d|d
 exact(m.dp b hh).1 d
 exact(m.dp b hh).2 d
 have:bz ((D++[r.at_]).map Int.ofNat)=bz (D.map Int.ofNat)++[[vi (r.at_:Int)]]:=by simp[bz]
 rw[this];exact hR9
 rcases d with d|d|d|d
 rcases hF7 b d with h|h
 exact B.ak b<|.inl h
 exact⟨Oh B.pure.size,fun hh=>Oh<|hH1 b hh⟩
 exact B.ak b<|.inr<|.inl d
 exact B.ak b<|.inr<|.inr<|.inl d
 rcases hb9 b d with h|h
 exact hpo b h
 exact⟨Oh B.pure.size,fun hh=>Oh<|hH1 b hh⟩
 rcases hb9 b hh with h|h
 exact(hdr b d).2.2 h
 have:=hP7.lt d;omega
 rcases hb9 b d with h|h
 exact m.dp b h
 exact⟨Oh<|B.lt a.block<|.inl rfl,fun hh=>Oh<|B.lt b<|.inr hh⟩
 have h1:s1.len=D.length+1:=by rw[hR9.len,List.length_append,vA,List.length_map];rfl
 show bs.length+1-s1.len<bs.length+1-Q.len
 omega
 have hge:¬r.at_<bs.length:=Oh<|of_decide_eq_false hc3
 rw[Fz hge]at g
 have⟨v5,hv5,hv5l⟩:=o V.bj
 refine⟨q,rfl,v5,hv5,?_⟩
 rw[hv5l]
 refine(FO q L.length w3 hW V.bj).mono ?_
 rintro _ w10 ⟨r7,rfl,R⟩
 have R10:=V.BN R.pure
 refine⟨r7,rfl,R.bl,?_⟩
 have hfew2:=uW hW L.length
 unfold qh at g
 simp only at g
 have hw3:∀b,Hl b->b<w3.heap.size:=fun b d=>Oi (aq.lt b d) E3.size
 have o7:∀b,r7.ao b->¬Hl b/\b<w10.heap.size:=fun b d=>⟨fun hh=>Oi (hw3 b hh)<|R.ak b d,R.cj.lt d⟩
 generalize dc L L.length=xs at *
 have hrow:=(J6 xs 0).2
 refine⟨fun i H w=>∃j:Nat,i=j/\j<=L.length/\j<=gy 0 xs/\rN w0 H w q a s bs L r s.ao FR D Q/\bf w 73 1 r7 (bz xs)/\(∀b,r7.ao b->¬H b),fun i _=>((L.length:Int)-i).toNat,⟨0,rfl,Nat.zero_le _,Nat.zero_le _,R10,R.cj,fun b d=>(o7 b d).1⟩,?_⟩
 rintro _ H2 w2' hst2 ⟨j,rfl,hj,hjr,RL,hX,hv7⟩
 unfold NU
 have⟨v6,hv6,hv6l⟩:=o RL.bj
 have h7l:r7.len=xs.length:=by rw[hX.len,vA]
 have tell:∀(h:j<D.length) (C:World),gy 0 xs=j->af w0 H2 w2' H2 C->∃a7:Addr,At Q j 1 a7/\∀(C:World),af w0 H2 w2' H2 C->∃v7:Int,C.cell? a7=some (vi v7)/\(73=(vB bs).2.1/\v7=((vB bs).2.2:Int)/\DN w0 C bs none/\Pure w0 C):=by
  intro h w hi _;have⟨a7,K,_,hrw⟩:=uB RL.cj.ei (j:=j) (by simpa using h);refine⟨a7,K,fun C hs11=>?_⟩;have R11:=RL.aq hs11;have⟨a7',hat',_,hv'⟩:=uB R11.cj.ei (j:=j) (by simpa using h);have:a7'=a7:=by
   obtain⟨_,_,b1,hb1,rfl⟩:=K;obtain⟨_,_,b2,hb2,rfl⟩:=hat';rw[hb1]at hb2;cases hb2;rfl
  subst this;refine⟨_,hv',?_⟩;rw[List.getElem_map];have p:gy 0 xs<D.length:=Om;rw[dif_pos p]at g;have he:D[gy 0 xs]=D[j]:=by simp only[hi]
  rw[he]at g;exact M 73 _ C g.symm R11.pure
 refine⟨q,rfl,v6,hv6,fun W=>?_,fun W=>?_⟩
 have p:j<L.length:=Oh<|of_decide_eq_true W
 refine⟨fun hc7=>?_,fun hc7=>?_⟩
 grind
 have U:j<xs.length:=Oh<|of_decide_eq_false hc7
 have⟨a8,hat8,_,hv8⟩:=uB hX.ei U
 refine⟨a8,hat8,_,hv8,?_⟩
 rw[zN p Om]
 refine⟨fun hc8=>?_,fun hc8=>?_⟩
 have hne:xs[j]≠((j+1:Nat):Int):=bne_iff_ne.1 hc8
 have hi:gy 0 xs=j:=by
  rcases Nat.lt_or_ge j (gy 0 xs)with h|h;exfalso;have:=(Mn xs 0 (gy 0 xs) Om).2 j U h;apply hne;rw[this];omega;omega
 exact tell Om w2' hi hst2.fi
 have heq:xs[j]=((j+1:Nat):Int):=by simpa using hc8
 exact⟨⟨j+1,rfl,p,by have:=jXE xs 0 j U Om (by rw[heq];omega);omega,RL,hX,hv7⟩,yY p⟩
 have hge2:j=L.length:=Oh<|of_decide_eq_false W
 have p:¬gy 0 xs<D.length:=Om
 rw[dif_neg p]at g
 rw[<-g]
 exact⟨rfl,rfl,⟨fun q' hq'=>by rw[<-g]at hq';cases hq';exact⟨q,FR,rfl,RL.bj,fun b d=>(RL.ak b<|.inl d).1⟩,fun hn=>by rw[<-g]at hn;cases hn⟩,RL.pure⟩
end Go.Proofs
end
section
open Go Go.SE
namespace Go.Proofs
def Xj{Lq x}:∀(l:List Int) (L:av) (ak:Int->Int),x∉l->(zT Lq l L ak).2.2 x=ak x:=by
 intro l;induction l with
 |nil=>intro L ak _;rfl
 |cons z l d =>
  intro L ak h
  simp only[List.mem_cons,not_or]at h
  obtain⟨y,e,c,hm⟩:∃y e c,ax L { ad Lq z with a:=ak (ad Lq z).a,b:=ak (ad Lq z).b }=(y,e,c):=⟨_,_,_,rfl⟩
  rw[qG Lq z l L ak rfl hm]
  split
  rfl
  grind
end Go.Proofs
namespace Go.Proofs
open Tryz
attribute [local irreducible] Calls CallsD
structure rC(w0:World)(H:NP)(w:World)(p q:Addr)(Lc Lq:av)(s1 r2:Sl)(A xs:List Int)(FP F' FQ:NP):Prop where
 pp:vR w p Lc F'
 pq:vR w q Lq FQ
 at_:bf w 73 1 s1 (bz A)
 dc:bf w 73 1 r2 (bz xs)
 ext:ab FP w0 w
 ak:∀b,(F' b\/FQ b\/s1.ao b\/r2.ao b)->¬H b
 oF:∀b,F' b->FP b\/w0.heap.size<=b
 oS:∀b,(s1.ao b\/r2.ao b)->w0.heap.size<=b
 yu:∀b,F' b->¬FQ b/\¬s1.ao b/\¬r2.ao b
 dS:∀b,s1.ao b->¬FQ b/\¬r2.ao b
section
variable {w0 w w':World} {H H':NP} {p q:Addr} {Lc Lq:av} {s1 r2:Sl} {A xs:List Int} {FP F' FQ:NP}
def rC.IZ(h:rC w0 H w p q Lc Lq s1 r2 A xs FP F' FQ):∀b,(F' b\/FQ b\/s1.ao b\/r2.ao b)->b<w.heap.size:=by
 rintro b (a|a|a|a);exact h.pp.lt a;exact h.pq.lt a;exact h.at_.lt a;exact h.dc.lt a
def rC.aq(h:rC w0 H w p q Lc Lq s1 r2 A xs FP F' FQ)(hs:af w0 H w H' w'):rC w0 H' w' p q Lc Lq s1 r2 A xs FP F' FQ:=by
 have d:=hs.ja fun b a=>⟨h.IZ b a,h.ak b a⟩;exact⟨h.pp.ext hs.ext fun b a=>d b<|.inl a,h.pq.ext hs.ext Gd,h.at_.ext hs.ext Gd,h.dc.ext hs.ext Gd,h.ext.aq hs,d,h.oF,h.oS,h.yu,h.dS⟩
end
def Xt(p q:Addr)(t:Int)(w0:World){L Lq:av}{FP FQ:NP}(hW:Wf L)(hQ:Wf Lq)(hP:vR w0 p L FP)(K:vR w0 q Lq FQ)(hd:∀b,FP b->¬ FQ b):
  cl 111 #[.pointer<|some p,.pointer<|some q,.int .i64 t] w0<|XH fun r1 r2 w'=>r1=(vI L Lq t).1/\r2=(vI L Lq t).2.1/\∃F',vR w' p (vI L Lq t).2.2 F'/\ab FP w0 w'/\∀b,F' b->FP b\/w0.heap.size<=b:=by
 refine RT _ _ _ w0 _ ?_
 refine(uO q t w0 K).mono ?_
 rintro _ m ⟨_,rfl,rfl,rfl⟩
 refine⟨_,rfl,aj.refl _,fun g=>?_,fun g=>?_⟩
 have Q:al Lq t=false:=by simpa using g
 have e:vI L Lq t=(0,51,L):=by unfold vI;rw[if_neg (by rw[Q];simp)]
 rw[e]
 exact⟨rfl,rfl,FP,hP,ab.refl _,fun b c=>.inl c⟩
 have Q:al Lq t=true:=by simpa using g
 refine(FO q t m hQ K).mono ?_
 rintro _ w2 ⟨r2,rfl,O⟩
 have E2:=O.pure
 have z2:=E2.size
 have l:∀{w:World} {a:Addr} {L:av} {F:NP},vR w a L F->∃v:Sl,w.cell? a=some v.v/\v.len=L.length:=fun h=>by
  have⟨sa,sb,sc,h,_⟩:=h;exact⟨sa,h.box.bd,by rw[h.r1.len];simp⟩
 have⟨v1,hv1,hv1l⟩:=l<|K.pure E2
 have hLq:=hQ.ok.fm
 refine⟨r2,rfl,E2.bo,q,rfl,v1,hv1,?_⟩
 rw[hv1l,show IntKind.i64.wrap ((Lq.length:Int)+1)=((Lq.length+1:Nat):Int) by rw[i64 Om Om];omega]
 have⟨w3, hmk, hR3, E3⟩:=bf.ax (P:=prog) te (zr:=[.int .i64 0]) (fun i z hi hz => by
   have h1:prog.info? 73=some t73:=Kf;rw[h1]at hi;cases hi;have h2:t73.zero=some (.int .i64 0):=Kf;rw[h2]at hz;cases hz;rfl) (k:=.i64) (k':=.i64) (n:=Lq.length+1) Om (by simp only[maxLen];omega) w2
 refine⟨_,w3,hmk,E3.bo,?_⟩
 generalize hs1e:(Sl.mk (some ⟨w2.heap.size,0,none⟩) (Lq.length+1)<|Lq.length+1)=s1 at *
 have o:∀x,s1.ao x->x=w2.heap.size:=fun x hx=>by subst hs1e;obtain⟨a,Z,rfl⟩:=hx;cases Z;rfl
 have hrep:List.replicate (Lq.length+1) [Value.int .i64 0]=bz (List.replicate (Lq.length+1) 0):=by simp[bz]
 rw[hrep]at hR3
 have z3:=E3.size
 have P3:=(hP.pure E2).pure E3
 have⟨v2,hv2,hv2l⟩:=l P3
 refine⟨p,rfl,v2,hv2,?_⟩
 have hfew:=uW hQ t
 have hsub:∀u∈dc Lq t,al Lq u=true:=fun u hu=>xH hQ hu
 have hnd:=BU hQ t
 have htin:t∈dc Lq t:=EH hQ Q
 generalize fa:vI L Lq t=cs at *
 have W:cs=if(zT Lq (dc Lq t) L fun _=>0).2.1≠0 then(0,(zT Lq (dc Lq t) L fun _=>0).2.1,L)else((zT Lq (dc Lq t) L fun _=>0).2.2 t,0,(zT Lq (dc Lq t) L fun _=>0).1):=by rw[<-fa];unfold vI;rw[if_pos Q]
 generalize dc Lq t=xs at *
 have h00:zT Lq (xs.take 0) L (fun _=>0)=(L,0,fun _=>0):=by rw[List.take_zero];rfl
 have C3:rC m ar w3 p q L Lq s1 r2 (List.replicate (Lq.length+1) 0) xs FP FP FQ:=⟨P3,(K.pure E2).pure E3,hR3,O.cj.pure E3,ab.pure<|E2.trans E3,fun _ _ h=>h,fun b c=>.inl c,fun b c=>c.elim (fun h=>Oh<|o b h)<|O.ak b,fun b c=>⟨hd b c,fun hh=>Oi (o b hh)<|hP.lt c,fun hh=>Oi (O.ak b hh)<|hP.lt c⟩,fun b c=>⟨fun hh=>Oi (o b c)<|K.lt hh,fun hh=>Oi (o b c)<|O.cj.lt hh⟩⟩
 refine⟨fun i H w=>∃(j:Nat) (A:List Int) (F':NP),i=j/\j<=xs.length/\(zT Lq (xs.take j) L fun _=>0).2.1=0/\A.length=Lq.length+1/\(∀x:Nat,x<=Lq.length->A[x]?=some ((zT Lq (xs.take j) L fun _=>0).2.2 (x:Int)))/\rC m H w p q (zT Lq (xs.take j) L fun _=>0).1 Lq s1 r2 A xs FP F' FQ,fun i _=>((xs.length:Int)-i).toNat,⟨0,List.replicate (Lq.length+1) 0,FP,rfl,Nat.zero_le _,by rw[h00],by rw[List.length_replicate],fun x hx=>by rw[h00,List.getElem?_replicate,if_pos Om],by rw[h00];exact C3⟩,?_⟩
 rintro _ Hl wl aq ⟨j,A,F',rfl,hj,h0,hAl,hA,B⟩
 unfold NL
 have hlen:r2.len=xs.length:=by rw[B.dc.len,vA]
 refine⟨fun g=>?_,fun g=>?_⟩
 have g:=vW hlen g
 have G:=hsub xs[j]<|List.getElem_mem _
 have hz:=zI.1 G
 have htk:xs.take (j+1)=xs.take j++[xs[j]]:=List.take_succ_eq_append_getElem g
 have T:xs=xs.take j++xs[j] ::xs.drop (j+1):=by rw[<-List.drop_eq_getElem_cons g,List.take_append_drop]
 have⟨a4,Y,_,hv4⟩:=uB B.dc.ei g
 obtain⟨v3,a5,hv3,hFq,hat5,hrow5,hF5⟩:∃(v3:Sl) (a5:Addr),wl.cell? q=some v3.v/\FQ q.block/\At v3 (IntKind.i64.wrap<|xs[j]-1) 7 a5/\Row wl a5 (tK<|ad Lq xs[j])/\FQ a5.block:=by
  have⟨sa,sb,sc,h,hF⟩:=B.pq;have⟨e,he,⟨a,r,g2⟩,_⟩:=h.kh G hQ.ok;refine⟨sa,a,h.box.bd,(hF _).2<|.inl rfl,r,?_,(hF _).2<|.inr<|.inl<|AA r⟩;have:ad Lq xs[j]=e.node:=by simp only[ad,he,Option.map_some,Option.getD_some]
  rw[this];exact g2
 have⟨_,c2,c3,_,c5,_⟩:=hQ.node G
 have fl:∀y:Int,(y=(ad Lq xs[j]).a\/y=(ad Lq xs[j]).b)->y=0\/(1<=y/\y<=Lq.length):=by
  intro y hy;rcases qV (ad Lq xs[j]).kind with e|e|e;grind;have c:=c3 Om;rcases hy with h|h;right;have:=(c5 y (by unfold zB;rw[e,h];simp)).1;exact zI.1 this;left;omega;right;have:=(c5 y (by unfold zB;rw[e];rcases hy with h|h<;>simp[h])).1;exact zI.1 this
 have hz0:(zT Lq (xs.take j) L fun _=>0).2.2 0=0:=Xj _ _ _ fun h=>Oh<|zI.1<|hsub 0<|List.mem_of_mem_take h
 have M:=fun n=>@QP Lq (xs.take j) (xs.drop<|j+1) xs[j] L (fun _=>0) h0 n
 have J:=fun n=>@Nv Lq (xs.take j) xs[j] L (fun _=>0) h0 n
 have hgrow:=GN Lq (xs.take j) L fun _=>0
 have hwc:=MD (Lq:=Lq) (xs.take j) L (fun _=>0) hW
 rw[<-htk]at J
 rw[<-T]at M
 generalize hnz:ad Lq xs[j]=n at *
 generalize xs[j]=z at *
 generalize zT Lq (xs.take j) L (fun _=>0)=f at *
 have rdA:∀(y:Int),1<=y->y<=Lq.length->∀{H:NP} {w:World} {F':NP},rC m H w p q f.1 Lq s1 r2 A xs FP F' FQ->∃X:Addr,At s1 y 1 X/\s1.ao X.block/\w.cell? X=some (.int .i64<|f.2.2 y):=by
  intro y h1 h2 H w F' h;have hy:((y.toNat:Nat):Int)=y:=Om;have C:y.toNat<A.length:=Om;have⟨X,r,_,g3⟩:=uB h.at_.ei C;have R:=hA y.toNat Om;rw[List.getElem?_eq_getElem C,hy]at R;have R:=Option.some.inj R;rw[hy]at r;exact⟨X,r,AA r,by rw[g3,R]⟩
 have kH:=B.ak
 refine⟨q,rfl,v3,hv3,kH _<|.inr<|.inl hFq,a4,Y,z,hv4,kH _<|.inr<|.inr<|.inr<|AA Y,a5,hat5,n.kind,n.ay,n.to,n.num,n.ba,n.a,n.b,hrow5,kH _<|.inr<|.inl hF5,?_⟩
 have hnn:({ n with a:=f.2.2 n.a,b:=f.2.2 n.b }:df)=⟨n.kind,n.ay,n.to,n.num,n.ba,f.2.2 n.a,f.2.2 n.b⟩:=rfl
 have j3 : ∀ (U vb : Int) (H : NP) (w : World), U = f.2.2 n.a -> vb = f.2.2 n.b -> af m H w H w -> rC m H w p q f.1 Lq s1 r2 A xs FP F' FQ ->
   ED (some p) r2 s1 v2 j n.kind n.ay n.to n.num n.ba U vb H w (fun I H' w'=>(∃(j:Nat) (A:List Int) (F':NP),I=j/\j<=xs.length/\(zT Lq (xs.take j) L fun _=>0).2.1=0/\A.length=Lq.length+1/\(∀x:Nat,x<=Lq.length->A[x]?=some ((zT Lq (xs.take j) L fun _=>0).2.2 (x:Int)))/\rC m H' w' p q (zT Lq (xs.take j) L fun _=>0).1 Lq s1 r2 A xs FP F' FQ)/\((xs.length:Int)-I).toNat<((xs.length:Int)-(j:Int)).toNat) (fun r1 r2 w'=>r1=cs.1/\r2=cs.2.1/\∃F',vR w' p cs.2.2 F'/\ab FP m w'/\∀b,F' b->FP b\/m.heap.size<=b):=by
  rintro U vb H w rfl rfl hsw h
  refine(vZ p ⟨n.kind,n.ay,n.to,n.num,n.ba,f.2.2 n.a,f.2.2 n.b⟩ w h.pp hwc.ok).mono ?_
  rintro _ w10 ⟨r3,r4,rfl,he,F2,hP2,s,hF2⟩
  have he1:=congrArg Prod.fst he
  have D:=congrArg Prod.snd he
  simp only at he1 D
  have hHlt:∀b,H b->b<w.heap.size:=fun b c=>hsw.lt b c
  have z10:=s.size
  have zw:=h.ext.size
  have d:rC m H w10 p q (ax f.1 ⟨n.kind,n.ay,n.to,n.num,n.ba,f.2.2 n.a,f.2.2 n.b⟩).2.2 Lq s1 r2 A xs FP F2 FQ:=
   ⟨hP2,h.pq.ext s fun b c hh=>(h.yu b hh).1 c,h.at_.ext s fun b c hh=>(h.yu b hh).2.1 c,h.dc.ext s fun b c hh=>(h.yu b hh).2.2 c,h.ext.cg s fun i hi hh=>(h.oF i hh).elim id fun h=>Om,fun b c=>by
    rcases c with c|c;exact(hF2 b c).elim (fun h1=>h.ak b<|.inl h1) fun h1 hh=>Oh<|hHlt b hh;exact h.ak b<|.inr c,fun b c=>(hF2 b c).elim (h.oF b) fun h1=>.inr Om,h.oS,fun b c=>(hF2 b c).elim (h.yu b) fun h1=>⟨fun hh=>Oh<|h.pq.lt hh,fun hh=>Oh<|h.at_.lt hh,fun hh=>Oh<|h.dc.lt hh⟩,h.dS⟩
  refine⟨r3,r4,rfl,s.bl fun b c hh=>h.ak b (.inl hh) c,fun hc4=>?_,fun hc4=>?_⟩
  have h5:(ax f.1 ⟨n.kind,n.ay,n.to,n.num,n.ba,f.2.2 n.a,f.2.2 n.b⟩).2.1≠0:=by rw[<-D];exact bne_iff_ne.1 hc4
  have hf:=M _ hnn h5
  rw[<-D]at hf
  have hcs2:cs=(0,r4,L):=by rw[W,hf,if_pos (by rw[D];exact h5)]
  have⟨Mg,hMg⟩:=hgrow
  have⟨M2,hM2⟩:=yG f.1 ⟨n.kind,n.ay,n.to,n.num,n.ba,f.2.2 n.a,f.2.2 n.b⟩
  rw[hM2,hMg,List.append_assoc]at hP2
  rw[hv2l]
  refine(Lv p L.length w10 hP2 (by rw[List.length_append];omega)).mono ?_
  rintro _ w11 ⟨rfl,hP3,X11⟩
  rw[List.take_left]at hP3
  refine⟨rfl,X11.bl fun b c hh=>d.ak b (.inl hh) c,?_⟩
  rw[hcs2]
  exact⟨rfl,rfl,F2,hP3,d.ext.cg X11 fun i hi hh=>(d.oF i hh).elim id fun h=>Om,d.oF⟩
  have h5:(ax f.1 ⟨n.kind,n.ay,n.to,n.num,n.ba,f.2.2 n.a,f.2.2 n.b⟩).2.1=0:=by rw[<-D];simpa using hc4
  have hn:=J _ hnn h5
  rw[<-he1]at hn
  have⟨a6,hat6,_,hv6⟩:=uB d.dc.ei g
  have hv6':w10.cell? a6=some (.int .i64 z):=Gd
  have⟨a7,hat7,hb7,hw7,hset⟩:=PA d.at_ (k:=z) (j:=z.toNat) Om Om
  refine⟨a6,hat6,z,hv6',a7,hat7,hw7,d.ak _<|.inr<|.inr<|.inl hb7,?_⟩
  rintro w12 e12
  have⟨hA12,N⟩:=hset r3
  rw[<-e12]at hA12 N
  refine⟨⟨j+1,A.set z.toNat r3,F2,zN g Om,g,by rw[hn],by rw[List.length_set];exact hAl,fun x hx=>?_,?_⟩,by rw[zN g Om];exact yY g⟩
  rw[hn]
  simp only
  by_cases e:(x:Int)=z
  rw[if_pos e,show z.toNat=x by omega,List.getElem?_set_self Om]
  rw[if_neg e,List.getElem?_set_ne Om];exact hA x hx
  rw[hn]
  exact⟨d.pp.ext N fun b c hh=>(d.yu b c).2.1 hh,d.pq.ext N fun b c hh=>(d.dS b hh).1 c,hA12,d.dc.ext N fun b c hh=>(d.dS b hh).2 c,d.ext.cg N fun i hi hh=>Oh<|d.oS i<|.inl hh,d.ak,d.oF,d.oS,d.yu,d.dS⟩
 have j2 : ∀ (U : Int) (H : NP) (w : World), U = f.2.2 n.a -> af m H w H w -> rC m H w p q f.1 Lq s1 r2 A xs FP F' FQ ->
   Dc (some p) r2 s1 v2 j n.kind n.ay n.to n.num n.ba U n.b m H w (fun I H' w'=>(∃(j:Nat) (A:List Int) (F':NP),I=j/\j<=xs.length/\(zT Lq (xs.take j) L fun _=>0).2.1=0/\A.length=Lq.length+1/\(∀x:Nat,x<=Lq.length->A[x]?=some ((zT Lq (xs.take j) L fun _=>0).2.2 (x:Int)))/\rC m H' w' p q (zT Lq (xs.take j) L fun _=>0).1 Lq s1 r2 A xs FP F' FQ)/\((xs.length:Int)-I).toNat<((xs.length:Int)-(j:Int)).toNat) (fun r1 r2 w'=>r1=cs.1/\r2=cs.2.1/\∃F',vR w' p cs.2.2 F'/\ab FP m w'/\∀b,F' b->FP b\/m.heap.size<=b):=by
  rintro U H w hva hsw h
  refine⟨fun g=>?_,fun g=>?_⟩
  have c:=(fl n.b<|.inr rfl).resolve_left fun e=>Oh<|of_decide_eq_true g
  have⟨a8,r,g2,g3⟩:=rdA n.b c.1 c.2 h
  exact⟨a8,r,_,g3,fun w13 V=>j3 U _ H w13 hva rfl V.fi (h.aq V)⟩
  grind
 refine⟨fun hc2=>?_,fun hc2=>?_⟩
 have Z:=(fl n.a<|.inl rfl).resolve_left fun e=>Oh<|of_decide_eq_true hc2
 have⟨X,r,g2,g3⟩:=rdA n.a Z.1 Z.2 B
 refine⟨X,r,fun H2 w7 S=>?_⟩
 have h7:=B.aq S
 have⟨a9',g1',_,g3'⟩:=rdA n.a Z.1 Z.2 h7
 have:a9'=X:=by
  obtain⟨_,_,b1,hb1,rfl⟩:=g1';obtain⟨_,_,b2,hb2,rfl⟩:=r;rw[hb1]at hb2;cases hb2;rfl
 subst this
 exact⟨_,g3',fun w14 hs14=>j2 _ H2 w14 rfl hs14.fi (h7.aq hs14)⟩
 have Z:n.a=0:=(fl n.a<|.inl rfl).resolve_right fun e=>Oh<|of_decide_eq_false hc2
 exact fun H2 w7 S=>j2 n.a H2 w7 (by rw[Z,hz0]) S.fi<|B.aq S
 have g:=yJ hlen hj g
 subst g
 rw[List.take_length]at h0 hA B
 have ht:=zI.1 Q
 have C:t.toNat<A.length:=Om
 have⟨a10,r,_,g3⟩:=uB B.at_.ei C
 have E:=hA t.toNat Om
 rw[List.getElem?_eq_getElem C]at E
 have ht2:((t.toNat:Nat):Int)=t:=Om
 rw[ht2]at E r
 have E:=Option.some.inj E
 refine⟨a10,r,_,g3,?_⟩
 rw[W,if_neg (by rw[h0];exact fun h=>h rfl)]
 exact⟨E,rfl,F',B.pp,B.ext,B.oF⟩
end Go.Proofs
end
section
namespace Go.Proofs
def Kv(L n):(ax L n).2.2.length<=L.length+1:=by
 rcases Dl L n with e|⟨_,e⟩<;>rw[e]<;>simp
end Go.Proofs
end
section
open Go Go.SE List
namespace Go.Proofs
end Go.Proofs
namespace Go.Proofs
attribute [local irreducible] Calls
structure vh(w0:World)(H:NP)(w:World)(p q:Addr)(L1 L2:av)(F1 F2:NP):Prop where
 pure:Pure w0 w
 bj:zD w p L1 F1
 D4:vR w q L2 F2
 o1:∀b,F1 b->w0.heap.size<=b/\¬H b/\¬F2 b
 o2:∀b,F2 b->w0.heap.size<=b/\¬H b
section
variable {w0 w w':World} {H H':NP} {p q:Addr} {L1 L2:av} {F1 F2:NP}
def vh.BN(h:vh w0 H w p q L1 L2 F1 F2)(E:Pure w w'):vh w0 H w' p q L1 L2 F1 F2:=⟨h.pure.trans E,h.bj.pure E,h.D4.pure E,h.o1,h.o2⟩
def vh.first(h:vh w H w' p q L1 L2 F1 F2)(E:Pure w0 w):vh w0 H w' p q L1 L2 F1 F2:=
 ⟨E.trans h.pure,h.bj,h.D4,fun b a=>⟨Nat.le_trans E.size (h.o1 b a).1,(h.o1 b a).2⟩,fun b a=>⟨Nat.le_trans E.size (h.o2 b a).1,(h.o2 b a).2⟩⟩
def vh.aq(h:vh w0 H w p q L1 L2 F1 F2)(hs:af w0 H w H' w'):vh w0 H' w' p q L1 L2 F1 F2:=by
 have d:∀b,b<w.heap.size->¬H b->¬H' b:=fun b h1 h2=>hs.ja (G:=(·=b)) Gd b rfl;have d1:∀b,F1 b->¬H' b:=fun b a=>d b (h.bj.lt a) (h.o1 b a).2.1;have d2:∀b,F2 b->¬H' b:=fun b a=>d b (h.D4.lt a) (h.o2 b a).2;exact⟨h.pure.aq hs,h.bj.ext hs.ext d1,h.D4.ext hs.ext d2,fun b a=>⟨(h.o1 b a).1,d1 b a,(h.o1 b a).2.2⟩,fun b a=>⟨(h.o2 b a).1,d2 b a⟩⟩
end
end Go.Proofs
end
section
open Go Go.SE List
namespace Go.Proofs
end Go.Proofs
namespace Go.Proofs
attribute [local irreducible] Calls CallsD
end Go.Proofs
end
section
open Go Go.SE List
namespace Go.Proofs
open Tryz
attribute [local irreducible] Calls
def jQT(p){L}(hW:Wf L):∀(n:Nat) (t:Int) (g:World) (F:NP),t.toNat=n->vR g p L F ->
  cl 20 #[vp (some p),vi t] g (wH g.heap.size g (zA L t)):=by
 intro n
 induction n using Nat.strongRecOn with
 |_ n ih =>
 intro t g F hn hP
 suffices key:∀K:Int->Int->Int->Int->ByteArray->Sl->WP,(∀k f B u x s' w' ks,zA L t=.mk k f B u x ks->cr (g.heap.size<=·) w' s' (.mk k f B u x ks)->Pure g w'->K k f B u x s' w')->LV (some p) t g K by
  refine(Rt _ _ g (fun k f B u x s' w'=>∃ks,zA L t=.mk k f B u x ks/\cr (g.heap.size<=·) w' s' (.mk k f B u x ks)/\Pure g w') (key _ Gd)).mono ?_;rintro _ w' ⟨k,f,B,u,x,s',rfl,ks,h1,h2,h3⟩;rw[h1];exact⟨s',rfl,h2,h3⟩
 intro K hK
 have hok:=hW.ok
 have M:∀b,¬Sl.nil.ao b:=fun b d=>by have⟨a,h,_⟩:=d;cases h
 intro H1 w1 hs1
 have E1:=hs1.first
 refine(FV p t w1 (hP.pure E1) hok).mono ?_
 rintro _ w2 ⟨k,f,B,u,x,a,b,r,rfl,⟨hnd,hr⟩,E2⟩
 have E02:=E1.trans E2
 have hs2:=hs1.gi E2.bo
 refine⟨_,_,_,_,_,_,_,_,rfl,E2.bo,fun h=>?_,fun h=>?_⟩
 .intro H2 w5 hs5
  have R:al L t=false:=by rw[<-hr];simpa using h
  exact hK _ _ _ _ _ _ _ [] (by rw[Ha R];rfl) cr.leaf (E02.aq hs5)
 .have R:al L t=true:=by rw[<-hr];simpa using h
  have X:=zX hW R
  have s:=hW.node R
  rw[<-hnd]at X s
  simp only at X s
  have⟨_,_,_,_,hkid,_,_⟩:=s
  have hpos:=zI.1 R
  rw[qT]
  have J1 : ∀ (xs : Sl) (H : NP) (w : World) (V : List (bt × Sl)) (S' : NP), af g H w H w -> Pure g w -> ju H w 71 6 xs (V.map xP) -> V.length <= 1 -> (∀ p ∈ V, cr S' w p.2 p.1) -> (∀ b, S' b -> g.heap.size <= b /\ b < w.heap.size /\ ¬ H b /\ ¬ xs.ao b) -> (∀ b, xs.ao b -> g.heap.size <= b) ->
    ((bk k).kids=2->V.map Prod.fst=[zA L a])->((bk k).kids≠2->V.map Prod.fst=(zB ⟨k,f,B,u,x,a,b⟩).map (zA L)) ->
    Ci (some p) k b k f B u x xs g H w K:=by
   intro xs H w V S' hs E O hpl D i hxs h2 h1
   unfold Ci
   rw[qT]
   refine⟨fun h=>?_,fun h=>?_⟩
   .have J:(bk k).kids=2:=by simpa using h
    have hps:=h2 J
    intro w9 A
    have E9:=E.aq A
    have O9:=O.aq A
    have N:Pure w9 w9.drew:=ab.drew w9
    refine⟨fun _=>True,trivial,?_⟩
    rintro _ rfl
    have d:=hkid b (by simp[zB,J])
    have hbp:=zI.1 d.1
    refine(ih b.toNat Om b w9.drew F rfl (hP.pure (E9.trans N))).mono ?_
    rintro _ w11 ⟨s',rfl,hTb,z⟩
    generalize hTt:zA L b=tb at *
    have⟨k2,f2,t2,u2,x2,m⟩:=tb
    refine⟨_,_,_,_,_,s',rfl,trivial,z.bo,?_⟩
    intro p5 w12 h12
    have y:Pure w11 w12:=ab.aw h12
    refine⟨trivial,?_⟩
    have hs12:af g H w12 H w12:=(A.gi N.bo).gi (z.trans y).bo
    have⟨s1,w13,hr13,Q,v,hk13,hb13⟩:=(O9.pure ((N.trans z).trans y)).append (P:=prog) (ty:=69) (c:=1) Le hs12 (r:=tE (.mk k2 f2 t2 u2 x2 m) s') (ai.bh h12).row rfl (MC _ _) So (by simp[maxLen];omega)
    refine⟨s1,w13,hr13,trivial,hk13,?_⟩
    intro w15 l
    have zd:w9.drew.heap.size=w9.heap.size:=rfl
    have z9:=A.ext.size
    have z11:=z.size
    have z12:=y.size
    have z13:=v.size
    have hS9:∀b,S' b->g.heap.size<=b/\b<w9.heap.size/\¬H b/\¬xs.ao b:=fun b d=>⟨(i b d).1,Oh ((i b d).2.1),(i b d).2.2.1,(i b d).2.2.2⟩
    have hvs:∀b,s1.ao b->b<w13.heap.size/\¬H b:=fun b d=>⟨Q.cj.lt d,Q.jf b d⟩
    have Z:=Q.cj.ext l.ext (l.ja (G:=s1.ao) hvs)
    have e1:V.map xP++[tE (.mk k2 f2 t2 u2 x2 m) s']=(V++[((.mk k2 f2 t2 u2 x2 m:bt),s')]).map xP:=by simp[xP]
    rw[e1]at Z
    have hT:=cr.Oj (S:=fun b=>g.heap.size<=b) (k:=k) (f:=f) (t:=B) (u:=u) (x:=x) Z (fun b d=>(hb13 b d).elim (hxs b) fun h=>Oh E9.size) (fun q hq=>?_) So
    .have e2 : (V ++ [((.mk k2 f2 t2 u2 x2 m : bt), s')]).map Prod.fst = (zB ⟨k, f, B, u, x, a, b⟩).map (zA L):=by
      rw[map_append,hps];simp[zB,J,hTt]
     rw[e2]at hT
     exact hK _ _ _ _ _ _ _ _ X hT ((((E9.trans N).trans z).trans y).cg v Gd |>.aq l)
    .rcases mem_append.1 hq with h|h
     .have q1:=(D q h).aq A Gd
      have q2:=(q1.pure ((N.trans z).trans y)).ext v Gd
      exact(q2.aq l Gd).mono fun b d=>(i b d).1
     .simp only[mem_singleton]at h;subst h
      have q1:=(hTb.lt.pure y).ext v fun b d hy=>Oi (O9.cj.lt hy) d.1
      exact(q1.aq l fun b d=>⟨Oh d.2,fun hh=>Oi (A.lt b hh) d.1⟩).mono fun b d=>Oi d.1 E9.size
   .have J:(bk k).kids≠2:=by simpa using h
    intro w16 I
    have O16:=O.aq I
    have hT:=cr.Oj (S:=fun b=>g.heap.size<=b) (k:=k) (f:=f) (t:=B) (u:=u) (x:=x) O16.cj hxs (fun q hq=>((D q hq).aq I fun b d=>⟨(i b d).2.1,(i b d).2.2.1⟩).mono fun b d=>(i b d).1) Om
    rw[h1 J]at hT
    exact hK _ _ _ _ _ _ _ _ X hT (E.aq I)
  have hkk:=qV k
  refine⟨fun h=>?_,fun h=>?_⟩
  .have hk1:1<=(bk k).kids:=Oh (of_decide_eq_true h)
   intro H3 U o
   have E8:=E02.aq o
   have E17:Pure U U.drew:=ab.drew U
   refine⟨fun _=>True,trivial,?_⟩
   rintro _ rfl
   have ha:=hkid a (by rcases hkk with h|h|h<;>simp[zB,h]<;>omega)
   have hap:=zI.1 ha.1
   refine(ih a.toNat Om a U.drew F rfl (hP.pure (E8.trans E17))).mono ?_
   rintro _ w18 ⟨s',rfl,hTa,W⟩
   generalize hTt:zA L a=ta at *
   have⟨k2,f2,t2,u2,x2,m⟩:=ta
   refine⟨_,_,_,_,_,s',rfl,trivial,W.bo,?_⟩
   intro p6 C h19
   have T:Pure w18 C:=ab.aw h19
   refine⟨trivial,?_⟩
   have hs19:af g H3 C H3 C:=(o.gi E17.bo).gi (W.trans T).bo
   have⟨s2,w20,hr20,hO20,hE20,hk20,hb20⟩:=(ju.nil (sz:=6) (e:=71) H3 C).append (P:=prog) (ty:=69) (c:=1) Le hs19 (r:=tE (.mk k2 f2 t2 u2 x2 m) s') (ai.bh h19).row rfl (MC _ _) Sm (by simp[maxLen])
   refine⟨s2,w20,hr20,trivial,hk20,?_⟩
   intro w21 j
   have zd:U.drew.heap.size=U.heap.size:=rfl
   have z18:=W.size
   have z19:=T.size
   have z20:=hE20.size
   have z21:=j.ext.size
   have E20:Pure C w20:=hE20.mono fun b _ d=>M b d
   have Y:∀b,s2.ao b->C.heap.size<=b:=fun b d=>(hb20 b d).elim (fun h=>(M b h).elim) id
   refine J1 s2 H3 w21 [((.mk k2 f2 t2 u2 x2 m:bt),s')] (fun b=>U.heap.size<=b/\b<w18.heap.size) j.fi ((((E8.trans E17).trans W).trans T).trans E20 |>.aq j) ?_ Sm ?_ ?_ (fun b d=>Oi (Y b d) E8.size) (fun _=>Sm) fun hne=>?_
   .have:=hO20.aq j;simpa[xP]using this
   .intro q hq
    simp only[mem_singleton]at hq;subst hq
    exact((hTa.lt.pure T).pure E20).aq j fun b d=>⟨Oh d.2,fun hh=>Oi (o.lt b hh) d.1⟩
   .rintro b ⟨h1,h2⟩
    exact⟨Oh E8.size,Om,fun hh=>Oh (o.lt b hh),fun hh=>Oh (Y b hh)⟩
   .rcases hkk with h|h|h
    .omega
    .simp[zB,h,hTt]
    .exact absurd h hne
  .have hk0:(bk k).kids=0:=Oh (of_decide_eq_false h)
   intro H3 U o
   exact J1 Sl.nil H3 U [] (fun _=>False) o.fi (E02.aq o) (ju.nil _ _) Sm Sm (fun b h=>h.elim) (fun b h=>(M b h).elim) (fun h=>Om) (fun _=>by simp[zB,hk0])
end Go.Proofs
end
section
open Go Go.SE
namespace Go.Proofs
open Tryz
attribute [local irreducible] Calls CallsD
def zBI{S0}(p sb bs w0){L FP}(B:Wf L)(n:vR w0 p L FP)(hs:dn S0 w0 1 sb (dj bs)):
  cl 54 #[vp<|some p,sb.v] w0<|XJ fun t x y w'=>t=(yM L bs).1/\x=(yM L bs).2.1/\y=((yM L bs).2.2.1:Int)/\∃F',vR w' p (yM L bs).2.2.2 F'/\ab FP w0 w'/\∀b,F' b->FP b\/w0.heap.size<=b:=by
 refine jao _ _ w0 _ ?_
 refine(Mh sb bs w0 hs).mono ?_
 rintro _ u ⟨x,y,z,rfl,j,r,d,g⟩
 refine⟨_,_,_,rfl,?_⟩
 cases c:(vB bs).1 with
 |none =>
  have o:yM L bs=(0,(vB bs).2.1,(vB bs).2.2,L):=by unfold yM;rw[c]
  have A:y≠0:=by rw[j];exact xQ c
  refine⟨fun _=>?_,fun l=>absurd (by simpa using l) A⟩
  rw[o]
  exact⟨rfl,j,r,FP,n.pure g,ab.pure g,fun b e=>.inl e⟩
 |some q =>
  obtain⟨a,F,rfl,f,G⟩:=d.1 q c
  have⟨D,_,H,_⟩:=xB c
  have E:=JF c
  have o:yM L bs=((vI L q q.length).1,(vI L q q.length).2.1,0,(vI L q q.length).2.2):=by unfold yM;rw[c]
  rw[E]at j
  obtain⟨C,s,i⟩:∃v:Sl,u.cell? a=some v.v/\v.len=q.length:=by
   have⟨sa,sb,sc,h,_⟩:=f;exact⟨sa,h.box.bd,by rw[h.r1.len];simp⟩
  refine⟨fun l=>absurd j<|by simpa using l,fun _=>⟨a,rfl,C,s,?_⟩⟩
  rw[i]
  refine(Xt p a q.length u B D (n.pure g) f fun b e hh=>Oi (n.lt e)<|G b hh).mono ?_
  rintro _ I ⟨r1,r2,rfl,h1,h2,F',k,w,m⟩
  refine⟨_,_,rfl,?_⟩
  rw[o]
  exact⟨h1,h2,rfl,F',k,(ab.pure g).trans w,fun b e=>(m b e).imp id fun h=>Oh g.size⟩
end Go.Proofs
end
