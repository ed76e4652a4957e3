import Derived.KernelRfl
import Derived.Orders
import Derived.OrdersIn
import Derived.Still
import Derived.RangeFuncLeaves
import Derived.Tactics
import Derived.Scope
import Derived.TacticsIn
import Derived.RangeFuncRecord
import Derived.Laws.StructEq
import Derived.Laws.Rows
import Derived.Laws.NewBlocks
import Derived.Laws.Strings
import Derived.Laws.Pointers
import Derived.Below
import Derived.Laws.AppendOwn
import Derived.Laws.MakeOwn
import Derived.IntWalk
import Derived.Test.YtjjcakjoeiolgaaGreatProg
import Derived.RangeFuncSeq
import Derived.RangeFuncIn
import Derived.Laws.Entries
set_option linter.defProp false
section
namespace Go
def Om{P:Prop}(h:P:=by omega):P:=h
def Kf{P:Prop}(h:P:=by kernel_rfl):P:=h
def Gd{P:Prop}(h:P:=by grind):P:=h
def Sm{P:Prop}(h:P:=by simp):P:=h
def De{P:Prop}(h:P:=by decide):P:=h
def So{P:Prop}(h:P:=by simp;omega):P:=h
def Ic{P:Prop}(h:P:=by intro c a;cases a):P:=h
def Sy{P:Prop}(h:P:=by simp only;omega):P:=h
def Fe{P:Prop}(h:P:=by first|exact Nat.le_refl _|exact Nat.le_succ _):P:=h
def Oh{A P:Prop}(a:A)(h:A->P:=by intro _;omega):P:=h a
def Oi{A B P:Prop}(a:A)(b:B)(h:A->B->P:=by intro _ _;omega):P:=h a b
end Go
end
section
namespace Go.SE
abbrev NP:=Nat->Prop
abbrev WP:=World->Prop
def mr(P:Program)(o:Oper)(ε:Operand->Value)(w:World)(R:Value->World->Prop):Prop:=
 match(execOp ε o).run P w with
 |.ok (.value v) w'=>R v w'
 |.ok .skip w'=>R undef w'
 |.ok (.enter f args) w'=>Calls P f args w' fun e a=>∃v,e=.returned v/\R v a
 |.ok (.row row args) w'=>Rows P row args w' R
 |.ok (.round l f tmps assign body) w'=>RoundIn Fence.wide 0 P l f tmps assign body w' fun e a=>∃v,e=.returned v/\R v a
 |_=>False
section
variable {P:Program} {ops:Array Oper} {md:Region.Mode} {C:World->Prop}
def tP{o}{ε:Operand->Value}{w}{R d:Value->World->Prop}(h:mr P o ε w R)(hr:∀v w',R v w'->d v w'):mr P o ε w d:=by
 unfold mr at *;generalize (execOp ε o).run P w=r at *;cases r with
 |ok n w' =>
  cases n<;>simp only at h|-<;>first
   |exact hr _ _ h
   |exact h.mono fun e a ⟨v,c,b⟩=>⟨v,c,hr _ _ b⟩
   |exact RoundIn.mono h fun e a ⟨v,c,b⟩=>⟨v,c,hr _ _ b⟩
   |exact h.mono hr
 |halt x w'=>exact h
def jt:Option Nat->Fence
 |none=>Fence.wide
 |some l=>Fence.wide.inRound l
def QI(ro:Option Nat):(jt ro).round=ro:=by cases ro<;>rfl
def AN(ro:Option Nat)(f):(jt ro).fn f:=by cases ro<;>trivial
def PB(ro:Option Nat):(jt ro).depth=none:=by cases ro<;>rfl
def Calls.jt{ro:Option Nat}{m f args w R}(h:Calls P f args w R):CallsIn (SE.jt ro) m P f args w R:=by
 cases ro with
 |none=>exact callsIn_wide.2 h
 |some l=>exact(callsIn_wide.2 h:CallsIn Fence.wide m P f args w R)
def Rows.jt{ro:Option Nat}{m}{row:String}{args w}{R:Value->World->Prop}(h:Rows P row args w R):RowsIn (SE.jt ro) m P row args w R:=by
 have a:RowsIn Fence.wide m P row args w R:=fun c cs _=>let ⟨v,w',r,s⟩:=h c cs;⟨v,w',r,stepsIn_wide.2 s⟩
 cases ro with
 |none=>exact a
 |some l=>exact a
def RoundIn.jt{ro:Option Nat}{n m l f tmps assign body w R}(h:RoundIn Fence.wide n P l f tmps assign body w R):RoundIn (SE.jt ro) m P l f tmps assign body w R:=by
 have a:RoundIn Fence.wide m P l f tmps assign body w R:=⟨trivial,fun c cs _=>h.2 c cs<|room_wide _⟩;cases ro with
 |none=>exact a
 |some l'=>exact a
def JO{o}{ε:Operand->Value}{w}{R:Value->World->Prop}(h:mr P o ε w R):∀c,o.op≠.defer c:=by
 intro c a;unfold mr execOp at h;rw[a]at h;simp only[Sem.run_bind]at h;generalize (resolve ε c o.type).run P w=r at h;cases r with
 |ok d w'=>exact h
 |halt x w'=>exact h
def MS{ro:Option Nat}{m o a w}{K:Act->World->Prop}{Q:Exit->Act->World->Prop}(h:mr P o a.eval w fun v w'=>K (a.put o.dst v) w'):o.wpIn (jt ro) m P a w K Q:=by
 refine⟨fun f _=>AN ro f,?_⟩;rw[QI,Oper.semAt_eq _ _ _<|JO h];have d:(jt ro).depth.isSome=true->1<=m:=fun h=>by rw[PB]at h;cases h
 unfold mr at h;generalize (execOp a.eval o).run P w=r at *;cases r with
 |ok n w' =>
  cases n<;>simp only at h<;>simp only[Oper.uponIn]
  case value=>exact h
  case skip=>exact h
  case enter=>exact⟨d,(Calls.jt h).mono fun e c ⟨v,g,b⟩=>by subst g;exact b⟩
  case row=>exact⟨d,Rows.jt h⟩
  case round=>exact⟨d,(RoundIn.jt h).mono fun e c ⟨v,g,b⟩=>by subst g;exact b⟩
 |halt x w'=>exact h.elim
def qy(P:Program)(o:Oper)(ε:Operand->Value)(w:World)(v:Value):Prop:=
 match(execOp ε o).run P w with
 |.ok (.value u) w'=>u=v/\w'=w
 |.ok .skip w'=>v=undef/\w'=w
 |_=>False
def jYE{o}{ε:Operand->Value}{w v}{R:Value->World->Prop}(h:qy P o ε w v)(a:R v w):mr P o ε w R:=by
 unfold qy at h;unfold mr;generalize (execOp ε o).run P w=r at *;cases r with
 |ok n w' =>
  cases n<;>simp only at h|-
  case value u=>obtain⟨rfl,rfl⟩:=h;exact a
  case skip=>obtain⟨rfl,rfl⟩:=h;exact a
 |halt x w'=>exact h.elim
def uj(md:Region.Mode)(ops:Array Oper)(i:Nat):Array Bool:=
 (List.range ops.size).foldl (fun l j=>if j !=i&&!l.getD j true&&((ops[j]?).map (·.after.all fun e=>!Region.binds md e ||l.getD e.on false)).getD false then l.setIfInBounds j true else l) (Array.replicate ops.size false)
def sI(md:Region.Mode)(ops:Array Oper)(loud:Nat->Bool)(i:Nat):Bool:=(List.range ops.size).all fun j=>!loud j ||!(uj md ops i).getD j false
def py(md:Region.Mode)(P:Program)(ops:Array Oper)(C:World->Prop)(loud free:Nat->Bool)(i:Nat)(K:Act->World->Prop)(a:Act)(w:World):Prop:=
 match ops[i]? with
 |none=>K a w
 |some o =>
  if Region.wanted o (yielded ops a.tmps)then
   (if loud i then mr P o a.eval w fun v w'=>(free i=true\/C w')/\K (a.put o.dst v) w'
   else ∃v,((sI md ops loud i=true/\qy P o a.eval w v)\/∀w',C w'->qy P o a.eval w' v)/\K (a.put o.dst v) w)
  else K (a.put o.dst undef) w
def zDK{loud free:Nat->Bool}{i a w}{K d:Act->World->Prop}(h:∀a w,C w\/(loud i=true/\free i=true)->K a w->d a w)(l:loud i=false->C w)(k:C w\/(loud i=true/\free i=true))(hh:py md P ops C loud free i K a w):py md P ops C loud free i d a w:=by
 unfold py at *;split;grind;rename_i o j;simp only[j]at hh;split;rename_i b;simp only[b,if_true]at hh;split;rename_i c;simp only[c,if_true]at hh;exact tP hh fun v w' ⟨e,g⟩=>⟨e,h _ _ (e.elim (fun f=>.inr ⟨c,f⟩) .inl) g⟩;grind;rename_i b;simp only[b]at hh;exact h _ _ k hh
def xy(P:Program)(md:Region.Mode)(ops:Array Oper)(C:World->Prop)(loud free:Nat->Bool)(Q:Act->World->Prop):Nat->Array Bool->Act->World->Prop
 |0,b,a,w=>Region.ready md ops b=[]/\Q a w
 |fuel+1,b,a,w =>
  (Region.ready md ops b=[]->Q a w) /\
  ∀i∈Region.ready md ops b,py md P ops C loud free i (xy P md ops C loud free Q fuel<|b.setIfInBounds i true) a w
def tB(loud:Nat->Bool)(n:Nat)(a:Array Bool):Prop:=∀i,i<n->loud i=false->a.getD i true=true
def tB.set{loud:Nat->Bool}{n}{a:Array Bool}(h:tB loud n a)(k):tB loud n (a.setIfInBounds k true):=fun i hi d=>by
 by_cases c:k=i;subst c;rcases Nat.lt_or_ge k a.size with b|b;simp[b];simp[b];rw[getD_set_ne true c];exact h i hi d
structure tc(md:Region.Mode)(ops:Array Oper)(loud free:Nat->Bool)(a:Nat->Array Bool):Prop where
 size:∀i,loud i=false->(a i).size=ops.size
 UL:∀i,loud i=false->∀j∈Region.ready md ops (a i),j=i
 ji:∀i,i<ops.size->loud i=false->∀j,j<ops.size->free j=true->(a i).getD j false=false
def wk(n:Nat)(loud:Nat->Bool)(b:Nat->Array Bool)(a:Array Bool):Prop:=∀i,i<n->loud i=false->a.getD i true=false->∀k,a.getD k false=true->(b i).getD k false=true
def tc.Iz{loud free:Nat->Bool}{b:Nat->Array Bool}{a:Array Bool}(k:tc md ops loud free b)(h:wk ops.size loud b a){i j}(hi:i<ops.size)(d:loud i=false)(m:a.getD i true=false)(q:j∈Region.ready md ops a)(g:j≠i):(b i).getD j false=true:=by
 have⟨_,o,l,c⟩:=mem_ready.1 q;have f:j<(b i).size:=k.size i d▸(Array.getElem?_eq_some_iff.1 l).1;cases n:(b i).getD j false with
 |true=>rfl
 |false=>exact absurd (k.UL i d j<|mem_ready.2 ⟨by simpa[f]using n,o,l,fun e p r=>h i hi d m _<|c e p r⟩) g
def tc.step{loud free:Nat->Bool}{b:Nat->Array Bool}{a:Array Bool}(n:tc md ops loud free b)(h:wk ops.size loud b a){j}(o:j∈Region.ready md ops a):wk ops.size loud b (a.setIfInBounds j true):=by
 intro i hi l d k m;have f:j≠i:=fun e=>by
  subst e;rcases Nat.lt_or_ge j a.size with g|g;simp[g]at d;simp[g]at d
 rw[getD_set_ne true f]at d;by_cases c:j=k;subst c;exact n.Iz h hi l d o f;rw[getD_set_ne false c]at m;exact h i hi l d k m
def tc.free{loud free:Nat->Bool}{c:Nat->Array Bool}{a:Array Bool}(g:tc md ops loud free c)(h:wk ops.size loud c a){j}(k:j∈Region.ready md ops a)(b:loud j=true)(l:free j=true):tB loud ops.size a:=by
 intro i hi d;cases n:a.getD i true with
 |true=>rfl
 |false =>
  have f:j≠i:=fun e=>by subst e;rw[d]at b;cases b
  have h1:=g.Iz h hi d n k f
  have⟨_,o,m,_⟩:=mem_ready.1 k
  rw[g.ji i hi d j (Array.getElem?_eq_some_iff.1 m).1 l]at h1
  cases h1
def Lb{ro:Option Nat}{m}{loud free:Nat->Bool}{e:Nat->Array Bool}{Q:Act->World->Prop}{Q':Exit->Act->World->Prop}(p:tc md ops loud free e)(n:∀a w,Q a w->Q' .normal a w):
  ∀(fuel:Nat) (b:Array Bool) (a:Act) (w:World),(C w\/tB loud ops.size b)->wk ops.size loud e b->xy P md ops C loud free Q fuel b a w->wpAnyIn (jt ro) m P md ops Q' fuel b a w
 |0,_,_,_,_,_,h=>⟨h.1,n _ _ h.2⟩
 | fuel + 1, b, a, w, g, s, h => ⟨fun x => n _ _<|h.1 x, fun i hi => by
   have hh:=h.2 i hi;have j:∀a w,(C w\/tB loud ops.size (b.setIfInBounds i true))->xy P md ops C loud free Q fuel (b.setIfInBounds i true) a w->wpAnyIn (jt ro) m P md ops Q' fuel (b.setIfInBounds i true) a w:=fun a w g h=>Lb p n fuel _ a w g (p.step s hi) h;have c:C w\/tB loud ops.size (b.setIfInBounds i true):=g.imp id fun h=>h.set i;unfold py at hh;unfold wpOpIn;split;rename_i q;simp only[q]at hh;exact j _ _ c hh;rename_i o q;simp only[q]at hh;split;rename_i d;simp only[d,if_true]at hh;apply MS;split at hh;rename_i k;exact tP hh fun v w' ⟨u,t⟩=>j _ _ (u.elim (fun y=>.inr<|(p.free s hi k y).set i) .inl) t;rename_i k;have⟨v,h1,h2⟩:=hh;have r:C w:=by
    rcases g with h|h;exact h;have⟨z,A,l,_⟩:=mem_ready.1 hi;have:=h i (Array.getElem?_eq_some_iff.1 l).1 (by simpa using k);rw[z]at this;cases this
   exact jYE (h1.elim (·.2) fun h=>h w r) (j _ _ c h2);rename_i d;simp only[d]at hh;exact⟨fun f _=>AN ro f,j _ _ c hh⟩⟩
def xM(P:Program)(ops:Array Oper)(C:World->Prop)(e:Bool)(w:World)(o:Oper)(v:Value)(a:Act):Prop:=
 (Region.wanted o (yielded ops a.tmps)=true/\((e=true/\qy P o a.eval w v)\/∀w',C w'->qy P o a.eval w' v)) \/
 (Region.wanted o (yielded ops a.tmps)=false/\v=undef)
def xM.Yi{e w o v a a'}(b:xM P ops C e w o v a)(d:execOp a'.eval o=execOp a.eval o)(c:Region.wanted o (yielded ops a'.tmps)=Region.wanted o (yielded ops a.tmps)):xM P ops C e w o v a':=by
 unfold xM qy at *;rw[d,c];exact b
def xM.at{e w w' o v a}(b:xM P ops C e w o v a)(h:e=true->w'=w):xM P ops C e w' o v a:=by
 rcases b with⟨h1,⟨h2,h3⟩|h2⟩|h1;exact .inl ⟨h1,.inl ⟨h2,by rw[h h2];exact h3⟩⟩;exact .inl ⟨h1,.inr h2⟩;exact .inr h1
def xM.op{loud free:Nat->Bool}{i o v a w}(hi:ops[i]?=some o)(d:loud i=false)(b:xM P ops C (sI md ops loud i) w o v a){K:Act->World->Prop}(h:K (a.put o.dst v) w):py md P ops C loud free i K a w:=by
 unfold py;simp only[hi,d];rcases b with⟨c,e⟩|⟨c,rfl⟩;grind;grind
def RR{loud free:Nat->Bool}{i o a w}{K:Act->World->Prop}(hi:ops[i]?=some o)(c:loud i=false)(h:py md P ops C loud free i K a w):∃v,xM P ops C (sI md ops loud i) w o v a/\K (a.put o.dst v) w:=by
 unfold py at h;simp only[hi,c]at h;by_cases b:Region.wanted o (yielded ops a.tmps)=true;simp only[b,if_true]at h;have⟨v,h1,h2⟩:=h;exact⟨v,.inl ⟨b,h1⟩,h2⟩;simp only[b]at h;exact⟨undef,.inr ⟨by simpa using b,rfl⟩,h⟩
def zHN{loud free:Nat->Bool}{j oi oj v}(z:ops[j]?=some oj)(m:oi.apart ops oj=true)(q:∀cs b,oi.op≠.select cs b)(i:∀cs b,oj.op≠.select cs b){K:Act->World->Prop}{a w}{e}(c:loud j=true->e=false)(y:xM P ops C e w oi v a)(h:py md P ops C loud free j K (a.put oi.dst v) w):
  py md P ops C loud free j (fun s w'=>xM P ops C e w' oi v s/\K (s.put oi.dst v) w') a w:=by
 have⟨h1,h2,h3⟩:=Oper.apart_spec m
 have gq:∀u,xM P ops C e w oi v<|a.put oj.dst u:=fun u =>
  y.Yi (execOp_put oi q a oj.dst u h3)<|wanted_put oi a oj.dst u h3
 unfold py at *
 simp only[z]at *
 rw[wanted_put oj a oi.dst v h1]at h
 split
 .rename_i o
  simp only[o,if_true]at h
  split
  .rename_i d
   simp only[d,if_true]at h
   unfold mr at *
   rw[execOp_put oj i a oi.dst v h1]at h
   generalize (execOp a.eval oj).run P w=r at *
   cases r with
   |ok n w' =>
    cases n<;>simp only at h|-
    case value u=>exact⟨h.1,(gq u).at Gd,by rw[<-Act.put_comm a v u h2];exact h.2⟩
    case skip=>exact⟨h.1,(gq _).at (fun h=>by rw[c d]at h;cases h),by rw[<-Act.put_comm a v undef h2];exact h.2⟩
    case enter f args=>exact h.mono fun e g ⟨u,p,l,k⟩=>⟨u,p,l,(gq u).at (fun h=>by rw[c d]at h;cases h),by rw[<-Act.put_comm a v u h2];exact k⟩
    case row f args=>exact h.mono fun u g ⟨l,k⟩=>⟨l,(gq u).at (fun h=>by rw[c d]at h;cases h),by rw[<-Act.put_comm a v u h2];exact k⟩
    case round=>exact RoundIn.mono h fun e g ⟨u,p,l,k⟩=>⟨u,p,l,(gq u).at (fun h=>by rw[c d]at h;cases h),by rw[<-Act.put_comm a v u h2];exact k⟩
   |halt x w'=>exact h.elim
  .rename_i d
   simp only[d]at h
   have⟨u,t,A⟩:=h
   refine⟨u,?_,gq u,by rw[<-Act.put_comm a v u h2];exact A⟩
   unfold qy at *
   rwa [execOp_put oj i a oi.dst v h1]at t
 .rename_i o
  simp only[o]at h
  exact⟨gq _,by rw[<-Act.put_comm a v undef h2];exact h⟩
def ZB{i:Nat}{f:Oper}{a:Array Bool}(hr:i∈Region.ready md ops a)(b:∀e∈f.after,Region.binds md e=true->a.getD e.on false=true):
  ∀e∈f.after,Region.binds md e=true->e.on≠i:=fun e g h c=>by
 have h1:=b e g h
 have j:=(mem_ready.1 hr).1
 rw[c]at h1
 rcases Nat.lt_or_ge i a.size with d|d
 grind
 simp[Array.getElem?_eq_none d]at h1
def jOP{loud free:Nat->Bool}{p:Nat->Array Bool}{Q:Act->World->Prop}(K:tc md ops loud free p)(x:∀i,i<ops.size->p i=uj md ops i){i oi v}(hi:ops[i]?=some oi)(l:loud i=false)(A:∀(j:Nat) (o:Oper) cs b,ops[j]?=some o->o.op≠.select cs b):
  ∀(f:Nat) (c:Array Bool) (a:Act) (w:World),C w->wk ops.size loud p c ->
   (∀j z,ops[j]?=some z->j≠i->c.getD j true=false->(∀e∈z.after,Region.binds md e=true->e.on≠i)->oi.apart ops z=true) ->
   i∈Region.ready md ops c->xM P ops C (sI md ops loud i) w oi v a ->
   xy P md ops C loud free Q f (c.setIfInBounds i true) (a.put oi.dst v) w->xy P md ops C loud free Q (f+1) c a w:=by
 intro f
 induction f with
 |zero =>
  intro c a w _ _ _ hr B H
  refine⟨fun h=>(by rw[h]at hr;cases hr),fun j q=>?_⟩
  by_cases d:j=i
  subst d;exact B.op hi l H
  have:=ready_mono q d
  rw[H.1]at this
  cases this
 |succ f S =>
  intro c a w N I g hr B H
  refine⟨fun h=>(by rw[h]at hr;cases hr),fun j q=>?_⟩
  by_cases d:j=i
  subst d;exact B.op hi l H
  have h1:=H.2 j<|ready_mono q d
  have⟨n,z,r,y⟩:=mem_ready.1 q
  have M:loud j=true->sI md ops loud i=false:=fun L=>by
   cases R:sI md ops loud i with
   |false=>rfl
   |true =>
    have t:=(Array.getElem?_eq_some_iff.1 hi).1
    have J:=(Array.getElem?_eq_some_iff.1 r).1
    have h1:=K.Iz I t l (mem_ready.1 hr).1 q d
    have h2:=List.all_eq_true.1 R j<|List.mem_range.2 J
    rw[L]at h2
    have h3:(uj md ops i).getD j false=true:=x i t▸h1
    rw[h3]at h2;cases h2
  have h2:=zHN (e:=sI md ops loud i) r (g j z r d n<|ZB hr y) (fun cs b=>A i oi cs b hi) Gd M B h1
  have m : ∀ k ok, ops[k]? = some ok -> k ≠ i -> (c.setIfInBounds j true).getD k true = false ->
    (∀e∈ok.after,Region.binds md e=true->e.on≠i)->oi.apart ops ok=true:=fun k ok O F u D=>by
   refine g k ok O F ?_ D
   by_cases s:j=k
   subst s;exact n
   rw[getD_set_ne true s]at u;exact u
  have E:¬(loud j=true/\free j=true):=fun⟨h1,h2⟩=>by
   have:=K.free I q h1 h2 i (Array.getElem?_eq_some_iff.1 hi).1 l;rw[(mem_ready.1 hr).1]at this;cases this
  refine zDK (fun T w' G h3=>S (c.setIfInBounds j true) T w' (G.resolve_right E) (K.step I q) m (ready_mono hr<|Ne.symm d) h3.1 ?_) (fun _=>N) (.inl N) h2
  rw[Array.setIfInBounds_comm _ _ d]
  exact h3.2
def xt(md:Region.Mode)(ops:Array Oper)(loud free:Nat->Bool):Bool:=
 (List.range ops.size).all fun i=>loud i ||(let f:=uj md ops i
  f.size==ops.size&&(Region.ready md ops f).all (·==i)&&(List.range ops.size).all fun j=>!free j ||!f.getD j false)
def D6(md:Region.Mode)(ops:Array Oper)(i:Nat):Array Bool:=if i<ops.size then uj md ops i else Array.replicate ops.size true
def QM{loud free:Nat->Bool}(h:xt md ops loud free=true):tc md ops loud free (D6 md ops):=by
 have f:∀i,i<ops.size->loud i=false->(uj md ops i).size=ops.size/\(∀j∈Region.ready md ops (uj md ops i),j=i)/\∀j,j<ops.size->free j=true->(uj md ops i).getD j false=false:=fun i hi b=>by
  have:=List.all_eq_true.1 h i<|List.mem_range.2 hi;simp only[b,Bool.false_or,Bool.and_eq_true,beq_iff_eq,List.all_eq_true,List.mem_range,Bool.or_eq_true,Bool.not_eq_true']at this;exact⟨this.1.1,this.1.2,fun j a c=>by rcases this.2 j a with h|h;rw[c]at h;cases h;exact h⟩
 refine⟨fun i b=>?_,fun i b j a=>?_,fun i hi b j a c=>?_⟩;unfold D6;split;grind;simp;unfold D6 at a;split at a;grind;have⟨e,o,d,_⟩:=mem_ready.1 a;have:=(Array.getElem?_eq_some_iff.1 d).1;simp[this]at e;unfold D6;rw[if_pos hi];exact(f i hi b).2.2 j a c
def Mm{n m}{loud:Nat->Bool}{b:Nat->Array Bool}:wk n loud b (Array.replicate m false):=fun i _ _ _ k c=>by
 exfalso;rcases Nat.lt_or_ge k m with a|a;simp[a]at c;simp[a]at c
def An(P:Program)(md:Region.Mode)(ops:Array Oper)(C:World->Prop)(loud free:Nat->Bool)(Q:Act->World->Prop):Nat->Array Bool->Act->World->Prop
 |0,b,a,w=>Region.ready md ops b=[]/\Q a w
 |fuel+1,b,a,w =>
  (∃i,i∈Region.ready md ops b/\loud i=false/\Region.free md ops b i=true/\py md P ops C loud free i (An P md ops C loud free Q fuel<|b.setIfInBounds i true) a w) \/
  ((Region.ready md ops b=[]->Q a w)/\∀i∈Region.ready md ops b,py md P ops C loud free i (An P md ops C loud free Q fuel<|b.setIfInBounds i true) a w)
def He{loud free:Nat->Bool}{g:Nat->Array Bool}{Q:Act->World->Prop}(k:tc md ops loud free g)(c:∀i,i<ops.size->g i=uj md ops i)(hs:Region.noSelect ops=true):∀(fuel:Nat) (b:Array Bool) (a:Act) (w:World),(C w\/tB loud ops.size b)->wk ops.size loud g b ->
  An P md ops C loud free Q fuel b a w->xy P md ops C loud free Q fuel b a w
 |0,_,_,_,_,_,h=>h
 |fuel+1,b,a,w,r,n,h=>by
  rcases h with⟨i,hr,j,q,h⟩|⟨u,h⟩;have⟨y,o,e,_⟩:=mem_ready.1 hr;have l:C w:=by
   rcases r with h|h;exact h;have:=h i (Array.getElem?_eq_some_iff.1 e).1 j;rw[y]at this;cases this
  have⟨v,x,t⟩:=RR e j h;exact jOP k c e j (Region.noSelect_spec hs) fuel b a w l n (Region.free_spec e q) hr x<|He k c hs fuel _ _ _ (.inl l) (k.step n hr) t;refine⟨u,fun i hi=>?_⟩;have hh:=h i hi;have d:∀a w,(C w\/tB loud ops.size (b.setIfInBounds i true))->An P md ops C loud free Q fuel (b.setIfInBounds i true) a w->xy P md ops C loud free Q fuel (b.setIfInBounds i true) a w:=fun a w m h=>He k c hs fuel _ a w m (k.step n hi) h;have f:C w\/tB loud ops.size (b.setIfInBounds i true):=r.imp id fun h=>h.set i;unfold py at hh|-;split;rename_i e;simp only[e]at hh;exact d _ _ f hh;rename_i o e;simp only[e]at hh;split;rename_i p;simp only[p,if_true]at hh;split;rename_i j;simp only[j,if_true]at hh;exact tP hh fun v w' ⟨m,s⟩=>⟨m,d _ _ (m.elim (fun q=>.inr<|(k.free n hi j q).set i) .inl) s⟩;grind;grind
def VO{ro:Option Nat}{m id}{Q:Exit->Act->World->Prop}{a w}(C)(loud free:Nat->Bool)(hm:P.follows .mixedOrders=true)(hs:Region.noSelect ops=true)(c:xt .any ops loud free=true)(d:C { w with drawn:=w.drawn+1 })(h:An P .any ops C loud free (fun b w'=>Q .normal b w') ops.size (Array.replicate ops.size false) a { w with drawn:=w.drawn+1 }):(Code.region id ops true).wpIn (jt ro) m P Q a w:=
 wpIn_region_any hm<|Lb (Q':=Q) (QM c) (fun _ _ h=>h) _ _ _ _ (.inl d) Mm<|He (md:=.any) (Q:=fun b w'=>Q .normal b w') (QM c) (fun i hi=>if_pos hi) hs _ _ _ _ (.inl d) Mm h
end
abbrev bg:=Nat->Value
def rH(ρ:bg)(d:Nat)(v:Value):bg:=fun i=>if i=d then v else ρ i
def put(ρ:bg)(d:Option Nat)(v:Value):bg:=match d with|some d=>rH ρ d v|none=>ρ
def bw(ρ:bg):Operand->Value
 |.tmp t=>ρ t
 |.const v=>v
 |.global g=>.pointer<|some ⟨g,0,none⟩
 |.func f=>.func (.func f) #[] #[]
def xG(l:List Value):bg:=fun i=>l.getD i undef
structure gp(ds:List Deferred)(n:Nat)(ρ:bg)(a:Act):Prop where
 defers:a.defers=ds
 size:a.tmps.size=n
 get:∀t,a.tmps.getD t undef=ρ t
def gp.eval{ds:List Deferred}{n ρ a}(h:gp ds n ρ a):a.eval=bw ρ:=by
 funext x;cases x with
 |tmp t=>exact h.get t
 |_=>rfl
def gp.put{ds:List Deferred}{n ρ a}(h:gp ds n ρ a){d:Option Nat}(c:∀k,d=some k->k<n)(v):gp ds n (SE.put ρ d v) (a.put d v):=by
 cases d with
 |none=>exact h
 |some k =>
  refine⟨h.defers,by simp[Act.put,h.size],fun t=>?_⟩
  have b:=c k rfl
  simp only[Act.put,SE.put,rH]
  by_cases ht:t=k
  subst ht;simp[h.size,b]
  rw[if_neg ht,<-h.get t];simp[Array.getElem?_setIfInBounds_ne<|Ne.symm ht]
def zJ(ops:Array Oper)(ρ:bg)(j:Nat):Option Bool:=
 match(ops[j]?).bind (·.dst)with
 |some d=>match ρ d with|.bool b=>some b|_=>none
 |none=>none
def gp.yielded{ds:List Deferred}{n ρ a}(h:gp ds n ρ a)(ops):yielded ops a.tmps=zJ ops ρ:=by
 funext j;unfold Go.yielded zJ;cases(ops[j]?).bind (·.dst)with
 |none=>rfl
 |some d =>
  simp only[Option.bind_some]
  have:=h.get d
  rw[Array.getD_eq_getD_getElem?]at this
  cases b:a.tmps[d]? with
  |none=>rw[b]at this;simp only[Option.getD_none]at this;rw[<-this];rfl
  |some v=>rw[b]at this;simp only[Option.getD_some]at this;rw[<-this];cases v<;>rfl
def mark(D:Nat):Deferred:={ target:=.collected D,args:=#[] }
structure Cx where
 ro:Option Nat
 ds:List Deferred
def rI(x:Cx)(n:Nat)(Q:Exit->bg->World->Prop):Exit->Act->World->Prop:=fun e a w =>
 ∃ρ,(gp x.ds n ρ a/\Q e ρ w)\/(e=.ret/\x.ro=none/\x.ds=[]/\∃D,gp [mark D] n ρ a/\w.heap[D]?=some (.deferred<|some [])/\Q .ret ρ (w.putObj D<|.deferred none))
def dw{x:Cx}(P:Program)(n:Nat)(c:Code)(Q:Exit->bg->World->Prop)(ρ:bg)(w:World):Prop:=∀a,gp x.ds n ρ a->c.wpIn (jt x.ro) 0 P (rI x n Q) a w
def pP(next:bg->World->Prop)(Q:Exit->bg->World->Prop):Exit->bg->World->Prop
 |.normal,ρ,w=>next ρ w
 |e,ρ,w=>Q e ρ w
def tm(id:Nat)(Q:Exit->bg->World->Prop):Exit->bg->World->Prop
 |.exit a,ρ,w=>if a=id then Q .normal ρ w else Q (.exit a) ρ w
 |e,ρ,w=>Q e ρ w
section
variable {x:Cx} {P:Program} {n:Nat} {Q:Exit->bg->World->Prop} {ρ:bg} {w:World}
def Td{Q'}(b:∀e ρ w,Q e ρ w->Q' e ρ w){e a}(h:rI x n Q e a w):rI x n Q' e a w:=by
 obtain⟨ρ,⟨h1,h2⟩|⟨h1,h2,h3,D,c,d,f⟩⟩:=h;exact⟨ρ,.inl ⟨h1,b _ _ _ h2⟩⟩;exact⟨ρ,.inr ⟨h1,h2,h3,D,c,d,b _ _ _ f⟩⟩
def IE{a}(h:rI x n Q .normal a w):∃ρ,gp x.ds n ρ a/\Q .normal ρ w:=by
 obtain⟨ρ,h|⟨h,_⟩⟩:=h;exact⟨ρ,h⟩;cases h
def Av{c Q'}(b:∀e ρ w,Q e ρ w->Q' e ρ w)(h:dw (x:=x) P n c Q ρ w):dw (x:=x) P n c Q' ρ w:=
 fun a d=>wpIn_mono (h a d) fun _ _ _ h=>Td b h
def zW(h:Q .normal ρ w):dw (x:=x) P n .skip Q ρ w:=fun _ a=>wpIn_skip ⟨ρ,.inl ⟨a,h⟩⟩
def GI(h:Q .ret ρ w):dw (x:=x) P n .ret Q ρ w:=fun _ a=>wpIn_ret ⟨ρ,.inl ⟨a,h⟩⟩
def tQ{id}(h:Q (.exit id) ρ w):dw (x:=x) P n (.exit id) Q ρ w:=fun _ a=>wpIn_exit ⟨ρ,.inl ⟨a,h⟩⟩
def Im{l}(h:Q .normal ρ w):dw (x:=x) P n (.label l) Q ρ w:=fun _ a=>wpIn_label ⟨ρ,.inl ⟨a,h⟩⟩
def zK{c y}(h:dw (x:=x) P n c (pP (fun ρ w=>dw (x:=x) P n y Q ρ w) Q) ρ w):dw (x:=x) P n (.seq c y) Q ρ w:=fun a d =>
 wpIn_seq (wpIn_mono (h a d) (fun e a w b=>by
  cases e with
  |normal=>have⟨g,hr,f⟩:=IE b;exact f a hr
  |_=>exact b))
def Js{c y}(J)(b:∀ρ w,J ρ w->dw (x:=x) P n y Q ρ w)(h:dw (x:=x) P n c (pP J Q) ρ w):dw (x:=x) P n (.seq c y) Q ρ w:=
 zK<|Av (fun e ρ w a=>by cases e<;>first|exact b _ _ a|exact a) h
def zp{c y z t}(e:bw ρ c=.bool t)(ht:t=true->dw (x:=x) P n y Q ρ w)(d:t=false->dw (x:=x) P n z Q ρ w):dw (x:=x) P n (.cond c y z) Q ρ w:=
 fun a b=>wpIn_cond_split (by rw[b.eval];exact e) (fun h=>ht h a b) fun h=>d h a b
def Uw{c y z}(d:bw ρ c=.bool true)(h:dw (x:=x) P n y Q ρ w):dw (x:=x) P n (.cond c y z) Q ρ w:=
 fun a b=>wpIn_cond_true (by rw[b.eval];exact d) (h a b)
def jYO{c y z}(d:bw ρ c=.bool false)(h:dw (x:=x) P n z Q ρ w):dw (x:=x) P n (.cond c y z) Q ρ w:=
 fun a b=>wpIn_cond_false (by rw[b.eval];exact d) (h a b)
def vP{id c}(h:dw (x:=x) P n c (tm id Q) ρ w):dw (x:=x) P n (.block id c) Q ρ w:=fun a g =>
 wpIn_block (wpIn_mono (h a g) (fun e a w d=>by
  cases e with
  |exit i =>
   obtain⟨f,⟨hr,b⟩|⟨h,_⟩⟩:=d
   simp only[tm]at b
   simp only[Exit.inBlock]
   split
   rename_i h;rw[if_pos h]at b;exact⟨f,.inl ⟨hr,b⟩⟩
   rename_i h;rw[if_neg h]at b;exact⟨f,.inl ⟨hr,b⟩⟩
   cases h
  |_=>exact d))
def GA{c}(i:x.ro=none)(f:∀l ρ w,¬Q (.goto l) ρ w)(h:dw (x:=x) P n c Q ρ w):dw (x:=x) P n (.scope c) Q ρ w:=fun a d=>by
 have h:=h a d;rw[i]at h|-;refine wpIn_wide.2<|wp_scope_straight<|Code.wp_mono (fun e a w b=>?_)<|wpIn_wide.1 h;cases e with
 |goto l =>
  obtain⟨g,⟨_,j⟩|⟨h,_⟩⟩:=b
  exact(f l g w j).elim
  cases h
 |_=>exact b
def vn{c}{σ:Type}(I:σ->bg->World->Prop)(μ:σ->Nat)(s0:σ)(A:I s0 ρ w)(h:∀s ρ w,I s ρ w->dw (x:=x) P n c (pP (fun G w'=>∃s',I s' G w'/\μ s'<μ s) Q) ρ w):dw (x:=x) P n (.loop c) Q ρ w:=by
 intro a z b k cs q u f;have key:∀m s ρ a w,μ s=m->gp x.ds n ρ a->I s ρ w->∃e o w',rI x n Q e o w'/\ArrivesIn (Machine.fenced P<|jt x.ro) P (lone (b.atR a (.code c ::.inLoop c ::k)) cs w) b k cs e o w':=by
  intro m;induction m using Nat.strongRecOn with
  |_ m E =>
   intro s ρ a w hm hr F
   have⟨e,a1,j,i,d⟩:=h s ρ w F a hr b (.inLoop c ::k) cs q u f
   cases e with
   |normal =>
    have⟨C,v,s',t,p⟩:=IE i
    have⟨y,a2,B,r,g⟩:=E (μ s') (hm▸p) s' C a1 j rfl v t
    exact⟨y,a2,B,r,.of_steps (StepsIn.trans d<|.one (fenced_calm u f rfl) stepR_inLoop) g⟩
   |exit id=>exact⟨_,a1,j,i,.pass (x:=.inLoop c) rfl (fun _ _=>.inl Sm) d⟩
   |goto l=>exact⟨_,a1,j,i,.pass (x:=.inLoop c) rfl (fun _ _=>.inl Sm) d⟩
   |ret=>exact⟨_,a1,j,i,.pass (x:=.inLoop c) rfl (fun _ _=>.inl Sm) d⟩
   |panic H=>exact⟨_,a1,j,i,.pass (x:=.inLoop c) rfl (fun _ _=>.inl Sm) d⟩
   |outgrown=>exact⟨_,a1,j,i,.pass (x:=.inLoop c) rfl (fun _ _=>.inl Sm) d⟩
 have⟨e,o,w',D,d⟩:=key _ s0 ρ a w rfl z A;exact⟨e,o,w',D,.of_steps (.one (fenced_calm u f rfl) stepR_loop) d⟩
def bu(P:Program)(ops:Array Oper)(Q:bg->World->Prop):List Oper->bg->World->Prop
 |[],ρ,w=>Q ρ w
 |o :: a,ρ,w =>
  if Region.wanted o (zJ ops ρ)then mr P o (bw ρ) w fun v w'=>bu P ops Q a (put ρ o.dst v) w'
  else bu P ops Q a (put ρ o.dst undef) w
def tO(n:Nat)(l:List Oper):Bool:=l.all fun o=>match o.dst with|some d=>d<n|none=>true
def Oq{o l}(h:tO n (o ::l)=true):(∀k,o.dst=some k->k<n)/\tO n l=true:=by
 simp only[tO,List.all_cons,Bool.and_eq_true]at h;refine⟨fun k a=>?_,h.2⟩;have:=h.1;rw[a]at this;simpa using this
def IV{ops Q'}(c:∀ρ a w,gp x.ds n ρ a->Q' ρ w->rI x n Q .normal a w):∀(l:List Oper) (ρ:bg) (a:Act) (w:World),tO n l=true->gp x.ds n ρ a->bu P ops Q' l ρ w->wpListIn (jt x.ro) 0 P ops (rI x n Q) l a w
 |[],ρ,a,w,_,hr,h=>c _ _ _ hr h
 |o :: l,ρ,a,w,g,hr,h=>by
  have⟨e,b⟩:=Oq g;unfold bu at h;unfold wpListIn;rw[hr.yielded];split;rename_i d;rw[if_pos d]at h;apply MS;rw[hr.eval];exact tP h fun v w' hh=>IV c l _ _ _ b (hr.put e v) hh;rename_i d;rw[if_neg d]at h;exact⟨fun f _=>AN x.ro f,IV c l _ _ _ b (hr.put e undef) h⟩
def OV{id l}(b:tO n l=true)(h:bu P l.toArray (fun ρ w=>Q .normal ρ w) l ρ w):dw (x:=x) P n (.region id l.toArray false) Q ρ w:=fun a d =>
 wpIn_region_lit<|IV (fun e _ _ hr c=>⟨e,.inl ⟨hr,c⟩⟩) l ρ a w b d h
def fg(P:Program)(ops:Array Oper)(C:World->Prop)(loud free:Nat->Bool)(i:Nat)(K:bg->World->Prop)(ρ:bg)(w:World):Prop:=
 match ops[i]? with
 |none=>K ρ w
 |some o =>
  if Region.wanted o (zJ ops ρ)then
   (if loud i then mr P o (bw ρ) w fun v w'=>(free i=true\/C w')/\K (put ρ o.dst v) w'
   else ∃v,((sI .any ops loud i=true/\qy P o (bw ρ) w v)\/∀w',C w'->qy P o (bw ρ) w' v)/\K (put ρ o.dst v) w)
  else K (put ρ o.dst undef) w
def ft(P:Program)(ops:Array Oper)(C:World->Prop)(loud free:Nat->Bool)(Q:bg->World->Prop):Nat->Array Bool->bg->World->Prop
 |0,a,ρ,w=>Region.ready .any ops a=[]/\Q ρ w
 |fuel+1,a,ρ,w =>
  (∃i,i∈Region.ready .any ops a/\loud i=false/\Region.free .any ops a i=true/\fg P ops C loud free i (ft P ops C loud free Q fuel<|a.setIfInBounds i true) ρ w) \/
  ((Region.ready .any ops a=[]->Q ρ w)/\∀i∈Region.ready .any ops a,fg P ops C loud free i (ft P ops C loud free Q fuel<|a.setIfInBounds i true) ρ w)
def KJ{ds:List Deferred}{ops:Array Oper}{C:World->Prop}{loud free:Nat->Bool}{i:Nat}{K:bg->World->Prop}{g:Act->World->Prop}(b:∀ρ a w,gp ds n ρ a->K ρ w->g a w)(j:∀o,ops[i]?=some o->∀k,o.dst=some k->k<n){a:Act}(hr:gp ds n ρ a)(h:fg P ops C loud free i K ρ w):py .any P ops C loud free i g a w:=by
 unfold fg at h;unfold py;cases f:ops[i]? with
 |none=>rw[f]at h;exact b _ _ _ hr h
 |some o =>
  rw[f]at h
  have e:=j o f
  simp only at h|-
  rw[hr.yielded]
  split
  rename_i d
  rw[if_pos d]at h
  rw[hr.eval]
  split
  rename_i c
  rw[if_pos c]at h
  exact tP h fun v w' ⟨l,hh⟩=>⟨l,b _ _ _ (hr.put e v) hh⟩
  rename_i c
  rw[if_neg c]at h
  have⟨v,h1,h2⟩:=h
  exact⟨v,h1,b _ _ _ (hr.put e v) h2⟩
  rename_i d
  rw[if_neg d]at h
  exact b _ _ _ (hr.put e undef) h
def HP{ds:List Deferred}{ops C}{loud free:Nat->Bool}{Q'}{c:Act->World->Prop}(f:∀ρ a w,gp ds n ρ a->Q' ρ w->c a w)(d:∀(i:Nat) (o:Oper),ops[i]?=some o->∀k,o.dst=some k->k<n):∀(fuel:Nat) (b:Array Bool) (ρ:bg) (a:Act) (w:World),gp ds n ρ a->ft P ops C loud free Q' fuel b ρ w->An P .any ops C loud free c fuel b a w
 |0,_,_,_,_,hr,h=>⟨h.1,f _ _ _ hr h.2⟩
 |fuel+1,b,ρ,a,w,hr,h=>by
  rcases h with⟨i,h1,h2,h3,g⟩|⟨j,h⟩;exact .inl ⟨i,h1,h2,h3,KJ (fun ρ a w hr h=>HP f d fuel _ ρ a w hr h) (d i) hr g⟩;exact .inr ⟨fun e=>f _ _ _ hr<|j e,fun i hi=>KJ (fun ρ a w hr h=>HP f d fuel _ ρ a w hr h) (d i) hr<|h i hi⟩
def vX(l:List Nat)(k:Nat):Bool:=l.contains k
def jXH{l}(h:tO n l=true)(i:Nat)(o)(b:l.toArray[i]?=some o)(k:Nat)(a:o.dst=some k):k<n:=by
 have hm:o∈l:=Gd;have:=(List.all_eq_true.1 h) o hm;rw[a]at this;simpa using this
def IH{id l}(C loud free)(hm:P.follows .mixedOrders=true)(c:tO n l=true)(hB:Region.noSelect l.toArray=true)(b:xt .any l.toArray (vX loud) (vX free)=true)(f:C { w with drawn:=w.drawn+1 })(h:ft P l.toArray C (vX loud) (vX free) (fun ρ w=>Q .normal ρ w) l.toArray.size (Array.replicate l.toArray.size false) ρ { w with drawn:=w.drawn+1 }):dw (x:=x) P n (.region id l.toArray true) Q ρ w:=fun a d =>
 VO C (vX loud) (vX free) hm hB b f<|HP (fun e _ _ hr g=>⟨e,.inl ⟨hr,g⟩⟩) (jXH c) _ _ ρ a _ d h
def qz(P:Program)(fn:Func)(n:Nat)(R:Ending->World->Prop):Exit->bg->World->Prop
 |.normal,ρ,w|.ret,ρ,w=>∃v,(∀ds a,gp ds n ρ a->(results fn a.tmps).run P w=.ok v w)/\R (.returned v) w
 |_,_,_=>False
def D0{n}(args)(a:args.length<=n):gp [] n (xG args) { tmps:=args.toArray++Array.replicate (n-args.toArray.size) undef,defers:=[] }:=by
 refine⟨rfl,So,fun t=>?_⟩;simp only[xG,Array.getD_eq_getD_getElem?,List.getD_eq_getElem?_getD];by_cases h:t<args.length;rw[Array.getElem?_append_left<|by simpa using h];simp;rw[Array.getElem?_append_right<|by simpa using h];simp only[Array.getElem?_replicate];have:args[t]?=none:=by simpa using h
 rw[this];split<;>simp
def za{fn tmps R v}(b:(results fn tmps).run P w=.ok v w)(a:R (.returned v) w):LeavesInM Fence.wide 0 P fn tmps R [] .returning w:=by
 exact⟨_,b,a⟩
def Jd{f fn c args R}(k:P.funcs[f]?=some fn)(o:fn.body=some c)(m:fn.ntmps=n)(j:args.length<=n)(h:dw (x:=⟨none,[]⟩) P n c (qz P fn n R) (xG args) w):Calls P f args.toArray w R:=by
 subst m;refine callsIn_wide.1<|callsIn_of_wp_marks (n:=0) k o trivial ?_;refine wpIn_mono (h _<|D0 args j) ?_;rintro e a w' ⟨p,⟨hr,b⟩|⟨rfl,_,_,D,hr,l,b⟩⟩;have i:a.defers=[]:=hr.defers;cases e with
 |normal=>have⟨v,d,g⟩:=b;simp only[bodyPostM,i];exact za (d _ a hr) g
 |ret=>have⟨v,d,g⟩:=b;simp only[bodyPostM,i];exact za (d _ a hr) g
 |exit _=>exact b.elim
 |goto _=>exact b.elim
 |panic _=>exact b.elim
 |outgrown=>exact b.elim
 have⟨v,d,g⟩:=b;have i:a.defers=[mark D]:=hr.defers;simp only[bodyPostM,i];exact⟨Sm,.inl ⟨D,_,rfl,run_takeDeferred l,za (d _ a hr) g⟩⟩
def Vh{fn t v R e}(d:e=.ret\/e=.normal)(hr:fn.results=#[.tmp t])(b:ρ t=v)(h:R (.returned v) w):qz P fn n R e ρ w:=by
 rcases d with rfl|rfl<;>exact⟨v,fun _ a c=>by rw[results_tmp hr,c.get,b],h⟩
def wV{fn R e}(b:e=.ret\/e=.normal)(hr:fn.results=#[])(h:R (.returned<|.tuple #[]) w):qz P fn n R e ρ w:=by
 rcases b with rfl|rfl<;>exact⟨_,fun _ a _=>by rw[results_none hr],h⟩
def Jp{fn t u v v' R e}(f:e=.ret\/e=.normal)(hr:fn.results=#[.tmp t,.tmp u])(d:ρ t=v)(b:ρ u=v')(h:R (.returned<|.tuple #[v,v']) w):qz P fn n R e ρ w:=by
 rcases f with rfl|rfl<;>exact⟨_,fun _ a c=>by rw[results_tmp2 hr,c.get,c.get,d,b],h⟩
def jOX{fn}{ts:List Nat}(hr:fn.results=(ts.map ResultVar.tmp).toArray)(tmps)(a:ts.length≠1):(results fn tmps).run P w=.ok (.tuple (ts.map fun t=>tmps.getD t undef).toArray) w:=by
 have key:∀(f:ResultVar->Sem Value),(∀t,f (.tmp t)=pure (tmps.getD t undef))->∀(l:List Nat) (w:World),((l.map ResultVar.tmp).mapM f).run P w=.ok (l.map fun t=>tmps.getD t undef) w:=by
  intro f b l;induction l with
  |nil=>intro w;rfl
  |cons t l c=>intro w;rw[List.map_cons,List.mapM_cons,b];simp only[Sem.run_bind,Sem.run_pure,Result.andThen,c w,List.map_cons]
 unfold results;rw[hr,List.mapM_toArray];rw[Sem.run_bind,Sem.run_map,key _ fun _=>rfl];simp only[Result.andThen,Sem.run_pure];simp[a]
def BR{fn}{t u s:Nat}{v v' v'' R e}(g:e=.ret\/e=.normal)(hr:fn.results=#[.tmp t,.tmp u,.tmp s])(f:ρ t=v)(c:ρ u=v')(b:ρ s=v'')(h:R (.returned<|.tuple #[v,v',v'']) w):qz P fn n R e ρ w:=by
 rcases g with rfl|rfl<;>exact⟨_,fun _ a d=>by rw[jOX (ts:=[t,u,s]) hr _ Sm];simp only[List.map_cons,List.map_nil,d.get,f,c,b],h⟩
end
end Go.SE
end
section
namespace Go.SE
structure Sl where
 a:Option Addr
 len:Nat
 cap:Nat
def Sl.v(s:Sl):Value:=.slice s.a s.len s.cap
def Sl.nil:Sl:=⟨none,0,0⟩
def Br(c:Bool)(A B:Prop):Prop:=(c=true->A)/\(c=false->B)
def Row(w:World)(a:Addr)(vs:List Value):Prop:=∀i,i<vs.length->w.cell? (a.add i)=vs[i]?
def zL(w:World)(a:Addr):Prop:=(∃u,w.cell? a=some u)/\w.frozen? a=false
def pN(w:World)(a:Addr):Nat->List Value->World
 |_,[]=>w
 |i,v :: vs=>pN (w.setCell (a.add i) v) a (i+1) vs
def bb(w:World)(a:Addr)(vs:List Value):World:=pN w a 0 vs
def vG:Value->Bool
 |.agg _|.tuple _=>false
 |_=>true
section layers
variable {next:bg->World->Prop} {Q:Exit->bg->World->Prop} {ρ:bg} {w:World} {id id':Nat}
def yZ(h:next ρ w):pP next Q .normal ρ w:=h
def qv(h:Q (.exit id) ρ w):pP next Q (.exit id) ρ w:=h
def l0(h:Q .ret ρ w):pP next Q .ret ρ w:=h
def pO(h:Q .normal ρ w):tm id Q .normal ρ w:=h
def rJ(h:Q .ret ρ w):tm id Q .ret ρ w:=h
def wU(h:Q .normal ρ w):tm id Q (.exit id) ρ w:=by simpa[tm]using h
def K5(a:(id'==id)=false)(h:Q (.exit id') ρ w):tm id Q (.exit id') ρ w:=by
 have:¬id'=id:=by simpa using a
 simpa[tm,this]using h
end layers
section
variable {P:Program} {ops:Array Oper} {Q:bg->World->Prop} {ρ:bg} {w w':World} {rest:List Oper} {o:Oper} {v:Value}
def vJ(h:Q ρ w):bu P ops Q [] ρ w:=h
def yE{j d:Nat}{c t:Bool}(a:(ops[j]?).bind (·.dst)=some d)(b:ρ d=.bool c)(e:c=t):zJ ops ρ j=some t:=by
 unfold zJ;rw[a];simp only[b,e]
def qC{y:Nat->Option Bool}(a:o.guard=none):Region.wanted o y=true:=by simp[Region.wanted,a]
def HY{y:Nat->Option Bool}{j t}(b:o.guard=some (j,t))(a:y j=some t):Region.wanted o y=true:=by simp[Region.wanted,b,a]
def MY{y:Nat->Option Bool}{j t u}(c:o.guard=some (j,t))(b:y j=some u)(a:(u==t)=false):Region.wanted o y=false:=by
 have:¬u=t:=by simpa using a
 simp[Region.wanted,c,b,this]
def st(a:Region.wanted o (zJ ops ρ)=true)(hr:(execOp (bw ρ) o).run P w=.ok (.value v) w')(h:bu P ops Q rest (put ρ o.dst v) w'):bu P ops Q (o ::rest) ρ w:=by
 unfold bu;rw[if_pos a];unfold mr;rw[hr];exact h
def fe(a:Region.wanted o (zJ ops ρ)=true)(hr:(execOp (bw ρ) o).run P w=.ok (.value v) w)(h:bu P ops Q rest (put ρ o.dst v) w):bu P ops Q (o ::rest) ρ w:=st a hr h
def wx(a:Region.wanted o (zJ ops ρ)=true)(hr:(execOp (bw ρ) o).run P w=.ok .skip w')(h:bu P ops Q rest (put ρ o.dst undef) w'):bu P ops Q (o ::rest) ρ w:=by
 unfold bu;rw[if_pos a];unfold mr;rw[hr];exact h
def Ej(a:Region.wanted o (zJ ops ρ)=false)(h:bu P ops Q rest (put ρ o.dst undef) w):bu P ops Q (o ::rest) ρ w:=by
 unfold bu;rw[if_neg (by rw[a];simp)];exact h
def Hc{f args}(b:Region.wanted o (zJ ops ρ)=true)(hr:(execOp (bw ρ) o).run P w=.ok (.enter f args) w')(h:Calls P f args w' fun e a=>∃v,e=.returned v/\bu P ops Q rest (put ρ o.dst v) a):bu P ops Q (o ::rest) ρ w:=by
 unfold bu;rw[if_pos b];unfold mr;rw[hr];exact h
variable {C:World->Prop} {loud free:Nat->Bool} {k fuel:Nat} {listed:Array Bool}
def Ot(a:Region.ready .any ops listed=[])(h:Q ρ w):ft P ops C loud free Q 0 listed ρ w:=⟨a,h⟩
def zx(ops:Array Oper)(listed:Array Bool)(loud:Nat->Bool)(k:Nat):Bool:=(Region.ready .any ops listed).contains k&&!loud k&&Region.free .any ops listed k
def DS(a:zx ops listed loud k=true)(h:fg P ops C loud free k (ft P ops C loud free Q fuel<|listed.setIfInBounds k true) ρ w):ft P ops C loud free Q (fuel+1) listed ρ w:=by
 simp only[zx,Bool.and_eq_true,Bool.not_eq_true']at a;exact .inl ⟨k,by simpa using a.1.1,a.1.2,a.2,h⟩
def LF(hr:Region.ready .any ops listed=[k])(h:fg P ops C loud free k (ft P ops C loud free Q fuel<|listed.setIfInBounds k true) ρ w):ft P ops C loud free Q (fuel+1) listed ρ w:=
 .inr ⟨Gd,fun i hi=>by rw[hr]at hi;simp at hi;subst hi;exact h⟩
variable {K:bg->World->Prop}
def sx(b:ops[k]?=some o)(c:Region.wanted o (zJ ops ρ)=true)(d:loud k=false)(hr:∀w',C w'->(execOp (bw ρ) o).run P w'=.ok (.value v) w')(h:K (put ρ o.dst v) w):fg P ops C loud free k K ρ w:=by
 unfold fg;rw[b];simp only;rw[if_pos c,if_neg (by rw[d];simp)];exact⟨v,.inr fun w' a=>by unfold qy;rw[hr w' a];exact⟨rfl,rfl⟩,h⟩
def OT(a:ops[k]?=some o)(b:Region.wanted o (zJ ops ρ)=true)(c:loud k=false)(d:sI .any ops loud k=true)(hr:(execOp (bw ρ) o).run P w=.ok (.value v) w)(h:K (put ρ o.dst v) w):fg P ops C loud free k K ρ w:=by
 unfold fg;rw[a];simp only;rw[if_pos b,if_neg (by rw[c];simp)];exact⟨v,.inl ⟨d,by unfold qy;rw[hr];exact⟨rfl,rfl⟩⟩,h⟩
def Yn(a:ops[k]?=some o)(b:Region.wanted o (zJ ops ρ)=false)(h:K (put ρ o.dst undef) w):fg P ops C loud free k K ρ w:=by
 unfold fg;rw[a];simp only;rw[if_neg (by rw[b];simp)];exact h
def sl(b:ops[k]?=some o)(c:Region.wanted o (zJ ops ρ)=true)(d:loud k=true)(hr:(execOp (bw ρ) o).run P w=.ok (.value v) w')(a:free k=true\/C w')(h:K (put ρ o.dst v) w'):fg P ops C loud free k K ρ w:=by
 unfold fg;rw[b];simp only;rw[if_pos c,if_pos d];unfold mr;rw[hr];exact⟨a,h⟩
def Kz(b:ops[k]?=some o)(c:Region.wanted o (zJ ops ρ)=true)(d:loud k=true)(hr:(execOp (bw ρ) o).run P w=.ok .skip w')(a:free k=true\/C w')(h:K (put ρ o.dst undef) w'):fg P ops C loud free k K ρ w:=by
 unfold fg;rw[b];simp only;rw[if_pos c,if_pos d];unfold mr;rw[hr];exact⟨a,h⟩
def zHE{f args}(b:ops[k]?=some o)(c:Region.wanted o (zJ ops ρ)=true)(d:loud k=true)(hr:(execOp (bw ρ) o).run P w=.ok (.enter f args) w')(h:Calls P f args w' fun e a=>∃v,e=.returned v/\(free k=true\/C a)/\K (put ρ o.dst v) a):fg P ops C loud free k K ρ w:=by
 unfold fg;rw[b];simp only;rw[if_pos c,if_pos d];unfold mr;rw[hr];exact h
end
section
variable {P:Program} {ε:Operand->Value} {w w':World} {d:Option Tmp} {ty:TypeId} {pos:String} {aft:Array Edge} {g:Option (Nat×Bool)}
def JG{o}{s:Sem Value}{v}(a:execOp ε o=(do pure (.value (<-s))))(hs:s.run P w=.ok v w'):(execOp ε o).run P w=.ok (.value v) w':=by
 rw[a];simp[hs]
def jcj{o}{s:Sem Unit}(a:execOp ε o=(do s;pure .skip))(hs:s.run P w=.ok () w'):(execOp ε o).run P w=.ok .skip w':=by
 rw[a];simp[hs]
def tC{T x a v}(b:ε x=.pointer (some a))(c:(isAgg T).run P w=.ok false w)(e:w.cell? a=some v):
  (execOp ε ⟨d,.load T x,ty,pos,aft,g⟩).run P w=.ok (.value v) w:=by
 simp[execOp,Instr.loadAt,Instr.sureAddr,b,loadVar,c,e]
def Nx(a:Addr)(vs:List Value):∀(n i:Nat) (b:Array Value),i+n=vs.length->(∀j,i<=j->j<vs.length->w.cell? (a.add j)=vs[j]?)->(loadCellsFrom a i n b).run P w=.ok (b++(vs.drop i).toArray) w:=by
 intro n;induction n with
 | zero => intro i b hi _; have : vs.drop i = []:=by simp; omega
           simp[loadCellsFrom,this]
 |succ n e =>
  intro i b hi h
  have c:i<vs.length:=Om
  have d:=h i (Nat.le_refl _) c
  rw[List.getElem?_eq_getElem c]at d
  have:=e (i+1) (b.push vs[i]) Om Gd
  simp only[loadCellsFrom,Sem.run_bind,run_load,d,Result.andThen_ok,this]
  rw[List.drop_eq_getElem_cons c]
  congr 1
  apply Array.ext'
  simp
def HX{T x a}{n:Nat}{vs}(e:ε x=.pointer (some a))(c:(isAgg T).run P w=.ok true w)(hs:(sizeOf T).run P w=.ok n w)(h:vs.length=n)(b:Row w a vs):
  (execOp ε ⟨d,.load T x,ty,pos,aft,g⟩).run P w=.ok (.value<|.agg vs.toArray) w:=by
 have:=Nx (P:=P) (w:=w) a vs n 0 #[] Om fun j _ f=>b j f
 simp[execOp,Instr.loadAt,Instr.sureAddr,e,loadVar,c,hs,loadCells,this]
def KT{a v}(h1:vG v=true)(d:zL w a):(store a v).run P w=.ok () (w.setCell a v):=by
 have⟨⟨u,b⟩,c⟩:=d;cases v<;>simp[vG]at h1<;>simp[store,Sem.run,b,c]
def sX{T x y a v}(f:ε x=.pointer (some a))(e:ε y=v)(h1:vG v=true)(hs:(sizeOf T).run P w=.ok 1 w)(h:zL w a):
  (execOp ε ⟨d,.store T x y,ty,pos,aft,g⟩).run P w=.ok .skip (w.setCell a v):=by
 have b:v.cells=#[v]:=by cases v<;>simp[vG]at h1<;>rfl
 have c:a.add 0=a:=by simp[Addr.add]
 simp[execOp,Instr.storeAt,Instr.sureAddr,f,e,storeVar,hs,b,storeCells,c,KT h1 h]
def cell?Yl{w:World}{p q:Addr}{x v:Value}(h:w.cell? q=some v):∃v',(w.setCell p x).cell? q=some v':=by
 unfold World.cell? at h|-;unfold World.setCell;simp only[Array.getElem?_modify];by_cases d:p.block=q.block;rw[if_pos d];split at h;rename_i c e f g;rw[g];by_cases hs:q.spot.isSome;simp[hs]at h;simp only[hs,Bool.false_eq_true,if_false]at h;simp only[Option.map_some,hs,Bool.false_eq_true,if_false];by_cases a:p.spot.isSome;grind;simp only[a,Bool.false_eq_true,if_false,Array.getElem?_setIfInBounds];have b:=(Array.getElem?_eq_some_iff.1 h).1;split;grind;exact⟨v,h⟩;cases h;grind
def zL.setCell{w a b u}(h:zL w a):zL (w.setCell b u) a:=
 ⟨let ⟨_,hx⟩:=h.1;cell?Yl hx,by rw[World.frozen?_setCell];exact h.2⟩
def N4(a):∀(vs:List Value) (i:Nat) (w:World),(∀v∈vs,vG v=true)->(∀j,j<vs.length->zL w (a.add<|i+j))->(storeCells a vs i).run P w=.ok () (pN w a i vs):=by
 intro vs;induction vs with
 |nil=>intro i w _ _;rfl
 |cons v vs f =>
  intro i w h1 c
  have d:zL w (a.add i):=by simpa using c 0 Sm
  have hr:=KT (P:=P) (h1 v Sm) d
  have:=f (i+1) (w.setCell (a.add i) v) Gd (fun j e=>by
   have:=(c (j+1)<|by simpa using e).setCell (b:=a.add i) (u:=v);rwa [show i+(j+1)=i+1+j by omega]at this)
  simp[storeCells,hr,this,pN]
def AO{T x y a n vs}(c:ε x=.pointer (some a))(b:ε y=.agg vs.toArray)(h1:vs.all vG=true)(hs:(sizeOf T).run P w=.ok n w)(e:vs.length=n)(f:∀j,j<vs.length->zL w (a.add j)):
  (execOp ε ⟨d,.store T x y,ty,pos,aft,g⟩).run P w=.ok .skip (bb w a vs):=by
 have:=N4 (P:=P) a vs 0 w (by simpa using h1) (by simpa using f)
 simp[execOp,Instr.storeAt,Instr.sureAddr,c,b,storeVar,hs,Value.cells,e,this,bb]
def uA{T z cs}(a:(zeroValue T).run P w=.ok z w)(b:z.cells=cs):
  (execOp ε ⟨d,.alloc T,ty,pos,aft,g⟩).run P w=.ok (.value<|.pointer<|some ⟨w.heap.size,0,none⟩) (w.alloc<|.cells cs T):=by
 subst b
 simp[execOp,Instr.alloc,a,newVar,newRow]
def GQ{T x cs}(a:(ε x).cells=cs):
  (execOp ε ⟨d,.box T x,ty,pos,aft,g⟩).run P w=.ok (.value<|.pointer<|some ⟨w.heap.size,0,none⟩) (w.alloc<|.cells cs T):=by
 subst a
 simp[execOp,Instr.box,newVar,newRow]
def PE{c x y b v}(f:ε c=.bool b)(e:b=true)(a:ε x=v):(execOp ε ⟨d,.pick c x y,ty,pos,aft,g⟩).run P w=.ok (.value v) w:=by
 simp[execOp,f,e,a,asBool]
def Nt{c x y b v}(f:ε c=.bool b)(e:b=false)(a:ε y=v):(execOp ε ⟨d,.pick c x y,ty,pos,aft,g⟩).run P w=.ok (.value v) w:=by
 simp[execOp,f,e,a,asBool]
def IS{x p a}(c:ε x=.pointer p)(b:p=some a):(execOp ε ⟨d,.nilCheck x,ty,pos,aft,g⟩).run P w=.ok (.value<|.pointer<|some a) w:=by
 simp[execOp,c,b]
structure At(s:Sl)(i:Int)(size:Nat)(a:Addr):Prop where
 lo:0<=i
 hi:i<s.len
 at_:∃b,s.a=some b/\a=b.add (i.toNat*size)
def Jo{T E x ix s k i n a}(h:ε x=s.v)(hi:ε ix=.int k i)(e:(underlying T).run P w=.ok (.slice E) w)(hs:(sizeOf E).run P w=.ok n w)(c:At s i n a):
  (execOp ε ⟨d,.indexAddr T x ix,ty,pos,aft,g⟩).run P w=.ok (.value<|.pointer<|some a) w:=by
 obtain⟨f,h1,b,j,rfl⟩:=c
 simp[execOp,Instr.indexAt,h,hi,Sl.v,asIntOf,e,j,f,h1,hs]
def toList_inj{x y:ByteArray}(h:x.toList=y.toList):x=y:=by
 have e:∀z:ByteArray,z.toList=z.data.toList:=fun z=>ByteArray.toList_eq z;rw[e,e]at h;cases x;cases y;simpa using h
def y4(x y:ByteArray):(x.toList==y.toList)=decide (x=y):=by
 by_cases h:x=y;simp[h];have:¬x.toList=y.toList:=fun e=>h<|toList_inj e;simp[h,this]
def zGS{T f:TypeId}{a b:Operand}{x y:ByteArray}(e:ε a=.string x)(c:ε b=.string y):(execOp ε ⟨d,.binOp .eql T a b f,ty,pos,aft,g⟩).run P w=.ok (.value<|.bool<|decide (x=y)) w:=by
 simp[execOp,e,c,eqGuard,y4,go_sem]
def Pi{T f:TypeId}{a b:Operand}{x y:ByteArray}(e:ε a=.string x)(c:ε b=.string y):(execOp ε ⟨d,.binOp .neq T a b f,ty,pos,aft,g⟩).run P w=.ok (.value<|.bool<|!decide (x=y)) w:=by
 simp[execOp,e,c,eqGuard,y4,go_sem]
def Du{T T' E a b x}(h:ε a=.pointer x)(f:ε b=.pointer none)(c:P.underlying T=some (.pointer E)):(execOp ε ⟨d,.binOp .eql T a b T',ty,pos,aft,g⟩).run P w=.ok (.value<|.bool x.isNone) w:=by
 have e:P.pointee T=E:=by simp[Program.pointee,c]
 have:=run_eql_pointer_nil (P:=P) w T x (by rw[e];exact c);simp[execOp,h,f,eqGuard,this]
def zCI{T T' E a b x}(h:ε a=.pointer x)(f:ε b=.pointer none)(c:P.underlying T=some (.pointer E)):(execOp ε ⟨d,.binOp .neq T a b T',ty,pos,aft,g⟩).run P w=.ok (.value<|.bool<|!x.isNone) w:=by
 have e:P.pointee T=E:=by simp[Program.pointee,c]
 have:=run_neq_pointer_nil (P:=P) w T x (by rw[e];exact c);simp[execOp,h,f,eqGuard,this]
def zGV{op:BinOp}{T T' a b xs ys r}(e:ε a=.agg xs)(c:ε b=.agg ys)(hm:P.eqGuardType P.depth T=false)(hr:(Go.binOp op T (.agg xs)<|.agg ys).run P w=.ok (.bool r) w):
  (execOp ε ⟨d,.binOp op T a b T',ty,pos,aft,g⟩).run P w=.ok (.value<|.bool r) w:=by
 have:=run_eqGuard_agg (P:=P) w op T a b xs ys hm
 simp[execOp,e,c,this,hr]
def C6{op:BinOp}{T T' a b x y v}(f:ε a=x)(c:ε b=y)(e:(eqGuard op T a b x y).run P w=.ok () w)(hr:(Go.binOp op T x y).run P w=.ok v w):
  (execOp ε ⟨d,.binOp op T a b T',ty,pos,aft,g⟩).run P w=.ok (.value v) w:=by
 simp[execOp,f,c,e,hr]
def N5{f x}{c:List Operand}{ts:Array TypeId}{caps args args'}(a:ε x=.func (.func f) #[] caps)(e:∀args w,(callFunc f args).run P w=.ok (.enter f args) w)(b:(c.map ε).toArray=args)(h:args++caps=args'):
  (execOp ε ⟨d,.call ⟨.value x,c.toArray,ts⟩,ty,pos,aft,g⟩).run P w=.ok (.enter f args') w:=by
 subst h;subst b
 simp[execOp,resolve,a,Deferred.ofValue,invoke,e]
def Wu{f}{c:List Operand}{ts:Array TypeId}{args}(b:∀args w,(callFunc f args).run P w=.ok (.enter f args) w)(a:(c.map ε).toArray=args):
  (execOp ε ⟨d,.call ⟨.value<|.func f,c.toArray,ts⟩,ty,pos,aft,g⟩).run P w=.ok (.enter f args) w\/ε (.func f)≠.func (.func f) #[] #[]:=by
 by_cases h:ε (.func f)=.func (.func f) #[] #[]
 exact .inl<|N5 (caps:=#[]) h b a Sm
 exact .inr h
def Qr{ρ f}{c:List Operand}{ts:Array TypeId}{args}(b:∀args w,(callFunc f args).run P w=.ok (.enter f args) w)(a:(c.map<|bw ρ).toArray=args):
  (execOp (bw ρ) ⟨d,.call ⟨.value<|.func f,c.toArray,ts⟩,ty,pos,aft,g⟩).run P w=.ok (.enter f args) w:=
 (Wu b a).resolve_right fun h=>h rfl
def BB{b:Builtin}{c:List Operand}{ts:Array TypeId}{args}{s:Sem Value}{v}(e:(c.map ε).toArray=args)(f:∀a,builtin b ts ty a args=(do pure (.value (<-s))))(hr:s.run P w=.ok v w'):
  (execOp ε ⟨d,.call ⟨.builtin b,c.toArray,ts⟩,ty,pos,aft,g⟩).run P w=.ok (.value v) w':=by
 subst e
 simp only[execOp,resolve,pure_bind,invoke,List.map_toArray,f]
 simp[hr]
def Dj{T x i ok m k v}(a:ε x=m)(hi:ε i=k)(hr:(Instr.lookup T m k ok).run P w=.ok v w):(execOp ε ⟨d,.lookup T x i ok,ty,pos,aft,g⟩).run P w=.ok (.value v) w:=by
 simp[execOp,a,hi,hr]
def JS{T x i y m k v}(b:ε x=m)(hi:ε i=k)(a:ε y=v)(hr:(Instr.mapUpdate T m k v).run P w=.ok () w'):(execOp ε ⟨d,.mapUpdate T x i y,ty,pos,aft,g⟩).run P w=.ok .skip w':=by
 simp[execOp,b,hi,a,hr]
def KY{T x y l c v}(b:ε x=l)(a:ε y=c)(hr:(Instr.makeSlice T l c).run P w=.ok v w'):(execOp ε ⟨d,.makeSlice T x y,ty,pos,aft,g⟩).run P w=.ok (.value v) w':=by
 simp[execOp,b,a,hr]
def SG{T x}{lo hi a:Option Operand}{s v}{l h m:Option Value}(b:ε x=s)(c:lo.map ε=l)(hh:hi.map ε=h)(hm:a.map ε=m)(hr:(Instr.sliceAt T s l h m).run P w=.ok v w):(execOp ε ⟨d,.slice T x lo hi a,ty,pos,aft,g⟩).run P w=.ok (.value v) w:=by
 simp only[execOp,b,c,hh,hm];simp[hr]
def jYH{S T x s v}(a:ε x=s)(hr:(convert S T s).run P w=.ok v w'):(execOp ε ⟨d,.convert S T x,ty,pos,aft,g⟩).run P w=.ok (.value v) w':=by
 simp[execOp,a,hr]
def LH{T n}{a:List (Nat×Operand)}{vs:Array (Nat×Value)}{v}(b:(a.map fun p=>(p.1,ε p.2)).toArray=vs)(hr:(Instr.buildSlice T n vs).run P w=.ok v w'):(execOp ε ⟨d,.buildSlice T n a.toArray,ty,pos,aft,g⟩).run P w=.ok (.value v) w':=by
 subst b;simp only[execOp,List.map_toArray];simp[hr]
end
end Go.SE
namespace Go.SE
def ed(ρ:bg)(l:List (Nat×Value)):Prop:=l.map (fun p=>ρ p.1)=l.map (·.2)
def ed.mk{ρ}{l:List (Nat×Value)}(h:l.map (fun p=>ρ p.1)=l.map (·.2)):ed ρ l:=h
def yA(ρ:bg):List (Nat×Value)->bg
 |[]=>ρ
 |(d,v) :: l=>rH (yA ρ l) d v
def uM{ρ}:∀{l:List (Nat×Value)},ed ρ l->yA ρ l=ρ
 |[],_=>rfl
 |(d,v) :: l,h=>by
  have a:ρ d=v/\l.map (fun p=>ρ p.1)=l.map (·.2):=by simpa[ed]using h
  have:=uM (ρ:=ρ) (l:=l) a.2;simp only[yA,this];funext i;simp only[rH];split;rename_i e;rw[e,a.1];rfl
section
variable {P:Program} {n:Nat} {Q:Exit->bg->World->Prop} {ρ:bg} {w w':World}
def qS{cx c}{l:List (Nat×Value)}(h:ed ρ l)(a:dw (x:=cx) P n c Q (yA ρ l) w):dw (x:=cx) P n c Q ρ w:=by rwa [uM h]at a
structure au(w:World)(o:Obj)(p:Addr)(w':World):Prop where
 at_:p=⟨w.heap.size,0,none⟩
 to:w'=w.alloc o
def ym{ops Q rest o O}(v:Addr->Value)(a:Region.wanted o (zJ ops ρ)=true)(hr:(execOp (bw ρ) o).run P w=.ok (.value<|v ⟨w.heap.size,0,none⟩) (w.alloc O))(h:∀p w',au w O p w'->bu P ops Q rest (put ρ o.dst<|v p) w'):bu P ops Q (o ::rest) ρ w:=
 st a hr<|h _ _ ⟨rfl,rfl⟩
def xj{ops Q rest o W}(a:Region.wanted o (zJ ops ρ)=true)(hr:(execOp (bw ρ) o).run P w=.ok .skip W)(h:∀w',w'=W->bu P ops Q rest (put ρ o.dst undef) w'):bu P ops Q (o ::rest) ρ w:=
 wx a hr<|h _ rfl
section
variable {ops:Array Oper} {C:World->Prop} {loud free:Nat->Bool} {k:Nat} {o:Oper} {K:bg->World->Prop}
def N8{O}(v:Addr->Value)(a:ops[k]?=some o)(b:Region.wanted o (zJ ops ρ)=true)(c:loud k=true)(hr:(execOp (bw ρ) o).run P w=.ok (.value<|v ⟨w.heap.size,0,none⟩) (w.alloc O))(h:∀p w',au w O p w'->(free k=true\/C w')/\K (put ρ o.dst<|v p) w'):fg P ops C loud free k K ρ w:=
 let hh:=h _ _ ⟨rfl,rfl⟩;sl a b c hr hh.1 hh.2
def HL{W}(a:ops[k]?=some o)(b:Region.wanted o (zJ ops ρ)=true)(c:loud k=true)(hr:(execOp (bw ρ) o).run P w=.ok .skip W)(h:∀w',w'=W->(free k=true\/C w')/\K (put ρ o.dst undef) w'):fg P ops C loud free k K ρ w:=
 let hh:=h _ rfl;Kz a b c hr hh.1 hh.2
def oz{W v}(a:ops[k]?=some o)(b:Region.wanted o (zJ ops ρ)=true)(c:loud k=false)(hr:(execOp (bw ρ) o).run P W=.ok (.value v) W)(h:K (put ρ o.dst v) w):fg P ops (fun x=>x=W) loud free k K ρ w:=
 sx a b c Gd h
end
def Eg{cx id l}(hm:P.follows .mixedOrders=true)(b:tO n l=true)(hB:Region.noSelect l.toArray=true)(a:xt .any l.toArray (vX []) (vX [])=true)(h:∀w',w'=w.drew->ft P l.toArray (fun x=>x=w') (vX []) (vX []) (fun ρ w=>Q .normal ρ w) l.length (Array.replicate l.length false) ρ w'):dw (x:=cx) P n (.region id l.toArray true) Q ρ w:=
 IH (fun x=>x=w.drew) [] [] hm b hB a rfl (by simpa using h _ rfl)
def G7{cx id l}(C loud free)(hm:P.follows .mixedOrders=true)(b:tO n l=true)(hB:Region.noSelect l.toArray=true)(a:xt .any l.toArray (vX loud) (vX free)=true)(c:C w.drew)(h:∀w',w'=w.drew->ft P l.toArray C (vX loud) (vX free) (fun ρ w=>Q .normal ρ w) l.length (Array.replicate l.length false) ρ w'):dw (x:=cx) P n (.region id l.toArray true) Q ρ w:=
 IH C loud free hm b hB a c (by simpa using h _ rfl)
end
end Go.SE
namespace Go.SE
section
variable {P:Program} {n:Nat} {ρ:bg} {w:World}
def RV(P:Program)(ρ:bg)(w:World):ResultVar->Value->Prop
 |.tmp t,v=>ρ t=v
 |.cell a t,v=>∃A,ρ a=.pointer (some A)/\(loadVar t A).run P w=.ok v w
def vx(P:Program)(ρ:bg)(w:World):List ResultVar->List Value->Prop
 |[],[]=>True
 |r :: rs,v :: vs=>RV P ρ w r v/\vx P ρ w rs vs
 |_,_=>False
def ZJ{T a}{n:Nat}{vs}(c:(isAgg T).run P w=.ok true w)(hs:(sizeOf T).run P w=.ok n w)(e:vs.length=n)(d:Row w a vs):(loadVar T a).run P w=.ok (.agg vs.toArray) w:=by
 have:=Nx (P:=P) (w:=w) a vs n 0 #[] Om fun j _ b=>d j b;simp[loadVar,c,hs,loadCells,this]
def YJ{T a v}(b:(isAgg T).run P w=.ok false w)(c:w.cell? a=some v):(loadVar T a).run P w=.ok v w:=by
 simp[loadVar,b,c]
def RV.Qz{a A T vs k}(c:ρ a=.pointer (some A))(d:(isAgg T).run P w=.ok true w)(hs:(sizeOf T).run P w=.ok k w)(b:vs.length=k)(e:Row w A vs):RV P ρ w (.cell a T) (.agg vs.toArray):=⟨A,c,ZJ d hs b e⟩
def RV.vj{a A T v}(b:ρ a=.pointer (some A))(c:(isAgg T).run P w=.ok false w)(d:w.cell? A=some v):RV P ρ w (.cell a T) v:=⟨A,b,YJ c d⟩
def Wn{fn}{rs:List ResultVar}{vs}(hr:fn.results=rs.toArray)(h:vx P ρ w rs vs){ds:List Deferred}{a}(c:gp ds n ρ a){v}(j:(if h:vs.toArray.size=1 then vs.toArray[0]else .tuple vs.toArray)=v):(results fn a.tmps).run P w=.ok v w:=by
 have key:∀(f:ResultVar->Sem Value),(∀t,f (.tmp t)=pure (a.tmps.getD t undef))->(∀x t,f (.cell x t)=(do loadVar t (<-asAddr (a.tmps.getD x undef))))->∀(rs:List ResultVar) (vs:List Value),vx P ρ w rs vs->(rs.mapM f).run P w=.ok vs w:=by
  intro f i b rs;induction rs with
  |nil=>intro vs h;cases vs<;>simp only[vx]at h;rfl
  |cons r rs g =>
   intro vs h
   cases vs with
   |nil=>simp only[vx]at h
   |cons v vs =>
    have⟨h1,h2⟩:=h
    have:(f r).run P w=.ok v w:=by
     cases r with
     |tmp t=>rw[i,c.get];simp only[RV]at h1;rw[h1];rfl
     |cell x t =>
      have⟨A,d,e⟩:=h1
      rw[b,c.get,d]
      simp only[Sem.run_bind,asAddr,Sem.run_pure,Result.andThen]
      exact e
    rw[List.mapM_cons]
    simp only[Sem.run_bind,Sem.run_pure,Result.andThen,this,g vs h2]
 unfold results;rw[hr,List.mapM_toArray,Sem.run_bind,Sem.run_map,key _ (fun _=>rfl) (fun _ _=>rfl) rs vs h];simp only[Result.andThen,Sem.run_pure];rw[<-j]
def Hq{fn}{rs:List ResultVar}{vs v R e}(f:e=.ret\/e=.normal)(hr:fn.results=rs.toArray)(h:vx P ρ w rs vs)(c:(if h:vs.toArray.size=1 then vs.toArray[0]else .tuple vs.toArray)=v)(b:R (.returned v) w):qz P fn n R e ρ w:=by
 rcases f with rfl|rfl<;>exact⟨v,fun _ a d=>Wn hr h d c,b⟩
end
section
variable {P:Program} {ε:Operand->Value} {w w':World} {d:Option Tmp} {ty:TypeId} {pos:String} {aft:Array Edge} {g:Option (Nat×Bool)}
def MT{f x}{c:List Operand}{ts:Array TypeId}{fs caps args args'}(a:ε x=.func (.func f) fs caps)(e:∀args w,(callFunc f args).run P w=.ok (.enter f args) w)(b:(c.map ε).toArray=args)(h:(fs++args)++caps=args'):
  (execOp ε ⟨d,.call ⟨.value x,c.toArray,ts⟩,ty,pos,aft,g⟩).run P w=.ok (.enter f args') w:=by
 subst h;subst b
 simp[execOp,resolve,a,Deferred.ofValue,invoke,e]
end
end Go.SE
namespace Go.SE
end Go.SE
namespace Go.SE
def ni{o:Oper}{l:List Oper}:(o ::l)[0]?=some o:=rfl
def yV{a o:Oper}{l:List Oper}{k:Nat}(h:l[k]?=some o):(a ::l)[k+1]?=some o:=by simpa using h
def od{o:Oper}{l:List Oper}{k:Nat}(h:l[k]?=some o):l.toArray[k]?=some o:=by simpa using h
end Go.SE
namespace Go.SE
def Is{P:Program}{ops:Array Oper}{Q:bg->World->Prop}{ρ:bg}{w:World}:∀(k:Nat) {l:List Oper} {ρ:bg} {w:World},bu P ops (fun ρ w=>bu P ops Q (l.drop k) ρ w) (l.take k) ρ w->bu P ops Q l ρ w
 |0,l,ρ,w,h=>by simpa[bu]using h
 |k+1,[],ρ,w,h=>by simpa[bu]using h
 |k+1,o :: l,ρ,w,h=>by
  simp only[List.take_succ_cons,List.drop_succ_cons]at h;unfold bu at h|-;split;rename_i a;rw[if_pos a]at h;exact tP h fun v w' hh=>Is (ρ:=ρ) (w:=w) k hh;rename_i a;rw[if_neg a]at h;exact Is (ρ:=ρ) (w:=w) k h
def Be{P ops Q Q'}(a:∀ρ w,Q ρ w->Q' ρ w):∀{l:List Oper} {ρ:bg} {w:World},bu P ops Q l ρ w->bu P ops Q' l ρ w
 |[],ρ,w,h=>by unfold bu at h|-;exact a _ _ h
 |o :: l,ρ,w,h=>by
  unfold bu at h|-;split;rename_i b;rw[if_pos b]at h;exact tP h fun v w' hh=>Be a hh;rename_i b;rw[if_neg b]at h;exact Be a h
end Go.SE
namespace Go.SE
section
variable {P:Program} {ε:Operand->Value} {w w':World} {d:Option Tmp} {ty:TypeId} {pos:String} {aft:Array Edge} {g:Option (Nat×Bool)}
def zCJ{f x}{c:List Operand}{ts:Array TypeId}{v fs caps args args'}(e:ε x=v)(h:v=.func (.func f) fs caps)(b:∀args w,(callFunc f args).run P w=.ok (.enter f args) w)(a:(c.map ε).toArray=args)(i:(fs++args)++caps=args'):
  (execOp ε ⟨d,.call ⟨.value x,c.toArray,ts⟩,ty,pos,aft,g⟩).run P w=.ok (.enter f args') w:=
 MT (e.trans h) b a i
end
end Go.SE
namespace Go.SE
section
variable {P:Program} {ε:Operand->Value} {w w':World} {d:Option Tmp} {ty:TypeId} {pos:String} {aft:Array Edge} {g:Option (Nat×Bool)}
end
end Go.SE
end
section
namespace Go.SE
def AL(w:World)(o:Obj)(i:Nat)(h:i<w.heap.size):(w.alloc o).heap[i]?=w.heap[i]?:=by
 show(w.heap.push o)[i]?=w.heap[i]?;rw[Array.getElem?_push,if_neg<|Nat.ne_of_lt h]
structure ab(F:Nat->Prop)(w w':World):Prop where
 os:w'.os=w.os
 tape:w'.tape=w.tape
 output:w'.output=w.output
 drawn:w.drawn<=w'.drawn
 size:w.heap.size<=w'.heap.size
 gq:∀b,b<w.heap.size->¬F b->w'.heap[b]?=w.heap[b]?
def ar(_:Nat):Prop:=False
abbrev Pure(w w':World):Prop:=ab ar w w'
def ab.refl{F}(w):ab F w w:=⟨rfl,rfl,rfl,Gd,Nat.le_refl _,fun _ _ _=>rfl⟩
def ab.cg{F G a b c}(h:ab F a b)(k:ab G b c)(f:∀i,i<a.heap.size->G i->F i):ab F a c:=
 ⟨k.os.trans h.os,k.tape.trans h.tape,k.output.trans h.output,(by first|exact Nat.le_trans h.drawn k.drawn|exact Nat.le_refl _),Nat.le_trans h.size k.size,fun i hi d=>(k.gq i (Nat.lt_of_lt_of_le hi h.size) fun e=>d<|f i hi e).trans (h.gq i hi d)⟩
def ab.trans{F a b c}(h:ab F a b)(k:ab F b c):ab F a c:=h.cg k fun _ _ h=>h
def ab.mono{F G a b}(h:ab F a b)(c:∀i,i<a.heap.size->F i->G i):ab G a b:=
 ⟨h.os,h.tape,h.output,h.drawn,h.size,fun i hi e=>h.gq i hi fun d=>e<|c i hi d⟩
def ab.pure{F a b}(h:Pure a b):ab F a b:=h.mono fun _ _ h=>h.elim
def ab.fb{F a b c}(h:ab F a b)(k:Pure b c):ab F a c:=h.trans k.pure
def ab.below{w w'}(h:Pure w w'):RowKit.Below w.heap.size w w':=⟨h.os,h.tape,h.output,h.size,fun k a=>h.gq k a id⟩
def ab.drew(w){F}:ab F w w.drew:=⟨rfl,rfl,rfl,Fe,Nat.le_refl _,fun _ _ _=>rfl⟩
def xY{w:World}{b:Nat}{o:Obj}(h:w.heap[b]?=some o):b<w.heap.size:=(Array.getElem?_eq_some_iff.1 h).1
def ab.heap{F:Nat->Prop}{w w':World}(h:ab F w w'){b:Nat}{o:Obj}(a:w.heap[b]?=some o)(c:¬F b):w'.heap[b]?=some o:=by
 rw[h.gq b (xY a) c];exact a
def ab.cell{F w w'}(h:ab F w w'){a v}(c:w.cell? a=some v)(d:¬F a.block):w'.cell? a=some v:=by
 have b:a.block<w.heap.size:=World.block_lt_of_cell? w a c;unfold World.cell? at *;rw[h.gq _ b d];exact c
def ab.row{F w w'}(h:ab F w w'){a vs}(b:Row w a vs)(c:¬F a.block):Row w' a vs:=by
 intro i hi;have:=b i hi;rw[List.getElem?_eq_getElem hi]at this|-;refine h.cell this ?_;have:(a.add i).block=a.block:=by unfold Addr.add;split<;>rfl
 rw[this];exact c
def ab.aw{F w w' o p}(h:au w o p w'):ab F w w':=by
 obtain⟨_,rfl⟩:=h;exact⟨rfl,rfl,rfl,Fe,Sm,fun b a _=>AL w o b a⟩
def ab.setCell{w}(a v):ab (·=a.block) w (w.setCell a v):=
 ⟨rfl,rfl,rfl,Fe,by simp[World.setCell],fun b _ c=>heap_setCell_other w a b v c⟩
def zC(a:Addr)(i:Nat):(a.add i).block=a.block:=by unfold Addr.add;split<;>rfl
def ab.pN(a:Addr):∀(vs:List Value) (i:Nat) (w:World),ab (·=a.block) w (pN w a i vs)
 |[],_,w=>ab.refl w
 |v :: vs,i,w=>by
  have h1:ab (·=a.block) w (w.setCell (a.add i) v):=(ab.setCell (a.add i) v).mono (fun _ _ h=>by rw[zC]at h;exact h);exact h1.trans<|ab.pN a vs (i+1) _
def ab.bb(w a vs):ab (·=a.block) w (SE.bb w a vs):=ab.pN a vs 0 w
structure ai(w:World)(p:Addr)(c:List Value)(T:TypeId):Prop where
 C9:p=⟨p.block,0,none⟩
 ao:w.heap[p.block]?=some (.cells c.toArray T (0,0))
def ai.bh{w w' c T p}(h:au w (.cells c.toArray T) p w'):ai w' p c T:=by
 obtain⟨rfl,rfl⟩:=h;exact⟨rfl,heap_alloc_new w _⟩
def au.cu{w w' o p}(h:au w o p w'):p.block=w.heap.size:=by rw[h.at_]
def au.IJ{w w' o p}(h:au w o p w'):w'.heap[p.block]?=some o:=by
 obtain⟨rfl,rfl⟩:=h;exact heap_alloc_new w _
def au.ne{w w' o o' p}(h:au w o p w'){b}(a:w.heap[b]?=some o'):b≠p.block:=by
 rw[h.cu];exact Nat.ne_of_lt<|xY a
def ai.lt{w p c T}(h:ai w p c T):p.block<w.heap.size:=xY h.ao
def ai.ext{F w w' p c T}(h:ai w p c T)(a:ab F w w')(b:¬F p.block):ai w' p c T:=⟨h.C9,a.heap h.ao b⟩
def ai.pure{w w' p c T}(h:ai w p c T)(a:Pure w w'):ai w' p c T:=h.ext a id
def ai.add{w p c T}(h:ai w p c T)(i):p.add i=⟨p.block,i,none⟩:=by
 rw[h.C9];unfold Addr.add;split<;>simp_all
def ai.cell{w p c T}(h:ai w p c T){i v}(a:c[i]?=some v):w.cell? (p.add i)=some v:=by
 rw[h.add,cell_of_row w _ _ _ _ _ h.ao];simpa using a
def ai.bd{w p v c T}(h:ai w p (v ::c) T):w.cell? p=some v:=by
 have:=h.cell (i:=0) (v:=v) rfl;simpa[Addr.add]using this
def ai.row{w p c T}(h:ai w p c T):Row w p c:=fun i hi=>by
 rw[List.getElem?_eq_getElem hi];exact h.cell<|List.getElem?_eq_getElem hi
def ai.ee{w p c T}(h:ai w p c T){i}(hi:i<c.length):zL w (p.add i):=
 ⟨⟨c[i],h.cell<|List.getElem?_eq_getElem hi⟩,by rw[h.add];exact frozen_of_row w _ _ _ _ h.ao⟩
def ai.ia{w p c T}(h:ai w p c T)(hi:0<c.length):zL w p:=by
 have:=h.ee hi;simpa[Addr.add]using this
def ai.uz{w p c T}(h:ai w p c T){n}(a:n<=c.length):∀j,j<n->zL w (p.add j):=fun _ b=>h.ee Om
def ai.set{w p c T}(h:ai w p c T)(i v):ai (w.setCell (p.add i) v) p (c.set i v) T:=by
 refine⟨h.C9,?_⟩;rw[h.add];have:=heap_setCell_same w p.block i c.toArray T v h.ao;rw[this];simp
def ai.jb{w p u v c T}(h:ai w p (u ::c) T):ai (w.setCell p v) p (v ::c) T:=by
 have:=h.set 0 v;simpa[Addr.add]using this
def ai.Nl{p T}:∀(vs:List Value) (i:Nat) (w:World) (c:List Value),ai w p c T->i+vs.length=c.length->ai (pN w p i vs) p (c.take i++vs) T
 |[],i,w,c,h,a=>by
  have:c.take i=c:=List.take_of_length_le (by simp at a;omega);simpa[pN,this]using h
 |v :: vs,i,w,c,h,a=>by
  simp only[List.length_cons]at a;have:=ai.Nl vs (i+1) _ _ (h.set i v) So;simp only[pN];have e:(c.set i v).take (i+1)++vs=c.take i++v ::vs:=by
   rw[List.take_succ_eq_append_getElem So,List.take_set_of_le<|Nat.le_refl i];simp
  rwa [e]at this
def ai.store{w p c vs T}(h:ai w p c T)(a:vs.length=c.length):ai (bb w p vs) p vs T:=by
 have:=ai.Nl vs 0 w c h Om;simpa[bb]using this
def Br.t{c}{A B:Prop}(a:c=true)(h:A):Br c A B:=⟨fun _=>h,fun e=>(by rw[a]at e;cases e)⟩
def Br.f{c}{A B:Prop}(a:c=false)(h:B):Br c A B:=⟨fun e=>(by rw[a]at e;cases e),fun _=>h⟩
end Go.SE
namespace Go.SE
def bx(n:Nat){w:World}{p:Addr}{c vs:List Value}{T:TypeId}(h:ai w p c T)(b:c.length=n)(a:vs.length=n){A:World->Prop}(k:∀w',ai w' p vs T->ab (·=p.block) w w'->A w'):(∀j,j<n->zL w (p.add j))/\∀w',w'=bb w p vs->A w':=
 ⟨h.uz Om,fun w' e=>by subst e;exact k _ (h.store Om)<|ab.bb _ _ _⟩
def ab.ak{a w w':World}{p:Addr}(h:Pure a w)(b:a.heap.size<=p.block)(k:ab (·=p.block) w w'):Pure a w':=
 h.cg k Gd
def au.ak{w0 w w' o p}(h:Pure w0 w)(a:au w o p w'):w0.heap.size<=p.block:=by rw[a.cu];exact h.size
end Go.SE
namespace Go.SE
def ai.fp{w w' c T p}(h:au w (.cells c T) p w'):ai w' p c.toList T:=by
 obtain⟨rfl,rfl⟩:=h;exact⟨rfl,by simpa using heap_alloc_new w (.cells c T)⟩
def ai.MU{w p c vs T}(h:ai w p c T)(e:c=vs):Row w p vs:=e▸h.row
end Go.SE
end
section
namespace Go.SE
structure bf(w:World)(e:TypeId)(sz:Nat)(s:Sl)(rs:List (List Value)):Prop where
 mi:∀r∈rs,r.length=sz
 len:s.len=rs.length
 ak:(s=Sl.nil/\rs=[])\/∃g cur,s.a=some ⟨g,0,none⟩/\w.heap[g]?=some (.cells cur e (0,0))/\rs.length<=s.cap/\s.cap<=maxLen/\cur.size=s.cap*sz/\cur.toList.take (rs.length*sz)=rs.flatten
def Sl.ao(s:Sl)(b:Nat):Prop:=∃a,s.a=some a/\a.block=b
def bf.nil(w e sz):bf w e sz Sl.nil []:=⟨Sm,rfl,.inl ⟨rfl,rfl⟩⟩
def vM{rs:List (List Value)}{sz:Nat}(h:∀r∈rs,r.length=sz):rs.flatten.length=rs.length*sz:=by
 induction rs with
 |nil=>simp
 |cons r rs a =>
  have h1:=h r Sm
  have h2:=a Gd
  simp only[List.flatten_cons,List.length_append,h1,h2,List.length_cons,Nat.add_mul,Nat.one_mul]
  omega
def DV{rs:List (List Value)}{sz:Nat}(h:∀r∈rs,r.length=sz){i:Nat}(hi:i<rs.length){j:Nat}(b:j<sz):rs.flatten[i*sz+j]?=rs[i][j]?:=by
 induction rs generalizing i with
 |nil=>simp at hi
 |cons r rs a =>
  have h1:=h r Sm
  cases i with
  |zero=>simp[List.getElem?_append_left<|show j<r.length by omega]
  |succ i =>
   simp only[List.flatten_cons,List.getElem_cons_succ]
   rw[List.getElem?_append_right Gd]
   have:=a Gd (i:=i) (by simpa using hi)
   rw[<-this]
   congr 1
   rw[h1,Nat.succ_mul];omega
def bf.ext{F w w' e sz s rs}(h:bf w e sz s rs)(c:ab F w w')(f:∀b,s.ao b->¬F b):bf w' e sz s rs:=by
 refine⟨h.mi,h.len,?_⟩;rcases h.ak with i|⟨g,cur,a,d,r⟩;exact .inl i;exact .inr ⟨g,cur,a,c.heap d<|f g ⟨_,a,rfl⟩,r⟩
def bf.pure{w w' e sz s rs}(h:bf w e sz s rs)(a:Pure w w'):bf w' e sz s rs:=h.ext a fun _ _ h=>h
def bf.lt{w e sz s rs}(h:bf w e sz s rs){b}(f:s.ao b):b<w.heap.size:=by
 rcases h.ak with⟨rfl,_⟩|⟨g,cur,d,i,_⟩;have⟨a,d,_⟩:=f;cases d;obtain⟨a,c,rfl⟩:=f;rw[d]at c;cases c;exact xY i
def bf.at{w e sz s rs}(h:bf w e sz s rs){i}(k:0<=i)(hi:i.toNat<rs.length):∃a,At s i sz a/\Row w a rs[i.toNat]/\s.ao a.block:=by
 rcases h.ak with⟨_,rfl⟩|⟨g,cur,d,f,m,_,hs,ht⟩;simp at hi;refine⟨(⟨g,0,none⟩:Addr).add<|i.toNat*sz,⟨k,by rw[h.len];omega,⟨_,d,rfl⟩⟩,?_,⟨_,d,by rw[zC]⟩⟩;intro j n;have l:=h.mi _<|List.getElem_mem hi;have b:((⟨g,0,none⟩:Addr).add<|i.toNat*sz).add j=⟨g,i.toNat*sz+j,none⟩:=by
  unfold Addr.add;split<;>split<;>simp_all
 rw[b,cell_of_row w g _ cur e (0,0) f,<-DV h.mi hi Om,<-ht,List.getElem?_take];have c:i.toNat*sz+j<rs.length*sz:=by
  have:(i.toNat+1)*sz<=rs.length*sz:=Nat.mul_le_mul_right _ hi;rw[Nat.succ_mul]at this;omega
 rw[if_pos c];simp
def Q0{v}(h:vG v=true):v.oneCell'=true:=by cases v<;>simp_all[vG,Value.oneCell']
structure j1(P:Program)(t e:TypeId)(sz bytes:Nat):Prop where
 ht:P.underlying t=some (.slice e)
 hi:∃i z,P.info? e=some i/\i.zero=some z/\i.size=sz/\i.bytes=bytes/\z.cells.size=sz
 pos:0<sz
def HM{w p r}(hr:Row w p r):∀j u,r[j]?=some u->w.cell? (p.add j)=some u:=fun j u a=>by
 rw[hr j (List.getElem?_eq_some_iff.1 a).1,a]
def bf.pW{w:World}{e:TypeId}{sz:Nat}{rs:List (List Value)}(a:∀q∈rs,q.length=sz){cur:Array Value}{z:Value}(c:z.cells.size=sz)(b:cur.toList=rs.flatten){cap:Nat}(d:rs.length<=cap)(hm:cap<=maxLen):
  bf (w.drew.alloc<|.cells (cur++Builtin.zeroCells z.cells (cap-rs.length)) e) e sz ⟨some ⟨w.heap.size,0,none⟩,rs.length,cap⟩ rs:=by
 refine⟨a,rfl,.inr ⟨w.heap.size,_,rfl,heap_alloc_new w.drew _,d,hm,?_,?_⟩⟩
 have:cur.size=rs.length*sz:=by rw[<-Array.length_toList,b,vM a]
 rw[Array.size_append,size_zeroCells,c,this,<-Nat.add_mul]
 congr 1
 show rs.length+(cap-rs.length)=cap
 omega
 rw[Array.toList_append,b]
 have:=vM a
 rw[<-this]
 exact List.take_left
def bf.OY{P:Program}{w:World}{t ty e:TypeId}{sz bytes:Nat}(T:j1 P t e sz bytes){s:Sl}{rs qs:List (List Value)}(h:bf w e sz s rs){p:Addr}{c:Nat}(hr:Row w p qs.flatten)(I:∀q∈qs,q.length=sz)(h1:∀q∈qs,q.all vG=true)(D:qs≠[])(k:(rs.length+qs.length)*bytes<=140737488355328)(hm:rs.length+qs.length<=maxLen):
  ∃s' w',(Builtin.append_ #[t,t] ty #[s.v,(Sl.mk (some p) qs.length c).v]).run P w=.ok s'.v w'/\bf w' e sz s' (rs++qs)/\ab s.ao w w'/\(∀b,s'.ao b->s.ao b\/w.heap.size<=b):=by
 have⟨i,z,hi,Q,O,K,y⟩:=T.hi
 subst O;subst K
 have H:∀u∈qs.flatten,u.oneCell'=true:=fun u o=>by
  have⟨q,D,o⟩:=List.mem_flatten.1 o;exact Q0<|List.all_eq_true.1 (h1 q D) u o
 have L:rs.length+qs.length<=9223372036854775807:=by simp only[maxLen]at hm;omega
 have n:=vM I
 have C:0<qs.length:=List.length_pos_iff.2 D
 have l:∀q∈rs++qs,q.length=i.size:=fun q D=>(List.mem_append.1 D).elim (h.mi q)<|I q
 have B:=vM h.mi
 rcases h.ak with⟨rfl,rfl⟩|⟨g,cur,x,A,R,N,fa,m⟩
 .simp only[List.length_nil,Nat.zero_add]at k L hm
  have d:=run_append_nil (P:=P) w t ty e i z T.ht hi Q p qs.length c qs.flatten n (HM hr) C Om Om
  have A:=bf.pW (w:=w) (e:=e) (rs:=qs) I (cur:=qs.flatten.toArray) y Sm (grownCap_ge w qs.length 0 e)<|grownCap_le_maxLen w _ 0 e hm
  refine⟨⟨some ⟨w.heap.size,0,none⟩,qs.length,grownCap w qs.length 0 e⟩,(w.drew.alloc<|.cells (qs.flatten.toArray++Builtin.zeroCells z.cells (grownCap w qs.length 0 e-qs.length)) e),d,?_,?_,?_⟩
  .simpa using A
  .exact⟨rfl,rfl,rfl,Fe,Sm,fun b k _=>AL w.drew _ b k⟩
  .intro b k;obtain⟨a,x,rfl⟩:=k;cases x;right;exact Nat.le_refl _
 .have E:s.v=.slice (some ⟨g,0,none⟩) rs.length s.cap:=by unfold Sl.v;rw[x,h.len]
  by_cases f:rs.length+qs.length<=s.cap
  .have F:rs.length*i.size+qs.flatten.length<=cur.size:=by rw[n,fa,<-Nat.add_mul];exact Nat.mul_le_mul_right _ f
   have d:=run_append_room (P:=P) w t ty e i T.ht hi g rs.length s.cap cur A p qs.length c qs.flatten n (HM hr) H f F
   refine⟨⟨some ⟨g,0,none⟩,rs.length+qs.length,s.cap⟩,_,by rw[E];exact d,⟨l,Sm,.inr ⟨g,_,rfl,setRow_heap w g cur _ e _ A,by simpa using f,N,?_,?_⟩⟩,⟨rfl,rfl,rfl,Fe,Sm,fun b k S=>setRow_other w g b _ fun e=>S ⟨_,x,e.symm⟩⟩,fun b k=>by obtain⟨a,M,rfl⟩:=k;cases M;exact .inl ⟨_,x,rfl⟩⟩
   .grind
   .rw[m,List.flatten_append,List.length_append,Nat.add_mul,<-B,<-n,<-List.length_append]
    exact List.take_left
  .have r : ∀ j u, rs.flatten[j]? = some u -> w.cell? ((⟨g, 0, none⟩ : Addr).add j) = some u:=fun j u o => by
    have G:(⟨g,0,none⟩:Addr).add j=⟨g,j,none⟩:=by unfold Addr.add;split<;>simp_all
    rw[G,cell_of_row w g j cur e (0,0) A];rw[<-m,List.getElem?_take]at o;split at o
    .simpa using o
    .cases o
   have d:=run_append_grow (P:=P) w t ty e i z T.ht hi Q ⟨g,0,none⟩ rs.length s.cap rs.flatten B r p qs.length c qs.flatten n (HM hr) Om Om<|growslice_fits Om k
   have J:=bf.pW (w:=w) (e:=e) (rs:=rs++qs) l (cur:=rs.flatten.toArray++qs.flatten.toArray) y Sm (cap:=grownCap w (rs.length+qs.length) s.cap e) (by simpa using grownCap_ge w (rs.length+qs.length) s.cap e)<|grownCap_le_maxLen w _ _ e hm
   refine⟨⟨some ⟨w.heap.size,0,none⟩,rs.length+qs.length,grownCap w (rs.length+qs.length) s.cap e⟩,(w.drew.alloc<|.cells (rs.flatten.toArray++qs.flatten.toArray++Builtin.zeroCells z.cells (grownCap w (rs.length+qs.length) s.cap e-(rs.length+qs.length))) e),?_,?_,?_,?_⟩
   .rw[E];exact d
   .simpa using J
   .exact⟨rfl,rfl,rfl,Fe,Sm,fun b k _=>AL w.drew _ b k⟩
   .intro b k;obtain⟨a,x,rfl⟩:=k;cases x;right;exact Nat.le_refl _
def bf.append{P w t ty e sz bytes}(T:j1 P t e sz bytes){s rs}(h:bf w e sz s rs){p c r}(hr:Row w p r)(a:r.length=sz)(h1:r.all vG=true)(d:(rs.length+1)*bytes<=140737488355328)(hm:rs.length+1<=maxLen):
  ∃s' w',(Builtin.append_ #[t,t] ty #[s.v,(Sl.mk (some p) 1 c).v]).run P w=.ok s'.v w'/\bf w' e sz s' (rs++[r])/\ab s.ao w w'/\(∀b,s'.ao b->s.ao b\/w.heap.size<=b):=
 bf.OY T h (qs:=[r]) (by simpa using hr) (by simpa using a) (by simpa using h1) Sm d hm
end Go.SE
end
section
namespace Go.SE
open Go.Instr
def IT(k:Value)(es:List MapEntry)(r:Option (Nat×Value)):Prop:=
 (r=.none/\∀e∈es,e.key≠k)\/∃i e,es[i]?=some e/\e.key=k/\r=some (i,e.val)
structure ru(P:Program)(K:TypeId)(S:Value->Prop):Prop where
 eh:∀k,S k->∀a w,(checkKey a 10000 K k).run P w=.ok () w
 find:∀k (es:List MapEntry) w,S k->(∀e∈es,S e.key)->∃r,(findKey K k es).run P w=.ok r w/\IT k es r
 bits:∀k,S k->sameBits 10000 k k=true
structure jn(w:World)(m:Nat)(es:List (Value×Value)):Prop where
 ex:∃d c,w.heap[m]?=some (.map d c)/\d.toList.map (fun e=>(e.key,e.val))=es/\d.toList.Pairwise (fun a b=>a.born<b.born)/\∀e∈d.toList,e.born<c
def jn.ext{F w w' m}{es:List (Value×Value)}(h:jn w m es)(c:ab F w w')(d:¬F m):jn w' m es:=by
 have⟨b,a,hm,r⟩:=h.ex;exact⟨b,a,c.heap hm d,r⟩
def jn.lt{w m}{es:List (Value×Value)}(h:jn w m es):m<w.heap.size:=by
 have⟨b,a,hm,r⟩:=h.ex;exact xY hm
def jn.bh{w w' p}(h:au w (.map #[] 0) p w'):jn w' p.block []:=⟨#[],0,h.IJ,rfl,Sm,Sm⟩
def NK{P K k w}:∀(es:List MapEntry) (i:Nat),(∀e∈es,∃b,(Op.equal K k e.key).run P w=.ok b w/\(b=true↔e.key=k)) ->
  ∃r,(findAsking K k es i).run P w=.ok r w/\((r=.none/\∀e∈es,e.key≠k)\/∃j e,es[j]?=some e/\e.key=k/\r=some (i+j,e.val))
 |[],i,_=>⟨.none,rfl,.inl ⟨rfl,Sm⟩⟩
 |e :: es,i,h=>by
  have⟨b,f,c⟩:=h e Sm;cases b with
  |true =>
   refine⟨some (i,e.val),?_,.inr ⟨0,e,rfl,c.1 rfl,rfl⟩⟩
   simp[findAsking,f]
  |false =>
   have⟨r,hr,g⟩:=NK es (i+1) fun e l=>h e (by simp[l])
   refine⟨r,?_,?_⟩
   simp[findAsking,f,hr]
   rcases g with⟨h1,h2⟩|⟨j,d,h1,h2,h3⟩
   left
   refine⟨h1,fun d a=>?_⟩
   rcases List.mem_cons.1 a with rfl|a
   grind
   exact h2 d a
   exact .inr ⟨j+1,d,by simpa using h1,h2,by rw[h3,Nat.add_assoc,Nat.add_comm 1 j]⟩
def YA{fs:Array Field}{k}:∀(es:List MapEntry) (i:Nat),es≠[]->findNow (.struct fs) k es i=.none
 |[],_,h=>absurd rfl h
 |e :: es,i,_=>by simp[findNow,sameNow]
def ru.Ve{P K}{S:Value->Prop}{fs:Array Field}(f:P.underlying K=some (.struct fs))(l:∀k,S k->∀g w,(checkKey g 10000 K k).run P w=.ok () w)(j:∀k k' w,S k->S k'->∃b,(Op.equal K k k').run P w=.ok b w/\(b=true↔k'=k))(m:∀k,S k->sameBits 10000 k k=true):ru P K S:=by
 refine⟨l,fun k es w i a=>?_,m⟩;unfold findKey;simp only[Sem.run_bind,run_underlying f,Result.andThen_ok];by_cases d:es=[];subst d;exact⟨.none,by simp[findNow],.inl ⟨rfl,Sm⟩⟩;rw[YA es 0 d];have⟨r,hr,h⟩:=NK (P:=P) (K:=K) (k:=k) (w:=w) es 0 fun e c=>j k e.key w i<|a e c;exact⟨r,hr,by simpa[IT]using h⟩
def L7{q k}:∀(es:List MapEntry) (i:Nat),(∀e∈es,∃n,e.key=.int q n)->∃r,findNow (.int q) (.int q k) es i=some r/\((r=.none/\∀e∈es,e.key≠.int q k)\/∃j e,es[j]?=some e/\e.key=.int q k/\r=some (i+j,e.val))
 |[],i,_=>⟨.none,rfl,.inl ⟨rfl,Sm⟩⟩
 |e :: es,i,h=>by
  have⟨n,d⟩:=h e Sm;by_cases f:k=n;subst f;exact⟨some (i,e.val),by simp[findNow,sameNow,d],.inr ⟨0,e,rfl,d,rfl⟩⟩;have⟨r,hr,g⟩:=L7 (q:=q) (k:=k) es (i+1) Gd;have c:(k==n)=false:=by simpa using f
  refine⟨r,by simp[findNow,sameNow,d,c,hr],?_⟩;rcases g with⟨h1,h2⟩|⟨j,b,h1,h2,h3⟩;left;refine⟨h1,fun b a=>?_⟩;rcases List.mem_cons.1 a with rfl|a;grind;exact h2 b a;exact .inr ⟨j+1,b,by simpa using h1,h2,by rw[h3,Nat.add_assoc,Nat.add_comm 1 j]⟩
def VR{P K q}(a:P.underlying K=some (.int q))(n em w d):(checkKey em (d+1) K<|.int q n).run P w=.ok () w:=by
 simp[checkKey,run_underlying a]
def RX(q n d):sameBits d (.int q n) (.int q n)=true:=by
 cases d<;>simp[sameBits]
def ru.Hw{P K q}(b:P.underlying K=some (.int q)):ru P K (fun k=>∃n,k=.int q n):=by
 refine⟨?_,?_,?_⟩;rintro _ ⟨n,rfl⟩ c w;exact VR b n c w 9999;rintro _ es w ⟨n,rfl⟩ a;have⟨r,hr,d⟩:=L7 (q:=q) (k:=n) es 0 a;exact⟨r,by simp[findKey,run_underlying b,hr],by simpa[IT]using d⟩;rintro _ ⟨n,rfl⟩;exact RX q n 10000
section
variable {P:Program} {T K E:TypeId} {S:Value->Prop} {w:World} {m:Nat} {es:List (Value×Value)}
def jn.lookup(h:jn w m es)(d:P.underlying T=some (.map K E))(f:ru P K S)(hS:∀p∈es,S p.1){k z}(g:S k)(l:(zeroValue E).run P w=.ok z w)(ok):
  ((∀p∈es,p.1≠k)/\(Instr.lookup T (.map<|some m) k ok).run P w=.ok (if ok then .tuple #[z,.bool false]else z) w) \/
  ∃(i:Nat) (v:Value),es[i]?=some (k,v)/\(Instr.lookup T (.map<|some m) k ok).run P w=.ok (if ok then .tuple #[v,.bool true]else v) w:=by
 obtain⟨b,a,hm,rfl,_,_⟩:=h.ex
 have⟨r,hr,n⟩:=f.find k b.toList w g fun e o=>hS _<|List.mem_map.2 ⟨e,o,rfl⟩
 have j:=f.eh k g b.isEmpty w
 have c:(getObj m).run P w=.ok (.map b a) w:=by simp[getObj,Sem.run,hm]
 rcases n with⟨rfl,s⟩|⟨i,e,hi,rfl,rfl⟩
 left
 refine⟨fun p q=>?_,?_⟩
 grind
 cases ok<;>simp[Instr.lookup,run_underlying d,c,j,hr,l]
 right
 refine⟨i,e.val,by simp[hi],?_⟩
 cases ok<;>simp[Instr.lookup,run_underlying d,c,j,hr]
def jn.insert(h:jn w m es)(n:P.underlying T=some (.map K E))(g:ru P K S)(hS:∀p∈es,S p.1){k v}(j:S k)(s:∀p∈es,p.1≠k):
  ∃w',(Instr.mapUpdate T (.map<|some m) k v).run P w=.ok () w'/\jn w' m (es++[(k,v)])/\ab (·=m) w w':=by
 obtain⟨c,a,hm,rfl,t,u⟩:=h.ex
 have⟨r,hr,f⟩:=g.find k c.toList w j fun e o=>hS _<|List.mem_map.2 ⟨e,o,rfl⟩
 have q:=g.eh k j false w
 have l:(getObj m).run P w=.ok (.map c a) w:=by simp[getObj,Sem.run,hm]
 have d:=xY hm
 rcases f with⟨rfl,_⟩|⟨i,e,hi,rfl,rfl⟩
 refine⟨{ w with heap:=w.heap.setIfInBounds m (.map (c.push { key:=k,val:=v,born:=a })<|a+1) },?_,⟨c.push { key:=k,val:=v,born:=a },a+1,by simp[d],Sm,?_,?_⟩,⟨rfl,rfl,rfl,Gd,Sm,fun b _ f=>by simp[Array.getElem?_setIfInBounds_ne<|Ne.symm f]⟩⟩
 simp[Instr.mapUpdate,run_underlying n,l,q,hr,setObj,Sem.run,hm]
 grind
 grind
 exact absurd rfl (s _<|List.mem_map.2 ⟨e,List.mem_of_getElem? hi,rfl⟩)
def LC{α β:Type}(f:α->β):∀(l:List α) (i:Nat),(l.eraseIdx i).map f=(l.map f).eraseIdx i
 |[],i=>Sm
 |a :: l,0=>Sm
 |a :: l,i+1=>by simp[LC f l i]
def jn.YS(h:jn w m es)(y:P.underlying T=some (.map K E))(n:ru P K S)(hS:∀p∈es,S p.1){k v}(q:S k){i}(hi:es[i]?=some (k,v))(t:∀j u,es[j]?=some (k,u)->j=i){Q z}:
  ∃w',(Builtin.delete_ #[T,Q] z #[.map<|some m,k]).run P w=.ok (.tuple #[]) w'/\jn w' m (es.eraseIdx i)/\ab (·=m) w w':=by
 obtain⟨a,c,hm,rfl,C,F⟩:=h.ex
 have⟨r,hr,g⟩:=n.find k a.toList w q fun e A=>hS _<|List.mem_map.2 ⟨e,A,rfl⟩
 have B:=n.eh k q a.isEmpty w
 have s:(getObj m).run P w=.ok (.map a c) w:=by simp[getObj,Sem.run,hm]
 have f:=xY hm
 rcases g with⟨rfl,D⟩|⟨j,e,o,rfl,rfl⟩
 grind
 have l:j=i:=t j e.val (by simp[o])
 subst l
 have d:j<a.size:=by
  have:=List.getElem?_eq_some_iff.1 o;have⟨h,_⟩:=this;simpa using h
 have x:(a.eraseIdxIfInBounds j).toList=a.toList.eraseIdx j:=by
  simp[Array.eraseIdxIfInBounds,d,Array.toList_eraseIdx]
 refine⟨{ w with heap:=w.heap.setIfInBounds m (.map (a.eraseIdxIfInBounds j) c) },?_,⟨a.eraseIdxIfInBounds j,c,by simp[f],?_,?_,?_⟩,⟨rfl,rfl,rfl,Gd,Sm,fun b _ g=>by simp[Array.getElem?_setIfInBounds_ne<|Ne.symm g]⟩⟩
 simp[Builtin.delete_,run_underlying y,s,B,hr,setObj,Sem.run,hm]
 rw[x];exact LC _ _ _
 grind
 grind
def jn.Su(h:jn w m es)(M:P.underlying T=some (.map K E))(z:ru P K S)(hS:∀p∈es,S p.1){k v v'}(x:S k){i}(hi:es[i]?=some (k,v))(N:∀j u,es[j]?=some (k,u)->j=i):
  ∃w',(Instr.mapUpdate T (.map<|some m) k v').run P w=.ok () w'/\jn w' m (es.set i (k,v'))/\ab (·=m) w w':=by
 obtain⟨a,c,hm,rfl,H,O⟩:=h.ex
 have⟨r,hr,C⟩:=z.find k a.toList w x fun e I=>hS _<|List.mem_map.2 ⟨e,I,rfl⟩
 have J:=z.eh k x false w
 have L:(getObj m).run P w=.ok (.map a c) w:=by simp[getObj,Sem.run,hm]
 have s:=xY hm
 rcases C with⟨rfl,l⟩|⟨j,e,y,o,rfl⟩
 grind
 have t:j=i:=N j e.val (by simp[y,o])
 subst t
 have⟨D,A⟩:=List.getElem?_eq_some_iff.1 y
 have q:j<a.size:=by simpa using D
 have d:a[j]?=some e:=by simpa using y
 have g:a[j]=e:=by simpa using A
 have F:(a.modify j fun e=>{ e with key:=k,val:=v' }).toList=a.toList.set j { e with key:=k,val:=v' }:=by
  rw[Array.toList_modify];apply List.ext_getElem?;intro n;rw[List.getElem?_modify,List.getElem?_set];by_cases l:j=n;grind;simp[l]
 have G:(a.toList.map (·.born)).Pairwise (·<·):=List.pairwise_map.2 H
 have B:(a.toList.set j { e with key:=k,val:=v' }).map (·.born)=a.toList.map (·.born):=by
  rw[List.map_set];apply List.ext_getElem?;intro n;rw[List.getElem?_set];by_cases l:j=n;subst l;simp[q,d,g];simp[l]
 have f:=z.bits k x
 refine⟨{ w with heap:=w.heap.setIfInBounds m (.map (a.modify j fun e=>{ e with key:=k,val:=v' }) c) },?_,⟨a.modify j fun e=>{ e with key:=k,val:=v' },c,by simp[s],?_,?_,?_⟩,⟨rfl,rfl,rfl,Gd,Sm,fun b _ C=>by simp[Array.getElem?_setIfInBounds_ne<|Ne.symm C]⟩⟩
 simp[Instr.mapUpdate,run_underlying M,L,J,hr,setObj,Sem.run,hm,keyThatStays,d,o,f]
 rw[F,List.map_set]
 grind
 grind
end
end Go.SE
end
section
namespace Go.SE
structure dn(S:Nat->Prop)(w:World)(sz:Nat)(s:Sl)(rs:List (List Value)):Prop where
 len:s.len=rs.length
 at_:∀i (h:i<rs.length),∃a,At s i sz a/\S a.block/\Row w a rs[i]
def dn.ext{S F w w' sz s rs}(h:dn S w sz s rs)(c:ab F w w')(d:∀b,S b->¬F b):dn S w' sz s rs:=
 ⟨h.len,fun i hi=>let ⟨a,h1,h2,h3⟩:=h.at_ i hi;⟨a,h1,h2,c.row h3<|d _ h2⟩⟩
def dn.pure{S w w' sz s rs}(h:dn S w sz s rs)(a:Pure w w'):dn S w' sz s rs:=h.ext a fun _ _ h=>h
def bf.ei{w e sz s rs}(h:bf w e sz s rs):dn s.ao w sz s rs:=
 ⟨h.len,fun i hi=>let ⟨a,h1,h2,h3⟩:=h.at (i:=i) Om (by simpa using hi);⟨a,h1,h3,h2⟩⟩
def yL(a:Addr)(i j:Nat):(a.add i).add j=a.add (i+j):=by
 unfold Addr.add;repeat' split
 all_goals simp_all
 all_goals omega
section
variable {P:Program} {t e:TypeId} {sz bytes:Nat}
def j1.sizeOf(T:j1 P t e sz bytes)(w):(Go.sizeOf e).run P w=.ok sz w:=by
 have⟨i,z,hi,_,hs,_⟩:=T.hi;simp[Go.sizeOf,Go.typeInfo,Sem.run,program,hi,hs,bind,pure,Sem.bind,Sem.pure]
def bf.hi(T:j1 P t e sz bytes){w s rs}(h:bf w e sz s rs){k}{n:Int}(m:0<=n)(o:n<=rs.length):
  ∃s':Sl,(Instr.sliceAt t s.v none (some<|.int k n) none).run P w=.ok s'.v w/\bf w e sz s' (rs.take n.toNat)/\∀b,s'.ao b↔s.ao b:=by
 rcases h.ak with⟨rfl,rfl⟩|⟨g,cur,a,i,p,hm,hs,ht⟩
 have:n=0:=by simpa using(show n=0 by simp at o;omega)
 subst this
 refine⟨Sl.nil,?_,by simpa using bf.nil w e sz,fun _=>Iff.rfl⟩
 simp[Instr.sliceAt,Instr.slice,Sl.v,Sl.nil,run_underlying T.ht,Instr.sliceBounds,Instr.sliceBound,asIntOf,T.sizeOf]
 refine⟨⟨some ⟨g,0,none⟩,n.toNat,s.cap⟩,?_,⟨fun r hr=>h.mi r<|List.mem_of_mem_take hr,So,.inr ⟨g,cur,rfl,i,So,hm,hs,?_⟩⟩,fun b=>?_⟩
 have c:n<=(s.cap:Int):=Om
 by_cases f:s.cap=0
 have:n=0:=Om
 subst this
 simp[Instr.sliceAt,Instr.slice,Sl.v,run_underlying T.ht,Instr.sliceBounds,Instr.sliceBound,asIntOf,T.sizeOf,a,f]
 simp[Instr.sliceAt,Instr.slice,Sl.v,run_underlying T.ht,Instr.sliceBounds,Instr.sliceBound,asIntOf,T.sizeOf,m,c,a,f,Addr.add]
 have d:(rs.take n.toNat).length=n.toNat:=So
 have l:rs=rs.take n.toNat++rs.drop n.toNat:=(List.take_append_drop _ _).symm
 have j:((rs.take n.toNat).flatten).length=n.toNat*sz:=by rw[vM fun r hr=>h.mi r<|List.mem_of_mem_take hr,d]
 have h3:n.toNat*sz<=rs.length*sz:=Nat.mul_le_mul_right _ Om
 calc cur.toList.take ((rs.take n.toNat).length*sz)=(cur.toList.take<|rs.length*sz).take (n.toNat*sz):=by rw[d,List.take_take,Nat.min_eq_left h3]
  _=((rs.take n.toNat).flatten++(rs.drop n.toNat).flatten).take (n.toNat*sz):=by rw[ht,<-List.flatten_append,<-l]
  _=(rs.take n.toNat).flatten:=by rw[<-j,List.take_left]
 simp[Sl.ao,a]
def dn.lo{S}(T:j1 P t e sz bytes){w s rs}(h:dn S w sz s rs)(d:s.len<=s.cap){k}{n:Int}(g:0<=n)(j:n<=rs.length):
  ∃s':Sl,(Instr.sliceAt t s.v (some<|.int k n) none none).run P w=.ok s'.v w/\dn S w sz s' (rs.drop n.toNat):=by
 have c:n<=(s.len:Int):=by rw[h.len];exact j
 refine⟨⟨if s.cap=n.toNat then s.a else s.a.map (·.add<|n.toNat*sz),s.len-n.toNat,s.cap-n.toNat⟩,?_,⟨by simp[h.len],fun i hi=>?_⟩⟩
 simp[Instr.sliceAt,Instr.slice,Sl.v,run_underlying T.ht,Instr.sliceBounds,Instr.sliceBound,asIntOf,T.sizeOf,g,c]
 have b:n.toNat+i<rs.length:=by simp at hi;omega
 obtain⟨a,⟨_,f,p,l,rfl⟩,hS,hr⟩:=h.at_ (n.toNat+i) b
 refine⟨_,⟨Om,by simp only[h.len];omega,p.add<|n.toNat*sz,?_,rfl⟩,?_,?_⟩
 grind
 simpa[zC]using hS
 have:(p.add<|n.toNat*sz).add ((i:Int).toNat*sz)=p.add (((n.toNat+i:Nat):Int).toNat*sz):=by
  rw[yL,Int.toNat_natCast,Int.toNat_natCast,Nat.add_mul]
 rw[this,List.getElem_drop];exact hr
end
def ai.storeAt{p T}:∀(vs:List Value) (i a:Nat) (w:World) (c:List Value),ai w p c T->a+i+vs.length<=c.length ->
  ai (pN w (p.add a) i vs) p (c.take (a+i)++vs++c.drop (a+i+vs.length)) T
 |[],i,a,w,c,h,b=>by simpa[pN]using h
 |v :: vs,i,a,w,c,h,b=>by
  simp only[pN];have h1:=h.set (a+i) v;rw[<-yL]at h1;have h2:=ai.storeAt vs (i+1) a _ _ h1 (by simp at b|-;omega);have e:(c.set (a+i) v).take (a+(i+1))++vs++(c.set (a+i) v).drop (a+(i+1)+vs.length)=c.take (a+i)++(v ::vs)++c.drop (a+i+(v ::vs).length):=by
   have d:a+i<c.length:=by simp at b;omega
   rw[List.drop_set_of_lt Om,<-Nat.add_assoc,List.take_succ_eq_append_getElem So,List.getElem_set_self,List.take_set_of_le<|Nat.le_refl _];simp only[List.length_cons,List.append_assoc,List.cons_append,List.nil_append];congr 4;omega
  rw[e]at h2;exact h2
def bf.set{w e}{sz:Nat}{s rs}(h:bf w e sz s rs){i:Nat}(hi:i<rs.length){r}(hr:r.length=sz){k:Int}(D:k=i):
  ∃a,At s k sz a/\(∀j,j<sz->zL w (a.add j))/\∀w',w'=bb w a r->bf w' e sz s (rs.set i r)/\ab s.ao w w':=by
 subst D
 rcases h.ak with⟨_,rfl⟩|⟨g,cur,m,F,x,hm,hs,ht⟩
 simp at hi
 have B:ai w ⟨g,0,none⟩ cur.toList e:=⟨rfl,by simpa using F⟩
 have u:(i+1)*sz<=rs.length*sz:=Nat.mul_le_mul_right _ hi
 have z:rs.length*sz<=s.cap*sz:=Nat.mul_le_mul_right _ x
 have y:cur.toList.length=s.cap*sz:=by simpa using hs
 rw[Nat.succ_mul]at u
 refine⟨(⟨g,0,none⟩:Addr).add<|i*sz,⟨Om,by rw[h.len];omega,⟨_,m,Sm⟩⟩,fun j N=>?_,?_⟩
 rw[yL];exact B.ee Om
 intro w' d
 have v:=ai.storeAt r 0 (i*sz) w _ B (by rw[hr];omega)
 have J:ab (·=g) w w':=by
  rw[d];have:=ab.bb w ((⟨g,0,none⟩:Addr).add<|i*sz) r;rw[zC]at this;exact this
 have f:pN w ((⟨g,0,none⟩:Addr).add<|i*sz) 0 r=w':=d.symm
 rw[f]at v
 refine⟨⟨?_,by rw[List.length_set];exact h.len,.inr ⟨g,_,m,v.ao,by rw[List.length_set];exact x,hm,?_,?_⟩⟩,J.mono fun b _ I=>⟨_,m,I.symm⟩⟩
 intro q p
 rcases List.mem_or_eq_of_mem_set p with n|rfl
 exact h.mi q n
 exact hr
 grind
 have t:∀ q∈rs.set i r,q.length=sz:=by
  intro q p;rcases List.mem_or_eq_of_mem_set p with n|rfl;exact h.mi q n;exact hr
 have O:rs=rs.take i++rs[i] ::rs.drop (i+1):=by rw[<-List.drop_eq_getElem_cons hi,List.take_append_drop]
 have A:rs.set i r=rs.take i++r ::rs.drop (i+1):=Gd
 have K:(rs.take i).flatten.length=i*sz:=by rw[vM fun r hr=>h.mi r<|List.mem_of_mem_take hr,List.length_take,Nat.min_eq_left Om]
 have E:rs[i].length=sz:=h.mi _<|List.getElem_mem hi
 have M:(rs.drop<|i+1).flatten.length=(rs.length-(i+1))*sz:=by rw[vM fun r hr=>h.mi r<|List.mem_of_mem_drop hr,List.length_drop]
 have c:cur.toList=rs.flatten++cur.toList.drop (rs.length*sz):=by rw[<-ht,List.take_append_drop]
 have o:rs.flatten=(rs.take i).flatten++(rs[i]++(rs.drop<|i+1).flatten):=Gd
 have L:cur.toList.take (i*sz)=(rs.take i).flatten:=Gd
 have C:cur.toList.drop (i*sz+sz)=(rs.drop<|i+1).flatten++cur.toList.drop (rs.length*sz):=by
  conv=>lhs;rw[c,o]
  have:i*sz+sz=((rs.take i).flatten++rs[i]).length:=by rw[List.length_append,K,E]
  rw[<-List.append_assoc,List.append_assoc,this,List.drop_left]
 have l:((rs.set i r).flatten).length=(rs.set i r).length*sz:=vM t
 have H:(rs.set i r).flatten=(rs.take i).flatten++(r++(rs.drop<|i+1).flatten):=by rw[A,List.flatten_append,List.flatten_cons]
 have G:(rs.take i).flatten++r++((rs.drop<|i+1).flatten++cur.toList.drop (rs.length*sz))=(rs.set i r).flatten++cur.toList.drop (rs.length*sz):=Gd
 rw[<-l,Nat.add_zero,hr,L,C,G]
 exact List.take_left
section
variable {P:Program} {t e:TypeId} {sz bytes:Nat}
def bf.ax(T:j1 P t e sz bytes){zr}(x:∀i z,P.info? e=some i->i.zero=some z->z.cells=zr.toArray){k k' n}(B:bytes*n<=281474976710656)(hm:n<=maxLen)(w):
  ∃w',(Instr.makeSlice t (.int k (n:Int))<|.int k' (n:Int)).run P w=.ok (Sl.mk (some ⟨w.heap.size,0,none⟩) n n).v w'/\bf w' e sz ⟨some ⟨w.heap.size,0,none⟩,n,n⟩ (List.replicate n zr)/\Pure w w':=by
 have⟨i,z,hi,o,hs,s,c⟩:=T.hi
 have d:=x i z hi o
 have a:zr.length=sz:=by rw[<-c,d];simp
 have h:(n:Int)<=9223372036854775807:=by simp only[maxLen]at hm;omega
 have g:(i.bytes:Int)*(n:Int)<=281474976710656:=Gd
 have hr:=run_make (P:=P) w t e i z T.ht hi o k k' n n Om (Int.le_refl _) g h
 simp only[Int.toNat_natCast,hs]at hr
 have l:au w (.cells (madeCells z.cells<|n*sz) e) ⟨w.heap.size,0,none⟩ (w.alloc<|.cells (madeCells z.cells<|n*sz) e):=⟨rfl,rfl⟩
 refine⟨_,hr,⟨fun r hr=>by rw[(List.mem_replicate.1 hr).2,a],Sm,.inr ⟨w.heap.size,_,rfl,l.IJ,Sm,hm,by simp[size_madeCells],?_⟩⟩,ab.aw l⟩
 have f:=T.pos
 have p:∀r∈List.replicate n zr,r.length=sz:=fun r hr=>by rw[(List.mem_replicate.1 hr).2,a]
 rw[List.take_of_length_le<|by simp[size_madeCells]]
 apply List.ext_getElem?
 intro j
 by_cases u:j<n*sz
 have y:j/sz<n:=Nat.div_lt_of_lt_mul Gd
 have b:j%sz<sz:=Nat.mod_lt _ f
 have m:=DV p (i:=j/sz) (by simpa using y) (j:=j%sz) b
 have q:j/sz*sz+j%sz=j:=by rw[Nat.mul_comm];exact Nat.div_add_mod j sz
 rw[q]at m
 rw[m]
 have A:z.cells.size=sz:=c
 simp only[madeCells,d,Array.getElem?_toList,Array.getElem?_map,Array.getElem?_range,u,List.size_toArray,a,List.getElem_replicate,if_true,Option.map_some]
 rw[List.getElem?_eq_getElem Om]
 simp[a,b]
 rw[List.getElem?_eq_none (by simp[size_madeCells];omega),List.getElem?_eq_none (by rw[vM p];simp;omega)]
end
end Go.SE
end
section
namespace Go.SE
open Go.Instr
structure Cw(w:World)(m:Nat)(z:Int)(i:Nat)(es:List (Value×Value)):Prop where
 ex:∃d c,w.heap[m]?=some (.map d c)/\d.toList.map (fun e=>(e.key,e.val))=es/\d.toList.Pairwise (fun a b=>a.born<b.born)/\(∀e∈d.toList,e.born<c)/\∃e,d.toList[i]?=some e/\(e.born:Int)=z
def Cw.ext{F w w' m z i}{es:List (Value×Value)}(h:Cw w m z i es)(c:ab F w w')(d:¬F m):Cw w' m z i es:=by
 have⟨b,a,hm,r⟩:=h.ex;exact⟨b,a,c.heap hm d,r⟩
section
variable {P:Program} {T K E:TypeId} {S:Value->Prop} {w:World} {m:Nat} {es:List (Value×Value)}
def Cw.store{z i}(h:Cw w m z i es){k v0 v}(hi:es[i]?=some (k,v0)):
  ∃w',(Instr.entryStore T (.map<|some m) (.int .i64 z) v).run P w=.ok () w'/\jn w' m (es.set i (k,v))/\ab (·=m) w w':=by
 obtain⟨a,c,hm,rfl,x,F,e,o,rfl⟩:=h.ex
 have C:(getObj m).run P w=.ok (.map a c) w:=by simp[getObj,Sem.run,hm]
 have l:=xY hm
 have⟨t,q⟩:=List.getElem?_eq_some_iff.1 o
 have f:i<a.size:=by simpa using t
 have u:a[i]?=some e:=by simpa using o
 have d:a[i]=e:=by simpa using q
 have s:e.key=k:=by
  rw[List.getElem?_map,o]at hi;have:=Option.some.inj hi;exact congrArg Prod.fst this
 have p:a.findIdx? (fun E=>(E.born:Int)==(e.born:Int))=some i:=by
  rw[Array.findIdx?_eq_some_iff_getElem];refine⟨f,by simp[d],fun j B=>?_⟩;have:=List.pairwise_iff_getElem.1 x j i So (by simpa using f) B;simp only[Array.getElem_toList,d]at this;simp only[beq_iff_eq];omega
 have y:(a.modify i fun e=>{ e with val:=v }).toList=a.toList.set i { e with val:=v }:=by
  rw[Array.toList_modify];apply List.ext_getElem?;intro n;rw[List.getElem?_modify,List.getElem?_set];by_cases g:i=n;grind;simp[g]
 have A:(a.toList.map (·.born)).Pairwise (·<·):=List.pairwise_map.2 x
 have r:(a.toList.set i { e with val:=v }).map (·.born)=a.toList.map (·.born):=by
  rw[List.map_set];apply List.ext_getElem?;intro n;rw[List.getElem?_set];by_cases g:i=n;subst g;simp[f,d];simp[g]
 refine⟨{ w with heap:=w.heap.setIfInBounds m (.map (a.modify i fun e=>{ e with val:=v }) c) },?_,⟨a.modify i fun e=>{ e with val:=v },c,by simp[l],?_,?_,?_⟩,⟨rfl,rfl,rfl,Gd,Sm,fun b _ D=>by simp[Array.getElem?_setIfInBounds_ne<|Ne.symm D]⟩⟩
 simp[Instr.entryStore,C,asInt,asIntOf,p,setObj,Sem.run,hm]
 rw[y,List.map_set,s]
 grind
 grind
end
end Go.SE
end
section
namespace Go.SE
abbrev fw:=Addr×List Value×TypeId
def Wy:Obj->Bool
 |.cells ..=>true
 |_=>false
structure dd(Z:List (Nat×Obj))(H:Nat->Prop)(w:World)(l:List fw):Prop where
 box:∀x∈l,ai w x.1 x.2.1 x.2.2
 uy:∀x∈l,H x.1.block
 ne:l.Pairwise fun x y=>x.1.block≠y.1.block
 fz:∀x∈Z,H x.1/\w.heap[x.1]?=some x.2/\Wy x.2=false
abbrev HB(H:Nat->Prop)(w:World)(l:List fw):Prop:=dd [] H w l
structure af(w0:World)(H:Nat->Prop)(w:World)(a:Nat->Prop)(w':World):Prop where
 ext:ab a w w'
 sub:∀b,H b->a b
 aw:∀b,a b->H b\/w.heap.size<=b
 old:∀b,a b->w0.heap.size<=b
 lt:∀b,a b->b<w'.heap.size
 ew:w0.heap.size<=w'.heap.size
structure aj(H:Nat->Prop)(w w':World):Prop where
 size:w.heap.size<=w'.heap.size
 gq:∀b,b<w.heap.size->H b->w'.heap[b]?=w.heap[b]?
def ab.bl{F H w w'}(h:ab F w w')(a:∀b,H b->¬F b):aj H w w':=⟨h.size,fun b c d=>h.gq b c<|a b d⟩
def ab.bo{H w w'}(h:Pure w w'):aj H w w':=h.bl fun _ _ h=>h
def aj.refl{H}(w):aj H w w:=⟨Nat.le_refl _,fun _ _ _=>rfl⟩
section
variable {w0 w w1 w2 wv:World} {H H1 H2 Hv:Nat->Prop} {Z:List (Nat×Obj)} {l l':List fw}
def af.start(w0):af w0 ar w0 ar w0:=⟨ab.refl _,fun _ h=>h,fun _ h=>.inl h,fun _ h=>h.elim,fun _ h=>h.elim,Nat.le_refl _⟩
def HB.nil(H w):HB H w []:=⟨fun _ h=>(by cases h),fun _ h=>(by cases h),List.Pairwise.nil,fun _ h=>(by cases h)⟩
def af.fi(h:af w0 Hv wv H w):af w0 H w H w:=⟨ab.refl _,fun _ h=>h,fun _ h=>.inl h,h.old,h.lt,h.ew⟩
def af.gi(h:af w0 Hv wv H w)(a:aj H w w1):af w0 H w1 H w1:=
 ⟨ab.refl _,fun _ h=>h,fun _ h=>.inl h,h.old,fun b c=>Nat.lt_of_lt_of_le (h.lt b c) a.size,Nat.le_trans h.ew a.size⟩
def af.trans(h:af w0 Hv wv H w)(k:af w0 H w H1 w1):af w0 Hv wv H1 w1:=
 ⟨(h.ext.mono fun b _ a=>k.sub b a).trans k.ext,fun b a=>k.sub b<|h.sub b a,fun b a=>(k.aw b a).elim (fun a=>h.aw b a) fun a=>.inr<|Nat.le_trans h.ext.size a,k.old,k.lt,k.ew⟩
def af.pure(h:af w0 Hv wv H w)(E:Pure w w1):af w0 Hv wv H w1:=
 ⟨h.ext.fb E,h.sub,h.aw,h.old,fun b a=>Nat.lt_of_lt_of_le (h.lt b a) E.size,Nat.le_trans h.ew E.size⟩
def af.drew(h:af w0 Hv wv H w):af w0 Hv wv H w.drew:=h.pure<|ab.drew w
def dd.bl(a:dd Z H w l)(c:aj H w w1):dd Z H w1 l:=
 ⟨fun x b=>⟨(a.box x b).C9,by rw[c.gq _ (a.box x b).lt<|a.uy x b];exact(a.box x b).ao⟩,a.uy,a.ne,fun x b=>⟨(a.fz x b).1,by rw[c.gq _ (xY (a.fz x b).2.1) (a.fz x b).1];exact(a.fz x b).2.1,(a.fz x b).2.2⟩⟩
def dd.pure(a:dd Z H w l)(E:Pure w w1):dd Z H w1 l:=a.bl E.bo
def dd.drew(a:dd Z H w l):dd Z H w.drew l:=a.pure<|ab.drew w
def dd.sub(a:dd Z H w l)(c:l'.Sublist l):dd Z H w l':=⟨fun x b=>a.box x<|c.subset b,fun x b=>a.uy x<|c.subset b,a.ne.sublist c,a.fz⟩
def af.alloc{c T p}(h:af w0 Hv wv H w)(d:dd Z H w l)(f:au w (.cells c.toArray T) p w1):∃H1,af w0 Hv wv H1 w1/\dd Z H1 w1 ((p,c,T) ::l):=by
 have E:Pure w w1:=ab.aw f;have g:p.block=w.heap.size:=f.cu;have B:=ai.bh f;refine⟨fun b=>H b\/b=p.block,⟨(h.ext.fb E).mono fun b _ d=>.inl d,fun b d=>.inl<|h.sub b d,?_,?_,?_,Nat.le_trans h.ew E.size⟩,?_⟩;rintro b (d|rfl);exact h.aw b d;right;rw[g];exact h.ext.size;rintro b (d|rfl);exact h.old b d;rw[g];exact h.ew;rintro b (d|rfl);exact Nat.lt_of_lt_of_le (h.lt b d) E.size;exact B.lt;have e:=d.pure E;refine⟨?_,?_,?_,fun x a=>⟨.inl (e.fz x a).1,(e.fz x a).2⟩⟩;intro x a;rcases List.mem_cons.1 a with rfl|a;exact B;exact e.box x a;intro x a;rcases List.mem_cons.1 a with rfl|a;exact .inr rfl;exact .inl<|e.uy x a;refine List.pairwise_cons.2 ⟨fun x a=>?_,e.ne⟩;have:=(d.box x a).lt;show p.block≠x.1.block;omega
def dd.at(a:dd Z H w l){i:Nat}{p c T}(hi:l[i]?=some (p,c,T)):ai w p c T:=a.box _<|List.mem_of_getElem? hi
def dd.cell(b:dd Z H w l)(i j:Nat){p c T v}(hi:l[i]?=some (p,c,T))(a:c[j]?=some v):w.cell? (p.add j)=some v:=(b.at hi).cell a
def dd.bd(b:dd Z H w l)(i:Nat){p c T v}(hi:l[i]?=some (p,c,T))(a:c[0]?=some v):w.cell? p=some v:=by
 have:=b.cell i 0 hi a;simpa[Addr.add]using this
def dd.row(e:dd Z H w l)(i j n:Nat){p c vs T}(hi:l[i]?=some (p,c,T))(d:(c.drop j).take n=vs):Row w (p.add j) vs:=by
 intro k b;subst d;have a:k<n/\j+k<c.length:=by simp at b;omega
 rw[yL,List.getElem?_take,if_pos a.1,List.getElem?_drop,List.getElem?_eq_getElem a.2];exact(e.at hi).cell<|List.getElem?_eq_getElem a.2
def dd.jbp(e:dd Z H w l)(i n:Nat){p c vs T}(hi:l[i]?=some (p,c,T))(d:c.take n=vs):Row w p vs:=by
 intro k b;subst d;have a:k<n/\k<c.length:=by simp at b;omega
 rw[List.getElem?_take,if_pos a.1,List.getElem?_eq_getElem a.2];exact(e.at hi).cell<|List.getElem?_eq_getElem a.2
def dd.ee(a:dd Z H w l)(i j:Nat){p c T}(hi:l[i]?=some (p,c,T))(b:decide (j<c.length)=true):zL w (p.add j):=(a.at hi).ee<|of_decide_eq_true b
def dd.uz(a:dd Z H w l)(i j n:Nat){p c T}(hi:l[i]?=some (p,c,T))(d:decide (j+n<=c.length)=true):∀k,k<n->zL w ((p.add j).add k):=fun k b=>by
 rw[yL];exact(a.at hi).ee Gd
def dd.Kh(a:dd Z H w l)(i n:Nat){p c T}(hi:l[i]?=some (p,c,T))(d:decide (n<=c.length)=true):∀k,k<n->zL w (p.add k):=fun k b=>(a.at hi).ee Gd
def dd.put{i:Nat}{p:Addr}{c o:List Value}{T:TypeId}(a:dd Z H w l)(h:af w0 Hv wv H w)(hi:l[i]?=some (p,c,T))(hB:ai w1 p o T)(n:ab (·=p.block) w w1)(u:l.set i (p,o,T)=l'):af w0 Hv wv H w1/\dd Z H w1 l':=by
 have f:=List.mem_of_getElem? hi;refine⟨⟨h.ext.cg n fun b _ e=>by subst e;exact a.uy _ f,h.sub,h.aw,h.old,fun b a=>Nat.lt_of_lt_of_le (h.lt b a) n.size,Nat.le_trans h.ew n.size⟩,?_⟩;subst u;have⟨s,r⟩:=List.getElem?_eq_some_iff.1 hi;have m:∀k x,(l.set i (p,o,T))[k]?=some x->(k=i/\x=(p,o,T))\/(k≠i/\l[k]?=some x):=by
  intro k x d;rw[List.getElem?_set]at d;by_cases g:i=k;grind;grind
 have t:∀k x,k≠i->l[k]?=some x->x.1.block≠p.block:=by
  intro k x g d;have⟨v,y⟩:=List.getElem?_eq_some_iff.1 d;have A:=List.pairwise_iff_getElem.1 a.ne;rcases Nat.lt_or_gt_of_ne g with z|z;grind;grind
 refine⟨?_,?_,?_,fun x d=>⟨(a.fz x d).1,n.heap (a.fz x d).2.1 fun e=>?_,(a.fz x d).2.2⟩⟩;intro x d;have⟨k,g⟩:=List.getElem?_of_mem d;rcases m k x g with⟨_,rfl⟩|⟨q,j⟩;exact hB;exact(a.box x<|List.mem_of_getElem? j).ext n<|t k x q j;intro x d;have⟨k,g⟩:=List.getElem?_of_mem d;rcases m k x g with⟨_,rfl⟩|⟨q,j⟩;have:=a.uy _ f;exact this;exact a.uy x<|List.mem_of_getElem? j;have e:(l.set i (p,o,T)).map (fun x=>x.1.block)=l.map (fun x=>x.1.block):=by
  rw[List.map_set];apply List.ext_getElem?;intro k;rw[List.getElem?_set];by_cases g:i=k;subst g;simp[s,r];simp[g]
 have:=List.pairwise_map.2 a.ne;exact List.pairwise_map.1<|e▸this;have h1:=(a.box _ f).ao;have h2:=(a.fz x d).2;simp only at h1;rw[e,h1]at h2;have h3:=Option.some.inj h2.1;rw[<-h3]at h2;cases h2.2
def dd.set{i:Nat}(j:Nat){p c v T}(a:dd Z H w l)(h:af w0 Hv wv H w)(hi:l[i]?=some (p,c,T))(b:l.set i (p,c.set j v,T)=l'):af w0 Hv wv H (w.setCell (p.add j) v)/\dd Z H (w.setCell (p.add j) v) l':=
 a.put h hi ((a.at hi).set j v) (by have:=ab.setCell (w:=w) (p.add j) v;rw[zC]at this;exact this) b
def dd.store{i:Nat}(j:Nat){p c vs T}(a:dd Z H w l)(h:af w0 Hv wv H w)(hi:l[i]?=some (p,c,T))(d:decide (j+vs.length<=c.length)=true)(b:l.set i (p,c.take j++vs++c.drop (j+vs.length),T)=l'):af w0 Hv wv H (bb w (p.add j) vs)/\dd Z H (bb w (p.add j) vs) l':=
 a.put h hi (by have:=ai.storeAt vs 0 j w c (a.at hi) Gd;simpa[bb]using this) (by have:=ab.bb w (p.add j) vs;rw[zC]at this;exact this) b
def dd.Hb{i:Nat}{p:Addr}{c vs:List Value}{T:TypeId}(b:dd Z H w l)(h:af w0 Hv wv H w)(hi:l[i]?=some (p,c,T))(d:decide (vs.length<=c.length)=true)(a:l.set i (p,vs++c.drop vs.length,T)=l'):af w0 Hv wv H (bb w p vs)/\dd Z H (bb w p vs) l':=by
 have:=b.store 0 (vs:=vs) h hi (by simpa using d) (by simpa using a);simpa[Addr.add]using this
def ab.aq{F}(E:ab F w0 w)(h:af w0 H w H1 w1):ab F w0 w1:=E.cg h.ext fun b c a=>absurd (h.old b a) Om
def af.ja(h:af w0 H w H1 w1){G:Nat->Prop}(a:∀b,G b->b<w.heap.size/\¬H b):∀b,G b->¬H1 b:=fun b c h1=>(h.aw b h1).elim (a b c).2 Gd
def af.Kd(h:af w0 H w H1 w1){G:Nat->Prop}(a:∀b,G b->b<w0.heap.size):∀b,G b->¬H1 b:=fun b c h1=>Oi (a b c)<|h.old b h1
end
end Go.SE
namespace Go.SE
section
variable {H:Nat->Prop} {w:World} {a:Addr}
def aj.setCell{v}(h:¬H a.block):aj H w (w.setCell a v):=(ab.setCell a v).bl fun b c e=>h<|e▸c
def aj.bb{vs}(h:¬H a.block):aj H w (SE.bb w a vs):=(ab.bb w a vs).bl fun b c e=>h<|e▸c
def dd.drop{Z:List (Nat×Obj)}{l}(a:dd Z H w l)(n):dd Z H w (l.drop n):=a.sub<|List.drop_sublist n l
def Jb{cx P n c Q ρ}(J)(h:dw (x:=cx) P n c (pP J fun _ _ _=>False) ρ w)(b:∀ρ w,J ρ w->Q .normal ρ w):dw (x:=cx) P n c Q ρ w:=
 Av (fun e ρ w a=>by cases e<;>first|exact b _ _ a|exact a.elim) h
def Gc{Q:Exit->bg->World->Prop}{ρ:bg}{l:List (Nat×Value)}(h:ed ρ l)(a:Q .normal (yA ρ l) w):Q .normal ρ w:=by rwa [uM h]at a
end
end Go.SE
namespace Go.SE
def gZ{α:Type}{o:α}{l:List α}:(o ::l)[0]?=some o:=rfl
end Go.SE
end
section
namespace Go.SE
structure ju(H:Nat->Prop)(w:World)(e:TypeId)(sz:Nat)(s:Sl)(rs:List (List Value)):Prop where
 cj:bf w e sz s rs
 jf:∀b,s.ao b->¬H b
section
variable {w0 w w1 w2 wv:World} {H H1 Hv:Nat->Prop} {e:TypeId} {sz:Nat} {s:Sl} {rs:List (List Value)}
def ju.aq(h:ju H w e sz s rs)(hs:af w0 H w H1 w1):ju H1 w1 e sz s rs:=
 have a:∀b,s.ao b->¬H1 b:=hs.ja fun b c=>⟨h.cj.lt c,h.jf b c⟩
 ⟨h.cj.ext hs.ext a,a⟩
def ju.pure(h:ju H w e sz s rs)(E:Pure w w1):ju H w1 e sz s rs:=⟨h.cj.pure E,h.jf⟩
def ju.ext{F}(h:ju H w e sz s rs)(E:ab F w w1)(a:∀b,s.ao b->¬F b):ju H w1 e sz s rs:=⟨h.cj.ext E a,h.jf⟩
def ju.nil(H w):ju H w e sz Sl.nil []:=⟨bf.nil _ _ _,fun b h=>by have⟨a,h,_⟩:=h;cases h⟩
def bf.mm{α:Type}{f:α->List Value}{xs:List α}(h:bf w e sz s (xs.map f)){j}(b:j<xs.length):∃a,At s j sz a/\Row w a (f xs[j]):=by
 have⟨a,h1,h2,_⟩:=h.at (i:=j) Om (by simpa using b);exact⟨a,h1,by simpa using h2⟩
def ju.mm{α:Type}{f:α->List Value}{xs:List α}(h:ju H w e sz s (xs.map f)){j}(b:j<xs.length):∃a,At s j sz a/\Row w a (f xs[j]):=h.cj.mm b
def dn.mm{S}{α:Type}{f:α->List Value}{xs:List α}(h:dn S w sz s (xs.map f)){j}(b:j<xs.length):∃a,At s j sz a/\S a.block/\Row w a (f xs[j]):=by
 have⟨a,h1,h2,h3⟩:=h.at_ j (by simpa using b);exact⟨a,h1,h2,by simpa using h3⟩
def Ap{a v}(h:Row w a [v]):w.cell? a=some v:=by
 have:=h 0 Sm;simpa[Addr.add]using this
def dn.aq{S}(h:dn S w sz s rs)(hs:af w0 H w H1 w1)(a:∀b,S b->b<w0.heap.size):dn S w1 sz s rs:=h.ext hs.ext fun b c h1=>Oi (a b c)<|hs.old b h1
def af.first(h:af w0 ar w0 H1 w1):Pure w0 w1:=(ab.refl w0).aq h
def ju.append{P t ty bytes}(T:j1 P t e sz bytes)(h:ju H w e sz s rs)(hs:af w0 Hv wv H w){p c r}(hr:Row w p r)(j:r.length=sz)(h1:r.all vG=true)(g:(rs.length+1)*bytes<=140737488355328)(hm:rs.length+1<=maxLen):
  ∃s' w',(Builtin.append_ #[t,t] ty #[s.v,(Sl.mk (some p) 1 c).v]).run P w=.ok s'.v w'/\ju H w' e sz s' (rs++[r])/\ab s.ao w w'/\aj H w w'/\(∀b,s'.ao b->s.ao b\/w.heap.size<=b):=by
 have⟨s',w',d,l,i,a⟩:=h.cj.append T (ty:=ty) (c:=c) hr j h1 g hm
 exact⟨s',w',d,⟨l,fun b g=>(a b g).elim (h.jf b) fun k f=>Oh<|hs.lt b f⟩,i,i.bl fun b f hS=>h.jf b hS f,a⟩
def Sq(h:ju H w e sz s rs){w'}(E:Pure w0 w)(c:ab s.ao w w')(a:∀b,s.ao b->w0.heap.size<=b):Pure w0 w':=E.cg c Gd
end
def zN{j n:Nat}(h:j<n)(a:n<=9223372036854775807):IntKind.i64.wrap ((j:Int)+1)=((j+1:Nat):Int):=by
 rw[IntWalk.i64_in _ Om];omega
def yY{j n:Nat}(h:j<n):((n:Int)-((j+1:Nat):Int)).toNat<((n:Int)-(j:Int)).toNat:=Om
def vW{j n m:Nat}(hm:m=n)(h:decide ((j:Int)<(m:Int))=true):j<n:=by have h:=of_decide_eq_true h;omega
def yJ{j n m:Nat}(hm:m=n)(a:j<=n)(h:decide ((j:Int)<(m:Int))=false):j=n:=by have h:=of_decide_eq_false h;omega
end Go.SE
namespace Go.SE
def yS{cx P n c Q ρ w N}(J)(b:∀ρ w,J ρ w->N ρ w)(h:dw (x:=cx) P n c (pP J Q) ρ w):dw (x:=cx) P n c (pP N Q) ρ w:=
 Av (fun e ρ w a=>by cases e<;>first|exact b _ _ a|exact a) h
end Go.SE
namespace Go.SE
section
variable {w0 w w1:World} {H H1:Nat->Prop}
def BQ{a v}(h:w.cell? a=some v)(b:¬H a.block)(hs:af w0 H w H1 w1):w1.cell? a=some v:=
 hs.ext.cell h fun h1=>(hs.aw _ h1).elim b fun h2=>Oh<|World.block_lt_of_cell? w a h
def Ho{a v vs}(h:Row w a (v ::vs))(c:¬H a.block)(hs:af w0 H w H1 w1):Row w1 a (v ::vs):=
 hs.ext.row h (fun h1=>(hs.aw _ h1).elim c (fun h2=>by
  have b:=h 0 Sm;have:=World.block_lt_of_cell? w (a.add 0) b;rw[zC]at this;omega))
def xu{P ops C}{loud free:Nat->Bool}{Q Q'}(b:∀ρ w,Q ρ w->Q' ρ w):∀{fuel:Nat} {a:Array Bool} {ρ:bg} {w:World},ft P ops C loud free Q fuel a ρ w->ft P ops C loud free Q' fuel a ρ w
 |0,_,_,_,h=>⟨h.1,b _ _ h.2⟩
 |fuel+1,a,ρ,w,h=>by
  have key:∀i ρ w,fg P ops C loud free i (ft P ops C loud free Q fuel<|a.setIfInBounds i true) ρ w->fg P ops C loud free i (ft P ops C loud free Q' fuel<|a.setIfInBounds i true) ρ w:=by
   intro i ρ w h;unfold fg at h|-;split;rename_i f;simp only[f]at h;exact xu b h;rename_i o f;simp only[f]at h;split;rename_i d;rw[if_pos d]at h;split;rename_i c;rw[if_pos c]at h;exact tP h fun v w' ⟨l,k⟩=>⟨l,xu b k⟩;rename_i c;rw[if_neg c]at h;have⟨v,h1,h2⟩:=h;exact⟨v,h1,xu b h2⟩;rename_i d;rw[if_neg d]at h;exact xu b h
  rcases h with⟨i,h1,h2,h3,g⟩|⟨j,h⟩;exact .inl ⟨i,h1,h2,h3,key _ _ _ g⟩;exact .inr ⟨fun e=>b _ _<|j e,fun i hi=>key _ _ _<|h i hi⟩
def Ke{P ops C}{loud free:Nat->Bool}{Q ρ fuel}{a:Array Bool}(J)(h:ft P ops C loud free J fuel a ρ w)(b:∀ρ w,J ρ w->Q ρ w):ft P ops C loud free Q fuel a ρ w:=xu b h
def Pv{Q:bg->World->Prop}{ρ:bg}{l:List (Nat×Value)}(h:ed ρ l)(a:Q (yA ρ l) w):Q ρ w:=by rwa [uM h]at a
end
end Go.SE
namespace Go.SE
section
variable {P:Program} {t e:TypeId} {sz bytes:Nat}
def bf.hiA(T:j1 P t e sz bytes){w s rs}(h:bf w e sz s rs){k}{n:Int}(m:0<=n)(o:n<=rs.length):
  ∃s':Sl,(∀w:World,(Instr.sliceAt t s.v none (some<|.int k n) none).run P w=.ok s'.v w)/\bf w e sz s' (rs.take n.toNat)/\∀b,s'.ao b↔s.ao b:=by
 rcases h.ak with⟨rfl,rfl⟩|⟨g,cur,a,i,p,hm,hs,ht⟩
 have:n=0:=by simpa using(show n=0 by simp at o;omega)
 subst this
 refine⟨Sl.nil,fun w=>?_,by simpa using bf.nil w e sz,fun _=>Iff.rfl⟩
 simp[Instr.sliceAt,Instr.slice,Sl.v,Sl.nil,run_underlying T.ht,Instr.sliceBounds,Instr.sliceBound,asIntOf,T.sizeOf]
 refine⟨⟨some ⟨g,0,none⟩,n.toNat,s.cap⟩,fun w=>?_,⟨fun r hr=>h.mi r<|List.mem_of_mem_take hr,So,.inr ⟨g,cur,rfl,i,So,hm,hs,?_⟩⟩,fun b=>?_⟩
 have c:n<=(s.cap:Int):=Om
 by_cases f:s.cap=0
 have:n=0:=Om
 subst this
 simp[Instr.sliceAt,Instr.slice,Sl.v,run_underlying T.ht,Instr.sliceBounds,Instr.sliceBound,asIntOf,T.sizeOf,a,f]
 simp[Instr.sliceAt,Instr.slice,Sl.v,run_underlying T.ht,Instr.sliceBounds,Instr.sliceBound,asIntOf,T.sizeOf,m,c,a,f,Addr.add]
 have d:(rs.take n.toNat).length=n.toNat:=So
 have l:rs=rs.take n.toNat++rs.drop n.toNat:=(List.take_append_drop _ _).symm
 have j:((rs.take n.toNat).flatten).length=n.toNat*sz:=by rw[vM fun r hr=>h.mi r<|List.mem_of_mem_take hr,d]
 have h3:n.toNat*sz<=rs.length*sz:=Nat.mul_le_mul_right _ Om
 calc cur.toList.take ((rs.take n.toNat).length*sz)=(cur.toList.take<|rs.length*sz).take (n.toNat*sz):=by rw[d,List.take_take,Nat.min_eq_left h3]
  _=((rs.take n.toNat).flatten++(rs.drop n.toNat).flatten).take (n.toNat*sz):=by rw[ht,<-List.flatten_append,<-l]
  _=(rs.take n.toNat).flatten:=by rw[<-j,List.take_left]
 simp[Sl.ao,a]
end
end Go.SE
end
section
namespace Go.SE
open Go.Instr
section
variable {P:Program} {T K E:TypeId} {S:Value->Prop} {w:World} {m:Nat} {es:List (Value×Value)}
structure sq(w:World)(m:Nat)(ks:List Value)(B:Int):Prop where
 ex:∃es,jn w m es/\es.map Prod.fst=ks/\∀p∈es,∃n,p.2=.int .i64 n/\1<=n/\n<=B
 pt:ks.Nodup
def sq.ext{F w w' m ks B}(h:sq w m ks B)(a:ab F w w')(b:¬F m):sq w' m ks B:=
 ⟨let ⟨es,h1,h2⟩:=h.ex;⟨es,h1.ext a b,h2⟩,h.pt⟩
def sq.lt{w m ks B}(h:sq w m ks B):m<w.heap.size:=let ⟨_,h1,_⟩:=h.ex;h1.lt
def sq.bh{w w' p}(h:au w (.map #[] 0) p w')(B):sq w' p.block [] B:=⟨⟨[],jn.bh h,rfl,Sm⟩,List.nodup_nil⟩
def sq.mono{w m ks B B'}(h:sq w m ks B)(hB:B<=B'):sq w m ks B':=
 ⟨let ⟨es,h1,h2,h3⟩:=h.ex;⟨es,h1,h2,fun p a=>let ⟨n,h4,h5,h6⟩:=h3 p a;⟨n,h4,h5,Om⟩⟩,h.pt⟩
def sq.eu{ks B}(h:sq w m ks B)(a:P.underlying T=some (.map K E))(b:ru P K S)(hS:∀k∈ks,S k){k}(e:S k)(g:∀w,(zeroValue E).run P w=.ok (.int .i64 0) w):
  ∃v,(Instr.lookup T (.map<|some m) k false).run P w=.ok (.int .i64 v) w/\((k∈ks/\1<=v/\v<=B)\/(k∉ks/\v=0)):=by
 obtain⟨es,c,rfl,f⟩:=h.ex
 rcases c.lookup a b Gd e (g w) false with⟨j,hr⟩|⟨i,v,hi,hr⟩
 refine⟨0,hr,.inr ⟨fun hm=>?_,rfl⟩⟩
 obtain⟨p,d,rfl⟩:=List.mem_map.1 hm
 exact j p d rfl
 obtain⟨n,rfl,h1,h2⟩:=f _<|List.mem_of_getElem? hi
 exact⟨n,hr,.inl ⟨List.mem_map.2 ⟨_,List.mem_of_getElem? hi,rfl⟩,h1,h2⟩⟩
end
end Go.SE
end
section
namespace Go.SE
abbrev cl:=Calls Go.Proofs.Tryz.prog
abbrev li (w:World)(a:Addr)(Q:Int→Prop):Prop:=∃v,w.cell? a=some (.int .i64 v)∧Q v
abbrev lu (w:World)(a:Addr)(Q:Int→Prop):Prop:=∃v,w.cell? a=some (.int .u64 v)∧Q v
abbrev lp (w:World)(a:Addr)(Q:Option Addr→Prop):Prop:=∃v,w.cell? a=some (.pointer v)∧Q v
abbrev ls (w:World)(a:Addr)(Q:ByteArray→Prop):Prop:=∃v,w.cell? a=some (.string v)∧Q v
abbrev lb (w:World)(a:Addr)(Q:Bool→Prop):Prop:=∃v,w.cell? a=some (.bool v)∧Q v
abbrev lx (w:World)(a:Addr)(Q:Sl→Prop):Prop:=∃v,w.cell? a=some (Sl.v v)∧Q v
abbrev XA (Q:Sl→World→Prop):Ending→World→Prop:=fun e w=>∃a0,e=.returned (a0.v)∧Q a0 w
abbrev XB (Q:Int→World→Prop):Ending→World→Prop:=fun e w=>∃a0,e=.returned (.int .i64 a0)∧Q a0 w
abbrev XC (Q:Bool→World→Prop):Ending→World→Prop:=fun e w=>∃a0,e=.returned (.bool a0)∧Q a0 w
abbrev XD (Q:(Option Addr)→World→Prop):Ending→World→Prop:=fun e w=>∃a0,e=.returned (.pointer a0)∧Q a0 w
abbrev XE (Q:Int→Bool→World→Prop):Ending→World→Prop:=fun e w=>∃a0 a1,e=.returned (.tuple #[.int .i64 a0,.bool a1])∧Q a0 a1 w
abbrev XF (Q:Sl→Bool→World→Prop):Ending→World→Prop:=fun e w=>∃a0 a1,e=.returned (.tuple #[a0.v,.bool a1])∧Q a0 a1 w
abbrev XG (Q:Int→Int→Bool→Bool→World→Prop):Ending→World→Prop:=fun e w=>∃a0 a1 a2 a3,e=.returned (.tuple #[.int .i64 a0,.int .i64 a1,.bool a2,.bool a3])∧Q a0 a1 a2 a3 w
abbrev XH (Q:Int→Int→World→Prop):Ending→World→Prop:=fun e w=>∃a0 a1,e=.returned (.tuple #[.int .i64 a0,.int .i64 a1])∧Q a0 a1 w
abbrev XI (Q:Bool→Bool→Bool→Bool→Int→Int→World→Prop):Ending→World→Prop:=fun e w=>∃a0 a1 a2 a3 a4 a5,e=.returned (.tuple #[.agg #[.bool a0,.bool a1,.bool a2,.bool a3,.int .i64 a4],.int .i64 a5])∧Q a0 a1 a2 a3 a4 a5 w
abbrev XJ (Q:Int→Int→Int→World→Prop):Ending→World→Prop:=fun e w=>∃a0 a1 a2,e=.returned (.tuple #[.int .i64 a0,.int .i64 a1,.int .i64 a2])∧Q a0 a1 a2 w
abbrev XK (Q:Bool→Bool→Bool→Bool→Int→Bool→World→Prop):Ending→World→Prop:=fun e w=>∃a0 a1 a2 a3 a4 a5,e=.returned (.tuple #[.agg #[.bool a0,.bool a1,.bool a2,.bool a3,.int .i64 a4],.bool a5])∧Q a0 a1 a2 a3 a4 a5 w
abbrev XL (Q:Int→Int→Int→Int→ByteArray→Int→Int→Bool→World→Prop):Ending→World→Prop:=fun e w=>∃a0 a1 a2 a3 a4 a5 a6 a7,e=.returned (.tuple #[.agg #[.int .i64 a0,.int .i64 a1,.int .i64 a2,.int .u64 a3,.string a4,.int .i64 a5,.int .i64 a6],.bool a7])∧Q a0 a1 a2 a3 a4 a5 a6 a7 w
abbrev XM (Q:Sl→Int→World→Prop):Ending→World→Prop:=fun e w=>∃a0 a1,e=.returned (.tuple #[a0.v,.int .i64 a1])∧Q a0 a1 w
abbrev XN (Q:Int→Int→Int→Int→ByteArray→Int→Int→World→Prop):Ending→World→Prop:=fun e w=>∃a0 a1 a2 a3 a4 a5 a6,e=.returned (.agg #[.int .i64 a0,.int .i64 a1,.int .i64 a2,.int .u64 a3,.string a4,.int .i64 a5,.int .i64 a6])∧Q a0 a1 a2 a3 a4 a5 a6 w
abbrev XO (Q:ByteArray→Int→World→Prop):Ending→World→Prop:=fun e w=>∃a0 a1,e=.returned (.tuple #[.string a0,.int .i64 a1])∧Q a0 a1 w
abbrev XP (Q:Int→ByteArray→World→Prop):Ending→World→Prop:=fun e w=>∃a0 a1,e=.returned (.tuple #[.int .u64 a0,.string a1])∧Q a0 a1 w
abbrev XQ (Q:Int→Int→Int→ByteArray→Bool→World→Prop):Ending→World→Prop:=fun e w=>∃a0 a1 a2 a3 a4,e=.returned (.agg #[.int .i64 a0,.int .i64 a1,.int .u64 a2,.string a3,.bool a4])∧Q a0 a1 a2 a3 a4 w
abbrev XR (Q:Int→Int→Int→ByteArray→Bool→Bool→World→Prop):Ending→World→Prop:=fun e w=>∃a0 a1 a2 a3 a4 a5,e=.returned (.tuple #[.agg #[.int .i64 a0,.int .i64 a1,.int .u64 a2,.string a3,.bool a4],.bool a5])∧Q a0 a1 a2 a3 a4 a5 w
abbrev XS (Q:ByteArray→World→Prop):Ending→World→Prop:=fun e w=>∃a0,e=.returned (.string a0)∧Q a0 w
abbrev XT (Q:(Option Addr)→Bool→World→Prop):Ending→World→Prop:=fun e w=>∃a0 a1,e=.returned (.tuple #[.pointer a0,.bool a1])∧Q a0 a1 w
abbrev XU (Q:ByteArray→Int→Int→World→Prop):Ending→World→Prop:=fun e w=>∃a0 a1 a2,e=.returned (.tuple #[.string a0,.int .i64 a1,.int .i64 a2])∧Q a0 a1 a2 w
abbrev XV (Q:Int→World→Prop):Ending→World→Prop:=fun e w=>∃a0,e=.returned (.int .u8 a0)∧Q a0 w
abbrev XW (Q:Int→World→Prop):Ending→World→Prop:=fun e w=>∃a0,e=.returned (.int .u64 a0)∧Q a0 w
abbrev XY (Q:(Option Addr)→Int→Int→World→Prop):Ending→World→Prop:=fun e w=>∃a0 a1 a2,e=.returned (.tuple #[.pointer a0,.int .i64 a1,.int .i64 a2])∧Q a0 a1 a2 w
section
variable {P:Program} {ops:Array Oper} {Q:bg->World->Prop} {ρ:bg} {w:World} {rest:List Oper} {o:Oper}
def q0(v)(h:bu P ops Q rest (put ρ o.dst v) w)(a:Region.wanted o (zJ ops ρ)=true:=by kernel_rfl)(hr:(execOp (bw ρ) o).run P w=.ok (.value v) w:=by kernel_rfl):bu P ops Q (o ::rest) ρ w:=fe a hr h
def q1(v)(a:Region.wanted o (zJ ops ρ)=true)(h:bu P ops Q rest (put ρ o.dst v) w)(hr:(execOp (bw ρ) o).run P w=.ok (.value v) w:=by kernel_rfl):bu P ops Q (o ::rest) ρ w:=fe a hr h
def q2(v)(hr:(execOp (bw ρ) o).run P w=.ok (.value v) w)(h:bu P ops Q rest (put ρ o.dst v) w)(a:Region.wanted o (zJ ops ρ)=true:=by kernel_rfl):bu P ops Q (o ::rest) ρ w:=fe a hr h
variable {C:World->Prop} {loud free:Nat->Bool} {fuel:Nat} {listed:Array Bool}
def qx(k v)(a:ops[k]?=some o)(h:ft P ops C loud free Q fuel (listed.setIfInBounds k true) (put ρ o.dst v) w)(b:zx ops listed loud k=true:=by kernel_rfl)(c:Region.wanted o (zJ ops ρ)=true:=by kernel_rfl)(d:loud k=false:=by kernel_rfl)(hr:∀w',(execOp (bw ρ) o).run P w'=.ok (.value v) w':=by intro _;kernel_rfl):ft P ops C loud free Q (fuel+1) listed ρ w:=
 DS b<|sx a c d (fun w' _=>hr w') h
def qq{W}(k v)(a:ops[k]?=some o)(h:ft P ops (fun x=>x=W) loud free Q fuel (listed.setIfInBounds k true) (put ρ o.dst v) w)(b:zx ops listed loud k=true:=by kernel_rfl)(c:Region.wanted o (zJ ops ρ)=true:=by kernel_rfl)(d:loud k=false:=by kernel_rfl)(hr:(execOp (bw ρ) o).run P W=.ok (.value v) W:=by kernel_rfl):ft P ops (fun x=>x=W) loud free Q (fuel+1) listed ρ w:=
 DS b<|oz a c d hr h
end
section
variable {P:Program} {n:Nat} {Q:Exit->bg->World->Prop} {ρ:bg} {w:World}
def rg{cx id l}(h:bu P l.toArray (fun ρ w=>Q .normal ρ w) l ρ w)(a:tO n l=true:=by kernel_rfl):dw (x:=cx) P n (.region id l.toArray false) Q ρ w:=OV a h
end
section
variable {α:Type} {x0 x1 x2 x3 x4 x5 x6 x7 x8 x9 o:α} {l:List α}
def wi:(o ::l).toArray[0]?=some o:=rfl
def vm:(x0 ::o ::l).toArray[1]?=some o:=rfl
def wQ:(x0 ::x1 ::o ::l).toArray[2]?=some o:=rfl
def vq:(x0 ::x1 ::x2 ::o ::l).toArray[3]?=some o:=rfl
def wB:(x0 ::x1 ::x2 ::x3 ::o ::l).toArray[4]?=some o:=rfl
def wO:(x0 ::x1 ::x2 ::x3 ::x4 ::o ::l).toArray[5]?=some o:=rfl
def wK:(x0 ::x1 ::x2 ::x3 ::x4 ::x5 ::o ::l).toArray[6]?=some o:=rfl
def yt:(x0 ::x1 ::x2 ::x3 ::x4 ::x5 ::x6 ::o ::l).toArray[7]?=some o:=rfl
def xk:(x0 ::x1 ::x2 ::x3 ::x4 ::x5 ::x6 ::x7 ::o ::l).toArray[8]?=some o:=rfl
def yv:(x0 ::x1 ::x2 ::x3 ::x4 ::x5 ::x6 ::x7 ::x8 ::o ::l).toArray[9]?=some o:=rfl
end
end Go.SE
end
section
namespace Go.SE
section
variable {α:Type} {a b c d e f g h o:α} {l:List α} {k:Nat}
def S4(x:l[k]?=some o):(a ::b ::c ::d ::l)[k+4]?=some o:=by simpa using x
def S8(x:l[k]?=some o):(a ::b ::c ::d ::e ::f ::g ::h ::l)[k+8]?=some o:=by simpa using x
end
section
variable {P:Program} {ε:Operand->Value} {w w':World} {d:Option Tmp} {ty:TypeId} {pos:String} {aft:Array Edge} {g:Option (Nat×Bool)}
def xl{T:TypeId}{x:Operand}{a:Addr}{v:Value}(c:(isAgg T).run P w=.ok false w)(e:w.cell? a=some v)(b:ε x=.pointer (some a):=by kernel_rfl):(execOp ε ⟨d,.load T x,ty,pos,aft,g⟩).run P w=.ok (.value v) w:=tC b c e
def xT{c x y:Operand}{b:Bool}{v:Value}(e:b=true)(f:ε c=.bool b:=by kernel_rfl)(a:ε x=v:=by kernel_rfl):(execOp ε ⟨d,.pick c x y,ty,pos,aft,g⟩).run P w=.ok (.value v) w:=PE f e a
def xF{c x y:Operand}{b:Bool}{v:Value}(e:b=false)(f:ε c=.bool b:=by kernel_rfl)(a:ε y=v:=by kernel_rfl):(execOp ε ⟨d,.pick c x y,ty,pos,aft,g⟩).run P w=.ok (.value v) w:=Nt f e a
def xb{T:TypeId}{x:Operand}{cs:Array Value}(a:(ε x).cells=cs:=by kernel_rfl):(execOp ε ⟨d,.box T x,ty,pos,aft,g⟩).run P w=.ok (.value<|.pointer<|some ⟨w.heap.size,0,none⟩) (w.alloc<|.cells cs T):=GQ a
def xs{T:TypeId}{x y:Operand}{a:Addr}{v:Value}(hs:(sizeOf T).run P w=.ok 1 w)(e:zL w a)(c:ε x=.pointer (some a):=by kernel_rfl)(b:ε y=v:=by kernel_rfl)(h1:vG v=true:=by rfl):(execOp ε ⟨d,.store T x y,ty,pos,aft,g⟩).run P w=.ok .skip (w.setCell a v):=sX c b h1 hs e
end
section
variable {P:Program} {ρ:bg} {w w':World} {ty:TypeId} {pos:String} {aft:Array Edge} {g:Option (Nat×Bool)} {d:Option Tmp}
def xc{f:FuncId}{c:List Operand}{ts:Array TypeId}{args:Array Value}(b:∀args w,(callFunc f args).run P w=.ok (.enter f args) w)(a:(c.map<|bw ρ).toArray=args:=by kernel_rfl):
  (execOp (bw ρ) ⟨d,.call ⟨.value<|.func f,c.toArray,ts⟩,ty,pos,aft,g⟩).run P w=.ok (.enter f args) w:=Qr b a
end
section
variable {P:Program} {ops:Array Oper} {Q:bg->World->Prop} {ρ:bg} {w w':World} {rest:List Oper} {o:Oper} {v:Value}
def sn{O:Obj}(hr:(execOp (bw ρ) o).run P w=.ok (.value<|.pointer<|some ⟨w.heap.size,0,none⟩) (w.alloc O))(h:∀p w',au w O p w'->bu P ops Q rest (put ρ o.dst<|.pointer<|some p) w')(a:Region.wanted o (zJ ops ρ)=true:=by kernel_rfl):bu P ops Q (o ::rest) ρ w:=ym (fun p=>.pointer<|some p) a hr h
def sk{j:Nat}{t u:Bool}(b:zJ ops ρ j=some u)(h:bu P ops Q rest (put ρ o.dst undef) w)(c:o.guard=some (j,t):=by rfl)(a:(u==t)=false:=by rfl):bu P ops Q (o ::rest) ρ w:=Ej (MY c b a) h
end
section
variable {H:Nat->Prop} {w:World} {l:List fw}
def dd.c{Z:List (Nat×Obj)}(b:dd Z H w l)(i j:Nat){p:Addr}{c:List Value}{T:TypeId}{v:Value}(hi:l[i]?=some (p,c,T))(a:c[j]?=some v:=by kernel_rfl):w.cell? (p.add j)=some v:=b.cell i j hi a
def dd.c0{Z:List (Nat×Obj)}(b:dd Z H w l)(i:Nat){p:Addr}{c:List Value}{T:TypeId}{v:Value}(hi:l[i]?=some (p,c,T))(a:c[0]?=some v:=by kernel_rfl):w.cell? p=some v:=b.bd i hi a
end
abbrev vi(n:Int):Value:=.int .i64 n
abbrev vu(n:Int):Value:=.int .u64 n
abbrev vs(n:ByteArray):Value:=.string n
abbrev vb(n:Bool):Value:=.bool n
abbrev vp(n:Option Addr):Value:=.pointer n
end Go.SE
namespace Go.SE
def aj.hh{w0 wv w a:World}{Hv H:Nat->Prop}{Z:List (Nat×Obj)}{l:List fw}(b:aj H w a)(hs:af w0 Hv wv H w)(c:dd Z H w l):af w0 H a H a/\dd Z H a l:=⟨hs.gi b,c.bl b⟩
end Go.SE
namespace Go.SE
section
variable {P:Program} {ops:Array Oper} {C:World->Prop} {loud free:Nat->Bool} {K:bg->World->Prop} {ρ:bg} {w w' W:World} {o:Oper} {v:Value} {k:Nat}
def sy(a:ops[k]?=some o)(hr:∀w',C w'->(execOp (bw ρ) o).run P w'=.ok (.value v) w')(h:K (put ρ o.dst v) w)(b:Region.wanted o (zJ ops ρ)=true:=by kernel_rfl)(c:loud k=false:=by kernel_rfl):fg P ops C loud free k K ρ w:=sx a b c hr h
def sz(a:ops[k]?=some o)(b:Region.wanted o (zJ ops ρ)=true)(hr:∀w',C w'->(execOp (bw ρ) o).run P w'=.ok (.value v) w')(h:K (put ρ o.dst v) w)(c:loud k=false:=by kernel_rfl):fg P ops C loud free k K ρ w:=sx a b c hr h
def sf(a:ops[k]?=some o)(hr:(execOp (bw ρ) o).run P w=.ok (.value v) w)(h:K (put ρ o.dst v) w)(b:Region.wanted o (zJ ops ρ)=true:=by kernel_rfl)(c:loud k=false:=by kernel_rfl)(d:sI .any ops loud k=true:=by kernel_rfl):fg P ops C loud free k K ρ w:=OT a b c d hr h
def IB(a:ops[k]?=some o)(hr:(execOp (bw ρ) o).run P w=.ok .skip W)(h:∀w',w'=W->(free k=true\/C w')/\K (put ρ o.dst undef) w')(b:Region.wanted o (zJ ops ρ)=true:=by kernel_rfl)(c:loud k=true:=by kernel_rfl):fg P ops C loud free k K ρ w:=HL a b c hr h
variable {Q:bg->World->Prop} {fuel:Nat} {listed:Array Bool}
def qg(k:Nat)(h:fg P ops C loud free k (ft P ops C loud free Q fuel<|listed.setIfInBounds k true) ρ w)(a:zx ops listed loud k=true:=by kernel_rfl):ft P ops C loud free Q (fuel+1) listed ρ w:=DS a h
def lg(k:Nat)(h:fg P ops C loud free k (ft P ops C loud free Q fuel<|listed.setIfInBounds k true) ρ w)(hr:Region.ready .any ops listed=[k]:=by kernel_rfl):ft P ops C loud free Q (fuel+1) listed ρ w:=LF hr h
variable {ε:Operand->Value} {d:Option Tmp} {ty:TypeId} {pos:String} {aft:Array Edge} {g:Option (Nat×Bool)}
def xi{T E:TypeId}{x ix:Operand}{s:Sl}{i:Int}{n:Nat}{a:Addr}(e:(underlying T).run P w=.ok (.slice E) w)(hs:(sizeOf E).run P w=.ok n w)(c:At s i n a)(b:ε x=s.v:=by kernel_rfl)(hi:ε ix=.int .i64 i:=by kernel_rfl):(execOp ε ⟨d,.indexAddr T x ix,ty,pos,aft,g⟩).run P w=.ok (.value<|.pointer<|some a) w:=Jo b hi e hs c
def hm{l:List (Nat×Value)}(h:l.map (fun p=>ρ p.1)=l.map (·.2):=by kernel_rfl):ed ρ l:=ed.mk h
def wn{Q:bg->World->Prop}{listed:Array Bool}(h:Q ρ w)(a:Region.ready .any ops listed=[]:=by kernel_rfl):ft P ops C loud free Q 0 listed ρ w:=Ot a h
def sm{rest:List Oper}(h:bu P ops Q rest (put ρ o.dst undef) w)(a:Region.wanted o (zJ ops ρ)=false:=by kernel_rfl):bu P ops Q (o ::rest) ρ w:=Ej a h
def sc{rest:List Oper}{f:FuncId}{c:List Operand}{ts:Array TypeId}{args:Array Value}(j:∀args w,(callFunc f args).run P w=.ok (.enter f args) w)(h:Calls P f args w fun e a=>∃v,e=.returned v/\bu P ops Q rest (put ρ d v) a)(b:Region.wanted ⟨d,.call ⟨.value<|.func f,c.toArray,ts⟩,ty,pos,aft,g⟩ (zJ ops ρ)=true:=by kernel_rfl)(i:(c.map<|bw ρ).toArray=args:=by kernel_rfl):
  bu P ops Q (⟨d,.call ⟨.value<|.func f,c.toArray,ts⟩,ty,pos,aft,g⟩ ::rest) ρ w:=Hc b (Qr j i) h
def cw{n:Nat}{f:FuncId}{a:Func}{c:Code}{args:List Value}{R:Ending->World->Prop}(d:P.funcs[f]?=some a)(e:a.ntmps=n)(h:dw (x:=⟨none,[]⟩) P n c (qz P a n R) (xG args) w)(g:a.body=some c:=by exact rfl)(b:args.length<=n:=by exact Nat.le_of_ble_eq_true rfl):Calls P f args.toArray w R:=Jd d g e b h
def BL{n:Nat}{a:Func}{t:Nat}{v:Value}{R:Ending->World->Prop}{e:Exit}(hr:a.results=#[.tmp t])(h:R (.returned v) w)(b:ρ t=v:=by kernel_rfl)(c:e=.ret\/e=.normal:=by exact .inl rfl):qz P a n R e ρ w:=Vh c hr b h
end
end Go.SE
namespace Go.SE
def aj.sc{H:Nat->Prop}{w w':World}{a:Addr}{v:Value}(h:¬H a.block)(e:w'=w.setCell a v):aj H w w':=by rw[e];exact aj.setCell h
end Go.SE
namespace Go.SE
section
variable {P:Program} {n:Nat} {Q:Exit->bg->World->Prop} {ρ:bg} {w:World}
def ln{ops:Array Oper}{next:bg->World->Prop}(h:next ρ w):bu P ops (fun ρ w=>pP next Q .normal ρ w) [] ρ w:=h
def eg{a:Cx}{id:Nat}{l:List Oper}{y:Code}(h:bu P l.toArray (fun ρ w=>pP (fun ρ w=>dw (x:=a) P n y Q ρ w) Q .normal ρ w) l ρ w)(b:tO n l=true:=by kernel_rfl):dw (x:=a) P n (.seq (.region id l.toArray false) y) Q ρ w:=zK<|rg h b
def er{x:Cx}(h:Q .ret ρ w):dw (x:=x) P n .ret Q ρ w:=GI h
def wy{ops:Array Oper}{o:Oper}(d:Nat){j:Nat}{c t:Bool}(f:c=t)(a:o.guard=some (j,t):=by rfl)(b:(ops[j]?).bind (·.dst)=some d:=by kernel_rfl)(e:ρ d=.bool c:=by kernel_rfl):Region.wanted o (zJ ops ρ)=true:=HY a<|yE b e f
variable {ε:Operand->Value} {w':World} {d:Option Tmp} {ty:TypeId} {pos:String} {aft:Array Edge} {g:Option (Nat×Bool)}
def xo{T:TypeId}{x y:Operand}{n:Nat}(a:Addr)(vs:List Value)(hs:(sizeOf T).run P w=.ok n w)(f:∀j,j<vs.length->zL w (a.add j))(c:ε x=.pointer (some a):=by kernel_rfl)(b:ε y=.agg vs.toArray:=by kernel_rfl)(h1:vs.all vG=true:=by rfl)(e:vs.length=n:=by rfl):
  (execOp ε ⟨d,.store T x y,ty,pos,aft,g⟩).run P w=.ok .skip (bb w a vs):=AO c b h1 hs e f
def xa{T:TypeId}{x:Operand}{n:Nat}(a:Addr)(vs:List Value)(e:(isAgg T).run P w=.ok true w)(hs:(sizeOf T).run P w=.ok n w)(f:Row w a vs)(b:ε x=.pointer (some a):=by kernel_rfl)(c:vs.length=n:=by rfl):
  (execOp ε ⟨d,.load T x,ty,pos,aft,g⟩).run P w=.ok (.value<|.agg vs.toArray) w:=HX b e hs c f
def wF{a:Nat}{A:Addr}{T:TypeId}{vs:List Value}{k:Nat}(d:(isAgg T).run P w=.ok true w)(hs:(sizeOf T).run P w=.ok k w)(e:Row w A vs)(c:ρ a=.pointer (some A):=by kernel_rfl)(b:vs.length=k:=by rfl):RV P ρ w (.cell a T) (.agg vs.toArray):=RV.Qz c d hs b e
end
section
variable {H Hv:Nat->Prop} {w0 wv w w':World} {l l':List fw} {Z:List (Nat×Obj)} {p:Addr} {c vs:List Value} {T:TypeId}
def dd.r0(b:dd Z H w l)(i n:Nat)(hi:l[i]?=some (p,c,T))(a:c.take n=vs:=by kernel_rfl):Row w p vs:=b.jbp i n hi a
def dd.k0(a:dd Z H w l)(i n:Nat)(hi:l[i]?=some (p,c,T))(b:decide (n<=c.length)=true:=by kernel_rfl):∀k,k<n->zL w (p.add k):=a.Kh i n hi b
def dd.s0(d:dd Z H w l)(i:Nat)(vs:List Value)(h:af w0 Hv wv H w)(a:w'=bb w p vs)(hi:l[i]?=some (p,c,T))(e:decide (vs.length<=c.length)=true:=by kernel_rfl)(b:l.set i (p,vs++c.drop vs.length,T)=l':=by kernel_rfl):af w0 Hv wv H w'/\dd Z H w' l':=by
 subst a;exact d.Hb h hi e b
end
end Go.SE
namespace Go.SE
abbrev ve:Value:=.string ⟨#[]⟩
def GM(b:Bool):b=true\/b=false:=Bool.eq_false_or_eq_true b
section
variable {P:Program} {ops:Array Oper} {Q:bg->World->Prop} {C:World->Prop} {loud free:Nat->Bool} {K:bg->World->Prop} {ρ:bg} {w:World} {k:Nat} {d:Option Tmp} {ty:TypeId} {pos:String} {aft:Array Edge} {g:Option (Nat×Bool)}
def ss{rest:List Oper}{o:Oper}{W:World}(hr:(execOp (bw ρ) o).run P w=.ok .skip W)(h:∀w',w'=W->bu P ops Q rest (put ρ o.dst undef) w')(a:o.guard=none:=by rfl):bu P ops Q (o ::rest) ρ w:=xj (qC a) hr h
variable {ε:Operand->Value}
def xn{x:Operand}{p:Option Addr}{a:Addr}(b:p=some a)(c:ε x=.pointer p:=by kernel_rfl):(execOp ε ⟨d,.nilCheck x,ty,pos,aft,g⟩).run P w=.ok (.value<|.pointer<|some a) w:=IS c b
end
end Go.SE
namespace Go.SE
def rv:Result Next->Value
 |.ok (.value v) _=>v
 |_=>undef
def sv(P:Program)(o:Oper)(ρ:bg)(w:World):bg:=put ρ o.dst<|rv<|(execOp (bw ρ) o).run P w
def Bq:Result Next->Bool
 |.ok (.value _) _=>true
 |_=>false
def DT(w:World):Result Next->World
 |.ok _ w'=>w'
 |_=>w
def JA{r:Result Next}{w w0:World}(h:Bq r=true)(b:DT w0 r=w):r=.ok (.value<|rv r) w:=by
 cases r with
 |ok a w' =>
  cases a with
  |value v=>simp[rv,DT]at b|-;exact b
  |_=>simp[Bq]at h
 |_=>simp[Bq]at h
def rP(P:Program)(ops:Array Oper)(o:Oper)(ρ:bg)(w:World):Bool×World:=(Region.wanted o (zJ ops ρ)&&Bq ((execOp (bw ρ) o).run P w),DT w<|(execOp (bw ρ) o).run P w)
def Mr{P:Program}{ops:Array Oper}{o:Oper}{ρ:bg}{w:World}(h:rP P ops o ρ w=(true,w)):Region.wanted o (zJ ops ρ)=true/\(execOp (bw ρ) o).run P w=.ok (.value<|rv<|(execOp (bw ρ) o).run P w) w:=by
 have h1:=congrArg Prod.fst h;have h2:=congrArg Prod.snd h;simp only[rP,Bool.and_eq_true]at h1 h2;exact⟨h1.1,JA h1.2 h2⟩
def PL(P:Program)(o:Oper)(ρ:bg)(w:World):Bool×World:=(Bq<|(execOp (bw ρ) o).run P w,DT w<|(execOp (bw ρ) o).run P w)
def Xb{P:Program}{o:Oper}{ρ:bg}{w:World}(h:PL P o ρ w=(true,w)):(execOp (bw ρ) o).run P w=.ok (.value<|rv<|(execOp (bw ρ) o).run P w) w:=JA (congrArg Prod.fst h)<|congrArg Prod.snd h
section
variable {P:Program} {ops:Array Oper} {Q:bg->World->Prop} {ρ:bg} {w:World} {rest:List Oper} {o o1 o2 o3 o4 o5:Oper}
def q(h:bu P ops Q rest (sv P o ρ w) w)(a:rP P ops o ρ w=(true,w):=by kernel_rfl):bu P ops Q (o ::rest) ρ w:=fe (Mr a).1 (Mr a).2 h
def qb(h:bu P ops Q rest (sv P o1 (sv P o ρ w) w) w)(a:rP P ops o ρ w=(true,w):=by kernel_rfl)(h1:rP P ops o1 (sv P o ρ w) w=(true,w):=by kernel_rfl):bu P ops Q (o ::o1 ::rest) ρ w:=q (q h h1) a
def qc(h:bu P ops Q rest (sv P o2 (sv P o1 (sv P o ρ w) w) w) w)(a:rP P ops o ρ w=(true,w):=by kernel_rfl)(h1:rP P ops o1 (sv P o ρ w) w=(true,w):=by kernel_rfl)(h2:rP P ops o2 (sv P o1 (sv P o ρ w) w) w=(true,w):=by kernel_rfl):bu P ops Q (o ::o1 ::o2 ::rest) ρ w:=q (q (q h h2) h1) a
def qd(h:bu P ops Q rest (sv P o3 (sv P o2 (sv P o1 (sv P o ρ w) w) w) w) w)(a:rP P ops o ρ w=(true,w):=by kernel_rfl)(h1:rP P ops o1 (sv P o ρ w) w=(true,w):=by kernel_rfl)(h2:rP P ops o2 (sv P o1 (sv P o ρ w) w) w=(true,w):=by kernel_rfl)(h3:rP P ops o3 (sv P o2 (sv P o1 (sv P o ρ w) w) w) w=(true,w):=by kernel_rfl):bu P ops Q (o ::o1 ::o2 ::o3 ::rest) ρ w:=qb (qb h h2 h3) a h1
def qk(d:Nat){j:Nat}{c t:Bool}(f:c=t)(h:bu P ops Q rest (sv P o ρ w) w)(a:o.guard=some (j,t):=by rfl)(b:(ops[j]?).bind (·.dst)=some d:=by kernel_rfl)(e:ρ d=.bool c:=by kernel_rfl)(hr:PL P o ρ w=(true,w):=by kernel_rfl):bu P ops Q (o ::rest) ρ w:=fe (HY a<|yE b e f) (Xb hr) h
def stq{v:Value}(a:Region.wanted o (zJ ops ρ)=true)(hr:(execOp (bw ρ) o).run P w=.ok (.value v) w)(h:bu P ops Q rest (put ρ o.dst v) w):bu P ops Q (o ::rest) ρ w:=Go.SE.fe a hr h
def q3{v:Value}(hr:(execOp (bw ρ) o).run P w=.ok (.value v) w)(h:bu P ops Q rest (put ρ o.dst v) w)(a:Region.wanted o (zJ ops ρ)=true:=by kernel_rfl):bu P ops Q (o ::rest) ρ w:=fe a hr h
def q4{v:Value}(d:Nat){j:Nat}{c t:Bool}(f:c=t)(hr:(execOp (bw ρ) o).run P w=.ok (.value v) w)(h:bu P ops Q rest (put ρ o.dst v) w)(a:o.guard=some (j,t):=by rfl)(b:(ops[j]?).bind (·.dst)=some d:=by kernel_rfl)(e:ρ d=.bool c:=by kernel_rfl):bu P ops Q (o ::rest) ρ w:=fe (HY a<|yE b e f) hr h
def sj(d:Nat){j:Nat}{c t u:Bool}(g:c=u)(h:bu P ops Q rest (put ρ o.dst undef) w)(b:o.guard=some (j,t):=by rfl)(a:(u==t)=false:=by rfl)(e:(ops[j]?).bind (·.dst)=some d:=by kernel_rfl)(f:ρ d=.bool c:=by kernel_rfl):bu P ops Q (o ::rest) ρ w:=Ej (MY b (yE e f g) a) h
def FM(d:Nat){e a:Nat}{c u b f:Bool}(g:c=u)(h:bu P ops Q rest (put (put ρ o.dst undef) o1.dst undef) w)(m:o.guard=some (e,b):=by rfl)(k:(u==b)=false:=by rfl)(d0:(ops[e]?).bind (·.dst)=some d:=by kernel_rfl)(l:ρ d=.bool c:=by kernel_rfl)(j:o1.guard=some (a,f):=by rfl)(n1:(u==f)=false:=by rfl)(d1:(ops[a]?).bind (·.dst)=some d:=by kernel_rfl)(i:(put ρ o.dst undef) d=.bool c:=by kernel_rfl):bu P ops Q (o ::o1 ::rest) ρ w:=sj d g (sj d g (h) j n1 d1 i) m k d0 l
def sj3(d:Nat){f b g:Nat}{c u e j i:Bool}(a:c=u)(h:bu P ops Q rest (put (put (put ρ o.dst undef) o1.dst undef) o2.dst undef) w)(r:o.guard=some (f,e):=by rfl)(p:(u==e)=false:=by rfl)(d0:(ops[f]?).bind (·.dst)=some d:=by kernel_rfl)(q:ρ d=.bool c:=by kernel_rfl)(n:o1.guard=some (b,j):=by rfl)(n1:(u==j)=false:=by rfl)(d1:(ops[b]?).bind (·.dst)=some d:=by kernel_rfl)(m:(put ρ o.dst undef) d=.bool c:=by kernel_rfl)(l:o2.guard=some (g,i):=by rfl)(n2:(u==i)=false:=by rfl)(d2:(ops[g]?).bind (·.dst)=some d:=by kernel_rfl)(k:(put (put ρ o.dst undef) o1.dst undef) d=.bool c:=by kernel_rfl):bu P ops Q (o ::o1 ::o2 ::rest) ρ w:=sj d a (sj d a (sj d a (h) l n2 d2 k) n n1 d1 m) r p d0 q
def sj4(d:Nat){g e i b:Nat}{c u f l j k:Bool}(a:c=u)(h:bu P ops Q rest (put (put (put (put ρ o.dst undef) o1.dst undef) o2.dst undef) o3.dst undef) w)(v:o.guard=some (g,f):=by rfl)(s:(u==f)=false:=by rfl)(d0:(ops[g]?).bind (·.dst)=some d:=by kernel_rfl)(t:ρ d=.bool c:=by kernel_rfl)(r:o1.guard=some (e,l):=by rfl)(n1:(u==l)=false:=by rfl)(d1:(ops[e]?).bind (·.dst)=some d:=by kernel_rfl)(p:(put ρ o.dst undef) d=.bool c:=by kernel_rfl)(n:o2.guard=some (i,j):=by rfl)(n2:(u==j)=false:=by rfl)(d2:(ops[i]?).bind (·.dst)=some d:=by kernel_rfl)(m:(put (put ρ o.dst undef) o1.dst undef) d=.bool c:=by kernel_rfl)(q:o3.guard=some (b,k):=by rfl)(n3:(u==k)=false:=by rfl)(d3:(ops[b]?).bind (·.dst)=some d:=by kernel_rfl)(x:(put (put (put ρ o.dst undef) o1.dst undef) o2.dst undef) d=.bool c:=by kernel_rfl):bu P ops Q (o ::o1 ::o2 ::o3 ::rest) ρ w:=sj d a (sj d a (sj d a (sj d a (h) q n3 d3 x) n n2 d2 m) r n1 d1 p) v s d0 t
variable {d:Option Tmp} {ty:TypeId} {pos:String} {aft:Array Edge} {g:Option (Nat×Bool)}
def ql{τ:Type}{F:τ->Value}{R:τ->Prop}{T:TypeId}{x:Operand}{a:Addr}(f:(isAgg T).run P w=.ok false w)(h:∃v,w.cell? a=some (F v)/\R v)(k:∀v,R v->bu P ops Q rest (put ρ d<|F v) w)(b:bw ρ x=.pointer (some a):=by kernel_rfl)(e:Region.wanted ⟨d,.load T x,ty,pos,aft,g⟩ (zJ ops ρ)=true:=by kernel_rfl):bu P ops Q (⟨d,.load T x,ty,pos,aft,g⟩ ::rest) ρ w:=by
 have⟨v,c,h⟩:=h;exact q2 _ (tC b f c) (k v h) e
def qm{R:Addr->Prop}{x:Operand}{p:Option Addr}(h:∃a,p=some a/\R a)(k:∀a,R a->bu P ops Q rest (put ρ d<|.pointer<|some a) w)(b:bw ρ x=.pointer p:=by kernel_rfl)(c:Region.wanted ⟨d,.nilCheck x,ty,pos,aft,g⟩ (zJ ops ρ)=true:=by kernel_rfl):bu P ops Q (⟨d,.nilCheck x,ty,pos,aft,g⟩ ::rest) ρ w:=by
 have⟨a,e,h⟩:=h;exact q2 _ (IS b e) (k a h) c
def qi{R:Addr->Prop}{T E:TypeId}{x ix:Operand}{s:Sl}{i:Int}{n:Nat}(f:(underlying T).run P w=.ok (.slice E) w)(hs:(sizeOf E).run P w=.ok n w)(h:∃a,At s i n a/\R a)(k:∀a,R a->bu P ops Q rest (put ρ d<|.pointer<|some a) w)(b:bw ρ x=s.v:=by kernel_rfl)(hi:bw ρ ix=.int .i64 i:=by kernel_rfl)(c:Region.wanted ⟨d,.indexAddr T x ix,ty,pos,aft,g⟩ (zJ ops ρ)=true:=by kernel_rfl):bu P ops Q (⟨d,.indexAddr T x ix,ty,pos,aft,g⟩ ::rest) ρ w:=by
 have⟨a,e,h⟩:=h;exact q2 _ (Jo b hi f hs e) (k a h) c
def qa{T:TypeId}{x:Operand}{n:Nat}{a:Addr}{vs:List Value}(b:(isAgg T).run P w=.ok true w)(hs:(sizeOf T).run P w=.ok n w)(f:Row w a vs)(h:bu P ops Q rest (put ρ d<|.agg vs.toArray) w)(e:bw ρ x=.pointer (some a):=by kernel_rfl)(i:vs.length=n:=by rfl)(c:Region.wanted ⟨d,.load T x,ty,pos,aft,g⟩ (zJ ops ρ)=true:=by kernel_rfl):bu P ops Q (⟨d,.load T x,ty,pos,aft,g⟩ ::rest) ρ w:=q2 _ (HX e b hs i f) h c
def su{R:World->Prop}{T:TypeId}{x y:Operand}{n m:Nat}{a:Addr}{vs:List Value}(hs:(sizeOf T).run P w=.ok n w)(h:(∀j,j<m->zL w (a.add j))/\∀w',w'=bb w a vs->R w')(k:∀w',R w'->bu P ops Q rest (put ρ d undef) w')(c:bw ρ x=.pointer (some a):=by kernel_rfl)(b:bw ρ y=.agg vs.toArray:=by kernel_rfl)(h1:vs.all vG=true:=by rfl)(f:vs.length=n:=by rfl)(hm:vs.length=m:=by rfl)(e:Region.wanted ⟨d,.store T x y,ty,pos,aft,g⟩ (zJ ops ρ)=true:=by kernel_rfl):bu P ops Q (⟨d,.store T x y,ty,pos,aft,g⟩ ::rest) ρ w:=by
 subst hm;exact wx e (AO c b h1 hs f h.1)<|k _<|h.2 _ rfl
def qn{R:World->Prop}{T:TypeId}{x y:Operand}{a:Addr}{v:Value}(hs:(sizeOf T).run P w=.ok 1 w)(h:zL w a/\∀w',w'=w.setCell a v->R w')(k:∀w',R w'->bu P ops Q rest (put ρ d undef) w')(c:bw ρ x=.pointer (some a):=by kernel_rfl)(b:bw ρ y=v:=by kernel_rfl)(h1:vG v=true:=by rfl)(e:Region.wanted ⟨d,.store T x y,ty,pos,aft,g⟩ (zJ ops ρ)=true:=by kernel_rfl):bu P ops Q (⟨d,.store T x y,ty,pos,aft,g⟩ ::rest) ρ w:=
 wx e (sX c b h1 hs h.1)<|k _<|h.2 _ rfl
variable {H Hv:Nat->Prop} {w0 wv:World} {l:List fw} {Z:List (Nat×Obj)}
def jy{R:World->Prop}{T:TypeId}{x y:Operand}{a:Addr}{v:Value}(hs:(sizeOf T).run P w=.ok 1 w)(aq:af w0 Hv wv H w)(b:dd Z H w l)(h:zL w a/\¬H a.block/\∀w',w'=w.setCell a v->R w')(k:∀w',af w0 H w' H w'->dd Z H w' l->R w'->bu P ops Q rest (put ρ d undef) w')(e:bw ρ x=.pointer (some a):=by kernel_rfl)(c:bw ρ y=v:=by kernel_rfl)(h1:vG v=true:=by rfl)(f:Region.wanted ⟨d,.store T x y,ty,pos,aft,g⟩ (zJ ops ρ)=true:=by kernel_rfl):bu P ops Q (⟨d,.store T x y,ty,pos,aft,g⟩ ::rest) ρ w:=
 wx f (sX e c h1 hs h.1) (by obtain⟨aq,b⟩:=(aj.setCell h.2.1).hh aq b;exact k _ aq b<|h.2.2 _ rfl)
def MK{R:Addr->World->Prop}{O:Obj}(h:∀p w',au w O p w'->R p w')(hr:(execOp (bw ρ) o).run P w=.ok (.value<|.pointer<|some ⟨w.heap.size,0,none⟩) (w.alloc O))(k:∀p w',R p w'->bu P ops Q rest (put ρ o.dst<|.pointer<|some p) w')(a:Region.wanted o (zJ ops ρ)=true:=by kernel_rfl):bu P ops Q (o ::rest) ρ w:=sn hr (fun p w' b=>k p w'<|h p w' b) a
def rZ{R:Addr->World->Prop}{O:Obj}(aq:af w0 Hv wv H w)(a:dd Z H w l)(h:∀p w',au w O p w'->R p w')(hr:(execOp (bw ρ) o).run P w=.ok (.value<|.pointer<|some ⟨w.heap.size,0,none⟩) (w.alloc O))(k:∀p w',af w0 H w' H w'->dd Z H w' l->R p w'->bu P ops Q rest (put ρ o.dst<|.pointer<|some p) w')(c:Region.wanted o (zJ ops ρ)=true:=by kernel_rfl):bu P ops Q (o ::rest) ρ w:=sn hr (fun p w' b=>by
 have⟨aq,a⟩:=(ab.aw (F:=ar) b).bo.hh aq a;exact k p w' aq a<|h p w' b) c
def UR(c:List Value)(T:TypeId)(aq:af w0 Hv wv H w)(a:dd Z H w l)(hr:(execOp (bw ρ) o).run P w=.ok (.value<|.pointer<|some ⟨w.heap.size,0,none⟩) (w.alloc<|.cells c.toArray T))(k:∀p w' b,af w0 Hv wv b w'->dd Z b w' ((p,c,T) ::l)->bu P ops Q rest (put ρ o.dst<|.pointer<|some p) w')(e:Region.wanted o (zJ ops ρ)=true:=by kernel_rfl):bu P ops Q (o ::rest) ρ w:=sn hr (fun p w' f=>by
 have⟨d,aq,a⟩:=aq.alloc a f;exact k p w' d aq a) e
def Wg(i:Nat)(vs:List Value){p:Addr}{c:List Value}{T U:TypeId}{x y:Operand}{n:Nat}(hs:(sizeOf T).run P w=.ok n w)(aq:af w0 Hv wv H w)(f:dd Z H w l)(hi:l[i]?=some (p,c,U))(k:∀w',af w0 Hv wv H w'->dd Z H w' (l.set i (p,vs++c.drop vs.length,U))->bu P ops Q rest (put ρ d undef) w')(m:bw ρ x=.pointer (some p):=by kernel_rfl)(j:bw ρ y=.agg vs.toArray:=by kernel_rfl)(h1:vs.all vG=true:=by rfl)(o:vs.length=n:=by rfl)(e:decide (vs.length<=c.length)=true:=by kernel_rfl)(h:Region.wanted ⟨d,.store T x y,ty,pos,aft,g⟩ (zJ ops ρ)=true:=by kernel_rfl):bu P ops Q (⟨d,.store T x y,ty,pos,aft,g⟩ ::rest) ρ w:=
 wx h (AO m j h1 hs o<|f.Kh i _ hi e) (by have⟨a,b⟩:=f.Hb (vs:=vs) aq hi e rfl;exact k _ a b)
end
section
variable {H Hv:Nat->Prop} {w0 wv w w':World} {l l':List fw} {Z:List (Nat×Obj)} {p:Addr} {c vs:List Value} {T:TypeId}
def dd.qn(b:dd Z H w l)(i:Nat)(h:af w0 Hv wv H w)(a:w'=bb w p vs)(hi:l[i]?=some (p,c,T))(d:decide (vs.length<=c.length)=true:=by kernel_rfl):af w0 Hv wv H w'/\dd Z H w' (l.set i (p,vs++c.drop vs.length,T)):=by
 subst a;exact b.Hb h hi d rfl
def dd.d(b:dd Z H w l)(i j:Nat){p:Addr}{c:List Value}{T:TypeId}(hi:l[i]?=some (p,c,T))(a:c[j]?=some (c.getD j undef):=by kernel_rfl):w.cell? (p.add j)=some (c.getD j undef):=b.cell i j hi a
def dd.d0(b:dd Z H w l)(i:Nat){p:Addr}{c:List Value}{T:TypeId}(hi:l[i]?=some (p,c,T))(a:c[0]?=some (c.getD 0 undef):=by kernel_rfl):w.cell? p=some (c.getD 0 undef):=b.bd i hi a
def af.nw{O:Obj}{p:Addr}(h:af w0 Hv wv H w)(b:dd Z H w l)(a:au w O p w'):af w0 H w' H w'/\dd Z H w' l:=(ab.aw (F:=ar) a).bo.hh h b
def af.pp(h:af w0 Hv wv H w)(a:dd Z H w l)(E:Pure w w'):af w0 Hv wv H w'/\dd Z H w' l:=⟨h.pure E,a.pure E⟩
def af.hr{R:Prop}(hs:af w0 Hv wv H w)(h:af w0 Hv wv H w->R):R/\af w0 H w H w:=⟨h hs,hs.fi⟩
def sr(w0:World):af w0 ar w0 ar w0/\HB ar w0 []:=⟨af.start w0,HB.nil ar w0⟩
end
def Br.br{c:Bool}{A B:Prop}(h:Br c A B):(c=true/\A)\/(c=false/\B):=by
 cases c;exact .inr ⟨rfl,h.2 rfl⟩;exact .inl ⟨rfl,h.1 rfl⟩
section
variable {P:Program} {n:Nat} {Q:Exit->bg->World->Prop} {ρ:bg} {w:World}
def ib{a:Cx}{c:Operand}{y z:Code}{t:Bool}{A B:Prop}(h:Br t A B)(ht:A->dw (x:=a) P n y Q ρ w)(b:B->dw (x:=a) P n z Q ρ w)(d:bw ρ c=.bool t:=by kernel_rfl):dw (x:=a) P n (.cond c y z) Q ρ w:=zp d (fun e=>ht<|h.1 e) fun e=>b<|h.2 e
def rO{a:Func}{r s:ResultVar}{v u:Value}{R:Ending->World->Prop}{e:Exit}(hr:a.results=#[r,s])(h:RV P ρ w r v)(d:RV P ρ w s u)(b:R (.returned<|.tuple #[v,u]) w)(c:e=.ret\/e=.normal:=by exact .inl rfl):qz P a n R e ρ w:=Hq c (rs:=[r,s]) (vs:=[v,u]) hr ⟨h,d,trivial⟩ rfl b
def wh{t:Nat}(v:Value)(h:ρ t=v:=by kernel_rfl):RV P ρ w (.tmp t) v:=h
end
end Go.SE
namespace Go.SE
section
variable {P:Program} {ops:Array Oper} {Q:bg->World->Prop} {ρ:bg} {w:World} {rest:List Oper} {o:Oper}
variable {H Hv:Nat->Prop} {w0 wv:World} {l:List fw} {Z:List (Nat×Obj)}
def Fo{R:Addr->World->Prop}{O:Obj}(v:Addr->Value)(aq:af w0 Hv wv H w)(a:dd Z H w l)(h:∀p w',au w O p w'->R p w')(k:∀p w',af w0 H w' H w'->dd Z H w' l->R p w'->bu P ops Q rest (put ρ o.dst<|v p) w')(hr:(execOp (bw ρ) o).run P w=.ok (.value<|v ⟨w.heap.size,0,none⟩) (w.alloc O):=by kernel_rfl)(c:Region.wanted o (zJ ops ρ)=true:=by kernel_rfl):bu P ops Q (o ::rest) ρ w:=ym v c hr (fun p w' b=>by
 have⟨aq,a⟩:=aq.nw a b;exact k p w' aq a<|h p w' b)
end
section
variable {P:Program} {ops:Array Oper} {C:World->Prop} {loud free:Nat->Bool} {K:bg->World->Prop} {ρ:bg} {w:World} {k:Nat}
variable {d:Option Tmp} {ty:TypeId} {pos:String} {aft:Array Edge} {g:Option (Nat×Bool)}
end
section
variable {P:Program} {n:Nat} {Q:Exit->bg->World->Prop} {ρ:bg} {w:World}
variable {H Hv:Nat->Prop} {w0 wv:World} {l':List fw} {Z:List (Nat×Obj)}
def Qu{R:World->Prop}{c:Cx}{id:Nat}{l:List Oper}(C:World->Prop)(loud free:List Nat)(d:C w.drew)(h:∀w',w'=w.drew->R w')(hs:af w0 Hv wv H w)(f:dd Z H w l')(k:∀w',af w0 Hv wv H w'->dd Z H w' l'->R w'->ft P l.toArray C (vX loud) (vX free) (fun ρ w=>Q .normal ρ w) l.length (Array.replicate l.length false) ρ w')(hm:P.follows .mixedOrders=true:=by kernel_rfl)(b:tO n l=true:=by kernel_rfl)(hB:Region.noSelect l.toArray=true:=by kernel_rfl)(a:xt .any l.toArray (vX loud) (vX free)=true:=by kernel_rfl):dw (x:=c) P n (.region id l.toArray true) Q ρ w:=G7 C loud free hm b hB a d fun w' e=>k w' (e▸hs.drew) (e▸f.drew)<|h w' e
end
end Go.SE
namespace Go.SE
abbrev Aa(c:Int)(f:Int)(a:Int)(b:Int)(d:ByteArray)(e:Sl):Value:=.agg #[vi c,vi f,vi a,vu b,vs d,e.v]
abbrev Ab(c:Int)(g:Int)(a:Int)(b:Int)(d:ByteArray)(f:Int)(e:Int):List Value:=[vi c,vi g,vi a,vu b,vs d,vi f,vi e]
abbrev Ac(c:Int)(g:Int)(a:Int)(b:Int)(d:ByteArray)(f:Int)(e:Int):Value:=.agg #[vi c,vi g,vi a,vu b,vs d,vi f,vi e]
abbrev Ae(c:Int)(e:Int)(a:Int)(b:ByteArray)(d:Bool):List Value:=[vi c,vi e,vu a,vs b,vb d]
abbrev Af(c:Int)(f:Int)(a:Int)(b:Int)(d:ByteArray)(e:Sl):List Value:=[vi c,vi f,vi a,vu b,vs d,e.v]
abbrev Ag(c:Int)(e:Int)(a:Int)(b:ByteArray)(d:Bool):Value:=.agg #[vi c,vi e,vu a,vs b,vb d]
abbrev Ah(c:Bool)(e:Bool)(a:Bool)(b:Bool)(d:Int):List Value:=[vb c,vb e,vb a,vb b,vi d]
abbrev Ai(Q:Bool)(W:Bool)(P:Bool)(U:Bool)(S:Int)(T:Bool)(X:Bool)(V:Bool)(O:Bool)(R:Int)(i:Bool)(p:Bool)(M:Bool)(d:Bool)(z:Int)(n:Bool)(h:Bool)(q:Bool)(j:Bool)(I:Int)(f:Bool)(k:Bool)(A:Bool)(x:Bool)(s:Int)(y:Bool)(o:Bool)(G:Bool)(c:Bool)(r:Int)(L:Bool)(F:Bool)(t:Bool)(w:Bool)(J:Int)(g:Bool)(K:Bool)(u:Bool)(C:Bool)(l:Int)(b:Bool)(N:Bool)(D:Bool)(e:Bool)(E:Int)(B:Bool)(a:Bool)(m:Bool)(H:Bool)(v:Int):List Value:=[vb Q,vb W,vb P,vb U,vi S,vb T,vb X,vb V,vb O,vi R,vb i,vb p,vb M,vb d,vi z,vb n,vb h,vb q,vb j,vi I,vb f,vb k,vb A,vb x,vi s,vb y,vb o,vb G,vb c,vi r,vb L,vb F,vb t,vb w,vi J,vb g,vb K,vb u,vb C,vi l,vb b,vb N,vb D,vb e,vi E,vb B,vb a,vb m,vb H,vi v]
abbrev Aj(d:Int)(b:Int)(c:Int)(a:Bool):List Value:=[vi d,vi b,vu c,ve,vb a]
end Go.SE
end
section
namespace Go.SE
inductive Fr where
 |t (c:Code)
 |b (id:Nat)
 |r (ops:Array Oper) (l:List Oper)
 |j (J:bg->World->Prop)
inductive D3 where
 |c (c:Code)
 |r (ops:Array Oper) (l:List Oper)
 |d (ops:Array Oper) (q:Option World) (C:World->Prop) (H:Nat->Prop) (l:List fw) (ld fr:List Nat) (a:Nat) (b:Array Bool) (s:Option Nat)
 |x (e:Exit)
structure Cf where
 pos:D3
 fr:List Fr
 ρ:bg
 w:World
 kn:List (Nat×Bool)
def kl:List (Nat×Bool)->Nat->Option Bool
 |[],_=>none
 |(t,b) :: l,d=>cond (Nat.beq t d) (some b)<|kl l d
def BE:List (Nat×Bool)->Nat->List (Nat×Bool)
 |[],_=>[]
 |(t,b) :: l,d=>cond (Nat.beq t d) (BE l d) ((t,b) :: BE l d)
def kd(l:List (Nat×Bool)):Option Nat->List (Nat×Bool)
 |none=>l
 |some d=>BE l d
def Kn(c:Cf):Prop:=∀d b,kl c.kn d=some b->c.ρ d=.bool b
def Dg:Value->Option Bool
 |.bool b=>some b
 |_=>none
def bK(kn:List (Nat×Bool))(ρ:bg):Operand->Option Bool
 |.tmp d=>match kl kn d with
  |some b=>some b
  |none=>Dg<|ρ d
 |x=>Dg<|bw ρ x
def yK(ops:Array Oper)(kn:List (Nat×Bool))(ρ:bg)(j:Nat):Option Bool:=
 match(ops[j]?).bind (·.dst)with
 |some d=>bK kn ρ<|.tmp d
 |none=>none
abbrev DQ:Cx:=⟨none,[]⟩
def Cl(q:Option World)(C:World->Prop)(H:Nat->Prop)(l:List fw)(x:World):Prop:=match q with
 |some w=>x=w
 |none=>C x/\HB H x l
section
variable (P:Program) (n:Nat) (Q:Exit->bg->World->Prop)
def Qf:List Fr->Exit->bg->World->Prop
 |[]=>Q
 |.t c :: fs=>pP (fun ρ w=>dw (x:=DQ) P n c (Qf fs) ρ w)<|Qf fs
 |.b id :: fs=>tm id<|Qf fs
 |.r ops l :: fs=>pP (fun ρ w=>bu P ops (fun ρ w=>Qf fs .normal ρ w) l ρ w)<|Qf fs
 |.j J :: fs=>pP J<|Qf fs
def Wq(c:Cf):Prop:=match c.pos with
 |.c k=>dw (x:=DQ) P n k (Qf P n Q c.fr) c.ρ c.w
 |.r ops l=>bu P ops (fun ρ w=>Qf P n Q c.fr .normal ρ w) l c.ρ c.w
 |.d ops q C H l ld fr a b none=>ft P ops (Cl q C H l) (vX ld) (vX fr) (fun ρ w=>Qf P n Q c.fr .normal ρ w) a b c.ρ c.w
 |.d ops q C H l ld fr a b (some k)=>fg P ops (Cl q C H l) (vX ld) (vX fr) k (ft P ops (Cl q C H l) (vX ld) (vX fr) (fun ρ w=>Qf P n Q c.fr .normal ρ w) a<|b.setIfInBounds k true) c.ρ c.w
 |.x e=>Qf P n Q c.fr e c.ρ c.w
def Wk(c:Cf):Prop:=Kn c->Wq P n Q c
end
def W(P:Program)(a:Func)(R:Ending->World->Prop)(c:Cf):Prop:=Wk P a.ntmps (qz P a a.ntmps R) c
def JP(ops:Array Oper)(ld:List Nat)(a:Array Bool):Option Nat:=
 match(Region.ready .any ops a).find? (fun k=>!vX ld k)with
 |some k=>if zx ops a (vX ld) k then some k else none
 |none=>match Region.ready .any ops a with
  |[k]=>some k
  |_=>none
def s1(n:Nat)(c:Cf):Option (D3×List Fr):=match c.pos with
 |.c k=>match k with
  |.seq a b=>some (.c a,.t b :: c.fr)
  |.block id a=>some (.c a,.b id :: c.fr)
  |.skip=>some (.x .normal,c.fr)
  |.label _=>some (.x .normal,c.fr)
  |.ret=>some (.x .ret,c.fr)
  |.exit id=>some (.x<|.exit id,c.fr)
  |.scope a=>some (.c a,c.fr)
  |.region _ ops false=>if tO n ops.toList then some (.r ops ops.toList,c.fr)else none
  |_=>none
 |.r _ []=>some (.x .normal,c.fr)
 |.d ops _ _ _ _ ld _ 0 f none=>if(Region.ready .any ops f).isEmpty then some (.x .normal,c.fr)else none
 |.d ops q C H l ld fr (g+1) f none=>match JP ops ld f with
  |some k=>some (.d ops q C H l ld fr g f<|some k,c.fr)
  |none=>none
 |.x e=>match c.fr,e with
  |.t k :: fs,.normal=>some (.c k,fs)
  |.r ops l :: fs,.normal=>some (.r ops l,fs)
  |.b _ :: fs,.normal=>some (.x .normal,fs)
  |.b id :: fs,.exit i=>if i=id then some (.x .normal,fs)else some (.x<|.exit i,fs)
  |.t _ :: fs,.exit i=>some (.x<|.exit i,fs)
  |.r _ _ :: fs,.exit i=>some (.x<|.exit i,fs)
  |.j _ :: fs,.exit i=>some (.x<|.exit i,fs)
  |_ :: fs,.ret=>some (.x .ret,fs)
  |_,_=>none
 |_=>none
def Bx(n:Nat):Nat->Cf->Cf
 |0,c=>c
 |f+1,c=>match s1 n c with
  |some (p,fs)=>Bx n f ⟨p,fs,c.ρ,c.w,c.kn⟩
  |none=>c
def rR(c:Cf):Option Oper:=match c.pos with
 |.r _ (o :: _)=>some o
 |.d ops _ _ _ _ _ _ _ _ (some k)=>ops[k]?
 |_=>none
def y3(c:Cf):Array Oper:=match c.pos with
 |.r ops _=>ops
 |.d ops _ _ _ _ _ _ _ _ _=>ops
 |_=>#[]
def rF(c:Cf)(o:Oper):Bool:=Region.wanted o<|yK (y3 c) c.kn c.ρ
def cur(c:Cf):Option Oper:=match rR c with
 |some o=>cond (rF c o) (some o) none
 |none=>none
def yW(v:Value)(w':World)(c:Cf):Cf:=match c.pos with
 |.r ops (o :: l)=>⟨.r ops l,c.fr,put c.ρ o.dst v,w',kd c.kn o.dst⟩
 |.d ops q C H l ld fr a b (some k)=>match ops[k]? with
  |some o=>⟨.d ops q C H l ld fr a (b.setIfInBounds k true) none,c.fr,put c.ρ o.dst v,w',kd c.kn o.dst⟩
  |none=>c
 |_=>c
def pH(c:Cf):Bool:=match c.pos with
 |.d ..=>true
 |_=>false
def pk(c:Cf):Bool:=match c.pos with
 |.d _ _ _ _ _ ld _ _ _ (some k)=>vX ld k
 |_=>false
def GJ(P:Program)(c:Cf)(o:Oper):Option (Option Value):=match o.op with
 |.pick x a b=>some (match bK c.kn c.ρ x with
  |some true=>some<|bw c.ρ a
  |some false=>some<|bw c.ρ b
  |none=>none)
 |.binOp .eql T x y _=>match bw c.ρ x,bw c.ρ y with
  |.string s,.string t=>some<|some<|.bool<|decide (s=t)
  |.pointer p,.pointer none=>match P.underlying T with
   |some (.pointer _)=>some<|some<|.bool p.isNone
   |_=>none
  |_,_=>none
 |.binOp .neq T x y _=>match bw c.ρ x,bw c.ρ y with
  |.string s,.string t=>some<|some<|.bool<|!decide (s=t)
  |.pointer p,.pointer none=>match P.underlying T with
   |some (.pointer _)=>some<|some<|.bool<|!p.isNone
   |_=>none
  |_,_=>none
 |_=>none
def o1(P:Program)(c:Cf):Option (Cf×List ((World->Result Next)×Value)):=
 match c.pos with
 |.c (.cond x a b)=>match bK c.kn c.ρ x with
  |some true=>some (⟨.c a,c.fr,c.ρ,c.w,c.kn⟩,[])
  |some false=>some (⟨.c b,c.fr,c.ρ,c.w,c.kn⟩,[])
  |none=>none
 |_=>match rR c with
  |none=>none
  |some o=>cond (rF c o) (match GJ P c o with
   |some (some v)=>cond (pk c) none<|some (yW v c.w c,[])
   |some none=>none
   |none=>match(execOp (bw c.ρ) o).run P c.w with
    |.ok (.value v) w'=>cond (pH c) (cond (pk c) none<|some (yW v c.w c,[(fun x=>(execOp (bw c.ρ) o).run P x,v)]))<|some (yW v w' c,[])
    |.ok .skip w'=>cond (pH c) none<|some (yW undef w' c,[])
    |_=>none) (some (yW undef c.w c,[]))
structure Ad where
 c:Cf
 ok:Bool
 ds:List ((World->Result Next)×Value)
def jq(P:Program)(n:Nat):Nat->Cf->Ad
 |0,c=>⟨Bx n 99 c,true,[]⟩
 |k+1,c=>match o1 P (Bx n 99 c)with
  |some (c',d)=>match jq P n k c' with
   |⟨a,ok,ds⟩=>⟨a,ok,d++ds⟩
  |none=>⟨c,false,[]⟩
def Ad.cq(a:Ad):Bool×List (World->Result Next):=(a.ok,a.ds.map (·.1))
def Ad.so(a:Ad):Bool×List (World->Result Next):=(true,a.ds.map fun p w=>.ok (.value p.2) w)
def C8{d t b}:∀{l:List (Nat×Bool)},kl (BE l t) d=some b->d≠t/\kl l d=some b
 |[],h=>by cases h
 |(s,c) :: l,h=>by
  simp only[BE]at h;cases hs:Nat.beq s t with
  |true =>
   rw[hs]at h
   have:=C8 (l:=l) h
   refine⟨this.1,?_⟩
   have h2:=Nat.eq_of_beq_eq_true hs
   subst h2
   have:Nat.beq s d=false:=by cases e:Nat.beq s d with
    |true=>exact absurd (Nat.eq_of_beq_eq_true e).symm this.1
    |false=>rfl
   simp only[kl,this,cond_false];exact(C8 (l:=l) h).2
  |false =>
   rw[hs]at h
   simp only[cond_false,kl]at h|-
   cases e:Nat.beq s d with
   |true =>
    rw[e]at h
    refine⟨fun h2=>?_,h⟩
    subst h2;rw[hs]at e;cases e
   |false=>rw[e]at h;exact C8 (l:=l) h
def MW{d b}{l:List (Nat×Bool)}{o:Option Nat}(h:kl (kd l o) d=some b):o≠some d/\kl l d=some b:=by
 cases o with
 |none=>exact⟨nofun,h⟩
 |some t=>have:=C8 h;exact⟨fun e=>this.1 (Option.some.inj e).symm,this.2⟩
def PF{ρ}{o:Option Nat}{d v}(h:o≠some d):put ρ o v d=ρ d:=by
 cases o with
 |none=>rfl
 |some t=>simp only[put,rH];rw[if_neg fun e=>h<|by rw[e]]
def Fs{c}(a:Kn c){x b}(h:bK c.kn c.ρ x=some b):bw c.ρ x=.bool b:=by
 cases x with
 |tmp d =>
  simp only[bK]at h
  split at h
  .rename_i e;cases h;exact a _ _ e
  .simp only[bw];generalize c.ρ d=v at h;cases v<;>simp only[Dg]at h<;>first|(cases h;done)|(cases h;rfl)
 |_=>simp only[bK]at h;generalize bw c.ρ _=v at h;cases v<;>simp only[Dg]at h<;>first|(cases h;done)|(cases h;rfl)
def vl{c}(a:Kn c)(ops):yK ops c.kn c.ρ=zJ ops c.ρ:=by
 funext j;unfold yK zJ;cases(ops[j]?).bind (·.dst)with
 |none=>rfl
 |some d =>
  simp only[bK]
  cases e:kl c.kn d with
  |some b=>rw[a _ _ e]
  |none=>simp only;generalize c.ρ d=v;cases v<;>rfl
section
variable {P:Program} {n:Nat} {Q:Exit->bg->World->Prop} {c c':Cf}
def Ng(Q:Exit->bg->World->Prop):Prop:=∀l ρ w,¬Q (.goto l) ρ w
def AR(h:Ng Q):∀fs,Ng (Qf P n Q fs)
 |[]=>h
 |.t _ :: fs=>fun l ρ w=>AR h fs l ρ w
 |.b _ :: fs=>fun l ρ w=>AR h fs l ρ w
 |.r _ _ :: fs=>fun l ρ w=>AR h fs l ρ w
 |.j _ :: fs=>fun l ρ w=>AR h fs l ρ w
def Y5{ρ w}(f:Fr)(fs:List Fr):Qf P n Q (f ::fs) .ret ρ w=Qf P n Q fs .ret ρ w:=by cases f<;>rfl
def WT(g:Ng Q){p:D3}{fs:List Fr}(h:s1 n c=some (p,fs))(k:Wq P n Q ⟨p,fs,c.ρ,c.w,c.kn⟩):Wq P n Q c:=by
 have⟨pos,fr,ρ,w,kn⟩:=c;unfold s1 at h;simp only at h;split at h;split at h;cases h;exact zK k;cases h;exact vP k;cases h;exact zW k;cases h;exact Im k;cases h;exact GI k;cases h;exact tQ k;cases h;exact GA rfl (AR g _) k;rename_i ops;split at h;rename_i f;cases h;have:=fun id=>OV (x:=DQ) (id:=id) (Q:=Qf P n Q _) f (by rw[Array.toArray_toList];exact k);simp only[Array.toArray_toList]at this;exact this _;cases h;cases h;rename_i ops;cases h;exact vJ (P:=P) (ops:=ops) k;split at h;rename_i ops q C H l ld d i b;cases h;exact Ot (P:=P) (C:=Cl q C H l) (loud:=vX ld) (free:=vX d) (by simpa using b) k;cases h;split at h;rename_i k' a;cases h;unfold JP at a;split at a;split at a;rename_i e;cases a;exact DS e k;cases a;split at a;rename_i hr;cases a;exact LF hr k;cases a;cases h;split at h;cases h;exact k;cases h;exact k;cases h;exact k;split at h;rename_i b;cases h;subst b;exact wU k;rename_i b;cases h;exact K5 (by simpa using b) k;cases h;exact k;cases h;exact k;cases h;exact k;cases h;exact Eq.mpr (Y5 _ _) k;cases h;cases h
def Gw(a:Ng Q):∀(f:Nat) {c:Cf},Wk P n Q (Bx n f c)->Wk P n Q c
 |0,_,k=>k
 |f+1,c,k=>by
  unfold Bx at k;split at k;rename_i p fs h;exact fun b=>WT a h<|Gw a f k b;exact k
def need(c:Cf):World->Prop:=match c.pos with
 |.d _ q C H l _ _ _ _ _=>Cl q C H l
 |_=>fun x=>x=c.w
def u7(a:Kn c)(v w'):Kn (yW v w' c):=by
 unfold yW;split;intro d b h;have:=MW h;exact(PF this.1).trans<|a _ _ this.2;split;intro d b h;have:=MW h;exact(PF this.1).trans<|a _ _ this.2;exact a;exact a
def xv{o v w'}(hh:rR c=some o)(a:pH c=false):∃ops l,c.pos=.r ops (o ::l)/\y3 c=ops/\yW v w' c=⟨.r ops l,c.fr,put c.ρ o.dst v,w',kd c.kn o.dst⟩:=by
 unfold rR at hh;split at hh;rename_i h1;cases hh;exact⟨_,_,h1,by unfold y3;rw[h1],by unfold yW;rw[h1]⟩;rename_i h1;simp[pH,h1]at a;cases hh
def yi{o v w'}(hh:rR c=some o)(a:pH c=true):∃ops q C H l ld fr b e k,c.pos=.d ops q C H l ld fr b e (some k)/\y3 c=ops/\ops[k]?=some o/\pk c=vX ld k/\yW v w' c=⟨.d ops q C H l ld fr b (e.setIfInBounds k true) none,c.fr,put c.ρ o.dst v,w',kd c.kn o.dst⟩:=by
 unfold rR at hh;split at hh;rename_i h1;simp[pH,h1]at a;rename_i h1;exact⟨_,_,_,_,_,_,_,_,_,_,h1,by unfold y3;rw[h1],hh,by unfold pk;rw[h1],by unfold yW;simp[h1,hh]⟩;cases hh
def xg{o}(a:cur c=some o):rR c=some o/\rF c o=true:=by
 unfold cur at a;split at a;grind;cases a
def Ce{ops l}(h:c.pos=.r ops l):Wq P n Q c=bu P ops (fun ρ w=>Qf P n Q c.fr .normal ρ w) l c.ρ c.w:=by unfold Wq;rw[h]
def Aq{ops}{q:Option World}{C H l ld fr fu}{a:Array Bool}{k}(h:c.pos=.d ops q C H l ld fr fu a (some k)):Wq P n Q c=fg P ops (Cl q C H l) (vX ld) (vX fr) k (ft P ops (Cl q C H l) (vX ld) (vX fr) (fun ρ w=>Qf P n Q c.fr .normal ρ w) fu<|a.setIfInBounds k true) c.ρ c.w:=by unfold Wq;rw[h]
def Hp{o v}(i:cur c=some o)(e:pk c=false)(hr:Kn c->∀x,need c x->(execOp (bw c.ρ) o).run P x=.ok (.value v) x)(k:Wk P n Q (yW v c.w c)):Wk P n Q c:=by
 intro d;have⟨hh,a⟩:=xg i;unfold rF at a;rw[vl d]at a;replace k:=k<|u7 d _ _;cases b:pH c with
 |false =>
  have⟨ops,l,h1,h2,h3⟩:=xv (v:=v) (w':=c.w) hh b
  rw[h2]at a;rw[h3]at k;rw[Ce h1]
  exact fe a (hr d _ (by unfold need;rw[h1])) k
 |true =>
  have⟨ops,q,C,H,l,ld,fr,p,m,j,h1,h2,h,f,h3⟩:=yi (v:=v) (w':=c.w) hh b
  rw[h2]at a;rw[h3]at k;rw[Aq h1];rw[f]at e
  exact sx h a e (fun x g=>hr d x (by unfold need;rw[h1];exact g)) k
def Xx{o}(hh:rR c=some o)(a:rF c o=false)(k:Wk P n Q (yW undef c.w c)):Wk P n Q c:=by
 intro d;unfold rF at a;rw[vl d]at a;replace k:=k<|u7 d _ _;cases b:pH c with
 |false =>
  have⟨ops,l,h1,h2,h3⟩:=xv (v:=undef) (w':=c.w) hh b
  rw[h2]at a;rw[h3]at k;rw[Ce h1]
  exact Ej a k
 |true =>
  have⟨ops,q,C,H,l,ld,fr,h,f,j,h1,h2,e,g,h3⟩:=yi (v:=undef) (w':=c.w) hh b
  rw[h2]at a;rw[h3]at k;rw[Aq h1]
  exact Yn e a k
def P4{o v w'}(e:cur c=some o)(b:pH c=false)(hr:(execOp (bw c.ρ) o).run P c.w=.ok (.value v) w')(k:Wk P n Q (yW v w' c)):Wk P n Q c:=by
 intro d;have⟨hh,a⟩:=xg e;unfold rF at a;rw[vl d]at a;replace k:=k<|u7 d _ _;have⟨ops,l,h1,h2,h3⟩:=xv (v:=v) (w':=w') hh b;rw[h2]at a;rw[h3]at k;rw[Ce h1];exact st a hr k
def Nn{o w'}(e:cur c=some o)(b:pH c=false)(hr:(execOp (bw c.ρ) o).run P c.w=.ok .skip w')(k:Wk P n Q (yW undef w' c)):Wk P n Q c:=by
 intro d;have⟨hh,a⟩:=xg e;unfold rF at a;rw[vl d]at a;replace k:=k<|u7 d _ _;have⟨ops,l,h1,h2,h3⟩:=xv (v:=undef) (w':=w') hh b;rw[h2]at a;rw[h3]at k;rw[Ce h1];exact wx a hr k
def jbn(b:Kn c){o v}(h:GJ P c o=some (some v))(y):(execOp (bw c.ρ) o).run P y=.ok (.value v) y:=by
 have⟨dst,op,ty,pos,aft,g⟩:=o;unfold GJ at h;simp only at h;split at h;split at h;rename_i a;cases h;exact PE (Fs b a) rfl rfl;rename_i a;cases h;exact Nt (Fs b a) rfl rfl;cases h;split at h;rename_i h1 h2;cases h;exact zGS h1 h2;rename_i h1 h2;split at h;rename_i h3;cases h;exact Du h1 h2 h3;cases h;cases h;split at h;rename_i h1 h2;cases h;exact Pi h1 h2;rename_i h1 h2;split at h;rename_i h3;cases h;exact zCI h1 h2 h3;cases h;cases h;cases h
def U9{d:List ((World->Result Next)×Value)}(h:o1 P c=some (c',d))(hs:d.map (·.1)=d.map fun p w=>.ok (.value p.2) w)(k:Wk P n Q c'):Wk P n Q c:=by
 unfold o1 at h;split at h;rename_i x a b q;intro g;have⟨pos,fs,ρ,w,kn⟩:=c;simp only at q;subst q;split at h;rename_i m;cases h;exact Uw (Fs g m)<|k g;rename_i m;cases h;exact jYO (Fs g m)<|k g;cases h;split at h;cases h;rename_i o hh;cases i:rF c o with
 |false=>rw[i]at h;cases h;exact Xx hh i k
 |true =>
  have j:cur c=some o:=by unfold cur;rw[hh];simp only[i,cond_true]
  rw[i]at h
  simp only[cond_true]at h
  split at h
  rename_i v l
  cases f:pk c with
  |true=>rw[f]at h;cases h
  |false=>rw[f]at h;cases h;exact Hp j f (fun g y _=>jbn g l y) k
  cases h
  split at h
  rename_i v w' hr
  cases e:pH c with
  |true =>
   rw[e]at h
   cases f:pk c with
   |true=>rw[f]at h;cases h
   |false =>
    rw[f]at h
    cases h
    simp only[List.map_cons,List.map_nil,List.cons.injEq,and_true]at hs
    exact Hp j f (fun _ x _=>congrFun hs x) k
  |false =>
   rw[e]at h
   cases h
   exact P4 j e hr k
  rename_i w' hr
  cases e:pH c with
  |true=>rw[e]at h;cases h
  |false=>rw[e]at h;cases h;exact Nn j e hr k
  cases h
def MI(a:Ng Q):∀(m:Nat) {c:Cf},(jq P n m c).cq=(jq P n m c).so->Wk P n Q (jq P n m c).c->Wk P n Q c
 |0,c,_,k=>Gw a 99 k
 |m+1,c,hs,k=>by
  unfold jq at hs k;split at hs;rename_i c' d h1;rw[h1]at k;simp only at hs k;have b:(jq P n m c').cq=(jq P n m c').so/\d.map (·.1)=d.map fun p w=>.ok (.value p.2) w:=by
   simp only[Ad.cq,Ad.so,List.map_append,Prod.mk.injEq]at hs|-;have⟨e,h2⟩:=hs;have:=List.append_inj h2 Sm;exact⟨⟨e,this.2⟩,this.1⟩
  exact Gw a 99<|U9 h1 b.2<|MI a m b.1 k;simp[Ad.cq,Ad.so]at hs
end
def Tr(P fn n R):Ng (qz P fn n R):=fun _ _ _ h=>h
def W.on{P fn R c}(m)(hs:(jq P fn.ntmps m c).cq=(jq P fn.ntmps m c).so)(k:W P fn R (jq P fn.ntmps m c).c):W P fn R c:=MI (Tr P fn _ R) m hs k
end Go.SE
end
section
open Go Go.SE List
namespace Go.SE
section
variable {P:Program} {t e:TypeId} {sz bytes:Nat}
def Wr(T:j1 P t e sz bytes)(w:World)(ty:TypeId)(s x:Sl)(g:s.len<=s.cap)(f:x.len=0):(Builtin.append_ #[t,t] ty #[s.v,x.v]).run P w=.ok s.v w:=by
 have⟨a,n,c⟩:=s;have⟨b,m,d⟩:=x;simp only at g f;subst f;cases b<;>cases a<;>simp[Builtin.append_,Sl.v,run_underlying T.ht,T.sizeOf,Builtin.lenOf,Builtin.firstCells,loadCells,loadCellsFrom,storeCells,g]
end
def Nc{w sz}:∀{rs:List (List Value)} {p:Addr},(∀r∈rs,r.length=sz)->(∀i (h:i<rs.length),Row w (p.add<|i*sz) rs[i])->Row w p rs.flatten
 |[],p,_,_=>fun i h=>by simp at h
 |r :: rs,p,b,h=>by
  have hr:Row w p r:=by have:=h 0 Sm;simpa[Addr.add]using this
  have e:=b r Sm;have c:=Nc (rs:=rs) (p:=p.add sz) (fun q d=>b q<|mem_cons_of_mem _ d) (fun i hi=>by
   have:=h (i+1) (by simpa using hi);rw[yL,show sz+i*sz=(i+1)*sz by rw[Nat.succ_mul];omega];simpa using this)
  intro i hi;rw[flatten_cons]at hi|-;by_cases a:i<r.length;rw[hr i a,getElem?_append_left a];have:=c (i-r.length) Gd;rw[yL,show sz+(i-r.length)=i by omega]at this;rw[this,getElem?_append_right Om]
section
variable {P:Program} {t e:TypeId} {sz bytes:Nat}
def bf.empty{w w' p}(c:au w (.cells #[] e) p w'):bf w' e sz ⟨some p,0,0⟩ []:=by
 have⟨a,b⟩:=c;refine⟨Sm,rfl,.inr ⟨w.heap.size,#[],by rw[a],?_,Sm,Sm,Sm,Sm⟩⟩;rw[b];exact heap_alloc_new w<|.cells #[] e
def bf.Bb(T:j1 P t e sz bytes){w ty s x rs qs}(h:bf w e sz s rs){S}(k:dn S w sz x qs)(r:∀q∈qs,q.length=sz)(h1:∀q∈qs,q.all vG=true)(o:(rs.length+qs.length)*bytes<=140737488355328)(hm:rs.length+qs.length<=maxLen):
  ∃s' w',(Builtin.append_ #[t,t] ty #[s.v,x.v]).run P w=.ok s'.v w'/\bf w' e sz s' (rs++qs)/\ab s.ao w w'/\(∀b,s'.ao b->s.ao b\/w.heap.size<=b):=by
 cases n:qs with
 |nil =>
  subst n
  have m:s.len<=s.cap:=by
   rcases h.ak with⟨rfl,_⟩|⟨g,cur,_,_,m,_⟩;exact Nat.le_refl _;rw[h.len];exact m
  exact⟨s,w,Wr T w ty s x m k.len,by simpa using h,ab.refl w,fun b o=>.inl o⟩
 |cons q0 u =>
  rw[<-n]
  have f:qs≠[]:=by rw[n];simp
  have j:=length_pos_iff.2 f
  have⟨_,⟨_,_,p,y,_⟩,_,_⟩:=k.at_ 0 j
  have d:Row w p qs.flatten:=Nc r (fun i hi=>by
   obtain⟨a,⟨_,_,b,c,rfl⟩,_,hr⟩:=k.at_ i hi;rw[y]at c;cases c;simpa using hr)
  have l:x.v=(Sl.mk (some p) qs.length x.cap).v:=by unfold Sl.v;rw[y,k.len]
  rw[l]
  exact h.OY T d r h1 f o hm
end
def eu{α:Type}:List (Int×α)->Int->Option α
 |[],_=>none
 |p :: M,k=>if p.1=k then some p.2 else eu M k
def uV{α:Type}{M:List (Int×α)}{k}:eu M k=none↔k∉M.map Prod.fst:=by
 induction M with
 |nil=>simp[eu]
 |cons p M a =>
  rw[eu]
  split
  rename_i h;simp[h]
  grind
def tU{α:Type}{M:List (Int×α)}{k}{v:α}(h:eu M k=some v):(k,v)∈M:=by
 induction M with
 |nil=>cases h
 |cons p M a =>
  rw[eu]at h
  split at h
  grind
  grind
def On{α:Type}{M:List (Int×α)}(b:(M.map Prod.fst).Nodup){i:Nat}{k:Int}{v:α}(h:M[i]?=some (k,v)):eu M k=some v:=by
 induction M generalizing i with
 |nil=>simp at h
 |cons p M d =>
  rw[map_cons,nodup_cons]at b
  rw[eu]
  cases i with
  |zero=>simp at h;subst h;simp
  |succ i =>
   have c:M[i]?=some (k,v):=by simpa using h
   have a:p.1≠k:=fun e=>b.1 Gd
   rw[if_neg a]
   exact d b.2 c
def TB{α:Type}{M:List (Int×α)}(a:(M.map Prod.fst).Nodup){k}{v:α}(h:(k,v)∈M):eu M k=some v:=by
 have⟨i,hi,e⟩:=getElem_of_mem h;exact On a (by rw[getElem?_eq_getElem hi,e])
def Ov{α:Type}{M:List (Int×α)}{k x}{v:α}(h:k∉M.map Prod.fst):eu (M++[(k,v)]) x=if k=x then some v else eu M x:=by
 induction M with
 |nil=>simp[eu]
 |cons p M a =>
  simp only[map_cons,mem_cons,not_or]at h
  rw[cons_append,eu,eu,a h.2]
  by_cases e:p.1=x
  grind
  rw[if_neg e,if_neg e]
def pM(k:Int):Value:=.int .i64 k
structure fc{α:Type}(f:α->Value)(w:World)(m:Nat)(M:List (Int×α)):Prop where
 map:jn w m (M.map fun p=>(pM p.1,f p.2))
 nd:(M.map Prod.fst).Nodup
section
variable {α:Type} {f:α->Value} {w w':World} {m:Nat} {M:List (Int×α)} {P:Program} {T K E:TypeId}
def fc.ext{F}(h:fc f w m M)(a:ab F w w')(b:¬F m):fc f w' m M:=⟨h.map.ext a b,h.nd⟩
def fc.pure(h:fc f w m M)(a:Pure w w'):fc f w' m M:=h.ext a id
def fc.lt(h:fc f w m M):m<w.heap.size:=h.map.lt
def fc.bh{p}(h:au w (.map #[] 0) p w'):fc f w' p.block []:=⟨jn.bh h,nodup_nil⟩
def fc.IF(M:List (Int×α)):∀p∈M.map fun p=>(pM p.1,f p.2),∃n,p.1=.int .i64 n:=by
 intro p a;obtain⟨q,_,rfl⟩:=mem_map.1 a;exact⟨_,rfl⟩
def fc.get(h:fc f w m M)(e:P.underlying T=some (.map K E))(g:P.underlying K=some (.int .i64)){z}(c:(zeroValue E).run P w=.ok z w)(k ok):
  (eu M k=none/\(Instr.lookup T (.map<|some m) (.int .i64 k) ok).run P w=.ok (if ok then .tuple #[z,.bool false]else z) w)\/∃v,eu M k=some v/\(Instr.lookup T (.map<|some m) (.int .i64 k) ok).run P w=.ok (if ok then .tuple #[f v,.bool true]else f v) w:=by
 rcases h.map.lookup e (ru.Hw g) (fc.IF M) (k:=pM k) ⟨k,rfl⟩ c ok with⟨h1,h2⟩|⟨i,v,h1,h2⟩
 refine .inl ⟨uV.2 fun hm=>?_,h2⟩
 obtain⟨q,d,rfl⟩:=mem_map.1 hm
 exact h1 _ (mem_map.2 ⟨q,d,rfl⟩) rfl
 rw[getElem?_map]at h1
 cases hi:M[i]? with
 |none=>rw[hi]at h1;cases h1
 |some q =>
  rw[hi]at h1
  have⟨a,b⟩:=q
  simp[pM]at h1
  obtain⟨rfl,rfl⟩:=h1
  exact .inr ⟨b,On h.nd hi,h2⟩
def fc.put(h:fc f w m M)(c:P.underlying T=some (.map K E))(d:P.underlying K=some (.int .i64)){k}(l:eu M k=none)(v:α):
  ∃w',(Instr.mapUpdate T (.map<|some m) (.int .i64 k)<|f v).run P w=.ok () w'/\fc f w' m (M++[(k,v)])/\ab (·=m) w w':=by
 have a:=uV.1 l
 have⟨w',h1,h2,h3⟩:=h.map.insert c (ru.Hw d) (fc.IF M) (k:=pM k) (v:=f v) ⟨k,rfl⟩ (fun p g e=>by
  obtain⟨q,j,rfl⟩:=mem_map.1 g;simp only[pM,Value.int.injEq,true_and]at e;exact a<|mem_map.2 ⟨q,j,e⟩)
 refine⟨w',h1,⟨by simpa using h2,?_⟩,h3⟩
 rw[map_append,nodup_append]
 exact⟨h.nd,Sm,fun x i y b e=>by simp at b;subst b;exact a<|e▸i⟩
def fc.gi(h:fc f w m M)(o:P.underlying T=some (.map K E))(r:P.underlying K=some (.int .i64)){k}{v:α}(t:eu M k=some v):
  ∃w',(Instr.mapUpdate T (.map<|some m) (.int .i64 k)<|f v).run P w=.ok () w'/\fc f w' m M/\ab (·=m) w w':=by
 have⟨i,hi,e⟩:=List.getElem_of_mem<|tU t
 have c:(M.map fun p=>(pM p.1,f p.2))[i]?=some (pM k,f v):=by simp[hi,e]
 have⟨w',h1,h2,h3⟩:=h.map.Su o (ru.Hw r) (fc.IF M) (k:=pM k) (v:=f v) (v':=f v) ⟨k,rfl⟩ c (fun j u a=>by
  rw[List.getElem?_map]at a;cases l:M[j]? with
  |none=>rw[l]at a;cases a
  |some q =>
   rw[l]at a
   simp[pM]at a
   have⟨g,d⟩:=List.getElem?_eq_some_iff.1 l
   have s:(M.map Prod.fst)[j]'(by simpa using g)=(M.map Prod.fst)[i]'(by simpa using hi):=by simp[d,e,a.1]
   exact(List.getElem_inj h.nd).1 s)
 have b:(M.map fun p=>(pM p.1,f p.2)).set i (pM k,f v)=M.map fun p=>(pM p.1,f p.2):=by
  apply List.ext_getElem?;intro n;rw[List.getElem?_set];by_cases x:i=n;grind;rw[if_neg x]
 rw[b]at h2
 exact⟨w',h1,⟨h2,h.nd⟩,h3⟩
end
end Go.SE
end
section
open Go Go.SE List
namespace Go.SE
def ab.putObj(w r o):ab (·=r) w (w.putObj r o):=⟨rfl,rfl,rfl,Fe,Sm,fun b _ a=>World.putObj_heap_other a⟩
abbrev xr(P:Program)(l:Nat)(args:Array Value)(w:World)(R:Ending->WP):Prop:=YieldAt Fence.wide 0 P l args w R
def sK(P:Program)(d:FuncId)(lb:Array Value){α:Type}(encs:α->Array Value)(xs:List α)(Rd:WP)(w:World):Prop:=
 ∀(l:Nat) (J c:List α->NP->WP) (W:World),Pure w W ->
  (∀az X A,J az X A->Rd A) ->
  (∀az X A b A',J az X A->af W X A b A'->J az b A') ->
  (∀az X A b A',c az X A->af W X A b A'->c az b A') ->
  (∀az y X A,J az X A->af W X A X A->(∃a,xs=az++y ::a)->xr P l (encs y) A fun e A'=>(e=.returned (.bool true)/\aj X A A'/\J (az++[y]) X A')\/(e=.returned (.bool false)/\aj X A A'/\c (az++[y]) X A')) ->
  J [] ar W ->
  Calls P d (#[.func (.yield l) #[] #[]]++lb) W fun e A=>(∃v,e=.returned v)/\∃X,af W X A X A/\(J xs X A\/∃az,c az X A)
def EI:List Nat->List Value->bg->bg
 |p :: a,v :: vs,ρ=>EI a vs<|rH ρ p v
 |_,_,ρ=>ρ
def Mb{n}:∀(a:List Nat) (vs:List Value) (ρ:bg) (t:Array Value),(∀p∈a,p<n)->gp [] n ρ { tmps:=t,defers:=[] } ->
  gp [] n (EI a vs ρ) { tmps:=(a.zip vs).foldl (fun t (x:Nat×Value)=>t.setIfInBounds x.1 x.2) t,defers:=[] }
 |[],vs,ρ,t,_,h=>by cases vs<;>exact h
 |p :: a,[],ρ,t,_,h=>h
 |p :: a,v :: vs,ρ,t,b,h=>by
  rw[zip_cons_cons,foldl_cons];exact Mb a vs _ _ Gd<|h.put (d:=some p) (fun k c=>by cases c;exact b p Sm) v
def C7(id:Nat)(Y:NP)(A:World)(I c b:NP->WP):Exit->bg->WP
 |.normal,_,A'=>aj Y A A'/\I Y A'
 |.exit a,_,A'=>a=id/\aj Y A A'/\c Y A'
 |.ret,_,A'=>aj Y A A'/\b Y A'
 |_,_,_=>False
def Ky(D:Nat)(Q:Exit->bg->WP):Exit->bg->WP
 |.ret,ρ,w=>w.heap[D]?=some (.deferred<|some [])/\Q .ret ρ (w.putObj D<|.deferred none)
 |_,_,_=>False
def aj.trans{H a b c}(h:aj H a b)(k:aj H b c):aj H a c:=⟨Nat.le_trans h.size k.size,fun i hi d=>(k.gq i (Nat.lt_of_lt_of_le hi h.size) d).trans<|h.gq i hi d⟩
def aj.mono{H H' a b}(h:aj H a b)(hs:∀b,H' b->H b):aj H' a b:=⟨h.size,fun i hi c=>h.gq i hi<|hs i c⟩
structure Bg{α:Type}(w0:World)(Rd:WP)(I c b:List α->NP->WP):Prop where
 rd:∀az Y A,I az Y A->Rd A
 i:∀az Y A a A',I az Y A->af w0 Y A a A'->I az a A'
 x:∀az Y A a A',c az Y A->af w0 Y A a A'->c az a A'
 r:∀az Y A a A',b az Y A->af w0 Y A a A'->b az a A'
def OJ(P:Program)(n:Nat)(c y:Code)(Q:Exit->bg->WP)(ρ:bg)(w:World):Prop:=∀a,gp [] n ρ a->c.wpIn (jt none) 0 P (Exit.then (fun a w=>y.wpIn (jt none) 0 P (rI ⟨none,[]⟩ n Q) a w) (rI ⟨none,[]⟩ n Q)) a w
def EF{P n Q ρ w a c y}(h:dw (x:=⟨none,[]⟩) P n a (pP (fun ρ w=>OJ P n c y Q ρ w) Q) ρ w):dw (x:=⟨none,[]⟩) P n (.seq (.seq a c) y) Q ρ w:=fun a d =>
 wpIn_seq (wpIn_seq (wpIn_mono (h a d) (fun e a w b=>by
  cases e with
  |normal=>have⟨g,hr,f⟩:=IE b;exact f a hr
  |_=>exact b)))
def Ba{D Q ρ w}(h1:w.heap[D]?=some (.deferred<|some []))(h:∀a,a=w.putObj D (.deferred none)->Q .ret ρ a):Ky D Q .ret ρ w:=⟨h1,h _ rfl⟩
def DR{id Y A A'}{I b a:NP->WP}{ρ}(h:aj Y A A'/\I Y A'):C7 id Y A I b a .normal ρ A':=h
def UK{id Y A A'}{I a b:NP->WP}{ρ}(h:aj Y A A'/\a Y A'):C7 id Y A I a b (.exit id) ρ A':=⟨rfl,h⟩
def WC{id Y A A'}{I b a:NP->WP}{ρ}(h:aj Y A A'/\a Y A'):C7 id Y A I b a .ret ρ A':=h
def dd.tv{H Y w A l D}(d:HB H w l)(f:aj H w A)(e:∀b,H b->Y b)(g:Y D)(c:A.heap[D]?=some (.deferred<|some [])):dd [(D,.deferred<|some [])] Y A l:=
 ⟨(d.bl f).box,fun x a=>e _<|d.uy x a,d.ne,fun x a=>by
  cases mem_singleton.1 a;exact⟨g,c,rfl⟩⟩
def dd.Co{w0 wv Hv H w l D}(a:dd [(D,.deferred<|some [])] H w l)(hs:af w0 Hv wv H w){w1}(h1:w1=w.putObj D (.deferred none)):af w0 Hv wv H w1/\HB H w1 l:=by
 have d:=a.fz _<|mem_singleton.2 rfl;have E:ab (·=D) w w1:=by rw[h1];exact ab.putObj w D _
 refine⟨⟨h1▸hs.ext.cg (ab.putObj w D _) Gd,hs.sub,hs.aw,hs.old,fun b a=>Nat.lt_of_lt_of_le (hs.lt b a) E.size,Nat.le_trans hs.ew E.size⟩,?_⟩;refine⟨fun x c=>(a.box x c).ext E fun e=>?_,a.uy,a.ne,fun x c=>by cases c⟩;have h2:=(a.box x c).ao;rw[e,d.2.1]at h2;cases h2
def dd.By{H w l D}(a:dd [(D,.deferred<|some [])] H w l):w.heap[D]?=some (.deferred<|some []):=(a.fz _<|mem_singleton.2 rfl).2.1
def Ro{P}{ε:Operand->Value}{w w'}{d:Option Tmp}{ty}{pos:String}{aft:Array Edge}{g:Option (Nat×Bool)}{l x v}{c:List Operand}{ts:Array TypeId}{args}{r:Next}(a:ε x=v)(b:v=.func (.yield l) #[] #[])(e:(c.map ε).toArray=args)(hr:(Instr.yield l args).run P w=.ok r w'):
  (execOp ε ⟨d,.call ⟨.value x,c.toArray,ts⟩,ty,pos,aft,g⟩).run P w=.ok r w':=by
 subst b;subst e
 simp[execOp,resolve,a,Deferred.ofValue,invoke,hr]
def K9{P ops Q ρ w rest}{d:Option Tmp}{ty}{pos:String}{aft:Array Edge}{g:Option (Nat×Bool)}{l x v}{c:List Operand}{ts:Array TypeId}{args}(i:Region.wanted ⟨d,.call ⟨.value x,c.toArray,ts⟩,ty,pos,aft,g⟩ (zJ ops ρ)=true)(j:bw ρ x=v)(k:v=.func (.yield l) #[] #[])(f:(c.map<|bw ρ).toArray=args)(h:xr P l args w fun e b=>∃v,e=.returned v/\bu P ops Q rest (put ρ d v) b):bu P ops Q (⟨d,.call ⟨.value x,c.toArray,ts⟩,ty,pos,aft,g⟩ ::rest) ρ w:=by
 have⟨n,tmps,a,body,hr,m⟩:=h;unfold bu;rw[if_pos i];unfold mr;rw[Ro j k f hr];exact m
def xr.mono{P l args w R R'}(h:xr P l args w R)(hr:∀e w,R e w->R' e w):xr P l args w R':=by
 have⟨b,tmps,a,body,h1,h2⟩:=h;exact⟨b,tmps,a,body,h1,RoundIn.mono h2 hr⟩
section
variable {P:Program} {n:Nat} {Q:Exit->bg->WP} {ρ:bg} {w w0:World} {H Hv:NP} {wv:World}
def Er{id g}{Z:Array Tmp}{assign body y gf lb}{α:Type}{encs:α->Array Value}{xs:List α}{Rd}(hg:bw ρ g=.func (.func gf) #[] lb)(eg:∀args w,(callFunc gf args).run P w=.ok (.enter gf args) w)(iu:sK P gf lb encs xs Rd w)(hps:∀z,(encs z).size=Z.size)(hpn:∀p∈Z.toList,p<n)(hs:af w0 Hv wv H w)(I Ix Ir:List α->NP->WP)(hRI:Bg w0 Rd I Ix Ir)(h0:I [] H w)(U:∀l z A,dw (x:=⟨some l,[]⟩) P n assign (pP (fun ρ' A'=>A'=A/\∀az Y A,I az Y A->af w0 Y A Y A->(∃post,xs=az++z :: post)->dw (x:=⟨some l,[]⟩) P n body (C7 id Y A (I (az++[z])) (Ix (az++[z])) (Ir (az++[z]))) ρ' A) fun _ _ _=>False) (EI Z.toList (encs z).toList ρ) A)(hrest:∀D Y A,af w0 Y A Y A->Y D->A.heap[D]?=some (.deferred (some []))->(∀b,H b->Y b)->aj H w A->(I xs Y A\/∃az,Ix az Y A)->dw (x:=⟨none,[mark D]⟩) P n y (Ky D Q) ρ A)(hret:∀D az Y A,af w0 Y A Y A->Y D->A.heap[D]?=some (.deferred (some []))->Ir az Y A->Q .ret ρ (A.putObj D (.deferred none))):
  OJ P n (.block id (.rangeFunc g Z assign body)) y Q ρ w:=by
 have⟨hRd,hI,hIx,hIr⟩:=hRI
 intro a ha
 refine wpIn_block (wpIn_rangeFunc ?_)
 intro fn _
 obtain⟨i,j⟩:∃i:LoopState->Option Code->Loop,i=fun st pe=>{ state:=st,pending:=pe,fn,tmps:=a.tmps,params:=Z,assign,body,defers:=w.heap.size }:=⟨_,rfl⟩
 obtain⟨m,O⟩:∃m,(w.alloc (.deferred (some []))).alloc (.loop (i .ready none))=m:=⟨_,rfl⟩
 have hL1:m.heap[w.heap.size+1]?=some (.loop (i .ready none)):=by
  rw[<-O];have:=World.alloc_heap_new (w.alloc (.deferred (some []))) (.loop (i .ready none));rwa [World.size_alloc]at this
 have hK1:m.heap[w.heap.size]?=some (.deferred (some [])):=by
  rw[<-O];exact(RowKit.Below.heap_alloc _ _ _ Sm).trans (World.alloc_heap_new w _)
 have hsz:m.heap.size=w.heap.size+2:=by rw[<-O];simp
 have E1:Pure w m:=by
  rw[<-O];exact⟨rfl,rfl,rfl,Fe,So,fun b f _=>(RowKit.Below.heap_alloc _ _ _ So).trans (RowKit.Below.heap_alloc _ _ _ f)⟩
 let B:NP->NP:=fun X b=>H b\/b=w.heap.size\/b=w.heap.size+1\/X b
 have W:∀b,H b->b<w.heap.size:=hs.lt
 have fi:∀{X:NP} {A:World},af m X A X A->af w0 (B X) A (B X) A:=fun {X A} h =>
  ⟨ab.refl _,fun _ h=>h,fun _ h=>.inl h,fun b f=>by
   rcases f with f|rfl|rfl|f
   .exact hs.old b f
   .exact hs.ew
   .have:=hs.ew;omega
   .have:=h.old b f;have:=hs.ew;omega,fun b f=>by
   have z:=h.ew;rcases f with f|rfl|rfl|f
   .have:=W b f;omega
   .omega
   .omega
   .exact h.lt b f,Oi h.ew hs.ew⟩
 have up:∀{X X':NP} {A A':World},af m X A X A->af m X A X' A'->af w0 (B X) A (B X') A':=fun {X X' A A'} h k =>
  ⟨k.ext.mono Gd,fun b f=>by
   rcases f with f|f|f|f
   .exact .inl f
   .exact .inr (.inl f)
   .grind
   .exact .inr (.inr (.inr (k.sub b f))),fun b f=>by
   rcases f with f|f|f|f
   .exact .inl (.inl f)
   .grind
   .grind
   .exact(k.aw b f).imp_left fun h=>.inr (.inr (.inr h)),(fi k.fi).old,(fi k.fi).lt,(fi k.fi).ew⟩
 have nX:∀{X:NP} {A:World},af m X A X A->∀b,b<w.heap.size+2->¬X b:=fun h b f hx=>Oh (h.old b hx)
 have M:∀{X X':NP} {A A':World},aj H w A->af m X A X' A'->aj H w A':=fun {X X' A A'} S k =>
  S.trans (k.ext.bl fun b f hx=>nX k.fi b (Oh (W b f)) hx)
 have uf:∀{X:NP} {A:World} (o:Obj),af m X A X A->af w0 (B X) A (B X) (A.putObj (w.heap.size+1) o):=fun {X A} o h =>
  ⟨(ab.putObj A _ o).mono Gd,fun _ h=>h,fun _ h=>.inl h,(fi h).old,fun b f=>by have:=(fi h).lt b f;simpa using this,by simpa using(fi h).ew⟩
 have V:∀{X:NP} {A:World} (o:Obj),af m X A X A->af m X (A.putObj (w.heap.size+1) o) X (A.putObj (w.heap.size+1) o):=fun o h =>
  ⟨ab.refl _,fun _ h=>h,fun _ h=>.inl h,h.old,fun b f=>by have:=h.lt b f;simpa using this,by simpa using h.ew⟩
 have C:∀{A:World} (o:Obj),aj H w A->aj H w (A.putObj (w.heap.size+1) o):=fun {A} o S=>S.trans ((ab.putObj A _ o).bl Gd)
 let Jc:Code->List α->NP->WP:=fun c az Y A=>match c with
  |.ret=>Ir az Y A
  |.exit N=>N=id/\Ix az Y A
  |_=>False
 have hJc:∀c az Y A Y' A',Jc c az Y A->af w0 Y A Y' A'->Jc c az Y' A':=Gd
 refine⟨w.heap.size+1,[mark w.heap.size],m,{ target:=.fn (.func gf) lb,args:=#[.func (.yield (w.heap.size+1)) #[] #[]] },m,gf,
  #[.func (.yield (w.heap.size+1)) #[] #[]]++lb,m,?_,?_,fun _ _=>trivial,?_,(fun h=>by cases h),callsIn_wide.2 ?_⟩
 .rw[<-O,j];exact run_enterLoop_outer _ _ _ _ _
 .have hev:a.eval g=.func (.func gf) #[] lb:=by rw[ha.eval];exact hg
  simp only[resolve,hev]
  simp[go_sem]
 .simp[invoke,go_sem,eg]
 have G:af m ar m ar m:=af.start m
 refine(iu (w.heap.size+1)
  (fun az X A=>af m X A X A/\I az (B X) A/\A.heap[w.heap.size+1]?=some (.loop (i .ready none))/\A.heap[w.heap.size]?=some (.deferred (some []))/\aj H w A)
  (fun az X A=>af m X A X A/\∃c,Jc c az (B X) A/\A.heap[w.heap.size+1]?=some (.loop (i .done (some c)))/\A.heap[w.heap.size]?=some (.deferred (some []))/\aj H w A)
  m E1 Gd
  (fun az X A X' A' h k=>⟨k.fi,hI _ _ _ _ _ h.2.1 (up h.1 k),k.ext.heap h.2.2.1 (nX k.fi _ Om),k.ext.heap h.2.2.2.1 (nX k.fi _ Om),M h.2.2.2.2 k⟩)
  (fun az X A X' A' h k=>by
   have⟨h1,c,h2,h3,h4,h5⟩:=h;exact⟨k.fi,c,hJc _ _ _ _ _ _ h2 (up h1 k),k.ext.heap h3 (nX k.fi _ Om),k.ext.heap h4 (nX k.fi _ Om),M h5 k⟩)
  ?_ ⟨G,hI _ _ _ _ _ h0 ⟨E1.pure,fun b f=>.inl f,fun b f=>?_,(fi G).old,(fi G).lt,(fi G).ew⟩,hL1,hK1,E1.bo⟩).mono ?_
 .-- one round
  rintro az z X A ⟨hX,hi,hl,S,K⟩ _ hpost
  have hlt:w.heap.size+1<A.heap.size:=(Array.getElem?_eq_some_iff.1 hl).1
  have hy:=run_yield (P:=P) (args:=encs z) hl (by rw[j];exact hps z)
  rw[j]at hy
  refine⟨fn,_,assign,body,hy,roundIn_of_wpIn (F:=Fence.wide) trivial ?_⟩
  have hrep:gp [] n (EI Z.toList (encs z).toList ρ) { tmps:=(Z.zip (encs z)).foldl (fun t (x:Nat×Value)=>t.setIfInBounds x.1 x.2) a.tmps,defers:=[] }:=by
   have:=Mb Z.toList (encs z).toList ρ a.tmps hpn ⟨rfl,ha.size,ha.get⟩;rw[<-Array.foldl_toList,Array.toList_zip];exact this
  refine wpIn_mono (U (w.heap.size+1) z A _ hrep) ?_
  rintro e a1 A1 ⟨ρ',E⟩
  have E:=E.resolve_right (fun h=>by cases h.2.1)
  have⟨hr1,J⟩:=E
  cases e<;>first|exact J.elim|skip
  obtain⟨rfl,hbody⟩:=J
  refine⟨_,run_beginRound hl (by rw[j]),?_⟩
  have T1:=uf (.loop { i .ready none with state:=.busy }) hX
  have hX1:=V (.loop { i .ready none with state:=.busy }) hX
  have hl2:(A1.putObj (w.heap.size+1) (.loop { i .ready none with state:=.busy })).heap[w.heap.size+1]?=some (.loop { i .ready none with state:=.busy }):=World.putObj_heap_same hlt
  have hk2:(A1.putObj (w.heap.size+1) (.loop { i .ready none with state:=.busy })).heap[w.heap.size]?=some (.deferred (some [])):=(World.putObj_heap_other Om).trans S
  have hkH2:=C (.loop { i .ready none with state:=.busy }) K
  have hi2:=hI _ _ _ _ _ hi T1
  refine wpIn_mono (hbody az (B X) _ hi2 T1.fi hpost a1 hr1) ?_
  have fin : ∀ (d : Option Code) (s : World), aj (B X) (A1.putObj (w.heap.size + 1) (.loop { i .ready none with state:=.busy })) s ->
    (Instr.endRound (w.heap.size+1) d).run P s=.ok (.bool d.isNone) (s.putObj (w.heap.size+1) (.loop (i (if d.isNone then .ready else .done) d))) /\
    af m X (s.putObj (w.heap.size+1) (.loop (i (if d.isNone then .ready else .done) d))) X (s.putObj (w.heap.size+1) (.loop (i (if d.isNone then .ready else .done) d))) /\
    af w0 (B X) s (B X) (s.putObj (w.heap.size+1) (.loop (i (if d.isNone then .ready else .done) d))) /\
    (s.putObj (w.heap.size+1) (.loop (i (if d.isNone then .ready else .done) d))).heap[w.heap.size+1]?=some (.loop (i (if d.isNone then .ready else .done) d)) /\
    (s.putObj (w.heap.size+1) (.loop (i (if d.isNone then .ready else .done) d))).heap[w.heap.size]?=some (.deferred (some [])) /\
    aj H w (s.putObj (w.heap.size+1) (.loop (i (if d.isNone then .ready else .done) d))) /\
    aj X A1 (s.putObj (w.heap.size+1) (.loop (i (if d.isNone then .ready else .done) d))):=fun d s q=>by
   have hl3:s.heap[w.heap.size+1]?=some (.loop { i .ready none with state:=.busy }):=by
    rw[q.gq _ (by simpa using hlt) (.inr (.inr (.inl rfl)))];exact hl2
   have hD3:s.heap[w.heap.size]?=some (.deferred (some [])):=by
    rw[q.gq _ So (.inr (.inl rfl))];exact hk2
   have hX3:af m X s X s:=hX1.gi (q.mono Gd)
   have u:=run_endRound (P:=P) d hl3
   rw[j]at u
   refine⟨by rw[j];exact u,V _ hX3,uf _ hX3,World.putObj_heap_same (Array.getElem?_eq_some_iff.1 hl3).1,(World.putObj_heap_other Om).trans hD3,C _ (hkH2.trans (q.mono fun b f=>.inl f)),?_⟩
   have k1:aj X A1 (A1.putObj (w.heap.size+1) (.loop { i .ready none with state:=.busy })):=(ab.putObj A1 _ _).bl fun b f e=>Oh (hX.old b f)
   exact(k1.trans (q.mono fun b f=>.inr (.inr (.inr f)))).trans ((ab.putObj s _ _).bl fun b f e=>Oh (hX.old b f))
  rintro e a3 s ⟨ρ3,E⟩
  have E:=E.resolve_right (fun h=>by cases h.2.1)
  have⟨hr3,J⟩:=E
  cases e with
  |normal =>
   have⟨q,L⟩:=J
   have⟨f1,f2,f3,f4,f5,f6,f7⟩:=fin none s q
   exact⟨_,_,f1,.inl ⟨rfl,f7,f2,hI _ _ _ _ _ L f3,f4,f5,f6⟩⟩
  |ret =>
   have⟨q,L⟩:=J
   have⟨f1,f2,f3,f4,f5,f6,f7⟩:=fin (some .ret) s q
   exact⟨_,_,f1,.inr ⟨rfl,f7,f2,.ret,hIr _ _ _ _ _ L f3,f4,f5,f6⟩⟩
  |exit N =>
   obtain⟨rfl,q,L⟩:=J
   have⟨f1,f2,f3,f4,f5,f6,f7⟩:=fin (some (.exit N)) s q
   exact⟨_,_,f1,.inr ⟨rfl,f7,f2,.exit N,⟨rfl,hIx _ _ _ _ _ L f3⟩,f4,f5,f6⟩⟩
  |goto t=>exact J.elim
  |panic ch=>exact J.elim
  |outgrown=>exact J.elim
 .rcases f with f|rfl|rfl|f
  .exact .inl f
  .exact .inr (Nat.le_refl _)
  .exact .inr Om
  .exact f.elim
 .-- tv the iterator
  have R:gp [mark w.heap.size] n ρ { a with defers:=[mark w.heap.size]++a.defers }:=⟨by rw[show a.defers=[]from ha.defers];rfl,ha.size,ha.get⟩
  have go:∀(A:World),af w0 (B fun b=>H b\/b=w.heap.size\/b=w.heap.size+1) A (B fun b=>H b\/b=w.heap.size\/b=w.heap.size+1) A->True:=fun _ _=>trivial
  have rest : ∀ (X : NP) (A : World), af w0 (B X) A (B X) A -> A.heap[w.heap.size]? = some (.deferred (some [])) -> aj H w A -> (I xs (B X) A \/ ∃ az, Ix az (B X) A) ->
    y.wpIn (jt none) 0 P (rI ⟨none,[]⟩ n Q) { a with defers:=[mark w.heap.size]++a.defers } A:=by
   intro X A hA hD hkA hIA
   refine wpIn_mono (hrest w.heap.size (B X) A hA (.inr (.inl rfl)) hD (fun b f=>.inl f) hkA hIA _ R) ?_
   rintro e a2 A2 ⟨ρ2,⟨hr2,J⟩|⟨_,_,h,_⟩⟩
   .cases e<;>first|exact J.elim|skip
    exact⟨ρ2,.inr ⟨rfl,rfl,rfl,w.heap.size,hr2,J.1,J.2⟩⟩
   .cases h
  rintro e A ⟨⟨v,rfl⟩,X,_,⟨hX,hi,hl,S,K⟩|⟨az,hX,c,hc,hl,S,K⟩⟩
  .obtain⟨o, u⟩ : ∃ o, (Instr.endLoop (w.heap.size + 1)).run P A = .ok none (A.putObj (w.heap.size + 1) o):=by
    have:=run_endLoop (P:=P) hl (by rw[j];simp);rw[j]at this;exact⟨_,this⟩
   have T:=uf o hX
   exact⟨none,_,u,rest X _ T.fi ((World.putObj_heap_other Om).trans S) (C _ K) (.inl (hI _ _ _ _ _ hi T))⟩
  .obtain⟨o, u⟩ : ∃ o, (Instr.endLoop (w.heap.size + 1)).run P A = .ok (some c) (A.putObj (w.heap.size + 1) o):=by
    have:=run_endLoop (P:=P) hl (by rw[j];simp);rw[j]at this;exact⟨_,this⟩
   have T:=uf o hX
   refine⟨some c,_,u,?_⟩
   have hc':=hJc _ _ _ _ _ _ hc T
   have hD:=(World.putObj_heap_other (w:=A) (r:=w.heap.size+1) (o:=o) (k:=w.heap.size) Om).trans S
   cases c<;>first|exact hc.elim|skip
   case exit N =>
    obtain⟨rfl,hx⟩:=hc'
    refine wpIn_exit ?_
    simp only[Exit.inBlock,if_true]
    exact rest X _ T.fi hD (C _ K) (.inr ⟨az,hx⟩)
   case ret =>
    refine wpIn_ret ?_
    exact⟨ρ,.inr ⟨rfl,rfl,rfl,w.heap.size,R,hD,hret w.heap.size az (B X) _ T.fi (.inr (.inl rfl)) hD hc'⟩⟩
end
end Go.SE
namespace Go.SE
def af.jbc{w0 w H D o}(hs:af w0 H w H w)(c:H D):af w0 H w H (w.putObj D o):=
 ⟨(ab.putObj w D o).mono Gd,fun _ h=>h,fun _ h=>.inl h,hs.old,fun b a=>by have:=hs.lt b a;simpa using this,by simpa using hs.ew⟩
end Go.SE
end
section
namespace Go.SE
structure EZ(p:Addr)(i:Int)(n size:Nat)(a:Addr):Prop where
 lo:0<=i
 hi:i<n
 at_:a=p.add (i.toNat*size)
section
variable {P:Program} {ε:Operand->Value} {w w':World} {d:Option Tmp} {ty:TypeId} {pos:String} {aft:Array Edge} {g:Option (Nat×Bool)}
def jVT{T E x ix p k i m n a}(c:ε x=.pointer (some p))(hi:ε ix=.int k i)(f:(underlying T).run P w=.ok (.array m E) w)(hs:(sizeOf E).run P w=.ok n w)(e:EZ p i m n a):
  (execOp ε ⟨d,.indexAddr T x ix,ty,pos,aft,g⟩).run P w=.ok (.value<|.pointer<|some a) w:=by
 obtain⟨b,h1,rfl⟩:=e
 simp[execOp,Instr.indexAt,Instr.sureAddr,c,hi,asIntOf,f,b,h1,hs]
end
def GG(π A X:Prop):Prop:=π->A->X
structure HS(w0:World)(Hv:Nat->Prop)(wv:World)(H:Nat->Prop)(w:World)(l:List fw):Prop where
 s:af w0 Hv wv H w
 b:HB H w l
abbrev aa(P:Program)(fn:Func)(m:Nat)(c:Cf):Ad:=jq P fn.ntmps m c
abbrev vv(P:Program)(fn:Func)(m:Nat)(c:Cf):Cf:=(jq P fn.ntmps m c).c
def pv(v:Value)(c:Cf):Cf:=yW v c.w c
def uP(fn:Func):Code:=fn.body.getD .skip
section
variable {π A X:Prop} {α β γ δ ε ζ η θ ι κ:Type}
def xe{p:α->Prop}(k:∀{a},GG π (p a) X):GG π (∃a,p a) X:=fun h ⟨_,q⟩=>k h q
def dt{p:α->β->Prop}(k:∀{a b},GG π (p a b) X):GG π (∃a b,p a b) X:=fun h ⟨_,_,q⟩=>k h q
def um{p:α->β->γ->Prop}(k:∀{a b c},GG π (p a b c) X):GG π (∃a b c,p a b c) X:=fun h ⟨_,_,_,q⟩=>k h q
def G2{p:α->β->γ->δ->Prop}(k:∀{a b c d},GG π (p a b c d) X):GG π (∃a b c d,p a b c d) X:=fun h ⟨_,_,_,_,q⟩=>k h q
def gw{p:α->β->γ->δ->ε->Prop}(k:∀{a b c d e},GG π (p a b c d e) X):GG π (∃a b c d e,p a b c d e) X:=fun h ⟨_,_,_,_,_,q⟩=>k h q
def cf{p:α->β->γ->δ->ε->ζ->Prop}(k:∀{a b c d e f},GG π (p a b c d e f) X):GG π (∃a b c d e f,p a b c d e f) X:=fun h ⟨_,_,_,_,_,_,q⟩=>k h q
def yy{p:α->Prop}{e:α}(k:GG π (p e) X):GG π (∀y,y=e->p y) X:=fun h q=>k h<|q e rfl
end
section
variable {w0 wv w:World} {Hv H:Nat->Prop} {l:List fw} {X:Prop}
def an{r:World->Prop}(k:GG (HS w0 H w H w l) (r w) X):GG (HS w0 H wv H w l) (∀w',af w0 H wv H w'->r w') X:=fun h q=>k ⟨h.s.fi,h.b⟩<|q w h.s
def ah{r:(Nat->Prop)->World->Prop}(k:GG (HS w0 H w H w l) (r H w) X):GG (HS w0 Hv wv H w l) (∀a w',af w0 Hv wv a w'->r a w') X:=fun h q=>k ⟨h.s.fi,h.b⟩<|q H w h.s
end
def vg(c:Cf):Option World:=match c.pos with
 |.d _ q _ _ _ _ _ _ _ _=>q
 |_=>some c.w
def ot(c:Cf):Option (World->Prop):=match c.pos with
 |.d _ none C _ _ _ _ _ _ _=>some C
 |_=>none
def qo(c:Cf):Nat->Prop:=match c.pos with
 |.d _ _ _ H _ _ _ _ _ _=>H
 |_=>ar
def oq(c:Cf):List fw:=match c.pos with
 |.d _ _ _ _ l _ _ _ _ _=>l
 |_=>[]
def jj(c:Cf):Bool:=match c.pos with
 |.d _ _ _ _ _ _ fr _ _ (some k)=>vX fr k
 |_=>true
def gd(c:Cf):Bool:=match c.pos with
 |.d _ _ _ _ _ ld _ _ _ (some k)=>vX ld k
 |.d ..=>false
 |_=>true
section
variable {P:Program} {n:Nat} {Q:Exit->bg->World->Prop} {c:Cf}
def y5{w}(h:vg c=some w)(x)(a:need c x):x=w:=by
 have⟨pos,fr,ρ,w',kn⟩:=c;cases pos with
 |d ops q C H l ld fr b e s=>simp only[vg]at h;subst h;exact a
 |_=>simp only[vg,Option.some.injEq]at h;subst h;exact a
def xV{C}(h:ot c=some C)(x):need c x↔C x/\HB (qo c) x (oq c):=by
 unfold ot at h;unfold need qo oq;split at h;rename_i e;rw[e];cases h;exact Iff.rfl;cases h
def OG{o v w'}(e:cur c=some o)(f:gd c=true)(hr:(execOp (bw c.ρ) o).run P c.w=.ok (.value v) w')(i:jj c=true\/need c w')(k:Wk P n Q (yW v w' c)):Wk P n Q c:=by
 cases a:pH c with
 |false=>exact P4 e a hr k
 |true =>
  intro d
  have⟨hh,b⟩:=xg e
  unfold rF at b
  rw[vl d]at b
  replace k:=k<|u7 d _ _
  have⟨ops,q,C,H,l,ld,fr,r,m,j,h1,h2,g,p,h3⟩:=yi (v:=v) (w':=w') hh a
  rw[h2]at b;rw[h3]at k;rw[Aq h1]
  refine sl g b (by simpa[gd,h1]using f) hr (i.imp (fun h=>by simpa[jj,h1]using h) fun h=>?_) k
  unfold need at h;rw[h1]at h;exact h
def FF{o w'}(e:cur c=some o)(f:gd c=true)(hr:(execOp (bw c.ρ) o).run P c.w=.ok .skip w')(i:jj c=true\/need c w')(k:Wk P n Q (yW undef w' c)):Wk P n Q c:=by
 cases a:pH c with
 |false=>exact Nn e a hr k
 |true =>
  intro d
  have⟨hh,b⟩:=xg e
  unfold rF at b
  rw[vl d]at b
  replace k:=k<|u7 d _ _
  have⟨ops,q,C,H,l,ld,fr,r,m,j,h1,h2,g,p,h3⟩:=yi (v:=undef) (w':=w') hh a
  rw[h2]at b;rw[h3]at k;rw[Aq h1]
  refine Kz g b (by simpa[gd,h1]using f) hr (i.imp (fun h=>by simpa[jj,h1]using h) fun h=>?_) k
  unfold need at h;rw[h1]at h;exact h
def zHR{o f args}(s:cur c=some o)(p:gd c=true)(hr:(execOp (bw c.ρ) o).run P c.w=.ok (.enter f args) c.w)(k:Calls P f args c.w fun e w1=>∃v,e=.returned v/\(jj c=true\/need c w1)/\Wk P n Q (yW v w1 c)):Wk P n Q c:=by
 intro i;have⟨hh,d⟩:=xg s;unfold rF at d;rw[vl i]at d;cases b:pH c with
 |false =>
  have⟨ops,l,h1,h2,_⟩:=xv (v:=undef) (w':=c.w) hh b
  rw[h2]at d;rw[Ce h1]
  refine Hc d hr<|k.mono fun e w1 ⟨v,m,_,k⟩=>⟨v,m,?_⟩
  have⟨g,l',a,u,h3⟩:=xv (v:=v) (w':=w1) hh b
  rw[h1]at a;cases a
  replace k:=k<|u7 i _ _
  rw[h3]at k;exact k
 |true =>
  have⟨ops,q,C,H,l,ld,fr,D,I,j,h1,h2,A,J,_⟩:=yi (v:=undef) (w':=c.w) hh b
  rw[h2]at d;rw[Aq h1]
  refine zHE A d (by simpa[gd,h1]using p) hr (k.mono fun e w1 ⟨v,m,x,k⟩=>⟨v,m,x.imp (fun h=>by simpa[jj,h1]using h) fun h=>?_,?_⟩)
  unfold need at h;rw[h1]at h;exact h
  have⟨g,E,G,B,l',y,z,r,t,F,a,_,_,_,h3⟩:=yi (v:=v) (w':=w1) hh b
  rw[h1]at a;cases a
  replace k:=k<|u7 i _ _
  rw[h3]at k;exact k
end
section
variable {P:Program} {fn:Func} {R:Ending->World->Prop} {c:Cf} {π A:Prop}
def dv{f args w}(d:P.funcs[f]?=some fn)(h:A)(k:GG (HS w ar w ar w []) A (W P fn R ⟨.c<|uP fn,[],xG args,w,[]⟩))(b:(fn.body.isSome,Nat.ble args.length fn.ntmps)=(true,true):=by kernel_rfl):Calls P f args.toArray w R:=by
 have⟨h1,h2⟩:=Prod.mk.inj b;have⟨e,a⟩:=Option.isSome_iff_exists.1 h1;refine Jd d a rfl (Nat.le_of_ble_eq_true h2) ?_;have:=k ⟨af.start w,HB.nil ar w⟩ h;unfold uP at this;rw[a]at this;exact this (fun _ _ h=>by cases h)
def cy{f args w}(a:P.funcs[f]?=some fn)(h:A)(k:GG True A (W P fn R ⟨.c<|uP fn,[],xG args,w,[]⟩))(b:(fn.body.isSome,Nat.ble args.length fn.ntmps)=(true,true):=by kernel_rfl):Calls P f args.toArray w R:=
 dv a h (fun _ h=>k trivial h) b
def vw{o v}(m)(hs:(aa P fn m c).cq=(aa P fn m c).so)(b:cur (vv P fn m c)=some o)(a:pk (vv P fn m c)=false)(hr:∀x,need (vv P fn m c) x->(execOp (bw (vv P fn m c).ρ) o).run P x=.ok (.value v) x)(k:W P fn R (pv v<|vv P fn m c)):W P fn R c:=
 W.on m hs<|Hp b a (fun _=>hr) k
def va(P:Program)(c:Cf):Option (Value×(World->Result Bool)×Bool):=match cur c with
 |some ⟨_,.load T x,_,_,_,_⟩=>some (bw c.ρ x,fun y=>(isAgg T).run P y,pk c)
 |_=>none
def Cm{p v}(m)(hs:(aa P fn m c).cq=(aa P fn m c).so)(h:va P (vv P fn m c)=some (.pointer<|some p,fun y=>.ok false y,false))(b:∀x,need (vv P fn m c) x->x.cell? p=some v)(k:W P fn R (pv v<|vv P fn m c)):W P fn R c:=by
 unfold va at h;split at h;rename_i d;simp only[Option.some.injEq,Prod.mk.injEq]at h;exact vw m hs d h.2.2 (fun x a=>tC h.1 (congrFun h.2.1 x)<|b x a) k;cases h
def ld{α:Type}{F:α->Value}{r:α->Prop}{a w}(m)(k:∀{v},GG π (r v)<|W P fn R<|pv (F v)<|vv P fn m c)(h:((aa P fn m c).cq,va P<|vv P fn m c,vg<|vv P fn m c)=((aa P fn m c).so,some (.pointer<|some a,fun y=>.ok false y,false),some w):=by kernel_rfl):GG π (∃v,w.cell? a=some (F v)/\r v) (W P fn R c):=by
 rintro b ⟨v,e,hr⟩;simp only[Prod.mk.injEq]at h;exact Cm m h.1 h.2.1 (fun x d=>by rw[y5 h.2.2 x d];exact e) (k b hr)
def ik{α:Type}{F:α->Value}{r:α->Prop}{a C}(m)(k:∀{v},GG π (r v)<|W P fn R<|pv (F v)<|vv P fn m c)(h:((aa P fn m c).cq,va P<|vv P fn m c,ot<|vv P fn m c)=((aa P fn m c).so,some (.pointer<|some a,fun y=>.ok false y,false),some C):=by kernel_rfl):GG π (∃v,(∀w',C w'->w'.cell? a=some (F v))/\r v) (W P fn R c):=by
 rintro b ⟨v,e,hr⟩;simp only[Prod.mk.injEq]at h;exact Cm m h.1 h.2.1 (fun x d=>e x ((xV h.2.2 x).1 d).1)<|k b hr
def AI(P:Program)(c:Cf):Option (Value×(World->Result Bool)×(World->Result Nat)×Bool):=match cur c with
 |some ⟨_,.load T x,_,_,_,_⟩=>some (bw c.ρ x,fun y=>(isAgg T).run P y,fun y=>(sizeOf T).run P y,pk c)
 |_=>none
def CJ{p vs}(m)(hs:(aa P fn m c).cq=(aa P fn m c).so)(h:AI P (vv P fn m c)=some (.pointer<|some p,fun y=>.ok true y,fun y=>.ok vs.length y,false))(b:∀x,need (vv P fn m c) x->Row x p vs)(k:W P fn R (pv (.agg vs.toArray)<|vv P fn m c)):W P fn R c:=by
 unfold AI at h;split at h;rename_i d;simp only[Option.some.injEq,Prod.mk.injEq]at h;exact vw m hs d h.2.2.2 (fun x a=>HX h.1 (congrFun h.2.1 x) (congrFun h.2.2.1 x) rfl (b x a)) k;cases h
def lr{r:Prop}{vs a w}(m)(k:GG π r (W P fn R<|pv (.agg vs.toArray)<|vv P fn m c))(h:((aa P fn m c).cq,AI P<|vv P fn m c,vg<|vv P fn m c)=((aa P fn m c).so,some (.pointer<|some a,fun y=>.ok true y,fun y=>.ok vs.length y,false),some w):=by kernel_rfl):GG π (Row w a vs/\r) (W P fn R c):=by
 rintro b ⟨e,hr⟩;simp only[Prod.mk.injEq]at h;exact CJ m h.1 h.2.1 (fun x d=>by rw[y5 h.2.2 x d];exact e) (k b hr)
def Az{r:Prop}{vs a C}(m)(k:GG π r (W P fn R<|pv (.agg vs.toArray)<|vv P fn m c))(h:((aa P fn m c).cq,AI P<|vv P fn m c,ot<|vv P fn m c)=((aa P fn m c).so,some (.pointer<|some a,fun y=>.ok true y,fun y=>.ok vs.length y,false),some C):=by kernel_rfl):GG π ((∀w',C w'->Row w' a vs)/\r) (W P fn R c):=by
 rintro b ⟨e,hr⟩;simp only[Prod.mk.injEq]at h;exact CJ m h.1 h.2.1 (fun x d=>e x ((xV h.2.2 x).1 d).1)<|k b hr
def fa(l:List fw)(i:Nat):List Value:=match l[i]? with
 |some (_,cs,_)=>cs
 |none=>[]
def mo(l:List fw)(i j:Nat):Value:=(fa l i).getD j undef
def iq(l:List fw)(i:Nat)(a:List Nat):Addr:=match l[i]? with
 |some (p,_,_)=>a.foldl Addr.add p
 |none=>⟨0,0,none⟩
def sum:List Nat->Nat
 |[]=>0
 |j :: a=>j+sum a
def KX(p:Addr):∀(a:List Nat) (k:Nat),a.foldl Addr.add (p.add k)=p.add (k+sum a)
 |[],k=>rfl
 |j :: a,k=>by rw[List.foldl_cons,yL,KX p a,sum,Nat.add_assoc]
def Dw(p)(a:List Nat):a.foldl Addr.add p=p.add (sum a):=by
 have:=KX p a 0;rwa [Nat.zero_add]at this
def Cu{H x l}(c:HB H x l){i js}(a:Nat.blt (sum js) (fa l i).length=true):x.cell? (iq l i js)=some (mo l i<|sum js):=by
 unfold fa at a;unfold iq mo fa;split at a;rename_i p cs T e;rw[Dw];have b:sum js<cs.length:=of_decide_eq_true (by simpa[Nat.blt_eq]using a);refine c.cell i (sum js) e ?_;rw[List.getD_eq_getElem?_getD,List.getElem?_eq_getElem b];rfl;cases a
def ur{H x l}(b:HB H x l){i n js}(a:Nat.ble (sum js+n) (fa l i).length=true)(c:0<n):Row x (iq l i js) (((fa l i).drop<|sum js).take n):=by
 unfold fa at a|-;unfold iq;split at a;rename_i p cs T e;rw[Dw];exact b.row i (sum js) n e rfl;have:=Nat.le_of_ble_eq_true a;simp at this;omega
def lh{w0 wv w Hv H l}(m i js)(k:GG (HS w0 Hv wv H w l) A (W P fn R<|pv (mo l i<|sum js)<|vv P fn m c))(h:((aa P fn m c).cq,va P<|vv P fn m c,vg<|vv P fn m c,Nat.blt (sum js) (fa l i).length)=((aa P fn m c).so,some (.pointer<|some<|iq l i js,fun y=>.ok false y,false),some w,true):=by kernel_rfl):GG (HS w0 Hv wv H w l) A (W P fn R c):=by
 intro a hr;simp only[Prod.mk.injEq]at h;exact Cm m h.1 h.2.1 (fun x d=>by rw[y5 h.2.2.1 x d];exact Cu a.b h.2.2.2) (k a hr)
def jg(m i js)(k:GG π A (W P fn R<|pv (mo (oq<|vv P fn m c) i<|sum js)<|vv P fn m c))(h:((aa P fn m c).cq,va P<|vv P fn m c,(ot<|vv P fn m c).isSome,Nat.blt (sum js) (fa (oq<|vv P fn m c) i).length)=((aa P fn m c).so,some (.pointer<|some<|iq (oq<|vv P fn m c) i js,fun y=>.ok false y,false),true,true):=by kernel_rfl):GG π A (W P fn R c):=by
 intro a hr;simp only[Prod.mk.injEq]at h;have⟨C,d⟩:=Option.isSome_iff_exists.1 h.2.2.1;exact Cm m h.1 h.2.1 (fun x b=>Cu ((xV d x).1 b).2 h.2.2.2)<|k a hr
def ij{w0 wv w Hv H l}(m i js n)(k:GG (HS w0 Hv wv H w l) A (W P fn R<|pv (.agg (((fa l i).drop<|sum js).take n).toArray)<|vv P fn m c))(h:((aa P fn m c).cq,AI P<|vv P fn m c,vg<|vv P fn m c,Nat.ble (sum js+n) (fa l i).length,Nat.blt 0 n)=((aa P fn m c).so,some (.pointer<|some<|iq l i js,fun y=>.ok true y,fun y=>.ok (((fa l i).drop<|sum js).take n).length y,false),some w,true,true):=by kernel_rfl):GG (HS w0 Hv wv H w l) A (W P fn R c):=by
 intro a hr;simp only[Prod.mk.injEq]at h;exact CJ m h.1 h.2.1 (fun x d=>by rw[y5 h.2.2.1 x d];exact ur a.b h.2.2.2.1<|by simpa[Nat.blt_eq]using h.2.2.2.2) (k a hr)
def sJ(m i js n)(k:GG π A (W P fn R<|pv (.agg (((fa (oq<|vv P fn m c) i).drop<|sum js).take n).toArray)<|vv P fn m c))(h:((aa P fn m c).cq,AI P<|vv P fn m c,(ot<|vv P fn m c).isSome,Nat.ble (sum js+n) (fa (oq<|vv P fn m c) i).length,Nat.blt 0 n)=((aa P fn m c).so,some (.pointer<|some<|iq (oq<|vv P fn m c) i js,fun y=>.ok true y,fun y=>.ok (((fa (oq<|vv P fn m c) i).drop<|sum js).take n).length y,false),true,true,true):=by kernel_rfl):GG π A (W P fn R c):=by
 intro a hr;simp only[Prod.mk.injEq]at h;have⟨C,d⟩:=Option.isSome_iff_exists.1 h.2.2.1;exact CJ m h.1 h.2.1 (fun x b=>ur ((xV d x).1 b).2 h.2.2.2.1<|by simpa[Nat.blt_eq]using h.2.2.2.2) (k a hr)
end
section
variable {P:Program} {fn:Func} {R:Ending->World->Prop} {c:Cf} {π A:Prop}
def L5(c:Cf):Option (Value×Bool):=match cur c with
 |some ⟨_,.nilCheck x,_,_,_,_⟩=>some (bw c.ρ x,pk c)
 |_=>none
def nc{r:Addr->Prop}{p}(m)(k:∀{a},GG π (r a)<|W P fn R<|pv (.pointer<|some a)<|vv P fn m c)(h:((aa P fn m c).cq,L5<|vv P fn m c)=((aa P fn m c).so,some (.pointer p,false)):=by kernel_rfl):GG π (∃a,p=some a/\r a) (W P fn R c):=by
 rintro b ⟨a,e,hr⟩;simp only[Prod.mk.injEq]at h;have⟨d,h⟩:=h;unfold L5 at h;split at h;rename_i f;simp only[Option.some.injEq,Prod.mk.injEq]at h;exact vw m d f h.2 (fun x _=>IS h.1 e)<|k b hr;cases h
def DO:Value->Option Int
 |.int _ i=>some i
 |_=>none
def Pl{v i}(h:DO v=some i):∃k,v=.int k i:=by
 cases v<;>simp only[DO]at h<;>first|(cases h;done)|(cases h;exact⟨_,rfl⟩)
def Ll(P:Program)(c:Cf):Option (Value×Option Int×(World->Result Nat)×Bool):=match cur c with
 |some ⟨_,.indexAddr T x i,_,_,_,_⟩=>match P.underlying T with
  |some (.slice e)=>some (bw c.ρ x,DO<|bw c.ρ i,fun y=>(sizeOf e).run P y,pk c)
  |_=>none
 |_=>none
def ix{r:Addr->Prop}{s i n}(m)(k:∀{a},GG π (r a)<|W P fn R<|pv (.pointer<|some a)<|vv P fn m c)(h:((aa P fn m c).cq,Ll P<|vv P fn m c)=((aa P fn m c).so,some (s.v,some i,fun y=>.ok n y,false)):=by kernel_rfl):GG π (∃a,At s i n a/\r a) (W P fn R c):=by
 rintro d ⟨a,f,hr⟩;simp only[Prod.mk.injEq]at h;have⟨e,h⟩:=h;unfold Ll at h;split at h;rename_i g;split at h;rename_i j;simp only[Option.some.injEq,Prod.mk.injEq]at h;have⟨h1,h2,h3,b⟩:=h;have⟨l,h2⟩:=Pl h2;exact vw m e g b (fun x _=>Jo h1 h2 (run_underlying j x) (congrFun h3 x) f)<|k d hr;cases h;cases h
def wj(c:Cf):Option (Sem Next):=(cur c).map fun o=>execOp (bw c.ρ) o
def NC{s:Sem Value}{v}(m)(hs:(aa P fn m c).cq=(aa P fn m c).so)(h:wj (vv P fn m c)=some (do pure (.value (<-s))))(e:pk (vv P fn m c)=false)(d:∀x,need (vv P fn m c) x->s.run P x=.ok v x)(k:W P fn R (pv v<|vv P fn m c)):W P fn R c:=by
 unfold wj at h;cases a:cur (vv P fn m c)with
 |none=>rw[a]at h;cases h
 |some o=>rw[a]at h;exact vw m hs a e (fun x b=>JG (Option.some.inj h)<|d x b) k
def rn{r:Prop}{s:Sem Value}{v w}(m)(k:GG π r (W P fn R<|pv v<|vv P fn m c))(h:((aa P fn m c).cq,wj<|vv P fn m c,pk<|vv P fn m c,vg<|vv P fn m c)=((aa P fn m c).so,some<|do pure (.value (<-s)),false,some w):=by kernel_rfl):GG π (s.run P w=.ok v w/\r) (W P fn R c):=by
 rintro a ⟨d,hr⟩;simp only[Prod.mk.injEq]at h;exact NC m h.1 h.2.1 h.2.2.1 (fun x b=>by rw[y5 h.2.2.2 x b];exact d) (k a hr)
def Hd{r:Prop}{s:Sem Value}{v C}(m)(k:GG π r (W P fn R<|pv v<|vv P fn m c))(h:((aa P fn m c).cq,wj<|vv P fn m c,pk<|vv P fn m c,ot<|vv P fn m c)=((aa P fn m c).so,some<|do pure (.value (<-s)),false,some C):=by kernel_rfl):GG π ((∀w',C w'->s.run P w'=.ok v w')/\r) (W P fn R c):=by
 rintro a ⟨d,hr⟩;simp only[Prod.mk.injEq]at h;exact NC m h.1 h.2.1 h.2.2.1 (fun x b=>d x ((xV h.2.2.2 x).1 b).1)<|k a hr
def Gn(P:Program)(c:Cf):Option (BinOp×TypeId×Value×Value×(World->Result Unit)×Bool):=match cur c with
 |some ⟨_,.binOp op T a b _,_,_,_,_⟩=>some (op,T,bw c.ρ a,bw c.ρ b,fun y=>(eqGuard op T a b (bw c.ρ a)<|bw c.ρ b).run P y,pk c)
 |_=>none
def Vq{op:BinOp}{T x y v}(m)(hs:(aa P fn m c).cq=(aa P fn m c).so)(h:Gn P (vv P fn m c)=some (op,T,x,y,fun y=>.ok () y,false))(b:∀z,need (vv P fn m c) z->(Go.binOp op T x y).run P z=.ok v z)(k:W P fn R (pv v<|vv P fn m c)):W P fn R c:=by
 unfold Gn at h;split at h;rename_i e;simp only[Option.some.injEq,Prod.mk.injEq]at h;obtain⟨rfl,rfl,h1,h2,h3,d⟩:=h;rw[h1,h2]at h3;exact vw m hs e d (fun z a=>C6 h1 h2 (congrFun h3 z)<|b z a) k;cases h
def rb{r:Prop}{op:BinOp}{T x y v w}(m)(k:GG π r (W P fn R<|pv v<|vv P fn m c))(h:((aa P fn m c).cq,Gn P<|vv P fn m c,vg<|vv P fn m c)=((aa P fn m c).so,some (op,T,x,y,fun y=>.ok () y,false),some w):=by kernel_rfl):GG π ((Go.binOp op T x y).run P w=.ok v w/\r) (W P fn R c):=by
 rintro a ⟨d,hr⟩;simp only[Prod.mk.injEq]at h;exact Vq m h.1 h.2.1 (fun x b=>by rw[y5 h.2.2 x b];exact d) (k a hr)
def Ka(P:Program)(c:Cf):Option (BinOp×TypeId×Value×Value×Bool×Bool):=match cur c with
 |some ⟨_,.binOp op T a b _,_,_,_,_⟩=>some (op,T,bw c.ρ a,bw c.ρ b,P.eqGuardType P.depth T,pk c)
 |_=>none
def ae{op:BinOp}{T xs ys b}(m)(f:∀z,(Go.binOp op T (.agg xs)<|.agg ys).run P z=.ok (.bool b) z)(k:GG π A (W P fn R<|pv (.bool b)<|vv P fn m c))(h:((aa P fn m c).cq,Ka P<|vv P fn m c)=((aa P fn m c).so,some (op,T,.agg xs,.agg ys,false,false)):=by kernel_rfl):GG π A (W P fn R c):=by
 intro d hr;simp only[Prod.mk.injEq]at h;have⟨e,h⟩:=h;unfold Ka at h;split at h;rename_i g;simp only[Option.some.injEq,Prod.mk.injEq]at h;obtain⟨rfl,rfl,h1,h2,h3,a⟩:=h;exact vw m e g a (fun z _=>zGV h1 h2 h3<|f z)<|k d hr;cases h
def WV(P:Program)(fn:Func)(R:Ending->World->Prop)(c:Cf)(v:Value)(w1:World):Prop:=(jj c=true\/need c w1)/\W P fn R (yW v w1 c)
def WR(P:Program)(fn:Func)(R:Ending->World->Prop)(c:Cf)(e:Ending)(w1:World):Prop:=∃v,e=.returned v/\WV P fn R c v w1
def ev{v w1}(k:GG π A (W P fn R<|yW v w1 c))(h:jj c=true:=by kernel_rfl):GG π A (WV P fn R c v w1):=fun a hr=>⟨.inl h,k a hr⟩
def ie{w0 w w1 H l v}{r:Prop}(k:GG (HS w0 H w1 H w1 l) r (W P fn R<|yW v w1 c))(h:jj c=true:=by kernel_rfl):GG (HS w0 H w H w l) (aj H w w1/\r) (WV P fn R c v w1):=fun a hr=>⟨.inl h,k ⟨a.s.gi hr.1,a.b.bl hr.1⟩ hr.2⟩
def rM{w0 w w1 H l v}{r:Prop}{C}(k:GG (HS w0 H w1 H w1 l) r (W P fn R<|yW v w1 c))(h:(ot c,qo c,oq c)=(some C,H,l):=by kernel_rfl):GG (HS w0 H w H w l) (C w1/\aj H w w1/\r) (WV P fn R c v w1):=fun a hr=>by
 simp only[Prod.mk.injEq]at h;refine⟨.inr<|(xV h.1 _).2 ⟨hr.1,?_⟩,k ⟨a.s.gi hr.2.1,a.b.bl hr.2.1⟩ hr.2.2⟩;rw[h.2.1,h.2.2];exact a.b.bl hr.2.1
def ef{r:Prop}{s:Sem Value}{v w w1}(m)(k:GG π r (WV P fn R (vv P fn m c) v w1))(h:((aa P fn m c).cq,wj<|vv P fn m c,gd<|vv P fn m c,(vv P fn m c).w)=((aa P fn m c).so,some<|do pure (.value (<-s)),true,w):=by kernel_rfl):GG π (s.run P w=.ok v w1/\r) (W P fn R c):=by
 rintro e ⟨g,hr⟩;simp only[Prod.mk.injEq]at h;have⟨f,h1,h2,h3⟩:=h;have⟨d,b⟩:=k e hr;unfold wj at h1;cases a:cur (vv P fn m c)with
 |none=>rw[a]at h1;cases h1
 |some o=>rw[a]at h1;exact W.on m f<|OG a h2 (by rw[h3];exact JG (Option.some.inj h1) g) d b
def es{r:Prop}{s:Sem Unit}{w w1}(m)(k:GG π r (WV P fn R (vv P fn m c) undef w1))(h:((aa P fn m c).cq,wj<|vv P fn m c,gd<|vv P fn m c,(vv P fn m c).w)=((aa P fn m c).so,some (do s;pure .skip),true,w):=by kernel_rfl):GG π (s.run P w=.ok () w1/\r) (W P fn R c):=by
 rintro e ⟨g,hr⟩;simp only[Prod.mk.injEq]at h;have⟨f,h1,h2,h3⟩:=h;have⟨d,b⟩:=k e hr;unfold wj at h1;cases a:cur (vv P fn m c)with
 |none=>rw[a]at h1;cases h1
 |some o=>rw[a]at h1;exact W.on m f<|FF a h2 (by rw[h3];exact jcj (Option.some.inj h1) g) d b
def mx(c:Cf):Option (FuncId×Array Value):=match cur c with
 |some ⟨_,.call ⟨.value x,a,_⟩,_,_,_,_⟩=>match bw c.ρ x with
  |.func (.func f) fs caps=>some (f,fs++(a.toList.map<|bw c.ρ).toArray++caps)
  |_=>none
 |_=>none
def Di{f args w}(m)(a:∀args w,(callFunc f args).run P w=.ok (.enter f args) w)(hs:(aa P fn m c).cq=(aa P fn m c).so)(h1:mx (vv P fn m c)=some (f,args))(h2:gd (vv P fn m c)=true)(h3:(vv P fn m c).w=w)(k:Calls P f args w fun e w1=>WR P fn R (vv P fn m c) e w1):W P fn R c:=by
 unfold mx at h1;split at h1;rename_i d x i ts ty pos aft g h;split at h1;rename_i j fs caps b;cases h1;refine W.on m hs<|zHR h h2 ?_ (by rw[h3];exact k);have:=MT (P:=P) (w:=(vv P fn m c).w) (d:=d) (ty:=ty) (pos:=pos) (aft:=aft) (g:=g) (c:=i.toList) (ts:=ts) b a rfl rfl;rw[Array.toArray_toList]at this;exact this;cases h1;cases h1
def cc{f args w Q}(m)(b:∀args w,(callFunc f args).run P w=.ok (.enter f args) w)(k:∀{e w1},GG π (Q e w1)<|WR P fn R (vv P fn m c) e w1)(h:((aa P fn m c).cq,mx<|vv P fn m c,gd<|vv P fn m c,(vv P fn m c).w)=((aa P fn m c).so,some (f,args),true,w):=by kernel_rfl):GG π (Calls P f args w Q) (W P fn R c):=by
 intro a hr;simp only[Prod.mk.injEq]at h;exact Di m b h.1 h.2.1 h.2.2.1 h.2.2.2<|hr.mono fun e w1 q=>k a q
def rt{v w1}{r:Prop}{e}(k:GG π r (WV P fn R c v w1)):GG π (e=.returned v/\r) (WR P fn R c e w1):=fun a hr=>⟨v,hr.1,k a hr.2⟩
section
variable {w0 wv w:World} {Hv H:Nat->Prop} {l:List fw}
def cp{f args v}(m)(g:∀args w,(callFunc f args).run P w=.ok (.enter f args) w)(i:∀w,Calls P f args w fun e w'=>e=.returned v/\Pure w w')(k:∀{w1},GG (HS w0 Hv wv H w1 l) A<|W P fn R<|yW v w1<|vv P fn m c)(h:((aa P fn m c).cq,mx<|vv P fn m c,gd<|vv P fn m c,(vv P fn m c).w,jj<|vv P fn m c)=((aa P fn m c).so,some (f,args),true,w,true):=by kernel_rfl):GG (HS w0 Hv wv H w l) A (W P fn R c):=by
 intro a hr;simp only[Prod.mk.injEq]at h;exact Di m g h.1 h.2.1 h.2.2.1 h.2.2.2.1<|(i w).mono fun e w1 ⟨d,E⟩=>⟨v,d,.inl h.2.2.2.2,k ⟨a.s.pure E,a.b.pure E⟩ hr⟩
end
def Ip(q:Nat)(c:Cf):Option Nat:=match q with
 |0=>match c.pos with
  |.c (.cond (.tmp d) _ _)=>some d
  |_=>none
 |1=>match rR c with
  |some o=>match o.guard with
   |some (j,_)=>((y3 c)[j]?).bind (·.dst)
   |none=>none
  |none=>none
 |_=>match rR c with
  |some ⟨_,.pick (.tmp d) _ _,_,_,_,_⟩=>some d
  |_=>none
def EV(q:Nat)(c:Cf):Option Value:=(Ip q c).map c.ρ
def ka(q:Nat)(b:Bool)(c:Cf):Cf:=⟨c.pos,c.fr,c.ρ,c.w,match Ip q c with|some d=>(d,b) ::c.kn|none=>c.kn⟩
def Ee{q b}(h:EV q c=some (.bool b))(k:W P fn R (ka q b c)):W P fn R c:=by
 intro j;refine k ?_;unfold EV at h;cases a:Ip q c with
 |none=>rw[a]at h;cases h
 |some d =>
  rw[a]at h
  intro g l f
  simp only[ka,a,kl]at f
  show c.ρ g=_
  cases e:Nat.beq d g with
  |true =>
   rw[e]at f
   have i:=Nat.eq_of_beq_eq_true e
   rw[<-i]
   cases f
   exact Option.some.inj h
  |false=>rw[e]at f;exact j _ _ f
def br{A B:Prop}{e}(q m)(f:GG π A (W P fn R<|ka q true<|vv P fn m c))(d:GG π B (W P fn R<|ka q false<|vv P fn m c))(h:((aa P fn m c).cq,EV q<|vv P fn m c)=((aa P fn m c).so,some<|.bool e):=by kernel_rfl):GG π (Br e A B) (W P fn R c):=by
 intro b hr;simp only[Prod.mk.injEq]at h;refine W.on m h.1 ?_;cases a:e with
 |true=>exact Ee (by rw[<-a];exact h.2) (f b<|hr.1 a)
 |false=>exact Ee (by rw[<-a];exact h.2) (d b<|hr.2 a)
def ks(m d s)(k:GG π A (W P fn R ⟨(vv P fn m c).pos,(vv P fn m c).fr,(vv P fn m c).ρ,(vv P fn m c).w,match kl (vv P fn m c).kn s with|some b=>(d,b) ::(vv P fn m c).kn|none=>(vv P fn m c).kn⟩))(h:((aa P fn m c).cq,(vv P fn m c).ρ d)=((aa P fn m c).so,(vv P fn m c).ρ s):=by kernel_rfl):GG π A (W P fn R c):=by
 intro j hr;simp only[Prod.mk.injEq]at h;refine W.on m h.1 fun f=>k j hr ?_;intro g l a;simp only at a|-
 cases hs:kl (vv P fn m c).kn s with
 |none=>rw[hs]at a;exact f _ _ a
 |some b =>
  rw[hs]at a
  simp only[kl]at a
  cases e:Nat.beq d g with
  |true =>
   rw[e]at a;cases a
   have i:=Nat.eq_of_beq_eq_true e
   rw[<-i,h.2];exact f _ _ hs
  |false=>rw[e]at a;exact f _ _ a
def wW(P:Program)(c:Cf):Option (Value×World):=match cur c with
 |some o=>match(execOp (bw c.ρ) o).run P c.w with
  |.ok (.value v) w'=>some (v,w')
  |_=>none
 |none=>none
def lj(P:Program)(c:Cf)(p:Addr):Value:=match wW P c with
 |some (.pointer _,_)=>.pointer<|some p
 |some (.slice _ l k,_)=>.slice (some p) l k
 |some (.map _,_)=>.map<|some p.block
 |_=>undef
def Bn{O w}(m)(v:Addr->Value)(hs:(aa P fn m c).cq=(aa P fn m c).so)(h1:wW P (vv P fn m c)=some (v ⟨w.heap.size,0,none⟩,w.alloc O))(h2:gd (vv P fn m c)=true)(k:∀p w1,au w O p w1->WV P fn R (vv P fn m c) (v p) w1):W P fn R c:=by
 unfold wW at h1;split at h1;rename_i o d;split at h1;rename_i v' w' hr;simp only[Option.some.injEq,Prod.mk.injEq]at h1;obtain⟨rfl,rfl⟩:=h1;have⟨b,a⟩:=k _ _ ⟨rfl,rfl⟩;exact W.on m hs<|OG d h2 hr b a;cases h1;cases h1
def cd{r:Addr->World->Prop}{O w}(m)(k:∀{p w1},GG π (r p w1)<|W P fn R<|yW (lj P (vv P fn m c) p) w1<|vv P fn m c)(h:((aa P fn m c).cq,wW P<|vv P fn m c,gd<|vv P fn m c,jj<|vv P fn m c)=((aa P fn m c).so,some (lj P (vv P fn m c) ⟨w.heap.size,0,none⟩,w.alloc O),true,true):=by kernel_rfl):GG π (∀p w1,au w O p w1->r p w1) (W P fn R c):=by
 intro a hr;simp only[Prod.mk.injEq]at h;exact Bn m _ h.1 h.2.1 h.2.2.1 fun p w1 b=>⟨.inl h.2.2.2,k a<|hr p w1 b⟩
section
variable {w0 wv w:World} {Hv H:Nat->Prop} {l:List fw}
def my{r:Addr->World->Prop}{O}(m)(k:∀{p w1},GG (HS w0 H w1 H w1 l) (r p w1)<|W P fn R<|yW (lj P (vv P fn m c) p) w1<|vv P fn m c)(h:((aa P fn m c).cq,wW P<|vv P fn m c,gd<|vv P fn m c,jj<|vv P fn m c)=((aa P fn m c).so,some (lj P (vv P fn m c) ⟨w.heap.size,0,none⟩,w.alloc O),true,true):=by kernel_rfl):GG (HS w0 H w H w l) (∀p w1,au w O p w1->r p w1) (W P fn R c):=by
 intro d hr;simp only[Prod.mk.injEq]at h;exact Bn m _ h.1 h.2.1 h.2.2.1 fun p w1 a=>⟨.inl h.2.2.2,k ⟨d.s.gi (ab.aw (F:=ar) a).bo,d.b.bl (ab.aw (F:=ar) a).bo⟩<|hr p w1 a⟩
def sZ{r:Addr->World->Prop}{O C}(m)(k:∀{p w1},GG (HS w0 H w1 H w1 l) (r p w1)<|W P fn R<|yW (lj P (vv P fn m c) p) w1<|vv P fn m c)(h:((aa P fn m c).cq,wW P<|vv P fn m c,gd<|vv P fn m c,ot<|vv P fn m c,qo<|vv P fn m c,oq<|vv P fn m c)=((aa P fn m c).so,some (lj P (vv P fn m c) ⟨w.heap.size,0,none⟩,w.alloc O),true,some C,H,l):=by kernel_rfl):GG (HS w0 H w H w l) (∀p w1,au w O p w1->C w1/\r p w1) (W P fn R c):=by
 intro d hr;simp only[Prod.mk.injEq]at h;refine Bn m _ h.1 h.2.1 h.2.2.1 fun p w1 a=>⟨.inr<|(xV h.2.2.2.1 _).2 ⟨(hr p w1 a).1,?_⟩,k ⟨d.s.gi (ab.aw (F:=ar) a).bo,d.b.bl (ab.aw (F:=ar) a).bo⟩ (hr p w1 a).2⟩;rw[h.2.2.2.2.1,h.2.2.2.2.2];exact d.b.bl (ab.aw (F:=ar) a).bo
def mz(P:Program)(c:Cf):List Value×TypeId:=match cur c with
 |some ⟨_,.alloc T,_,_,_,_⟩=>match(zeroValue T).run P c.w with
  |.ok z _=>(z.cells.toList,T)
  |_=>([],T)
 |some ⟨_,.box T x,_,_,_,_⟩=>((bw c.ρ x).cells.toList,T)
 |_=>([],0)
def nh(m)(k:∀{p w1 d},GG (HS w0 Hv wv d w1 ((p,(mz P<|vv P fn m c).1,(mz P<|vv P fn m c).2) ::l)) A<|W P fn R<|yW (.pointer<|some p) w1<|vv P fn m c)(h:((aa P fn m c).cq,wW P<|vv P fn m c,gd<|vv P fn m c,jj<|vv P fn m c)=((aa P fn m c).so,some (.pointer<|some ⟨w.heap.size,0,none⟩,w.alloc<|.cells (mz P<|vv P fn m c).1.toArray (mz P<|vv P fn m c).2),true,true):=by kernel_rfl):GG (HS w0 Hv wv H w l) A (W P fn R c):=by
 intro a hr;simp only[Prod.mk.injEq]at h;refine Bn m (fun p=>.pointer<|some p) h.1 h.2.1 h.2.2.1 fun p w1 e=>⟨.inl h.2.2.2,?_⟩;have⟨d,s1,b1⟩:=a.s.alloc a.b e;exact k ⟨s1,b1⟩ hr
end
end
section
variable {P:Program} {fn:Func} {R:Ending->World->Prop} {c:Cf} {π A:Prop}
def pS(P:Program)(c:Cf):Option (Value×Value×(World->Result Nat)):=match cur c with
 |some ⟨_,.store T x y,_,_,_,_⟩=>some (bw c.ρ x,bw c.ρ y,fun w=>(sizeOf T).run P w)
 |_=>none
def EG{a v w}(m)(hs:(aa P fn m c).cq=(aa P fn m c).so)(h1:pS P (vv P fn m c)=some (.pointer<|some a,v,fun y=>.ok 1 y))(e:vG v=true)(h2:gd (vv P fn m c)=true)(h3:(vv P fn m c).w=w)(g:zL w a)(k:∀w1,w1=w.setCell a v->WV P fn R (vv P fn m c) undef w1):W P fn R c:=by
 unfold pS at h1;split at h1;rename_i f;simp only[Option.some.injEq,Prod.mk.injEq]at h1;have⟨d,b⟩:=k _ rfl;exact W.on m hs<|FF f h2 (by rw[h3];exact sX h1.1 h1.2.1 e (congrFun h1.2.2 w) g) d b;cases h1
def BF{a vs w}(m)(hs:(aa P fn m c).cq=(aa P fn m c).so)(h1:pS P (vv P fn m c)=some (.pointer<|some a,.agg vs.toArray,fun y=>.ok vs.length y))(e:vs.all vG=true)(h2:gd (vv P fn m c)=true)(h3:(vv P fn m c).w=w)(g:∀j,j<vs.length->zL w (a.add j))(k:∀w1,w1=bb w a vs->WV P fn R (vv P fn m c) undef w1):W P fn R c:=by
 unfold pS at h1;split at h1;rename_i f;simp only[Option.some.injEq,Prod.mk.injEq]at h1;have⟨d,b⟩:=k _ rfl;exact W.on m hs<|FF f h2 (by rw[h3];exact AO h1.1 h1.2.1 e (congrFun h1.2.2 w) rfl g) d b;cases h1
def gv{r:World->Prop}{a:Addr}{v:Value}{w:World}(m:Nat)(k:∀{w1},GG π (r w1)<|W P fn R<|yW undef w1<|vv P fn m c)(h:((aa P fn m c).cq,pS P<|vv P fn m c,vG v,gd<|vv P fn m c,(vv P fn m c).w,jj<|vv P fn m c)=((aa P fn m c).so,some (.pointer<|some a,v,fun y=>.ok 1 y),true,true,w,true):=by kernel_rfl):GG π (zL w a/\∀w1,w1=w.setCell a v->r w1) (W P fn R c):=by
 rintro b ⟨d,hr⟩;simp only[Prod.mk.injEq]at h;exact EG m h.1 h.2.1 h.2.2.1 h.2.2.2.1 h.2.2.2.2.1 d fun w1 e=>⟨.inl h.2.2.2.2.2,k b<|hr w1 e⟩
def dh{r:World->Prop}{a:Addr}{vs:List Value}{n:Nat}{w:World}(m:Nat)(k:∀{w1},GG π (r w1)<|W P fn R<|yW undef w1<|vv P fn m c)(h:((aa P fn m c).cq,pS P<|vv P fn m c,vs.all vG,gd<|vv P fn m c,(vv P fn m c).w,jj<|vv P fn m c,vs.length)=((aa P fn m c).so,some (.pointer<|some a,.agg vs.toArray,fun y=>.ok vs.length y),true,true,w,true,n):=by kernel_rfl):GG π ((∀j,j<n->zL w (a.add j))/\∀w1,w1=bb w a vs->r w1) (W P fn R c):=by
 rintro b ⟨d,hr⟩;simp only[Prod.mk.injEq]at h;exact BF m h.1 h.2.1 h.2.2.1 h.2.2.2.1 h.2.2.2.2.1 Gd fun w1 e=>⟨.inl h.2.2.2.2.2.1,k b<|hr w1 e⟩
section
variable {w0 wv w:World} {Hv H:Nat->Prop} {l:List fw}
def np{r:World->Prop}{a:Addr}{v:Value}(m:Nat)(k:∀{w1},GG (HS w0 H w1 H w1 l) (r w1)<|W P fn R<|yW undef w1<|vv P fn m c)(h:((aa P fn m c).cq,pS P<|vv P fn m c,vG v,gd<|vv P fn m c,(vv P fn m c).w,jj<|vv P fn m c)=((aa P fn m c).so,some (.pointer<|some a,v,fun y=>.ok 1 y),true,true,w,true):=by kernel_rfl):GG (HS w0 H w H w l) (zL w a/\¬H a.block/\∀w1,w1=w.setCell a v->r w1) (W P fn R c):=by
 rintro d ⟨g,f,hr⟩;simp only[Prod.mk.injEq]at h;exact EG m h.1 h.2.1 h.2.2.1 h.2.2.2.1 h.2.2.2.2.1 g fun w1 e=>⟨.inl h.2.2.2.2.2,k (by subst e;exact⟨d.s.gi<|aj.setCell f,d.b.bl<|aj.setCell f⟩)<|hr w1 e⟩
def UQ{r:World->Prop}{a:Addr}{v:Value}{C:World->Prop}(m:Nat)(k:∀{w1},GG (HS w0 H w1 H w1 l) (r w1)<|W P fn R<|yW undef w1<|vv P fn m c)(h:((aa P fn m c).cq,pS P<|vv P fn m c,vG v,gd<|vv P fn m c,(vv P fn m c).w,ot<|vv P fn m c,qo<|vv P fn m c,oq<|vv P fn m c)=((aa P fn m c).so,some (.pointer<|some a,v,fun y=>.ok 1 y),true,true,w,some C,H,l):=by kernel_rfl):GG (HS w0 H w H w l) (zL w a/\¬H a.block/\∀w1,w1=w.setCell a v->C w1/\r w1) (W P fn R c):=by
 rintro d ⟨g,f,hr⟩;simp only[Prod.mk.injEq]at h;refine EG m h.1 h.2.1 h.2.2.1 h.2.2.2.1 h.2.2.2.2.1 g fun w1 e=>⟨.inr<|(xV h.2.2.2.2.2.1 _).2 ⟨(hr w1 e).1,?_⟩,k (by subst e;exact⟨d.s.gi<|aj.setCell f,d.b.bl<|aj.setCell f⟩) (hr w1 e).2⟩;subst e;rw[h.2.2.2.2.2.2.1,h.2.2.2.2.2.2.2];exact d.b.bl<|aj.setCell f
def vy{r:World->Prop}{a:Addr}{vs:List Value}{n:Nat}(m:Nat)(k:∀{w1},GG (HS w0 H w1 H w1 l) (r w1)<|W P fn R<|yW undef w1<|vv P fn m c)(h:((aa P fn m c).cq,pS P<|vv P fn m c,vs.all vG,gd<|vv P fn m c,(vv P fn m c).w,jj<|vv P fn m c,vs.length)=((aa P fn m c).so,some (.pointer<|some a,.agg vs.toArray,fun y=>.ok vs.length y),true,true,w,true,n):=by kernel_rfl):GG (HS w0 H w H w l) ((∀j,j<n->zL w (a.add j))/\¬H a.block/\∀w1,w1=bb w a vs->r w1) (W P fn R c):=by
 rintro d ⟨g,f,hr⟩;simp only[Prod.mk.injEq]at h;exact BF m h.1 h.2.1 h.2.2.1 h.2.2.2.1 h.2.2.2.2.1 Gd fun w1 e=>⟨.inl h.2.2.2.2.2.1,k (by subst e;exact⟨d.s.gi<|aj.bb f,d.b.bl<|aj.bb f⟩)<|hr w1 e⟩
def I6{r:World->Prop}{a:Addr}{vs:List Value}{n:Nat}{C:World->Prop}(m:Nat)(k:∀{w1},GG (HS w0 H w1 H w1 l) (r w1)<|W P fn R<|yW undef w1<|vv P fn m c)(h:((aa P fn m c).cq,pS P<|vv P fn m c,vs.all vG,gd<|vv P fn m c,(vv P fn m c).w,ot<|vv P fn m c,qo<|vv P fn m c,oq<|vv P fn m c,vs.length)=((aa P fn m c).so,some (.pointer<|some a,.agg vs.toArray,fun y=>.ok vs.length y),true,true,w,some C,H,l,n):=by kernel_rfl):GG (HS w0 H w H w l) ((∀j,j<n->zL w (a.add j))/\¬H a.block/\∀w1,w1=bb w a vs->C w1/\r w1) (W P fn R c):=by
 rintro d ⟨g,f,hr⟩;simp only[Prod.mk.injEq]at h;refine BF m h.1 h.2.1 h.2.2.1 h.2.2.2.1 h.2.2.2.2.1 Gd fun w1 e=>⟨.inr<|(xV h.2.2.2.2.2.1 _).2 ⟨(hr w1 e).1,?_⟩,k (by subst e;exact⟨d.s.gi<|aj.bb f,d.b.bl<|aj.bb f⟩) (hr w1 e).2⟩;subst e;rw[h.2.2.2.2.2.2.1,h.2.2.2.2.2.2.2.1];exact d.b.bl<|aj.bb f
def im(l:List fw)(i j:Nat)(vs:List Value):List fw:=match l[i]? with
 |some (p,cs,T)=>l.set i (p,cs.take j++vs++cs.drop (j+vs.length),T)
 |none=>l
def mv(P:Program)(c:Cf):Value:=match pS P c with
 |some (_,v,_)=>v
 |none=>undef
def sh(m i:Nat)(js)(k:∀{w1},GG (HS w0 Hv wv H w1<|im l i (sum js) [mv P<|vv P fn m c]) A<|W P fn R<|yW undef w1<|vv P fn m c)(h:((aa P fn m c).cq,pS P<|vv P fn m c,vG<|mv P<|vv P fn m c,gd<|vv P fn m c,(vv P fn m c).w,jj<|vv P fn m c,Nat.ble (sum js+1) (fa l i).length)=((aa P fn m c).so,some (.pointer<|some<|iq l i js,mv P<|vv P fn m c,fun y=>.ok 1 y),true,true,w,true,true):=by kernel_rfl):GG (HS w0 Hv wv H w l) A (W P fn R c):=by
 intro d hr;simp only[Prod.mk.injEq]at h;have⟨q,h1,r,h2,h3,o,n⟩:=h;have a:=Nat.le_of_ble_eq_true n;generalize mv P (vv P fn m c)=v at *;cases e:l[i]? with
 |none=>simp[fa,e]at a
 |some x =>
  have⟨p,cs,T⟩:=x
  simp only[fa,e]at a
  have j:iq l i js=p.add (sum js):=by simp only[iq,e,Dw]
  rw[j]at h1
  refine EG m q h1 r h2 h3 (d.b.ee i (sum js) e<|decide_eq_true Om) fun w1 f=>⟨.inl o,?_⟩
  have g:l.set i (p,cs.set (sum js) v,T)=im l i (sum js) [v]:=by
   simp only[im,e];congr 3;rw[List.set_eq_take_append_cons_drop,if_pos Om];simp
  have:=d.b.set (sum js) (v:=v) d.s e g
  subst f
  exact k ⟨this.1,this.2⟩ hr
def kq(P:Program)(c:Cf):List Value:=match pS P c with
 |some (_,.agg vs,_)=>vs.toList
 |_=>[]
def sg(m i:Nat)(js)(k:∀{w1},GG (HS w0 Hv wv H w1<|im l i (sum js)<|kq P<|vv P fn m c) A<|W P fn R<|yW undef w1<|vv P fn m c)(h:((aa P fn m c).cq,pS P<|vv P fn m c,(kq P<|vv P fn m c).all vG,gd<|vv P fn m c,(vv P fn m c).w,jj<|vv P fn m c,Nat.ble (sum js+(kq P<|vv P fn m c).length) (fa l i).length,Nat.blt 0 (kq P<|vv P fn m c).length)=((aa P fn m c).so,some (.pointer<|some<|iq l i js,.agg (kq P<|vv P fn m c).toArray,fun y=>.ok (kq P<|vv P fn m c).length y),true,true,w,true,true,true):=by kernel_rfl):GG (HS w0 Hv wv H w l) A (W P fn R c):=by
 intro f hr;simp only[Prod.mk.injEq]at h;have⟨t,h1,u,h2,h3,r,q,d⟩:=h;have a:=Nat.le_of_ble_eq_true q;have g:0<(kq P<|vv P fn m c).length:=by simpa[Nat.blt_eq]using d
 generalize kq P (vv P fn m c)=vs at *;cases e:l[i]? with
 | none => have : (fa l i).length = 0:=by simp[fa, e]
           omega
 |some x =>
  have⟨p,cs,T⟩:=x
  simp only[fa,e]at a
  have n:iq l i js=p.add (sum js):=by simp only[iq,e,Dw]
  rw[n]at h1
  refine BF m t h1 u h2 h3 (f.b.uz i (sum js) vs.length e<|decide_eq_true Om) fun w1 j=>⟨.inl r,?_⟩
  have o:l.set i (p,cs.take (sum js)++vs++cs.drop (sum js+vs.length),T)=im l i (sum js) vs:=by simp only[im,e]
  have:=f.b.store (sum js) (vs:=vs) f.s e (decide_eq_true Om) o
  subst j
  exact k ⟨this.1,this.2⟩ hr
end
def wZ:List ResultVar->Option (List Nat)
 |[]=>some []
 |.tmp t :: l=>match wZ l with
  |some ts=>some (t :: ts)
  |none=>none
 |_=>none
def BH(ρ:bg):List Nat->Value
 |[t]=>ρ t
 |ts=>.tuple (ts.map ρ).toArray
def Hr(fn:Func)(c:Cf):Option (Value×World):=match c.pos,c.fr with
 |.x .ret,[]=>match wZ fn.results.toList with
  |some ts=>some (BH c.ρ ts,c.w)
  |none=>none
 |.x .normal,[]=>match wZ fn.results.toList with
  |some ts=>some (BH c.ρ ts,c.w)
  |none=>none
 |_,_=>none
def LW{ρ w}:∀{l:List ResultVar} {ts:List Nat},wZ l=some ts->vx P ρ w l (ts.map ρ)
 |[],ts,h=>by cases h;trivial
 |.tmp t :: l,ts,h=>by
  simp only[wZ]at h;split at h;rename_i a b;cases h;exact⟨rfl,LW b⟩;cases h
 |.cell _ _ :: l,ts,h=>by simp[wZ]at h
def ZG{ρ}(ts):(if h:(ts.map ρ).toArray.size=1 then(ts.map ρ).toArray[0]else .tuple (ts.map ρ).toArray)=BH ρ ts:=by
 match ts with
 |[]=>rfl
 |[t]=>rfl
 |t :: u :: ts=>simp[BH]
def rr{v w}(m)(a:A->R (.returned v) w:=by first|exact fun h=>⟨_,rfl,h⟩|exact fun h=>⟨_,_,rfl,h⟩|exact fun h=>⟨rfl,h⟩|exact fun h=>⟨_,_,_,rfl,h⟩|exact fun h=>⟨_,_,_,_,rfl,h⟩|exact fun h=>⟨_,_,_,_,_,rfl,h⟩|exact fun h=>⟨_,_,_,_,_,_,rfl,h⟩|exact fun h=>⟨_,_,_,_,_,_,_,rfl,h⟩|exact fun h=>⟨_,_,_,_,_,_,_,_,rfl,h⟩|exact fun h=>⟨_,_,_,_,_,_,_,_,_,rfl,h⟩|exact fun h=>⟨_,_,_,_,_,_,_,_,_,_,rfl,h⟩)(h:((aa P fn m c).cq,Hr fn<|vv P fn m c)=((aa P fn m c).so,some (v,w)):=by kernel_rfl):GG π A (W P fn R c):=by
 intro f hr;simp only[Prod.mk.injEq]at h;refine W.on m h.1 fun _=>?_;have⟨_,h⟩:=h;have key:∀(ρ:bg) (w':World) (ts:List Nat) (e:Exit),e=.ret\/e=.normal->wZ fn.results.toList=some ts->some (BH ρ ts,w')=some (v,w)->qz P fn fn.ntmps R e ρ w':=by
  intro ρ w' ts e d ht b;cases b;exact Hq d (by rw[Array.toArray_toList]) (LW ht) (ZG ts)<|a hr
 unfold Hr at h;unfold Wq;split at h
 .rename_i h1 h2;split at h
  .rename_i ts ht;rw[h1,h2];exact key _ _ _ _ (.inl rfl) ht h
  .cases h
 .rename_i h1 h2;split at h
  .rename_i ts ht;rw[h1,h2];exact key _ _ _ _ (.inr rfl) ht h
  .cases h
 .cases h
def wN(P:Program)(n:Nat)(ld fr:List Nat)(c:Cf):Option (Bool×Bool×Bool×Bool):=match c.pos with
 |.c (.region _ ops true)=>some (P.follows .mixedOrders,tO n ops.toList,Region.noSelect ops,xt .any ops (vX ld)<|vX fr)
 |_=>none
def lq(q:Option World)(C:World->Prop)(H:Nat->Prop)(l:List fw)(ld fr:List Nat)(w1:World)(c:Cf):Cf:=match c.pos with
 |.c (.region _ ops true)=>⟨.d ops q C H l ld fr ops.size (Array.replicate ops.size false) none,c.fr,c.ρ,w1,c.kn⟩
 |_=>c
def WW{n Q C H l}{q:Option World}{ld fr}(h:wN P n ld fr c=some (true,true,true,true))(f:Cl q C H l c.w.drew)(k:Wk P n Q (lq q C H l ld fr c.w.drew c)):Wk P n Q c:=by
 intro e;have⟨pos,fs,ρ,w,kn⟩:=c;unfold wN at h;split at h;rename_i id ops b;simp only at b;subst b;simp only[Option.some.injEq,Prod.mk.injEq]at h;have⟨h1,h2,h3,d⟩:=h;have:=k e;have a:=fun id=>IH (x:=DQ) (P:=P) (n:=n) (id:=id) (l:=ops.toList) (ρ:=ρ) (w:=w) (Q:=Qf P n Q fs) (Cl q C H l) ld fr h1 h2 (by rw[Array.toArray_toList];exact h3) (by rw[Array.toArray_toList];exact d) f (by rw[Array.toArray_toList];exact this);rw[Array.toArray_toList]at a;exact a _;cases h
def A6{C H l}(q:Option World)(m ld fr)(hs:(aa P fn m c).cq=(aa P fn m c).so)(h:wN P fn.ntmps ld fr (vv P fn m c)=some (true,true,true,true))(a:Cl q C H l (vv P fn m c).w.drew)(k:W P fn R (lq q C H l ld fr (vv P fn m c).w.drew<|vv P fn m c)):W P fn R c:=W.on m hs<|WW h a k
section
variable {w0 wv w:World} {Hv H:Nat->Prop} {l:List fw}
def dq(m)(k:∀{w1},GG (HS w0 Hv wv H w1 l) A<|W P fn R<|lq (some w1) (fun _=>True) H l [] [] w1<|vv P fn m c)(h:((aa P fn m c).cq,wN P fn.ntmps [] []<|vv P fn m c,(vv P fn m c).w)=((aa P fn m c).so,some (true,true,true,true),w):=by kernel_rfl):GG (HS w0 Hv wv H w l) A (W P fn R c):=by
 intro a hr;simp only[Prod.mk.injEq]at h;exact A6 (some (vv P fn m c).w.drew) m [] [] h.1 h.2.1 rfl (k (by rw[h.2.2];exact⟨a.s.drew,a.b.drew⟩) hr)
def dC{r:(World->Prop)->World->Prop}(m ld fr)(k:∀{C w1},GG (HS w0 H w1 H w1 l) (r C w1)<|W P fn R<|lq none C H l ld fr w1<|vv P fn m c)(h:((aa P fn m c).cq,wN P fn.ntmps ld fr<|vv P fn m c,(vv P fn m c).w)=((aa P fn m c).so,some (true,true,true,true),w):=by kernel_rfl):GG (HS w0 H w H w l) (∃C:World->Prop,C w.drew/\∀w1,w1=w.drew->r C w1) (W P fn R c):=by
 rintro a ⟨C,d,hr⟩;simp only[Prod.mk.injEq]at h;refine A6 none m ld fr h.1 h.2.1 ?_<|k ?_<|hr _ (by rw[h.2.2]);rw[h.2.2];exact⟨d,a.b.drew⟩;rw[h.2.2];exact⟨a.s.drew.fi,a.b.drew⟩
end
def yq(c:Cf):List Nat:=match c.pos with
 |.d ops _ _ _ _ _ _ (_+1) a none=>Region.ready .any ops a
 |_=>[]
def ky(i:Nat)(c:Cf):Cf:=match c.pos with
 |.d ops q C H l ld fr (b+1) a none=>⟨.d ops q C H l ld fr b a<|(Region.ready .any ops a)[i]?,c.fr,c.ρ,c.w,c.kn⟩
 |_=>c
def ZP{n Q}(a:0<(yq c).length)(k:∀i,i<(yq c).length->Wk P n Q (ky i c)):Wk P n Q c:=by
 intro d;have⟨pos,fs,ρ,w,kn⟩:=c;unfold yq at a k;split at a;rename_i ops q C H l ld fr h g b;simp only at b;subst b;simp only at k a;refine .inr ⟨fun e=>(by rw[e]at a;cases a),fun j f=>?_⟩;obtain⟨i,hi,rfl⟩:=List.getElem_of_mem f;have:=k i hi d;simp only[ky,List.getElem?_eq_getElem hi]at this;exact this;cases a
def MM(m)(hs:(aa P fn m c).cq=(aa P fn m c).so)(a:0<(yq<|vv P fn m c).length)(k:∀i,i<(yq<|vv P fn m c).length->W P fn R (ky i<|vv P fn m c)):W P fn R c:=W.on m hs<|ZP a k
def uo{A B:Prop}(m)(d:GG π A (W P fn R<|ky 0<|vv P fn m c))(b:GG π B (W P fn R<|ky 1<|vv P fn m c))(h:((aa P fn m c).cq,(yq<|vv P fn m c).length)=((aa P fn m c).so,2):=by kernel_rfl):GG π (A/\B) (W P fn R c):=by
 intro a hr;simp only[Prod.mk.injEq]at h;refine MM m h.1 (by rw[h.2];decide) fun i hi=>?_;rw[h.2]at hi;match i,hi with
 |0,_=>exact d a hr.1
 |1,_=>exact b a hr.2
def Ms{A B D:Prop}(m)(d:GG π A (W P fn R<|ky 0<|vv P fn m c))(b:GG π B (W P fn R<|ky 1<|vv P fn m c))(e:GG π D (W P fn R<|ky 2<|vv P fn m c))(h:((aa P fn m c).cq,(yq<|vv P fn m c).length)=((aa P fn m c).so,3):=by kernel_rfl):GG π (A/\B/\D) (W P fn R c):=by
 intro a hr;simp only[Prod.mk.injEq]at h;refine MM m h.1 (by rw[h.2];decide) fun i hi=>?_;rw[h.2]at hi;match i,hi with
 |0,_=>exact d a hr.1
 |1,_=>exact b a hr.2.1
 |2,_=>exact e a hr.2.2
end
section
variable {P:Program} {n:Nat} {Q Q':Exit->bg->World->Prop} {c:Cf}
def tN(h:∀e ρ w,Q e ρ w->Q' e ρ w):∀(fs:List Fr) (e:Exit) (ρ:bg) (w:World),Qf P n Q fs e ρ w->Qf P n Q' fs e ρ w
 |[],e,ρ,w,k=>h e ρ w k
 |.t c :: fs,e,ρ,w,k=>by cases e<;>first|exact Av (fun e ρ w=>tN h fs e ρ w) k|exact tN h fs _ ρ w k
 |.b id :: fs,e,ρ,w,k=>by
  cases e with
  |exit i=>simp only[Qf,tm]at k|-;split<;>rename_i hi<;>simp only[hi]at k<;>exact tN h fs _ ρ w k
  |_=>exact tN h fs _ ρ w k
 |.r ops l :: fs,e,ρ,w,k=>by cases e<;>first|exact Be (fun ρ w=>tN h fs _ ρ w) k|exact tN h fs _ ρ w k
 |.j J :: fs,e,ρ,w,k=>by cases e<;>first|exact k|exact tN h fs _ ρ w k
def Bw(a:List Fr):∀d,Qf P n Q (d++a)=Qf P n (Qf P n Q a) d
 |[]=>rfl
 |.t c :: fs=>by simp only[List.cons_append,Qf,Bw a fs]
 |.b id :: fs=>by simp only[List.cons_append,Qf,Bw a fs]
 |.r ops l :: fs=>by simp only[List.cons_append,Qf,Bw a fs]
 |.j J :: fs=>by simp only[List.cons_append,Qf,Bw a fs]
def TA{ops C}{loud free:Nat->Bool}{i K K' ρ w}(b:∀ρ w,K ρ w->K' ρ w)(h:fg P ops C loud free i K ρ w):fg P ops C loud free i K' ρ w:=by
 unfold fg at h|-;split;rename_i c;simp only[c]at h;exact b _ _ h;rename_i o c;simp only[c]at h;split;rename_i a;rw[if_pos a]at h;split;rename_i d;rw[if_pos d]at h;exact tP h fun v w' ⟨e,f⟩=>⟨e,b _ _ f⟩;grind;rename_i a;rw[if_neg a]at h;exact b _ _ h
def zJG(h:∀e ρ w,Q e ρ w->Q' e ρ w)(k:Wq P n Q c):Wq P n Q' c:=by
 have⟨pos,fs,ρ,w,kn⟩:=c;cases pos with
 |c a=>exact Av (fun e ρ w=>tN h fs e ρ w) k
 |r ops l=>exact Be (fun ρ w=>tN h fs _ ρ w) k
 |x e=>exact tN h fs _ ρ w k
 |d ops q C H l ld fr b f s =>
  cases s with
  |none=>exact xu (fun ρ w=>tN h fs _ ρ w) k
  |some j=>exact TA (fun ρ w=>xu fun ρ w=>tN h fs _ ρ w) k
def Jy{pos:D3}{a b:List Fr}{ρ w}{kn:List (Nat×Bool)}:Wq P n Q ⟨pos,a++b,ρ,w,kn⟩=Wq P n (Qf P n Q b) ⟨pos,a,ρ,w,kn⟩:=by
 unfold Wq;simp only[Bw]
def jd(i:Nat)(J:bg->World->Prop)(c:Cf):Cf:=⟨c.pos,c.fr.take i++.j J ::c.fr.drop i,c.ρ,c.w,c.kn⟩
def Fk{i J}(a:∀ρ w,J ρ w->Qf P n Q (c.fr.drop i) .normal ρ w)(k:Wk P n Q (jd i J c)):Wk P n Q c:=by
 intro b;replace k:=k b;have⟨pos,fs,ρ,w,kn⟩:=c;unfold jd at k;simp only at k a;rw[Jy]at k;rw[show fs=fs.take i++fs.drop i from(List.take_append_drop i fs).symm,Jy];exact zJG (fun e ρ w h=>by cases e<;>first|exact a ρ w h|exact h) k
def nz(k:Nat)(c:Cf):Cf:=match c.pos with
 |.r ops l=>⟨.r ops<|l.take k,.r ops (l.drop k) :: c.fr,c.ρ,c.w,c.kn⟩
 |_=>c
def jcB{k}(h:Wk P n Q (nz k c)):Wk P n Q c:=by
 unfold nz at h;split at h;rename_i a;intro b;replace h:=h b;have⟨pos,fs,ρ,w,kn⟩:=c;simp only at a;subst a;exact Is (ρ:=ρ) (w:=w) k h;exact h
end
section
variable {P:Program} {fn:Func} {R:Ending->World->Prop} {c:Cf} {π A:Prop}
def ct(m k)(h:GG π A (W P fn R<|nz k<|vv P fn m c))(hs:(aa P fn m c).cq=(aa P fn m c).so:=by kernel_rfl):GG π A (W P fn R c):=fun a hr=>W.on m hs<|jcB<|h a hr
def kp(ks:List Nat)(ρ:bg):List (Nat×Value):=ks.map fun s=>(s,ρ s)
abbrev pF(i:Nat)(L:List (Nat×Value))(ρ:bg)(w:World)(c:Cf)(kn:List (Nat×Bool)):Cf:=⟨.x .normal,c.fr.drop i,yA ρ L,w,kn⟩
section
variable {w0 wv w:World} {Hv H:Nat->Prop} {l:List fw}
def AY(T:List (Nat×Value)->List fw->(Nat->Prop)->World->Prop)(m i ks)(ka:∀{J:bg->World->Prop},(∀{L l H w},T L l H w->HS w0 H w H w l->∀{ρ},ed ρ (kp ks (vv P fn m c).ρ++L)->J ρ w)->GG π A (W P fn R<|jd i J<|vv P fn m c))(b:∀{L l H w ρ},T L l H w->HS w0 H w H w l->W P fn R (pF i (kp ks (vv P fn m c).ρ++L) ρ w (vv P fn m c) []))(hs:(aa P fn m c).cq=(aa P fn m c).so):GG π A (W P fn R c):=fun a hr=>by
 refine W.on m hs<|Fk (i:=i) (J:=fun ρ w=>∃L l H,T L l H w/\HS w0 H w H w l/\ed ρ (kp ks (vv P fn m c).ρ++L)) ?_<|ka Gd a hr;rintro ρ w ⟨L,l,H,ht,hS,hh⟩;have:=b (ρ:=ρ) ht hS (fun _ _ h=>by cases h);unfold pF at this;rw[uM hh]at this;exact this
def wu(d:Nat)(c:Cf)(L:List (Nat×Value))(l:List fw):Option (Exit×Option Fr×World×List Value×List fw):=match c.pos with
 |.x e=>some (e,c.fr.head?,c.w,L.map fun p=>c.ρ p.1,l.drop d)
 |_=>none
def Da{J}{L:List (Nat×Value)}{l' d}(m)(hs:(aa P fn m c).cq=(aa P fn m c).so)(h:wu d (vv P fn m c) L l=some (.normal,some<|.j J,w,L.map (·.2),l'))(j:∀{ρ},ed ρ L->J ρ w):W P fn R c:=by
 refine W.on m hs fun _=>?_;unfold wu at h;split at h;rename_i e b;simp only[Option.some.injEq,Prod.mk.injEq]at h;obtain⟨rfl,h2,rfl,g,_⟩:=h;unfold Wq;rw[b];simp only;cases a:(vv P fn m c).fr with
 |nil=>rw[a]at h2;cases h2
 |cons f fs=>rw[a]at h2;cases h2;exact j g
 cases h
def MR{d c}{L:List (Nat×Value)}{x:Exit×Option Fr×World×List Value×List fw}(h:wu d c L l=some x):l.drop d=x.2.2.2.2:=by
 unfold wu at h;split at h;cases h;rfl;cases h
def je{J}{L:List (Nat×Value)}{l'}(m d)(j:HS w0 H w H w l'->A->∀{ρ},ed ρ L->J ρ w)(h:((aa P fn m c).cq,wu d (vv P fn m c) L l)=((aa P fn m c).so,some (.normal,some<|.j J,w,L.map (·.2),l')):=by kernel_rfl):GG (HS w0 H w H w l) A (W P fn R c):=fun a hr=>by
 simp only[Prod.mk.injEq]at h;have e:=MR h.2;simp only at e;exact Da m h.1 h.2 fun hh=>j ⟨a.s,by rw[<-e];exact a.b.drop d⟩ hr hh
def de{J}{L:List (Nat×Value)}{w}(m)(j:A->∀{ρ},ed ρ L->J ρ w)(h:((aa P fn m c).cq,wu 0 (vv P fn m c) L [])=((aa P fn m c).so,some (.normal,some<|.j J,w,L.map (·.2),[])):=by kernel_rfl):GG π A (W P fn R c):=fun _ hr=>by
 simp only[Prod.mk.injEq]at h;exact Da m h.1 h.2 fun hh=>j hr hh
def bn(cs:List Bool)(i:Nat):Bool:=cs.getD i false
def ub(b:Nat->Bool)(i:Nat)(t:Bool):Nat->Bool:=fun j=>cond (Nat.beq j i) t<|b j
def JU{b:Nat->Bool}{i t}(h:b i=t):ub b i t=b:=by
 funext j;unfold ub;cases e:Nat.beq j i with
 |true=>rw[Nat.eq_of_beq_eq_true e,h];rfl
 |false=>rfl
def PJ(w0:World)(Hv:Nat->Prop)(wv:World)(J:bg->World->Prop)(L:(Nat->Bool)->List (Nat×Value))(hs:(Nat->Bool)->List fw)(b:Nat->Bool):Prop:=∀H w,HS w0 Hv wv H w (hs b)->∀ρ,ed ρ (L b)->J ρ w
def kf(ks:List Nat):List (Nat×Bool)->List (Nat×Bool)
 |[]=>[]
 |(d,b) :: kn=>cond (ks.any<|Nat.beq d) ((d,b) :: kf ks kn)<|kf ks kn
def CQ{ks d b}:∀{kn:List (Nat×Bool)},kl (kf ks kn) d=some b->d∈ks/\kl kn d=some b
 |[],h=>by cases h
 |(s,t) :: kn,h=>by
  simp only[kf]at h;cases e:ks.any (Nat.beq s)with
  |true =>
   rw[e]at h
   simp only[cond_true,kl]at h|-
   cases a:Nat.beq s d with
   |true =>
    rw[a]at h
    have:=Nat.eq_of_beq_eq_true a
    subst this
    have⟨x,f,c⟩:=List.any_eq_true.1 e
    exact⟨by rw[Nat.eq_of_beq_eq_true c];exact f,h⟩
   |false=>rw[a]at h;exact CQ (kn:=kn) h
  |false =>
   rw[e]at h
   have:=CQ (kn:=kn) h
   refine⟨this.1,?_⟩
   simp only[kl]
   cases a:Nat.beq s d with
   |true =>
    have g:=Nat.eq_of_beq_eq_true a
    subst g
    have:ks.any (Nat.beq s)=true:=List.any_eq_true.2 ⟨s,this.1,Nat.beq_refl s⟩
    rw[this]at e;cases e
   |false=>exact this.2
def Ju{ρ ρ' d}:∀{ks:List Nat} {L:List (Nat×Value)},d∈ks->yA ρ (kp ks ρ'++L) d=ρ' d
 |s :: ks,L,h=>by
  show(if d=s then ρ' s else yA ρ (kp ks ρ'++L) d)=ρ' d;by_cases e:d=s;rw[if_pos e,e];rw[if_neg e];exact Ju<|(List.mem_cons.1 h).resolve_left e
def ph(hs:(Nat->Bool)->List fw->List fw)(m i)(cs:List Bool)(ks)(f:(Nat->Bool)->List (Nat×Value))(ka:∀{J:bg->World->Prop},PJ w0 Hv wv J (fun b=>kp ks (vv P fn m c).ρ++f b) (fun b=>hs b l) (bn cs)->GG (HS w0 Hv wv H w l) A (W P fn R<|jd i J<|vv P fn m c))(g:∀{H w ρ},GG (HS w0 Hv wv H w<|hs (bn cs) l) A<|W P fn R<|pF i (kp ks (vv P fn m c).ρ++f (bn cs)) ρ w (vv P fn m c)<|kf ks (vv P fn m c).kn)(h:(aa P fn m c).cq=(aa P fn m c).so:=by kernel_rfl):GG (HS w0 Hv wv H w l) A (W P fn R c):=fun e hr=>by
 refine W.on m h fun a=>?_;refine Fk (i:=i) (J:=fun ρ w=>∃H,HS w0 Hv wv H w (hs (bn cs) l)/\ed ρ (kp ks (vv P fn m c).ρ++f (bn cs))) ?_ (ka (fun _ _ hS _ hh=>⟨_,hS,hh⟩) e hr) a;rintro ρ w ⟨H,hS,hh⟩;have:=g (ρ:=ρ) hS hr (fun d b h=>by
  have:=CQ h;exact(Ju this.1).trans<|a _ _ this.2)
 unfold pF at this;rw[uM hh]at this;exact this
def pj(m i)(cs:List Bool)(ks)(f:(Nat->Bool)->List (Nat×Value))(ka:∀{J:bg->World->Prop},PJ w0 Hv wv J (fun b=>kp ks (vv P fn m c).ρ++f b) (fun _=>l) (bn cs)->GG (HS w0 Hv wv H w l) A (W P fn R<|jd i J<|vv P fn m c))(a:∀{H w ρ},GG (HS w0 Hv wv H w l) A<|W P fn R<|pF i (kp ks (vv P fn m c).ρ++f (bn cs)) ρ w (vv P fn m c)<|kf ks (vv P fn m c).kn)(h:(aa P fn m c).cq=(aa P fn m c).so:=by kernel_rfl):GG (HS w0 Hv wv H w l) A (W P fn R c):=ph (fun _ l=>l) m i cs ks f ka a h
def pb{d:(Nat->Bool)->Prop}{b:Nat->Bool}(q m i)(j:d b)(g:d (ub b i true)->GG π A (W P fn R<|ka q true<|vv P fn m c))(f:d (ub b i false)->GG π A (W P fn R<|ka q false<|vv P fn m c))(h:((aa P fn m c).cq,EV q<|vv P fn m c)=((aa P fn m c).so,some<|.bool<|b i):=by kernel_rfl):GG π A (W P fn R c):=by
 intro e hr;simp only[Prod.mk.injEq]at h;refine W.on m h.1 ?_;cases a:b i with
 |true=>exact Ee (by rw[<-a];exact h.2) (g (by rw[JU a];exact j) e hr)
 |false=>exact Ee (by rw[<-a];exact h.2) (f (by rw[JU a];exact j) e hr)
def pe{J}{L:(Nat->Bool)->List (Nat×Value)}{hs:(Nat->Bool)->List fw}{b:Nat->Bool}(m d)(j:PJ w0 Hv wv J L hs b)(h:((aa P fn m c).cq,wu d (vv P fn m c) (L b) l)=((aa P fn m c).so,some (.normal,some<|.j J,w,(L b).map (·.2),hs b)):=by kernel_rfl):GG (HS w0 Hv wv H w l) A (W P fn R c):=fun a hr=>by
 simp only[Prod.mk.injEq]at h;have e:=MR h.2;simp only at e;exact Da m h.1 h.2 fun hh=>j H w ⟨a.s,by rw[<-e];exact a.b.drop d⟩ _ hh
end
def PN(w:World)(J:bg->World->Prop)(L:(Nat->Bool)->List (Nat×Value))(b:Nat->Bool):Prop:=∀ρ,ed ρ (L b)->J ρ w
def pjn(m i)(cs:List Bool)(ks)(f:(Nat->Bool)->List (Nat×Value))(ka:∀{J:bg->World->Prop},PN (vv P fn m c).w J (fun b=>kp ks (vv P fn m c).ρ++f b) (bn cs)->GG π A (W P fn R<|jd i J<|vv P fn m c))(g:∀{ρ},GG π A<|W P fn R<|pF i (kp ks (vv P fn m c).ρ++f (bn cs)) ρ (vv P fn m c).w (vv P fn m c)<|kf ks (vv P fn m c).kn)(h:(aa P fn m c).cq=(aa P fn m c).so:=by kernel_rfl):GG π A (W P fn R c):=fun a hr=>by
 refine W.on m h fun e=>?_;refine Fk (i:=i) (J:=fun ρ w=>w=(vv P fn m c).w/\ed ρ (kp ks (vv P fn m c).ρ++f (bn cs))) ?_ (ka (fun _ hh=>⟨rfl,hh⟩) a hr) e;rintro ρ w ⟨rfl,hh⟩;have:=g (ρ:=ρ) a hr (fun d b h=>by
  have:=CQ h;exact(Ju this.1).trans<|e _ _ this.2)
 unfold pF at this;rw[uM hh]at this;exact this
def LN{w J}{L:(Nat->Bool)->List (Nat×Value)}{b:Nat->Bool}(m)(j:PN w J L b)(h:((aa P fn m c).cq,wu 0 (vv P fn m c) (L b) [])=((aa P fn m c).so,some (.normal,some<|.j J,w,(L b).map (·.2),[])):=by kernel_rfl):GG π A (W P fn R c):=fun _ _=>by
 simp only[Prod.mk.injEq]at h;exact Da m h.1 h.2 fun hh=>j _ hh
def wg(c:Cf)(L:List (Nat×Value)):Option (World×List Value):=match c.pos with
 |.c (.loop _)=>some (c.w,L.map fun p=>c.ρ p.1)
 |_=>none
def ku(J:bg->World->Prop)(L:List (Nat×Value))(ρ:bg)(w:World)(c:Cf):Cf:=match c.pos with
 |.c (.loop b)=>⟨.c b,.j J :: c.fr,yA ρ L,w,[]⟩
 |_=>c
def zf{n Q}{σ:Type}(L:σ->List (Nat×Value))(I:σ->World->Prop)(a:σ->World->Nat){s0:σ}{w}(h:wg c (L s0)=some (w,(L s0).map (·.2)))(f:I s0 w)(k:∀{s w1 ρ} {J:bg->World->Prop},(∀{s' w'},I s' w'/\a s' w'<a s w1->∀{ρ},ed ρ (L s')->J ρ w')->I s w1->Wk P n Q (ku J (L s) ρ w1 c)):Wk P n Q c:=by
 intro j;unfold wg at h;have⟨pos,fs,ρ,w',kn⟩:=c;split at h;rename_i b d;simp only at d;subst d;simp only[Option.some.injEq,Prod.mk.injEq]at h;obtain⟨rfl,h2⟩:=h;refine vn (σ:=σ×World) (fun s ρ w=>w=s.2/\ed ρ (L s.1)/\I s.1 w) (fun s=>a s.1 s.2) (s0,w') ⟨rfl,h2,f⟩ ?_;rintro⟨s,w1⟩ i g ⟨rfl,hh,e⟩;have:=k (J:=fun ρ w=>∃s':σ×World,(w=s'.2/\ed ρ (L s'.1)/\I s'.1 w)/\a s'.1 s'.2<a s g) (ρ:=i) (fun {s' w'} h _ hh=>⟨(s',w'),⟨rfl,hh,h.1⟩,h.2⟩) e (fun _ _ h=>by cases h);unfold ku at this;simp only at this;rw[uM hh]at this;exact this;cases h
end
section
variable {P:Program} {fn:Func} {R:Ending->World->Prop} {c:Cf} {π A:Prop}
def ES(ρ:bg):List ResultVar->List Value->List ResultVar×List Value
 |.tmp t :: rs,vs=>ES ρ rs<|vs++[ρ t]
 |rs,vs=>(rs,vs)
def Dq:List Value->Value
 |[v]=>v
 |vs=>.tuple vs.toArray
def WS(P:Program)(R:Ending->World->Prop)(c:Cf)(s:List ResultVar×List Value):Prop:=∃us,vx P c.ρ c.w s.1 us/\R (.returned<|Dq<|s.2++us) c.w
def xp(c:Cf)(s:List ResultVar×List Value)(v:Value):List ResultVar×List Value:=ES c.ρ s.1.tail<|s.2++[v]
def Jj:∀{rs:List ResultVar} {vs:List Value},WS P R c (ES c.ρ rs vs)->WS P R c (rs,vs)
 |[],_,h=>h
 |.cell _ _ :: _,_,h=>h
 |.tmp t :: rs,vs,h=>by
  have⟨us,h1,h2⟩:=Jj (rs:=rs) (vs:=vs++[c.ρ t]) h;exact⟨c.ρ t ::us,⟨rfl,h1⟩,by simpa using h2⟩
def Oe{s:List ResultVar×List Value}{r:ResultVar}{v}(hs:s.1.head?=some r)(a:RV P c.ρ c.w r v)(k:WS P R c (xp c s v)):WS P R c s:=by
 have⟨rs,vs⟩:=s;cases rs with
 |nil=>cases hs
 |cons b rs =>
  cases hs
  have⟨us,h1,h2⟩:=Jj k
  exact⟨v ::us,⟨a,h1⟩,by simpa using h2⟩
def K3(c:Cf):Bool:=match c.pos,c.fr with
 |.x .ret,[]=>true
 |.x .normal,[]=>true
 |_,_=>false
def dx(m)(k:GG π A (WS P R (vv P fn m c)<|ES (vv P fn m c).ρ fn.results.toList []))(h:((aa P fn m c).cq,K3<|vv P fn m c)=((aa P fn m c).so,true):=by kernel_rfl):GG π A (W P fn R c):=by
 intro d hr;simp only[Prod.mk.injEq]at h;refine W.on m h.1 fun _=>?_;have⟨us,h1,h2⟩:=Jj<|k d hr;have key:∀e:Exit,e=.ret\/e=.normal->qz P fn fn.ntmps R e (vv P fn m c).ρ (vv P fn m c).w:=fun e f=>by
  refine Hq f (by rw[Array.toArray_toList]) h1 ?_ h2;rw[List.nil_append];match us with
  |[]=>rfl
  |[v]=>rfl
  |u :: v :: us=>simp[Dq]
 have h3:=h.2;unfold K3 at h3;unfold Wq;split at h3;rename_i b a;rw[b,a];exact key _<|.inl rfl;rename_i b a;rw[b,a];exact key _<|.inr rfl;cases h3
def wX(P:Program)(c:Cf)(s:List ResultVar×List Value):Option (Value×(World->Result Bool)×(World->Result Nat)):=match s.1 with
 |.cell a T :: _=>some (c.ρ a,fun y=>(isAgg T).run P y,fun y=>(sizeOf T).run P y)
 |_=>none
def qG1{s:List ResultVar×List Value}{p v n}(h:wX P c s=some (.pointer<|some p,fun y=>.ok false y,fun y=>.ok n y))(a:c.w.cell? p=some v)(k:WS P R c (xp c s v)):WS P R c s:=by
 unfold wX at h;split at h;rename_i e;simp only[Option.some.injEq,Prod.mk.injEq]at h;exact Oe (by rw[e];rfl) (RV.vj h.1 (congrFun h.2.1 _) a) k;cases h
def IA{s:List ResultVar×List Value}{p us}(h:wX P c s=some (.pointer<|some p,fun y=>.ok true y,fun y=>.ok us.length y))(a:Row c.w p us)(k:WS P R c (xp c s<|.agg us.toArray)):WS P R c s:=by
 unfold wX at h;split at h;rename_i e;simp only[Option.some.injEq,Prod.mk.injEq]at h;exact Oe (by rw[e];rfl) (RV.Qz h.1 (congrFun h.2.1 _) (congrFun h.2.2 _) rfl a) k;cases h
def Ig{s:List ResultVar×List Value}{α:Type}{F:α->Value}{r:α->Prop}{p w}(k:∀{v},GG π (r v)<|WS P R c<|xp c s<|F v)(h:(wX P c s,c.w)=(some (.pointer<|some p,fun y=>.ok false y,fun y=>.ok 1 y),w):=by kernel_rfl):GG π (∃v,w.cell? p=some (F v)/\r v) (WS P R c s):=by
 rintro a ⟨v,b,hr⟩;simp only[Prod.mk.injEq]at h;exact qG1 h.1 (by rw[h.2];exact b) (k a hr)
def gh{s:List ResultVar×List Value}{r:Prop}{p us w}(k:GG π r (WS P R c<|xp c s<|.agg us.toArray))(h:(wX P c s,c.w)=(some (.pointer<|some p,fun y=>.ok true y,fun y=>.ok us.length y),w):=by kernel_rfl):GG π (Row w p us/\r) (WS P R c s):=by
 rintro a ⟨b,hr⟩;simp only[Prod.mk.injEq]at h;exact IA h.1 (by rw[h.2];exact b) (k a hr)
def QH{s:List ResultVar×List Value}{r:Prop}{p us n w}(k:GG π r (WS P R c<|xp c s<|.agg us))(h:(wX P c s,c.w)=(some (.pointer<|some p,fun y=>.ok true y,fun y=>.ok n y),w):=by kernel_rfl):GG π ((us.size=n/\Row w p us.toList)/\r) (WS P R c s):=by
 rintro a ⟨⟨d,b⟩,hr⟩;simp only[Prod.mk.injEq]at h;have e:us.toList.length=n:=by simpa using d
 refine IA (us:=us.toList) (by rw[e];exact h.1) (by rw[h.2];exact b) ?_;rw[Array.toArray_toList];exact k a hr
section
variable {w0 wv w:World} {Hv H:Nat->Prop} {l:List fw}
def oe{s:List ResultVar×List Value}(i js n)(k:GG (HS w0 Hv wv H w l) A (WS P R c<|xp c s<|.agg (((fa l i).drop<|sum js).take n).toArray))(h:(wX P c s,c.w,Nat.ble (sum js+n) (fa l i).length,Nat.blt 0 n)=(some (.pointer<|some<|iq l i js,fun y=>.ok true y,fun y=>.ok (((fa l i).drop<|sum js).take n).length y),w,true,true):=by kernel_rfl):GG (HS w0 Hv wv H w l) A (WS P R c s):=by
 intro a hr;simp only[Prod.mk.injEq]at h;exact IA h.1 (by rw[h.2.1];exact ur a.b h.2.2.1<|by simpa[Nat.blt_eq]using h.2.2.2) (k a hr)
end
def dy{s:List ResultVar×List Value}{v w}(a:A->R (.returned v) w:=by first|exact fun h=>⟨_,rfl,h⟩|exact fun h=>⟨_,_,rfl,h⟩|exact fun h=>⟨_,_,_,rfl,h⟩|exact fun h=>⟨_,_,_,_,rfl,h⟩|exact fun h=>⟨_,_,_,_,_,rfl,h⟩|exact fun h=>⟨_,_,_,_,_,_,rfl,h⟩|exact fun h=>⟨_,_,_,_,_,_,_,rfl,h⟩|exact fun h=>⟨_,_,_,_,_,_,_,_,rfl,h⟩|exact fun h=>⟨_,_,_,_,_,_,_,_,_,rfl,h⟩|exact fun h=>⟨_,_,_,_,_,_,_,_,_,_,rfl,h⟩|exact fun h=>⟨_,_,_,_,_,_,_,_,_,_,_,rfl,h⟩|exact fun h=>⟨_,_,_,_,_,_,_,_,_,_,_,_,rfl,h⟩)(h:(s.1,Dq s.2,c.w)=([],v,w):=by kernel_rfl):GG π A (WS P R c s):=fun _ hr=>by
 simp only[Prod.mk.injEq]at h;refine⟨[],?_,?_⟩
 .rw[h.1];trivial
 .grind
def Dk(c:Cf):Bool:=match c.pos with
 |.d ops _ _ _ _ ld _ _ _ (some k)=>sI .any ops (vX ld) k
 |_=>false
def Yt{n Q o v}(i:cur c=some o)(e:pk c=false)(d:Dk c=true)(hr:(execOp (bw c.ρ) o).run P c.w=.ok (.value v) c.w)(k:Wk P n Q (yW v c.w c)):Wk P n Q c:=by
 intro f;have⟨hh,b⟩:=xg i;unfold rF at b;rw[vl f]at b;replace k:=k<|u7 f _ _;cases a:pH c with
 |false =>
  have⟨ops,l,h1,h2,h3⟩:=xv (v:=v) (w':=c.w) hh a
  unfold Dk at d;rw[h1]at d;cases d
 |true =>
  have⟨ops,q,C,H,l,ld,fr,p,m,j,h1,h2,h,g,h3⟩:=yi (v:=v) (w':=c.w) hh a
  rw[h2]at b;rw[h3]at k;rw[Aq h1];rw[g]at e
  exact OT h b e (by simpa[Dk,h1]using d) hr k
def sC{α:Type}{F:α->Value}{r:α->Prop}{a w}(m)(k:∀{v},GG π (r v)<|W P fn R<|pv (F v)<|vv P fn m c)(h:((aa P fn m c).cq,va P<|vv P fn m c,Dk<|vv P fn m c,(vv P fn m c).w)=((aa P fn m c).so,some (.pointer<|some a,fun y=>.ok false y,false),true,w):=by kernel_rfl):GG π (∃v,w.cell? a=some (F v)/\r v) (W P fn R c):=by
 rintro b ⟨v,e,hr⟩;simp only[Prod.mk.injEq]at h;have⟨d,h1,h2,h3⟩:=h;unfold va at h1;split at h1;rename_i f;simp only[Option.some.injEq,Prod.mk.injEq]at h1;exact W.on m d<|Yt f h1.2.2 h2 (by rw[h3];exact tC h1.1 (congrFun h1.2.1 w) e) (k b hr);cases h1
def Pq(P:Program)(c:Cf):Option (Value×Option Int×Nat×(World->Result Nat)×Bool):=match cur c with
 |some ⟨_,.indexAddr T x i,_,_,_,_⟩=>match P.underlying T with
  |some (.array k e)=>some (bw c.ρ x,DO<|bw c.ρ i,k,fun y=>(sizeOf e).run P y,pk c)
  |_=>none
 |_=>none
def Qv{r:Addr->Prop}{p i k n}(m)(e:∀{a},GG π (r a)<|W P fn R<|pv (.pointer<|some a)<|vv P fn m c)(h:((aa P fn m c).cq,Pq P<|vv P fn m c)=((aa P fn m c).so,some (.pointer<|some p,some i,k,fun y=>.ok n y,false)):=by kernel_rfl):GG π (∃a,EZ p i k n a/\r a) (W P fn R c):=by
 rintro d ⟨a,j,hr⟩;simp only[Prod.mk.injEq]at h;have⟨f,h⟩:=h;unfold Pq at h;split at h;rename_i l;split at h;rename_i o;simp only[Option.some.injEq,Prod.mk.injEq]at h;obtain⟨h1,h2,rfl,h3,b⟩:=h;have⟨g,h2⟩:=Pl h2;exact vw m f l b (fun x _=>jVT h1 h2 (run_underlying o x) (congrFun h3 x) j)<|e d hr;cases h;cases h
section
variable {w0 w:World} {H:Nat->Prop} {l:List fw}
def TG{r:World->Prop}{a:Addr}{vs:List Value}{n:Nat}(m:Nat)(k:∀{w1},GG (HS w0 H w1 H w1 l) (r w1)<|W P fn R<|yW undef w1<|vv P fn m c)(h:((aa P fn m c).cq,pS P<|vv P fn m c,gd<|vv P fn m c,(vv P fn m c).w,jj<|vv P fn m c,vs.length)=((aa P fn m c).so,some (.pointer<|some a,.agg vs.toArray,fun y=>.ok vs.length y),true,w,true,n):=by kernel_rfl):GG (HS w0 H w H w l) ((vs.all vG=true/\∀j,j<n->zL w (a.add j))/\¬H a.block/\∀w1,w1=bb w a vs->r w1) (W P fn R c):=by
 rintro d ⟨⟨g,i⟩,f,hr⟩;simp only[Prod.mk.injEq]at h;exact BF m h.1 h.2.1 g h.2.2.1 h.2.2.2.1 (by rw[h.2.2.2.2.2];exact i) fun w1 e=>⟨.inl h.2.2.2.2.1,k (by subst e;exact⟨d.s.gi<|aj.bb f,d.b.bl<|aj.bb f⟩)<|hr w1 e⟩
end
def fo{r:FuncId->Array Value->Array Value->Prop}{v:Value}{X:Prop}(k:∀{f fs cs},v=.func (.func f) fs cs->GG π (r f fs cs) X):GG π (∃f fs cs,v=.func (.func f) fs cs/\r f fs cs) X:=fun a ⟨_,_,_,b,hr⟩=>k b a hr
def Pj(c:Cf):Option (Value×List Value):=match cur c with
 |some ⟨_,.call ⟨.value x,a,_⟩,_,_,_,_⟩=>some (bw c.ρ x,a.toList.map<|bw c.ρ)
 |_=>none
def cv{f fs cs ag v w Q}(m)(b:v=.func (.func f) fs cs)(k:∀{e w1},GG π (Q e w1)<|WR P fn R (vv P fn m c) e w1)(h:((aa P fn m c).cq,Pj<|vv P fn m c,gd<|vv P fn m c,(vv P fn m c).w)=((aa P fn m c).so,some (v,ag),true,w):=by kernel_rfl):GG π ((∀args w,(callFunc f args).run P w=.ok (.enter f args) w)/\Calls P f (fs++ag.toArray++cs) w Q) (W P fn R c):=by
 rintro a ⟨d,hr⟩;simp only[Prod.mk.injEq]at h;refine Di m d h.1 ?_ h.2.2.1 h.2.2.2<|hr.mono fun e w1 q=>k a q;have h2:=h.2.1;unfold Pj at h2;split at h2;rename_i g;cases h2;unfold mx;rw[g];simp only[b];cases h2
end
def Sc(w0:World)(Hv:Nat->Prop)(wv:World)(l:List fw)(x:World):Prop:=∃a,af w0 Hv wv a x/\HB a x l
section
variable {P:Program} {fn:Func} {R:Ending->World->Prop} {c:Cf} {A:Prop} {w0 wv w:World} {Hv H:Nat->Prop} {l:List fw}
def jbU{l'}(h:ot c=some (Sc w0 Hv wv l'))(x)(b:need c x):∃a,af w0 Hv wv a x/\HB a x l':=((xV h x).1 b).1
def TE{l' k}(h:(ot c,qo c,oq c)=(some<|Sc w0 Hv wv l',ar,[]))(d:l.drop k=l')(a:HS w0 Hv wv H w l):need c w:=by
 simp only[Prod.mk.injEq]at h;refine(xV h.1 w).2 ⟨⟨H,a.s,by rw[<-d];exact a.b.drop k⟩,?_⟩;rw[h.2.1,h.2.2];exact HB.nil _ _
def W9(m ld fr)(k:∀{w1},GG (HS w0 Hv wv H w1 l) A<|W P fn R<|lq none (Sc w0 Hv wv l) ar [] ld fr w1<|vv P fn m c)(h:((aa P fn m c).cq,wN P fn.ntmps ld fr<|vv P fn m c,(vv P fn m c).w)=((aa P fn m c).so,some (true,true,true,true),w):=by kernel_rfl):GG (HS w0 Hv wv H w l) A (W P fn R c):=by
 intro d hr;simp only[Prod.mk.injEq]at h;have e:=h.2.2;have a:HS w0 Hv wv H (vv P fn m c).w.drew l:=by rw[e];exact⟨d.s.drew,d.b.drew⟩
 exact A6 none m ld fr h.1 h.2.1 ⟨⟨H,a.s,a.b⟩,HB.nil _ _⟩<|k a hr
def lhs(m k i js)(a:GG (HS w0 Hv wv H w l) A (W P fn R<|pv (mo (l.drop k) i<|sum js)<|vv P fn m c))(h:((aa P fn m c).cq,va P<|vv P fn m c,ot<|vv P fn m c,Nat.blt (sum js) (fa (l.drop k) i).length)=((aa P fn m c).so,some (.pointer<|some<|iq (l.drop k) i js,fun y=>.ok false y,false),some<|Sc w0 Hv wv<|l.drop k,true):=by kernel_rfl):GG (HS w0 Hv wv H w l) A (W P fn R c):=by
 intro d hr;simp only[Prod.mk.injEq]at h;exact Cm m h.1 h.2.1 (fun x b=>by have⟨e,_,h2⟩:=jbU h.2.2.1 x b;exact Cu h2 h.2.2.2) (a d hr)
def Tm{f args v}(m d)(i:∀args w,(callFunc f args).run P w=.ok (.enter f args) w)(n:∀w,Calls P f args w fun e w'=>e=.returned v/\Pure w w')(k:∀{w1},GG (HS w0 Hv wv H w1 l) A<|W P fn R<|yW v w1<|vv P fn m c)(h:((aa P fn m c).cq,mx<|vv P fn m c,gd<|vv P fn m c,(vv P fn m c).w,ot<|vv P fn m c,qo<|vv P fn m c,oq<|vv P fn m c)=((aa P fn m c).so,some (f,args),true,w,some<|Sc w0 Hv wv<|l.drop d,ar,[]):=by kernel_rfl):GG (HS w0 Hv wv H w l) A (W P fn R c):=by
 intro a hr;simp only[Prod.mk.injEq]at h;refine Di m i h.1 h.2.1 h.2.2.1 h.2.2.2.1<|(n w).mono fun e w1 ⟨j,E⟩=>?_;have g:HS w0 Hv wv H w1 l:=⟨a.s.pure E,a.b.pure E⟩;exact⟨v,j,.inr<|TE (l':=l.drop d) (k:=d) (by simp only[h.2.2.2.2]) rfl g,k g hr⟩
end
section
variable {P:Program} {fn:Func} {R:Ending->World->Prop} {c:Cf} {π A:Prop}
def Mx{r:World->Prop}{w:World}(m:Nat)(k:∀{w1},GG π (r w1)<|W P fn R<|lq (some w1) (fun _=>True) ar [] [] [] w1<|vv P fn m c)(h:((aa P fn m c).cq,wN P fn.ntmps [] []<|vv P fn m c,(vv P fn m c).w)=((aa P fn m c).so,some (true,true,true,true),w):=by kernel_rfl):GG π (∀w1,w1=w.drew->r w1) (W P fn R c):=by
 intro a hr;simp only[Prod.mk.injEq]at h;exact A6 (some (vv P fn m c).w.drew) m [] [] h.1 h.2.1 rfl (k a<|hr _<|by rw[h.2.2])
def sO{r:(World->Prop)->World->Prop}{w}(m ld fr)(k:∀{C w1},GG π (r C w1)<|W P fn R<|lq none C ar [] ld fr w1<|vv P fn m c)(h:((aa P fn m c).cq,wN P fn.ntmps ld fr<|vv P fn m c,(vv P fn m c).w)=((aa P fn m c).so,some (true,true,true,true),w):=by kernel_rfl):GG π (∃C:World->Prop,C w.drew/\∀w1,w1=w.drew->r C w1) (W P fn R c):=by
 rintro a ⟨C,b,hr⟩;simp only[Prod.mk.injEq]at h;exact A6 none m ld fr h.1 h.2.1 ⟨by rw[h.2.2];exact b,HB.nil _ _⟩ (k a<|hr _<|by rw[h.2.2])
def jx{v w1}{r:Prop}{C}(k:GG π r (W P fn R<|yW v w1 c))(h:(ot c,qo c,oq c)=(some C,ar,[]):=by kernel_rfl):GG π (C w1/\r) (WV P fn R c v w1):=fun a hr=>by
 simp only[Prod.mk.injEq]at h;refine⟨.inr<|(xV h.1 _).2 ⟨hr.1,?_⟩,k a hr.2⟩;rw[h.2.1,h.2.2];exact HB.nil _ _
def o0{r:Addr->World->Prop}{O C w}(m)(k:∀{p w1},GG π (r p w1)<|W P fn R<|yW (lj P (vv P fn m c) p) w1<|vv P fn m c)(h:((aa P fn m c).cq,wW P<|vv P fn m c,gd<|vv P fn m c,ot<|vv P fn m c,qo<|vv P fn m c,oq<|vv P fn m c)=((aa P fn m c).so,some (lj P (vv P fn m c) ⟨w.heap.size,0,none⟩,w.alloc O),true,some C,ar,[]):=by kernel_rfl):GG π (∀p w1,au w O p w1->C w1/\r p w1) (W P fn R c):=by
 intro b hr;simp only[Prod.mk.injEq]at h;refine Bn m _ h.1 h.2.1 h.2.2.1 fun p w1 a=>⟨.inr<|(xV h.2.2.2.1 _).2 ⟨(hr p w1 a).1,?_⟩,k b (hr p w1 a).2⟩;rw[h.2.2.2.2.1,h.2.2.2.2.2];exact HB.nil _ _
end
section
variable {P:Program} {fn:Func} {R:Ending->World->Prop} {c:Cf} {A:Prop}
def PR(w:World)(R:Ending->World->Prop)(val:(Nat->Bool)->Value)(b:Nat->Bool):Prop:=∀H w1,af w ar w H w1->R (.returned<|val b) w1
def jr{f args w v}(b:P.funcs[f]?=some fn)(cs:List Bool)(val:(Nat->Bool)->Value)(k:PR w (fun e w'=>e=.returned v/\Pure w w') val (bn cs)->GG (HS w ar w ar w []) True (W P fn (fun e w'=>e=.returned v/\Pure w w') ⟨.c<|uP fn,[],xG args,w,[]⟩))(a:(fn.body.isSome,Nat.ble args.length fn.ntmps,val<|bn cs)=(true,true,v):=by kernel_rfl):Calls P f args.toArray w (fun e w'=>e=.returned v/\Pure w w'):=by
 simp only[Prod.mk.injEq]at a;exact dv b trivial (k fun H w1 hs=>⟨by rw[a.2.2],(ab.refl (F:=ar) w).aq hs⟩) (by rw[a.1,a.2.1])
section
variable {w w1:World} {H:Nat->Prop} {l:List fw} {val:(Nat->Bool)->Value} {b:Nat->Bool}
def ff(m)(j:PR w R val b)(h:((aa P fn m c).cq,Hr fn<|vv P fn m c)=((aa P fn m c).so,some (val b,w1)):=by kernel_rfl):GG (HS w ar w H w1 l) A (W P fn R c):=fun a hr=>rr m (fun _=>j H w1 a.s) h a hr
def Gy{s:List ResultVar×List Value}(j:PR w R val b)(h:(s.1,Dq s.2,c.w)=([],val b,w1):=by kernel_rfl):GG (HS w ar w H w1 l) A (WS P R c s):=fun a hr=>dy (fun _=>j H w1 a.s) h a hr
end
end
section
variable {P:Program} {fn:Func} {R:Ending->World->Prop} {c:Cf} {π A:Prop}
end
section
variable {P:Program} {fn:Func} {R:Ending->World->Prop} {c:Cf} {π A:Prop}
def GF(T:List (Nat×Value)->World->Prop)(m i ks)(ka:∀{J:bg->World->Prop},(∀{L w},T L w->∀{ρ},ed ρ (kp ks (vv P fn m c).ρ++L)->J ρ w)->GG π A (W P fn R<|jd i J<|vv P fn m c))(b:∀{L w ρ},T L w->W P fn R (pF i (kp ks (vv P fn m c).ρ++L) ρ w (vv P fn m c) []))(hs:(aa P fn m c).cq=(aa P fn m c).so):GG π A (W P fn R c):=fun a hr=>by
 refine W.on m hs<|Fk (i:=i) (J:=fun ρ w=>∃L,T L w/\ed ρ (kp ks (vv P fn m c).ρ++L)) ?_<|ka (fun ht _ hh=>⟨_,ht,hh⟩) a hr;rintro ρ w ⟨L,ht,hh⟩;have:=b (ρ:=ρ) ht (fun _ _ h=>by cases h);unfold pF at this;rw[uM hh]at this;exact this
def KI{w0 wv w Hv H l}(m i ks)(f:List (Nat×Value))(B:(Nat->Prop)->World->Prop)(ka:∀{J:bg->World->Prop},(∀{H w},HS w0 H w H w l->B H w->∀{ρ},ed ρ (kp ks (vv P fn m c).ρ++f)->J ρ w)->GG (HS w0 Hv wv H w l) A (W P fn R<|jd i J<|vv P fn m c))(a:∀{H w ρ},GG (HS w0 H w H w l) (B H w)<|W P fn R<|pF i (kp ks (vv P fn m c).ρ++f) ρ w (vv P fn m c) [])(h:(aa P fn m c).cq=(aa P fn m c).so:=by kernel_rfl):GG (HS w0 Hv wv H w l) A (W P fn R c):=
 AY (fun L l' H w=>L=f/\l'=l/\B H w) m i ks (fun j=>ka fun s b _ h=>j ⟨rfl,rfl,b⟩ s h) (fun t s=>by obtain⟨rfl,rfl,b⟩:=t;exact a s b) h
def Eh(m i:Nat)(ks:List Nat)(f:List (Nat×Value))(B:World->Prop)(ka:∀{J:bg->World->Prop},(∀{w},B w->∀{ρ},ed ρ (kp ks (vv P fn m c).ρ++f)->J ρ w)->GG π A (W P fn R<|jd i J<|vv P fn m c))(d:∀{w ρ},GG π (B w)<|W P fn R<|pF i (kp ks (vv P fn m c).ρ++f) ρ w (vv P fn m c) [])(h:(aa P fn m c).cq=(aa P fn m c).so:=by kernel_rfl):GG π A (W P fn R c):=fun a hr =>
 GF (fun L w=>L=f/\B w) m i ks (fun j=>ka fun b _ h=>j ⟨rfl,b⟩ h) (fun t=>by obtain⟨rfl,b⟩:=t;exact d a b) h a hr
def jk{d:Type}{w0 wv w Hv H l}(m i ks)(f:d->List (Nat×Value))(B:d->(Nat->Prop)->World->Prop)(ka:∀{J:bg->World->Prop},(∀{a H w},HS w0 H w H w l->B a H w->∀{ρ},ed ρ (kp ks (vv P fn m c).ρ++(f a))->J ρ w)->GG (HS w0 Hv wv H w l) A (W P fn R<|jd i J<|vv P fn m c))(e:∀{a H w ρ},GG (HS w0 H w H w l) (B a H w)<|W P fn R<|pF i (kp ks (vv P fn m c).ρ++(f a)) ρ w (vv P fn m c) [])(h:(aa P fn m c).cq=(aa P fn m c).so:=by kernel_rfl):GG (HS w0 Hv wv H w l) A (W P fn R c):=
 AY (fun L l' H w=>∃a,L=(f a)/\l'=l/\B a H w) m i ks (fun j=>ka fun s b _ h=>j ⟨_,rfl,rfl,b⟩ s h) (fun t s=>by obtain⟨a,rfl,rfl,b⟩:=t;exact e s b) h
def td{d:Type}{w0 w H l}{o:d}{B:(d->(Nat->Prop)->World->Prop)->(d->World->Nat)->d->(Nat->Prop)->World->Prop}(m ks)(f:d->List (Nat×Value))(k:∀{I e g b a ρ} {J:bg->World->Prop},(∀{n i w'},HS w0 i w' i w' l->(I n i w'/\e n w'<e g a)->∀{ρ},ed ρ (kp ks (vv P fn m c).ρ++(f n))->J ρ w')->GG (HS w0 b a b a l) (B I e g b a) (W P fn R<|ku J (kp ks (vv P fn m c).ρ++(f g)) ρ a<|vv P fn m c))(h:((aa P fn m c).cq,wg (vv P fn m c)<|kp ks (vv P fn m c).ρ++(f o))=((aa P fn m c).so,some (w,(kp ks (vv P fn m c).ρ++(f o)).map (·.2))):=by kernel_rfl):GG (HS w0 H w H w l) (∃(I:d->(Nat->Prop)->World->Prop) (e:d->World->Nat),I o H w/\∀g b a,af w0 b a b a->I g b a->B I e g b a) (W P fn R c):=by
 rintro r ⟨I,e,t,hr⟩;simp only[Prod.mk.injEq]at h;have⟨h1,h2⟩:=h;exact W.on m h1<|zf (σ:=d×(Nat->Prop)) (fun s=>kp ks (vv P fn m c).ρ++(f s.1)) (fun s w=>HS w0 s.2 w s.2 w l/\I s.1 s.2 w) (fun s w=>e s.1 w) (s0:=(o,H)) h2 ⟨r,t⟩ fun {s a ρ J} j p=>k (fun {n i w'} hS q _ hh=>j (s':=(n,i)) ⟨⟨hS,q.1⟩,q.2⟩ hh) p.1<|hr s.1 s.2 a p.1.s p.2
def mc{e:Type}(m i ks)(f:e->List (Nat×Value))(B:e->World->Prop)(ka:∀{J:bg->World->Prop},(∀{a w},B a w->∀{ρ},ed ρ (kp ks (vv P fn m c).ρ++(f a))->J ρ w)->GG π A (W P fn R<|jd i J<|vv P fn m c))(g:∀{a w ρ},GG π (B a w)<|W P fn R<|pF i (kp ks (vv P fn m c).ρ++(f a)) ρ w (vv P fn m c) [])(h:(aa P fn m c).cq=(aa P fn m c).so:=by kernel_rfl):GG π A (W P fn R c):=fun d hr =>
 GF (fun L w=>∃a,L=(f a)/\B a w) m i ks (fun j=>ka fun b _ h=>j ⟨_,rfl,b⟩ h) (fun t=>by obtain⟨a,rfl,b⟩:=t;exact g d b) h d hr
def zg{b:Type}{w}{i:b}{B:(b->World->Prop)->(b->World->Nat)->b->World->Prop}(m ks)(f:b->List (Nat×Value))(k:∀{I d e a ρ} {J:bg->World->Prop},(∀{g w'},(I g w'/\d g w'<d e a)->∀{ρ},ed ρ (kp ks (vv P fn m c).ρ++(f g))->J ρ w')->GG π (B I d e a) (W P fn R<|ku J (kp ks (vv P fn m c).ρ++(f e)) ρ a<|vv P fn m c))(h:((aa P fn m c).cq,wg (vv P fn m c)<|kp ks (vv P fn m c).ρ++(f i))=((aa P fn m c).so,some (w,(kp ks (vv P fn m c).ρ++(f i)).map (·.2))):=by kernel_rfl):GG π (∃(I:b->World->Prop) (d:b->World->Nat),I i w/\∀e a,I e a->B I d e a) (W P fn R c):=by
 rintro n ⟨I,d,o,hr⟩;simp only[Prod.mk.injEq]at h;exact W.on m h.1<|zf (σ:=b) (fun s=>kp ks (vv P fn m c).ρ++(f s)) (fun s w=>I s w) (fun s w=>d s w) (s0:=(i)) h.2 o fun {s a ρ J} j l=>k (fun {g w'} p _ hh=>j (s':=(g)) (w':=w') p hh) n<|hr s a l
def ye{e d:Type}{w0 w H l}{t:e}{r:d}{B:(e->d->(Nat->Prop)->World->Prop)->(e->d->World->Nat)->e->d->(Nat->Prop)->World->Prop}(m ks)(f:e->d->List (Nat×Value))(k:∀{I g i n b a ρ} {J:bg->World->Prop},(∀{p q o w'},HS w0 o w' o w' l->(I p q o w'/\g p q w'<g i n a)->∀{ρ},ed ρ (kp ks (vv P fn m c).ρ++(f p q))->J ρ w')->GG (HS w0 b a b a l) (B I g i n b a) (W P fn R<|ku J (kp ks (vv P fn m c).ρ++(f i n)) ρ a<|vv P fn m c))(h:((aa P fn m c).cq,wg (vv P fn m c)<|kp ks (vv P fn m c).ρ++(f t r))=((aa P fn m c).so,some (w,(kp ks (vv P fn m c).ρ++(f t r)).map (·.2))):=by kernel_rfl):GG (HS w0 H w H w l) (∃(I:e->d->(Nat->Prop)->World->Prop) (g:e->d->World->Nat),I t r H w/\∀i n b a,af w0 b a b a->I i n b a->B I g i n b a) (W P fn R c):=by
 rintro x ⟨I,g,y,hr⟩;simp only[Prod.mk.injEq]at h;have⟨h1,h2⟩:=h;exact W.on m h1<|zf (σ:=e×d×(Nat->Prop)) (fun s=>kp ks (vv P fn m c).ρ++(f s.1 s.2.1)) (fun s w=>HS w0 s.2.2 w s.2.2 w l/\I s.1 s.2.1 s.2.2 w) (fun s w=>g s.1 s.2.1 w) (s0:=(t,r,H)) h2 ⟨x,y⟩ fun {s a ρ J} j u=>k (fun {p q o w'} hS v _ hh=>j (s':=(p,q,o)) ⟨⟨hS,v.1⟩,v.2⟩ hh) u.1<|hr s.1 s.2.1 s.2.2 a u.1.s u.2
def WM{k g:Type}(m i ks)(f:k->g->List (Nat×Value))(B:k->g->World->Prop)(ka:∀{J:bg->World->Prop},(∀{a d w},B a d w->∀{ρ},ed ρ (kp ks (vv P fn m c).ρ++(f a d))->J ρ w)->GG π A (W P fn R<|jd i J<|vv P fn m c))(l:∀{a d w ρ},GG π (B a d w)<|W P fn R<|pF i (kp ks (vv P fn m c).ρ++(f a d)) ρ w (vv P fn m c) [])(h:(aa P fn m c).cq=(aa P fn m c).so:=by kernel_rfl):GG π A (W P fn R c):=fun e hr =>
 GF (fun L w=>∃a d,L=(f a d)/\B a d w) m i ks (fun j=>ka fun b _ h=>j ⟨_,_,rfl,b⟩ h) (fun t=>by obtain⟨a,d,rfl,b⟩:=t;exact l e b) h e hr
def Dy{d b:Type}{w}{p:d}{o:b}{B:(d->b->World->Prop)->(d->b->World->Nat)->d->b->World->Prop}(m ks)(f:d->b->List (Nat×Value))(k:∀{I e g i a ρ} {J:bg->World->Prop},(∀{l n w'},(I l n w'/\e l n w'<e g i a)->∀{ρ},ed ρ (kp ks (vv P fn m c).ρ++(f l n))->J ρ w')->GG π (B I e g i a) (W P fn R<|ku J (kp ks (vv P fn m c).ρ++(f g i)) ρ a<|vv P fn m c))(h:((aa P fn m c).cq,wg (vv P fn m c)<|kp ks (vv P fn m c).ρ++(f p o))=((aa P fn m c).so,some (w,(kp ks (vv P fn m c).ρ++(f p o)).map (·.2))):=by kernel_rfl):GG π (∃(I:d->b->World->Prop) (e:d->b->World->Nat),I p o w/\∀g i a,I g i a->B I e g i a) (W P fn R c):=by
 rintro r ⟨I,e,t,hr⟩;simp only[Prod.mk.injEq]at h;exact W.on m h.1<|zf (σ:=d×b) (fun s=>kp ks (vv P fn m c).ρ++(f s.1 s.2)) (fun s w=>I s.1 s.2 w) (fun s w=>e s.1 s.2 w) (s0:=(p,o)) h.2 t fun {s a ρ J} j q=>k (fun {l n w'} u _ hh=>j (s':=(l,n)) (w':=w') u hh) r<|hr s.1 s.2 a q
def QU{e d a:Type}{w}{u:e}{t:d}{r:a}{B:(e->d->a->World->Prop)->(e->d->a->World->Nat)->e->d->a->World->Prop}(m ks)(f:e->d->a->List (Nat×Value))(k:∀{I g l n i b ρ} {J:bg->World->Prop},(∀{p q o w'},(I p q o w'/\g p q o w'<g l n i b)->∀{ρ},ed ρ (kp ks (vv P fn m c).ρ++(f p q o))->J ρ w')->GG π (B I g l n i b) (W P fn R<|ku J (kp ks (vv P fn m c).ρ++(f l n i)) ρ b<|vv P fn m c))(h:((aa P fn m c).cq,wg (vv P fn m c)<|kp ks (vv P fn m c).ρ++(f u t r))=((aa P fn m c).so,some (w,(kp ks (vv P fn m c).ρ++(f u t r)).map (·.2))):=by kernel_rfl):GG π (∃(I:e->d->a->World->Prop) (g:e->d->a->World->Nat),I u t r w/\∀l n i b,I l n i b->B I g l n i b) (W P fn R c):=by
 rintro x ⟨I,g,y,hr⟩;simp only[Prod.mk.injEq]at h;exact W.on m h.1<|zf (σ:=e×d×a) (fun s=>kp ks (vv P fn m c).ρ++(f s.1 s.2.1 s.2.2)) (fun s w=>I s.1 s.2.1 s.2.2 w) (fun s w=>g s.1 s.2.1 s.2.2 w) (s0:=(u,t,r)) h.2 y fun {s b ρ J} j v=>k (fun {p q o w'} z _ hh=>j (s':=(p,q,o)) (w':=w') z hh) x<|hr s.1 s.2.1 s.2.2 b v
def P2{q p n r o:Type}{w0 wv w Hv H l}(m i ks)(f:q->p->n->r->o->List (Nat×Value))(hs:q->p->n->r->o->List fw->List fw)(B:q->p->n->r->o->(Nat->Prop)->World->Prop)(ka:∀{J:bg->World->Prop},(∀{e k a d g H w},HS w0 H w H w (hs e k a d g l)->B e k a d g H w->∀{ρ},ed ρ (kp ks (vv P fn m c).ρ++(f e k a d g))->J ρ w)->GG (HS w0 Hv wv H w l) A (W P fn R<|jd i J<|vv P fn m c))(u:∀{e k a d g H w ρ},GG (HS w0 H w H w<|hs e k a d g l) (B e k a d g H w)<|W P fn R<|pF i (kp ks (vv P fn m c).ρ++(f e k a d g)) ρ w (vv P fn m c) [])(h:(aa P fn m c).cq=(aa P fn m c).so:=by kernel_rfl):GG (HS w0 Hv wv H w l) A (W P fn R c):=
 AY (fun L l' H w=>∃e k a d g,L=(f e k a d g)/\l'=(hs e k a d g l)/\B e k a d g H w) m i ks (fun j=>ka fun s b _ h=>j ⟨_,_,_,_,_,rfl,rfl,b⟩ s h) (fun t s=>by obtain⟨e,k,a,d,g,rfl,rfl,b⟩:=t;exact u s b) h
def Yf{u r o v q p:Type}{w0 wv w Hv H l}(m i ks)(f:u->r->o->v->q->p->List (Nat×Value))(hs:u->r->o->v->q->p->List fw->List fw)(B:u->r->o->v->q->p->(Nat->Prop)->World->Prop)(ka:∀{J:bg->World->Prop},(∀{e n a d g k H w},HS w0 H w H w (hs e n a d g k l)->B e n a d g k H w->∀{ρ},ed ρ (kp ks (vv P fn m c).ρ++(f e n a d g k))->J ρ w)->GG (HS w0 Hv wv H w l) A (W P fn R<|jd i J<|vv P fn m c))(x:∀{e n a d g k H w ρ},GG (HS w0 H w H w<|hs e n a d g k l) (B e n a d g k H w)<|W P fn R<|pF i (kp ks (vv P fn m c).ρ++(f e n a d g k)) ρ w (vv P fn m c) [])(h:(aa P fn m c).cq=(aa P fn m c).so:=by kernel_rfl):GG (HS w0 Hv wv H w l) A (W P fn R c):=
 AY (fun L l' H w=>∃e n a d g k,L=(f e n a d g k)/\l'=(hs e n a d g k l)/\B e n a d g k H w) m i ks (fun j=>ka fun s b _ h=>j ⟨_,_,_,_,_,_,rfl,rfl,b⟩ s h) (fun t s=>by obtain⟨e,n,a,d,g,k,rfl,rfl,b⟩:=t;exact x s b) h
def BK{x v p y u r q:Type}{w0 wv w Hv H l}(m i ks)(f:x->v->p->y->u->r->q->List (Nat×Value))(hs:x->v->p->y->u->r->q->List fw->List fw)(B:x->v->p->y->u->r->q->(Nat->Prop)->World->Prop)(ka:∀{J:bg->World->Prop},(∀{e o a d g n k H w},HS w0 H w H w (hs e o a d g n k l)->B e o a d g n k H w->∀{ρ},ed ρ (kp ks (vv P fn m c).ρ++(f e o a d g n k))->J ρ w)->GG (HS w0 Hv wv H w l) A (W P fn R<|jd i J<|vv P fn m c))(z:∀{e o a d g n k H w ρ},GG (HS w0 H w H w<|hs e o a d g n k l) (B e o a d g n k H w)<|W P fn R<|pF i (kp ks (vv P fn m c).ρ++(f e o a d g n k)) ρ w (vv P fn m c) [])(h:(aa P fn m c).cq=(aa P fn m c).so:=by kernel_rfl):GG (HS w0 Hv wv H w l) A (W P fn R c):=
 AY (fun L l' H w=>∃e o a d g n k,L=(f e o a d g n k)/\l'=(hs e o a d g n k l)/\B e o a d g n k H w) m i ks (fun j=>ka fun s b _ h=>j ⟨_,_,_,_,_,_,_,rfl,rfl,b⟩ s h) (fun t s=>by obtain⟨e,o,a,d,g,n,k,rfl,rfl,b⟩:=t;exact z s b) h
def Wz{o g i b n e p d:Type}{w0 w H l}{X:o}{Q:g}{K:i}{S:b}{N:n}{T:e}{D:p}{U:d}{B:(o->g->i->b->n->e->p->d->(Nat->Prop)->World->Prop)->(o->g->i->b->n->e->p->d->World->Nat)->o->g->i->b->n->e->p->d->(Nat->Prop)->World->Prop}(m ks)(f:o->g->i->b->n->e->p->d->List (Nat×Value))(hs:o->g->i->b->n->e->p->d->List fw->List fw)(k:∀{I C t z r x u v A y q a ρ} {J:bg->World->Prop},(∀{O F E M V Y L G Z w'},HS w0 Z w' Z w' (hs O F E M V Y L G l)->(I O F E M V Y L G Z w'/\C O F E M V Y L G w'<C t z r x u v A y a)->∀{ρ},ed ρ (kp ks (vv P fn m c).ρ++(f O F E M V Y L G))->J ρ w')->GG (HS w0 q a q a<|hs t z r x u v A y l) (B I C t z r x u v A y q a) (W P fn R<|ku J (kp ks (vv P fn m c).ρ++(f t z r x u v A y)) ρ a<|vv P fn m c))(h:((aa P fn m c).cq,wg (vv P fn m c)<|kp ks (vv P fn m c).ρ++(f X Q K S N T D U),l)=((aa P fn m c).so,some (w,(kp ks (vv P fn m c).ρ++(f X Q K S N T D U)).map (·.2)),(hs X Q K S N T D U l)):=by kernel_rfl):GG (HS w0 H w H w l) (∃(I:o->g->i->b->n->e->p->d->(Nat->Prop)->World->Prop) (C:o->g->i->b->n->e->p->d->World->Nat),I X Q K S N T D U H w/\∀t z r x u v A y q a,af w0 q a q a->I t z r x u v A y q a->B I C t z r x u v A y q a) (W P fn R c):=by
 rintro hp ⟨I,C,h0,hr⟩;simp only[Prod.mk.injEq]at h;have⟨h1,h2,h3⟩:=h;replace hp:HS w0 H w H w (hs X Q K S N T D U l):=by rw[<-h3];exact hp
 exact W.on m h1<|zf (σ:=o×g×i×b×n×e×p×d×(Nat->Prop)) (fun s=>kp ks (vv P fn m c).ρ++(f s.1 s.2.1 s.2.2.1 s.2.2.2.1 s.2.2.2.2.1 s.2.2.2.2.2.1 s.2.2.2.2.2.2.1 s.2.2.2.2.2.2.2.1)) (fun s w=>HS w0 s.2.2.2.2.2.2.2.2 w s.2.2.2.2.2.2.2.2 w (hs s.1 s.2.1 s.2.2.1 s.2.2.2.1 s.2.2.2.2.1 s.2.2.2.2.2.1 s.2.2.2.2.2.2.1 s.2.2.2.2.2.2.2.1 l)/\I s.1 s.2.1 s.2.2.1 s.2.2.2.1 s.2.2.2.2.1 s.2.2.2.2.2.1 s.2.2.2.2.2.2.1 s.2.2.2.2.2.2.2.1 s.2.2.2.2.2.2.2.2 w) (fun s w=>C s.1 s.2.1 s.2.2.1 s.2.2.2.1 s.2.2.2.2.1 s.2.2.2.2.2.1 s.2.2.2.2.2.2.1 s.2.2.2.2.2.2.2.1 w) (s0:=(X,Q,K,S,N,T,D,U,H)) h2 ⟨hp,h0⟩ fun {s a ρ J} j hI=>k (fun {O F E M V Y L G Z w'} hS hq _ hh=>j (s':=(O,F,E,M,V,Y,L,G,Z)) ⟨⟨hS,hq.1⟩,hq.2⟩ hh) hI.1<|hr s.1 s.2.1 s.2.2.1 s.2.2.2.1 s.2.2.2.2.1 s.2.2.2.2.2.1 s.2.2.2.2.2.2.1 s.2.2.2.2.2.2.2.1 s.2.2.2.2.2.2.2.2 a hI.1.s hI.2
def wT{w:World}{f:FuncId}{args:Array Value}{F:Value}{r:World->Prop}(m:Nat)(b:∀args w,(callFunc f args).run P w=.ok (.enter f args) w)(k:∀{a},GG (π) (r a)<|W P fn R<|yW F a<|vv P fn m c)(h1:jj (vv P fn m c)=true:=by kernel_rfl)(h:((aa P fn m c).cq,mx<|vv P fn m c,gd<|vv P fn m c,(vv P fn m c).w)=((aa P fn m c).so,some (f,args),true,w):=by kernel_rfl):GG (π) (Calls P f args w fun e a=>e=.returned F/\r a) (W P fn R c):=cc m b (rt<|ev k h1) h
def rA{b w:World}{H:Nat->Prop}{l:List fw}{f:FuncId}{args:Array Value}{F:Value}{r:World->Prop}(m:Nat)(d:∀args w,(callFunc f args).run P w=.ok (.enter f args) w)(k:∀{a},GG (HS b H a H a l) (r a)<|W P fn R<|yW F a<|vv P fn m c)(h1:jj (vv P fn m c)=true:=by kernel_rfl)(h:((aa P fn m c).cq,mx<|vv P fn m c,gd<|vv P fn m c,(vv P fn m c).w)=((aa P fn m c).so,some (f,args),true,w):=by kernel_rfl):GG (HS b H w H w l) (Calls P f args w fun e a=>e=.returned F/\aj H w a/\r a) (W P fn R c):=cc m d (rt<|ie k h1) h
def fy{d:Type}{w f args}{F:d->Value}{r:d->World->Prop}(m)(g:∀args w,(callFunc f args).run P w=.ok (.enter f args) w)(k:∀{a b},GG (π) (r a b)<|W P fn R<|yW (F a) b<|vv P fn m c)(h1:jj (vv P fn m c)=true:=by kernel_rfl)(h:((aa P fn m c).cq,mx<|vv P fn m c,gd<|vv P fn m c,(vv P fn m c).w)=((aa P fn m c).so,some (f,args),true,w):=by kernel_rfl):GG (π) (Calls P f args w fun e b=>∃a,e=.returned (F a)/\r a b) (W P fn R c):=cc m g (xe<|rt<|ev k h1) h
def du{d:Type}{w0 w H l f args}{F:d->Value}{r:d->World->Prop}(m)(g:∀args w,(callFunc f args).run P w=.ok (.enter f args) w)(k:∀{b a},GG (HS w0 H a H a l) (r b a)<|W P fn R<|yW (F b) a<|vv P fn m c)(h1:jj (vv P fn m c)=true:=by kernel_rfl)(h:((aa P fn m c).cq,mx<|vv P fn m c,gd<|vv P fn m c,(vv P fn m c).w)=((aa P fn m c).so,some (f,args),true,w):=by kernel_rfl):GG (HS w0 H w H w l) (Calls P f args w fun e a=>∃b,e=.returned (F b)/\aj H w a/\r b a) (W P fn R c):=cc m g (xe<|rt<|ie k h1) h
def kr{d:Type}{w0 w H l C f args}{F:d->Value}{r:d->World->Prop}(m)(g:∀args w,(callFunc f args).run P w=.ok (.enter f args) w)(k:∀{b a},GG (HS w0 H a H a l) (r b a)<|W P fn R<|yW (F b) a<|vv P fn m c)(h1:(ot<|vv P fn m c,qo<|vv P fn m c,oq<|vv P fn m c)=(some C,H,l):=by kernel_rfl)(h:((aa P fn m c).cq,mx<|vv P fn m c,gd<|vv P fn m c,(vv P fn m c).w)=((aa P fn m c).so,some (f,args),true,w):=by kernel_rfl):GG (HS w0 H w H w l) (Calls P f args w fun e a=>∃b,e=.returned (F b)/\C a/\aj H w a/\r b a) (W P fn R c):=cc m g (xe<|rt<|rM k h1) h
def kz{i g:Type}{w f args}{F:i->g->Value}{r:i->g->World->Prop}(m)(j:∀args w,(callFunc f args).run P w=.ok (.enter f args) w)(k:∀{a b d},GG (π) (r a b d)<|W P fn R<|yW (F a b) d<|vv P fn m c)(h1:jj (vv P fn m c)=true:=by kernel_rfl)(h:((aa P fn m c).cq,mx<|vv P fn m c,gd<|vv P fn m c,(vv P fn m c).w)=((aa P fn m c).so,some (f,args),true,w):=by kernel_rfl):GG (π) (Calls P f args w fun e d=>∃a b,e=.returned (F a b)/\r a b d) (W P fn R c):=cc m j (dt<|rt<|ev k h1) h
def il{i g:Type}{w0 w H l f args}{F:i->g->Value}{r:i->g->World->Prop}(m)(j:∀args w,(callFunc f args).run P w=.ok (.enter f args) w)(k:∀{b d a},GG (HS w0 H a H a l) (r b d a)<|W P fn R<|yW (F b d) a<|vv P fn m c)(h1:jj (vv P fn m c)=true:=by kernel_rfl)(h:((aa P fn m c).cq,mx<|vv P fn m c,gd<|vv P fn m c,(vv P fn m c).w)=((aa P fn m c).so,some (f,args),true,w):=by kernel_rfl):GG (HS w0 H w H w l) (Calls P f args w fun e a=>∃b d,e=.returned (F b d)/\aj H w a/\r b d a) (W P fn R c):=cc m j (dt<|rt<|ie k h1) h
def xh{i g:Type}{w0 w H l C f args}{F:i->g->Value}{r:i->g->World->Prop}(m)(j:∀args w,(callFunc f args).run P w=.ok (.enter f args) w)(k:∀{b d a},GG (HS w0 H a H a l) (r b d a)<|W P fn R<|yW (F b d) a<|vv P fn m c)(h1:(ot<|vv P fn m c,qo<|vv P fn m c,oq<|vv P fn m c)=(some C,H,l):=by kernel_rfl)(h:((aa P fn m c).cq,mx<|vv P fn m c,gd<|vv P fn m c,(vv P fn m c).w)=((aa P fn m c).so,some (f,args),true,w):=by kernel_rfl):GG (HS w0 H w H w l) (Calls P f args w fun e a=>∃b d,e=.returned (F b d)/\C a/\aj H w a/\r b d a) (W P fn R c):=cc m j (dt<|rt<|rM k h1) h
def BS{l j i:Type}{w f args}{F:l->j->i->Value}{r:l->j->i->World->Prop}(m)(n:∀args w,(callFunc f args).run P w=.ok (.enter f args) w)(k:∀{b d a g},GG (π) (r b d a g)<|W P fn R<|yW (F b d a) g<|vv P fn m c)(h1:jj (vv P fn m c)=true:=by kernel_rfl)(h:((aa P fn m c).cq,mx<|vv P fn m c,gd<|vv P fn m c,(vv P fn m c).w)=((aa P fn m c).so,some (f,args),true,w):=by kernel_rfl):GG (π) (Calls P f args w fun e g=>∃b d a,e=.returned (F b d a)/\r b d a g) (W P fn R c):=cc m n (um<|rt<|ev k h1) h
def Ei{n j i:Type}{w0 w H l f args}{F:n->j->i->Value}{r:n->j->i->World->Prop}(m)(o:∀args w,(callFunc f args).run P w=.ok (.enter f args) w)(k:∀{d g b a},GG (HS w0 H a H a l) (r d g b a)<|W P fn R<|yW (F d g b) a<|vv P fn m c)(h1:jj (vv P fn m c)=true:=by kernel_rfl)(h:((aa P fn m c).cq,mx<|vv P fn m c,gd<|vv P fn m c,(vv P fn m c).w)=((aa P fn m c).so,some (f,args),true,w):=by kernel_rfl):GG (HS w0 H w H w l) (Calls P f args w fun e a=>∃d g b,e=.returned (F d g b)/\aj H w a/\r d g b a) (W P fn R c):=cc m o (um<|rt<|ie k h1) h
def JC{n j i:Type}{w0 w H l C f args}{F:n->j->i->Value}{r:n->j->i->World->Prop}(m)(o:∀args w,(callFunc f args).run P w=.ok (.enter f args) w)(k:∀{d g b a},GG (HS w0 H a H a l) (r d g b a)<|W P fn R<|yW (F d g b) a<|vv P fn m c)(h1:(ot<|vv P fn m c,qo<|vv P fn m c,oq<|vv P fn m c)=(some C,H,l):=by kernel_rfl)(h:((aa P fn m c).cq,mx<|vv P fn m c,gd<|vv P fn m c,(vv P fn m c).w)=((aa P fn m c).so,some (f,args),true,w):=by kernel_rfl):GG (HS w0 H w H w l) (Calls P f args w fun e a=>∃d g b,e=.returned (F d g b)/\C a/\aj H w a/\r d g b a) (W P fn R c):=cc m o (um<|rt<|rM k h1) h
def ca4{o n j p:Type}{w0 w H l f args}{F:o->n->j->p->Value}{r:o->n->j->p->World->Prop}(m)(q:∀args w,(callFunc f args).run P w=.ok (.enter f args) w)(k:∀{g i b d a},GG (HS w0 H a H a l) (r g i b d a)<|W P fn R<|yW (F g i b d) a<|vv P fn m c)(h1:jj (vv P fn m c)=true:=by kernel_rfl)(h:((aa P fn m c).cq,mx<|vv P fn m c,gd<|vv P fn m c,(vv P fn m c).w)=((aa P fn m c).so,some (f,args),true,w):=by kernel_rfl):GG (HS w0 H w H w l) (Calls P f args w fun e a=>∃g i b d,e=.returned (F g i b d)/\aj H w a/\r g i b d a) (W P fn R c):=cc m q (G2<|rt<|ie k h1) h
def sE{p o l q n:Type}{w f args}{F:p->o->l->q->n->Value}{r:p->o->l->q->n->World->Prop}(m)(s:∀args w,(callFunc f args).run P w=.ok (.enter f args) w)(k:∀{d i a b g j},GG (π) (r d i a b g j)<|W P fn R<|yW (F d i a b g) j<|vv P fn m c)(h1:jj (vv P fn m c)=true:=by kernel_rfl)(h:((aa P fn m c).cq,mx<|vv P fn m c,gd<|vv P fn m c,(vv P fn m c).w)=((aa P fn m c).so,some (f,args),true,w):=by kernel_rfl):GG (π) (Calls P f args w fun e j=>∃d i a b g,e=.returned (F d i a b g)/\r d i a b g j) (W P fn R c):=cc m s (gw<|rt<|ev k h1) h
def lf{s q n t p o:Type}{w f args}{F:s->q->n->t->p->o->Value}{r:s->q->n->t->p->o->World->Prop}(m)(u:∀args w,(callFunc f args).run P w=.ok (.enter f args) w)(k:∀{d j a b g i l},GG (π) (r d j a b g i l)<|W P fn R<|yW (F d j a b g i) l<|vv P fn m c)(h1:jj (vv P fn m c)=true:=by kernel_rfl)(h:((aa P fn m c).cq,mx<|vv P fn m c,gd<|vv P fn m c,(vv P fn m c).w)=((aa P fn m c).so,some (f,args),true,w):=by kernel_rfl):GG (π) (Calls P f args w fun e l=>∃d j a b g i,e=.returned (F d j a b g i)/\r d j a b g i l) (W P fn R c):=cc m u (cf<|rt<|ev k h1) h
def ow{t s o u q p:Type}{w0 w H l f args}{F:t->s->o->u->q->p->Value}{r:t->s->o->u->q->p->World->Prop}(m)(v:∀args w,(callFunc f args).run P w=.ok (.enter f args) w)(k:∀{g n b d i j a},GG (HS w0 H a H a l) (r g n b d i j a)<|W P fn R<|yW (F g n b d i j) a<|vv P fn m c)(h1:jj (vv P fn m c)=true:=by kernel_rfl)(h:((aa P fn m c).cq,mx<|vv P fn m c,gd<|vv P fn m c,(vv P fn m c).w)=((aa P fn m c).so,some (f,args),true,w):=by kernel_rfl):GG (HS w0 H w H w l) (Calls P f args w fun e a=>∃g n b d i j,e=.returned (F g n b d i j)/\aj H w a/\r g n b d i j a) (W P fn R c):=cc m v (cf<|rt<|ie k h1) h
def sR{t s o u q p:Type}{w0 w H l C f args}{F:t->s->o->u->q->p->Value}{r:t->s->o->u->q->p->World->Prop}(m)(v:∀args w,(callFunc f args).run P w=.ok (.enter f args) w)(k:∀{g n b d i j a},GG (HS w0 H a H a l) (r g n b d i j a)<|W P fn R<|yW (F g n b d i j) a<|vv P fn m c)(h1:(ot<|vv P fn m c,qo<|vv P fn m c,oq<|vv P fn m c)=(some C,H,l):=by kernel_rfl)(h:((aa P fn m c).cq,mx<|vv P fn m c,gd<|vv P fn m c,(vv P fn m c).w)=((aa P fn m c).so,some (f,args),true,w):=by kernel_rfl):GG (HS w0 H w H w l) (Calls P f args w fun e a=>∃g n b d i j,e=.returned (F g n b d i j)/\C a/\aj H w a/\r g n b d i j a) (W P fn R c):=cc m v (cf<|rt<|rM k h1) h
end
end Go.SE
end
section
open Go Go.SE List
open Go.IntKind renaming i64 -> q6
namespace Go.Proofs
open Tryz
set_option maxRecDepth 100000
set_option maxHeartbeats 4000000
attribute [local irreducible] bu ft fg dw Calls
attribute [local irreducible] jq W WV WR yW pv ku jd nz ka lq ky lj mz mo iq fa im mv kq kp uP xG yA bn ub
def jaT(s1:Sl)(a:World)(K:Sl->WP):Prop:=∃b1,(Go.binOp .eql 46 s1.v Sl.nil.v).run prog a=.ok (vb b1) a/\Br b1 (K Sl.nil a) (∀b c,au a (.cells #[] 73) b c->∃d:Sl,∃e:World,(Builtin.append_ #[46,46] 46 #[(Sl.mk (some b) 0 0).v,s1.v]).run prog c=.ok d.v e/\K d e)
def Xa(s1 w0 K)(h:jaT s1 w0 K):
  cl 129 #[s1.v] w0<|XA K:=
 cy func129 h<|xe<|rb 2<|br 0 0 (rr 2)<|cd 1<|dt<|ef 1<|ev<|rr 1
def Tv(s1:Sl)(e b:Int)(a:World)(c:Int->WP)(K:Int->WP):Prop:=Br (decide (b<(s1.len:Int))) (∃a1:Addr,At s1 b 1 a1/\li a a1 fun d=>Br (e==d) (K b a)<|c (q6.wrap<|b+1) a)<|K (-1) a
def MJ(s1:Sl)(g:Int)(f:World)(K:Int->WP):Prop:=∃(e:Int->WP) (c:Int->World->Nat),e 0 f/\∀(d:Int) (a:World),e d a->Tv s1 g d a (fun b w'=>e b w'/\c b w'<c d a) K
def Uo(s1 v1 w0 K)(h:MJ s1 v1 w0 K):
  cl 162 #[s1.v,(vi v1)] w0<|XB K:=
 cy func162 h<|zg 4 [0,1,7] (fun a=>[(8,(vi a))])<|fun {_ _ a}=>fun b=>br 0 1 (ix 6<|ld 0<|br 0 1 (rr 3)<|de 3 b)<|rr 2
def QW(s1:Sl)(c:Int)(b:World)(K:Bool->WP):Prop:=cl 162 #[s1.v,(vi c)] b<|XB fun r1 a=>K (decide (r1>=0)) a
def ZO(s1 v1 w0 K)(h:QW s1 v1 w0 K):
  cl 133 #[s1.v,(vi v1)] w0<|XC K:=
 cy func133 h<|fy 3 call162<|rr 2
end Go.Proofs
end
section
open Go Go.SE List
namespace Go.Proofs
open Tryz
attribute [local irreducible] Calls
def bz(ts:List Int):List (List Value):=ts.map fun t=>[vi t]
def vA(ts):(bz ts).length=ts.length:=by simp[bz]
def Rz(ts):∀q∈bz ts,q.all vG=true:=by intro q a;obtain⟨t,_,rfl⟩:=mem_map.1 a;rfl
def R0(ts):∀q∈bz ts,q.length=1:=by intro q a;obtain⟨t,_,rfl⟩:=mem_map.1 a;rfl
def te:j1 prog 46 73 1 8:=by
 refine⟨underlying46,⟨t73,_,Kf,(by kernel_rfl:t73.zero=some (vi 0)),Kf,Kf,rfl⟩,Om⟩
structure fx(w:World)(e:TypeId)(sz:Nat)(rs:List (List Value))(s:Sl)(w':World):Prop where
 cj:bf w' e sz s rs
 ak:∀b,s.ao b->w.heap.size<=b
 pure:Pure w w'
def fx.bl{w H e sz rs s w'}(h:fx w e sz rs s w'):aj H w w':=h.pure.bo
def uB{S w s ts}(h:dn S w 1 s (bz ts)){j}(b:j<ts.length):∃a,At s j 1 a/\S a.block/\w.cell? a=some (vi ts[j]):=by
 have⟨a,h1,h2,h3⟩:=h.at_ j (by simpa[bz]using b);exact⟨a,h1,h2,Ap<|by simpa[bz]using h3⟩
def Zj{P}(w d){t e}(a l c)(h:P.underlying t=some (.slice e)):(Op.equalIn (d+1) t (.slice a l c)<|.slice none 0 0).run P w=.ok a.isNone w:=by
 cases a<;>simp[Op.equalIn,run_underlying h]
def Qg{P}(w){t e}(a l c)(h:P.underlying t=some (.slice e)):(Go.binOp .eql t (.slice a l c)<|.slice none 0 0).run P w=.ok (vb a.isNone) w:=by
 simp only[Go.binOp];simp[Op.equal,Op.maxDepth,Zj w 9999 a l c h]
def zBD{S}(s ts v w0)(hs:dn S w0 1 s (bz ts))(m:ts.length<=1000000):
  cl 162 #[s.v,vi v] w0<|XB fun r w'=>(decide (r>=0)=decide (v∈ts))/\w'=w0:=by
 refine Uo _ _ w0 _ ?_
 unfold MJ
 have f:s.len=ts.length:=by rw[hs.len,vA]
 refine⟨fun i w'=>w'=w0/\∃j:Nat,i=j/\j<=ts.length/\v∉ts.take j,fun i _=>((ts.length:Int)-i).toNat,⟨rfl,0,rfl,Nat.zero_le _,Sm⟩,?_⟩
 rintro _ _ ⟨rfl,j,rfl,l,k⟩
 refine⟨fun h=>?_,fun h=>?_⟩
 have b:=vW f h
 have⟨a,d,_,g⟩:=uB hs b
 have c:ts.take (j+1)=ts.take j++[ts[j]]:=take_succ_eq_append_getElem b
 refine⟨a,d,_,g,fun h=>⟨?_,rfl⟩,fun h=>?_⟩
 grind
 rw[zN b Om]
 refine⟨⟨rfl,j+1,rfl,b,?_⟩,yY b⟩
 rw[c,mem_append,mem_singleton]
 rintro(e|e)
 exact k e
 simp[e]at h
 grind
def jQL{S}(s ts v w0)(hs:dn S w0 1 s (bz ts))(a:ts.length<=1000000):
  cl 133 #[s.v,vi v] w0<|XC fun r w'=>r=decide (v∈ts)/\w'=w0:=by
 refine ZO _ _ w0 _ ?_
 refine(zBD s ts v w0 hs a).mono ?_
 rintro _ _ ⟨r,rfl,hr,rfl⟩
 exact⟨_,rfl,hr,rfl⟩
def WQ{S:NP}(s:Sl)(ts:List Int)(c:World)(hs:dn S c 1 s (bz ts))(q:s.a=none->s=Sl.nil)(u:ts.length<=1000000):
  cl 129 #[s.v] c<|XA fun r w'=>fx c 73 1 (bz ts) r w':=by
 refine Xa _ c _ ?_
 refine⟨s.a.isNone,?_,fun h=>?_,fun h=>?_⟩
 exact Qg c s.a s.len s.cap underlying46
 have g:=q<|Option.isNone_iff_eq_none.1 h
 subst g
 have:ts=[]:=by have:=hs.len;rw[vA]at this;exact length_eq_zero_iff.1 this.symm
 subst this
 exact⟨bf.nil _ _ _,fun b d=>(by have⟨a,f,_⟩:=d;cases f),ab.refl _⟩
 intro l m h1
 have i:Pure c m:=ab.aw h1
 have⟨n,o,hr,p,k,d⟩:=(bf.empty (sz:=1) h1).Bb (P:=prog) (ty:=46) te (hs.pure i) (R0 _) (Rz _) (by rw[vA];simp;omega) (by rw[vA];simp[maxLen];omega)
 have t:=h1.cu
 have j:∀b,(Sl.mk (some l) 0 0).ao b->c.heap.size<=b:=fun b d=>(by have⟨a,f,e⟩:=d;cases f;omega)
 exact⟨n,o,hr,by simpa using p,fun b h=>(d b h).elim (j b) fun h=>Oh i.size,i.cg k Gd⟩
end Go.Proofs
end
