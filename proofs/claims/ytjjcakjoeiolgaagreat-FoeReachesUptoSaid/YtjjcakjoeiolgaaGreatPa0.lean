import Derived.KernelRfl
import Derived.Orders
import Derived.OrdersIn
import Derived.Still
import Derived.RangeFuncLeaves
import Derived.Tactics
import Derived.Scope
import Derived.TacticsIn
import Derived.RangeFuncRecord
import Derived.Laws.StructEq
import Derived.Laws.Rows
import Derived.Laws.NewBlocks
import Derived.Laws.Strings
import Derived.Laws.Pointers
import Derived.Below
import Derived.Laws.AppendOwn
import Derived.Laws.MakeOwn
import Derived.IntWalk
import Derived.Test.YtjjcakjoeiolgaaGreatProg
import Derived.RangeFuncSeq
import Derived.RangeFuncIn
import Derived.Laws.Entries
set_option linter.defProp false
section
namespace Go
def Om{P:Prop}(h:P:=by omega):P:=h
def Kf{P:Prop}(h:P:=by kernel_rfl):P:=h
def Gd{P:Prop}(h:P:=by grind):P:=h
def Sm{P:Prop}(h:P:=by simp):P:=h
def De{P:Prop}(h:P:=by decide):P:=h
def So{P:Prop}(h:P:=by simp;omega):P:=h
def Ic{P:Prop}(h:P:=by intro c a;cases a):P:=h
def Sy{P:Prop}(h:P:=by simp only;omega):P:=h
def Fe{P:Prop}(h:P:=by first|exact Nat.le_refl _|exact Nat.le_succ _):P:=h
def Oh{A P:Prop}(a:A)(h:A->P:=by intro _;omega):P:=h a
def Oi{A B P:Prop}(a:A)(b:B)(h:A->B->P:=by intro _ _;omega):P:=h a b
end Go
end
section
namespace Go.SE
abbrev NP:=Nat->Prop
abbrev WP:=World->Prop
def yld(P:Program)(o:Oper)(ε:Operand->Value)(w:World)(R:Value->World->Prop):Prop:=
 match(execOp ε o).run P w with
 |.ok (.value v) w'=>R v w'
 |.ok .skip w'=>R undef w'
 |.ok (.enter f args) w'=>Calls P f args w' fun e a=>∃v,e=.returned v/\R v a
 |.ok (.row row args) w'=>Rows P row args w' R
 |.ok (.round l f tmps assign body) w'=>RoundIn Fence.wide 0 P l f tmps assign body w' fun e a=>∃v,e=.returned v/\R v a
 |_=>False
section
variable {P:Program} {ops:Array Oper} {md:Region.Mode} {C:World->Prop}
def oX{o}{ε:Operand->Value}{w}{R d:Value->World->Prop}(h:yld P o ε w R)(hr:∀v w',R v w'->d v w'):yld P o ε w d:=by
 unfold yld at *;generalize (execOp ε o).run P w=r at *;cases r with
 |ok n w' =>
  cases n<;>simp only at h|-<;>first
   |exact hr _ _ h
   |exact h.mono fun e a ⟨v,b,c⟩=>⟨v,b,hr _ _ c⟩
   |exact RoundIn.mono h fun e a ⟨v,b,c⟩=>⟨v,b,hr _ _ c⟩
   |exact h.mono hr
 |halt x w'=>exact h
def fen:Option Nat->Fence
 |none=>Fence.wide
 |some l=>Fence.wide.inRound l
def jPP(ro:Option Nat):(fen ro).round=ro:=by cases ro<;>rfl
def jPQ(ro:Option Nat)(f):(fen ro).fn f:=by cases ro<;>trivial
def jPR(ro:Option Nat):(fen ro).depth=none:=by cases ro<;>rfl
def Calls.fen{ro:Option Nat}{m f args w R}(h:Calls P f args w R):CallsIn (SE.fen ro) m P f args w R:=by
 cases ro with
 |none=>exact callsIn_wide.2 h
 |some l=>exact(callsIn_wide.2 h:CallsIn Fence.wide m P f args w R)
def Rows.fen{ro:Option Nat}{m}{row:String}{args w}{R:Value->World->Prop}(h:Rows P row args w R):RowsIn (SE.fen ro) m P row args w R:=by
 have a:RowsIn Fence.wide m P row args w R:=fun c cs _=>let ⟨v,w',r,s⟩:=h c cs;⟨v,w',r,stepsIn_wide.2 s⟩
 cases ro with
 |none=>exact a
 |some l=>exact a
def RoundIn.fen{ro:Option Nat}{n m l f tmps assign body w R}(h:RoundIn Fence.wide n P l f tmps assign body w R):RoundIn (SE.fen ro) m P l f tmps assign body w R:=by
 have a:RoundIn Fence.wide m P l f tmps assign body w R:=⟨trivial,fun c cs _=>h.2 c cs<|room_wide _⟩;cases ro with
 |none=>exact a
 |some l'=>exact a
def jNT{o}{ε:Operand->Value}{w}{R:Value->World->Prop}(h:yld P o ε w R):∀c,o.op≠.defer c:=by
 intro c a;unfold yld execOp at h;rw[a]at h;simp only[Sem.run_bind]at h;generalize (resolve ε c o.type).run P w=r at h;cases r with
 |ok d w'=>exact h
 |halt x w'=>exact h
def jIJ{ro:Option Nat}{m o a w}{K:Act->World->Prop}{Q:Exit->Act->World->Prop}(h:yld P o a.eval w fun v w'=>K (a.put o.dst v) w'):o.wpIn (fen ro) m P a w K Q:=by
 refine⟨fun f _=>jPQ ro f,?_⟩;rw[jPP,Oper.semAt_eq _ _ _<|jNT h];have c:(fen ro).depth.isSome=true->1<=m:=fun h=>by rw[jPR]at h;cases h
 unfold yld at h;generalize (execOp a.eval o).run P w=r at *;cases r with
 |ok n w' =>
  cases n<;>simp only at h<;>simp only[Oper.uponIn]
  case value=>exact h
  case skip=>exact h
  case enter=>exact⟨c,(Calls.fen h).mono fun e b ⟨v,d,g⟩=>by subst d;exact g⟩
  case row=>exact⟨c,Rows.fen h⟩
  case round=>exact⟨c,(RoundIn.fen h).mono fun e b ⟨v,d,g⟩=>by subst d;exact g⟩
 |halt x w'=>exact h.elim
def qy(P:Program)(o:Oper)(ε:Operand->Value)(w:World)(v:Value):Prop:=
 match(execOp ε o).run P w with
 |.ok (.value u) w'=>u=v/\w'=w
 |.ok .skip w'=>v=undef/\w'=w
 |_=>False
def jXP{o}{ε:Operand->Value}{w v}{R:Value->World->Prop}(h:qy P o ε w v)(a:R v w):yld P o ε w R:=by
 unfold qy at h;unfold yld;generalize (execOp ε o).run P w=r at *;cases r with
 |ok n w' =>
  cases n<;>simp only at h|-
  case value u=>obtain⟨rfl,rfl⟩:=h;exact a
  case skip=>obtain⟨rfl,rfl⟩:=h;exact a
 |halt x w'=>exact h.elim
def jNH(md:Region.Mode)(ops:Array Oper)(i:Nat):Array Bool:=
 (List.range ops.size).foldl (fun l j=>if j !=i&&!l.getD j true&&((ops[j]?).map (·.after.all fun e=>!Region.binds md e ||l.getD e.on false)).getD false then l.setIfInBounds j true else l) (Array.replicate ops.size false)
def jCE(md:Region.Mode)(ops:Array Oper)(loud:Nat->Bool)(i:Nat):Bool:=(List.range ops.size).all fun j=>!loud j ||!(jNH md ops i).getD j false
def opM(md:Region.Mode)(P:Program)(ops:Array Oper)(C:World->Prop)(loud free:Nat->Bool)(i:Nat)(K:Act->World->Prop)(a:Act)(w:World):Prop:=
 match ops[i]? with
 |none=>K a w
 |some o =>
  if Region.wanted o (yielded ops a.tmps)then
   (if loud i then yld P o a.eval w fun v w'=>(free i=true\/C w')/\K (a.put o.dst v) w'
   else ∃v,((jCE md ops loud i=true/\qy P o a.eval w v)\/∀w',C w'->qy P o a.eval w' v)/\K (a.put o.dst v) w)
  else K (a.put o.dst undef) w
def zCV{loud free:Nat->Bool}{i a w}{K e:Act->World->Prop}(h:∀a w,C w\/(loud i=true/\free i=true)->K a w->e a w)(l:loud i=false->C w)(g:C w\/(loud i=true/\free i=true))(hh:opM md P ops C loud free i K a w):opM md P ops C loud free i e a w:=by
 unfold opM at *;split;grind;rename_i o k;simp only[k]at hh;split;rename_i b;simp only[b,if_true]at hh;split;rename_i d;simp only[d,if_true]at hh;exact oX hh fun v w' ⟨c,f⟩=>⟨c,h _ _ (c.elim (fun j=>.inr ⟨d,j⟩) .inl) f⟩;grind;rename_i b;simp only[b]at hh;exact h _ _ g hh
def jIN(P:Program)(md:Region.Mode)(ops:Array Oper)(C:World->Prop)(loud free:Nat->Bool)(Q:Act->World->Prop):Nat->Array Bool->Act->World->Prop
 |0,b,a,w=>Region.ready md ops b=[]/\Q a w
 |fuel+1,b,a,w =>
  (Region.ready md ops b=[]->Q a w) /\
  ∀i∈Region.ready md ops b,opM md P ops C loud free i (jIN P md ops C loud free Q fuel<|b.setIfInBounds i true) a w
def xY(loud:Nat->Bool)(n:Nat)(a:Array Bool):Prop:=∀i,i<n->loud i=false->a.getD i true=true
def xY.set{loud:Nat->Bool}{n}{a:Array Bool}(h:xY loud n a)(k):xY loud n (a.setIfInBounds k true):=fun i hi d=>by
 by_cases c:k=i;subst c;rcases Nat.lt_or_ge k a.size with b|b;simp[b];simp[b];rw[getD_set_ne true c];exact h i hi d
structure Good(md:Region.Mode)(ops:Array Oper)(loud free:Nat->Bool)(a:Nat->Array Bool):Prop where
 size:∀i,loud i=false->(a i).size=ops.size
 shut:∀i,loud i=false->∀j∈Region.ready md ops (a i),j=i
 out:∀i,i<ops.size->loud i=false->∀j,j<ops.size->free j=true->(a i).getD j false=false
def jHI(n:Nat)(loud:Nat->Bool)(b:Nat->Array Bool)(a:Array Bool):Prop:=∀i,i<n->loud i=false->a.getD i true=false->∀k,a.getD k false=true->(b i).getD k false=true
def Good.inFar{loud free:Nat->Bool}{b:Nat->Array Bool}{a:Array Bool}(k:Good md ops loud free b)(h:jHI ops.size loud b a){i j}(hi:i<ops.size)(g:loud i=false)(n:a.getD i true=false)(q:j∈Region.ready md ops a)(f:j≠i):(b i).getD j false=true:=by
 have⟨_,o,l,c⟩:=mem_ready.1 q;have d:j<(b i).size:=k.size i g▸(Array.getElem?_eq_some_iff.1 l).1;cases p:(b i).getD j false with
 |true=>rfl
 |false=>exact absurd (k.shut i g j<|mem_ready.2 ⟨by simpa[d]using p,o,l,fun e r m=>h i hi g n _<|c e r m⟩) f
def Good.step{loud free:Nat->Bool}{b:Nat->Array Bool}{a:Array Bool}(o:Good md ops loud free b)(h:jHI ops.size loud b a){j}(n:j∈Region.ready md ops a):jHI ops.size loud b (a.setIfInBounds j true):=by
 intro i hi m f k l;have d:j≠i:=fun e=>by
  subst e;rcases Nat.lt_or_ge j a.size with g|g;simp[g]at f;simp[g]at f
 rw[getD_set_ne true d]at f;by_cases c:j=k;subst c;exact o.inFar h hi m f n d;rw[getD_set_ne false c]at l;exact h i hi m f k l
def Good.free{loud free:Nat->Bool}{c:Nat->Array Bool}{a:Array Bool}(k:Good md ops loud free c)(h:jHI ops.size loud c a){j}(g:j∈Region.ready md ops a)(b:loud j=true)(l:free j=true):xY loud ops.size a:=by
 intro i hi f;cases m:a.getD i true with
 |true=>rfl
 |false =>
  have d:j≠i:=fun e=>by subst e;rw[f]at b;cases b
  have h1:=k.inFar h hi f m g d
  have⟨_,o,n,_⟩:=mem_ready.1 g
  rw[k.out i hi f j (Array.getElem?_eq_some_iff.1 n).1 l]at h1
  cases h1
def jLA{ro:Option Nat}{m}{loud free:Nat->Bool}{e:Nat->Array Bool}{Q:Act->World->Prop}{Q':Exit->Act->World->Prop}(n:Good md ops loud free e)(p:∀a w,Q a w->Q' .normal a w):
  ∀(fuel:Nat) (b:Array Bool) (a:Act) (w:World),(C w\/xY loud ops.size b)->jHI ops.size loud e b->jIN P md ops C loud free Q fuel b a w->wpAnyIn (fen ro) m P md ops Q' fuel b a w
 |0,_,_,_,_,_,h=>⟨h.1,p _ _ h.2⟩
 | fuel + 1, b, a, w, j, s, h => ⟨fun t => p _ _<|h.1 t, fun i hi => by
   have hh:=h.2 i hi;have g:∀a w,(C w\/xY loud ops.size (b.setIfInBounds i true))->jIN P md ops C loud free Q fuel (b.setIfInBounds i true) a w->wpAnyIn (fen ro) m P md ops Q' fuel (b.setIfInBounds i true) a w:=fun a w j h=>jLA n p fuel _ a w j (n.step s hi) h;have c:C w\/xY loud ops.size (b.setIfInBounds i true):=j.imp id fun h=>h.set i;unfold opM at hh;unfold wpOpIn;split;rename_i k;simp only[k]at hh;exact g _ _ c hh;rename_i o k;simp only[k]at hh;split;rename_i d;simp only[d,if_true]at hh;apply jIJ;split at hh;rename_i l;exact oX hh fun v w' ⟨u,y⟩=>g _ _ (u.elim (fun x=>.inr<|(n.free s hi l x).set i) .inl) y;rename_i l;have⟨v,h1,h2⟩:=hh;have r:C w:=by
    rcases j with h|h;exact h;have⟨z,A,q,_⟩:=mem_ready.1 hi;have:=h i (Array.getElem?_eq_some_iff.1 q).1 (by simpa using l);rw[z]at this;cases this
   exact jXP (h1.elim (·.2) fun h=>h w r) (g _ _ c h2);rename_i d;simp only[d]at hh;exact⟨fun f _=>jPQ ro f,g _ _ c hh⟩⟩
def xJ(P:Program)(ops:Array Oper)(C:World->Prop)(e:Bool)(w:World)(o:Oper)(v:Value)(a:Act):Prop:=
 (Region.wanted o (yielded ops a.tmps)=true/\((e=true/\qy P o a.eval w v)\/∀w',C w'->qy P o a.eval w' v)) \/
 (Region.wanted o (yielded ops a.tmps)=false/\v=undef)
def xJ.of_same{e w o v a a'}(d:xJ P ops C e w o v a)(c:execOp a'.eval o=execOp a.eval o)(b:Region.wanted o (yielded ops a'.tmps)=Region.wanted o (yielded ops a.tmps)):xJ P ops C e w o v a':=by
 unfold xJ qy at *;rw[c,b];exact d
def xJ.at{e w w' o v a}(b:xJ P ops C e w o v a)(h:e=true->w'=w):xJ P ops C e w' o v a:=by
 rcases b with⟨h1,⟨h2,h3⟩|h2⟩|h1;exact .inl ⟨h1,.inl ⟨h2,by rw[h h2];exact h3⟩⟩;exact .inl ⟨h1,.inr h2⟩;exact .inr h1
def xJ.op{loud free:Nat->Bool}{i o v a w}(hi:ops[i]?=some o)(b:loud i=false)(d:xJ P ops C (jCE md ops loud i) w o v a){K:Act->World->Prop}(h:K (a.put o.dst v) w):opM md P ops C loud free i K a w:=by
 unfold opM;simp only[hi,b];rcases d with⟨c,e⟩|⟨c,rfl⟩;grind;grind
def jME{loud free:Nat->Bool}{i o a w}{K:Act->World->Prop}(hi:ops[i]?=some o)(c:loud i=false)(h:opM md P ops C loud free i K a w):∃v,xJ P ops C (jCE md ops loud i) w o v a/\K (a.put o.dst v) w:=by
 unfold opM at h;simp only[hi,c]at h;by_cases b:Region.wanted o (yielded ops a.tmps)=true;simp only[b,if_true]at h;have⟨v,h1,h2⟩:=h;exact⟨v,.inl ⟨b,h1⟩,h2⟩;simp only[b]at h;exact⟨undef,.inr ⟨by simpa using b,rfl⟩,h⟩
def zGU{loud free:Nat->Bool}{j oi oj v}(z:ops[j]?=some oj)(p:oi.apart ops oj=true)(o:∀cs b,oi.op≠.select cs b)(l:∀cs b,oj.op≠.select cs b){K:Act->World->Prop}{a w}{e}(c:loud j=true->e=false)(A:xJ P ops C e w oi v a)(h:opM md P ops C loud free j K (a.put oi.dst v) w):
  opM md P ops C loud free j (fun s w'=>xJ P ops C e w' oi v s/\K (s.put oi.dst v) w') a w:=by
 have⟨h1,h2,h3⟩:=Oper.apart_spec p
 have keep:∀u,xJ P ops C e w oi v<|a.put oj.dst u:=fun u =>
  A.of_same (execOp_put oi o a oj.dst u h3)<|wanted_put oi a oj.dst u h3
 unfold opM at *
 simp only[z]at *
 rw[wanted_put oj a oi.dst v h1]at h
 split
 .rename_i m
  simp only[m,if_true]at h
  split
  .rename_i d
   simp only[d,if_true]at h
   unfold yld at *
   rw[execOp_put oj l a oi.dst v h1]at h
   generalize (execOp a.eval oj).run P w=r at *
   cases r with
   |ok n w' =>
    cases n<;>simp only at h|-
    case value u=>exact⟨h.1,(keep u).at Gd,by rw[<-Act.put_comm a v u h2];exact h.2⟩
    case skip=>exact⟨h.1,(keep _).at (fun h=>by rw[c d]at h;cases h),by rw[<-Act.put_comm a v undef h2];exact h.2⟩
    case enter f args=>exact h.mono fun e i ⟨u,q,k,g⟩=>⟨u,q,k,(keep u).at (fun h=>by rw[c d]at h;cases h),by rw[<-Act.put_comm a v u h2];exact g⟩
    case row f args=>exact h.mono fun u i ⟨k,g⟩=>⟨k,(keep u).at (fun h=>by rw[c d]at h;cases h),by rw[<-Act.put_comm a v u h2];exact g⟩
    case round=>exact RoundIn.mono h fun e i ⟨u,q,k,g⟩=>⟨u,q,k,(keep u).at (fun h=>by rw[c d]at h;cases h),by rw[<-Act.put_comm a v u h2];exact g⟩
   |halt x w'=>exact h.elim
  .rename_i d
   simp only[d]at h
   have⟨u,t,y⟩:=h
   refine⟨u,?_,keep u,by rw[<-Act.put_comm a v u h2];exact y⟩
   unfold qy at *
   rwa [execOp_put oj l a oi.dst v h1]at t
 .rename_i m
  simp only[m]at h
  exact⟨keep _,by rw[<-Act.put_comm a v undef h2];exact h⟩
def jJS{i:Nat}{f:Oper}{a:Array Bool}(hr:i∈Region.ready md ops a)(b:∀e∈f.after,Region.binds md e=true->a.getD e.on false=true):
  ∀e∈f.after,Region.binds md e=true->e.on≠i:=fun e h g c=>by
 have h1:=b e h g
 have j:=(mem_ready.1 hr).1
 rw[c]at h1
 rcases Nat.lt_or_ge i a.size with d|d
 grind
 simp[Array.getElem?_eq_none d]at h1
def jOA{loud free:Nat->Bool}{r:Nat->Array Bool}{Q:Act->World->Prop}(I:Good md ops loud free r)(z:∀i,i<ops.size->r i=jNH md ops i){i oi v}(hi:ops[i]?=some oi)(m:loud i=false)(s:∀(j:Nat) (o:Oper) cs b,ops[j]?=some o->o.op≠.select cs b):
  ∀(f:Nat) (c:Array Bool) (a:Act) (w:World),C w->jHI ops.size loud r c ->
   (∀j x,ops[j]?=some x->j≠i->c.getD j true=false->(∀e∈x.after,Region.binds md e=true->e.on≠i)->oi.apart ops x=true) ->
   i∈Region.ready md ops c->xJ P ops C (jCE md ops loud i) w oi v a ->
   jIN P md ops C loud free Q f (c.setIfInBounds i true) (a.put oi.dst v) w->jIN P md ops C loud free Q (f+1) c a w:=by
 intro f
 induction f with
 |zero =>
  intro c a w _ _ _ hr B H
  refine⟨fun h=>(by rw[h]at hr;cases hr),fun j q=>?_⟩
  by_cases d:j=i
  subst d;exact B.op hi m H
  have:=ready_mono q d
  rw[H.1]at this
  cases this
 |succ f O =>
  intro c a w N J g hr B H
  refine⟨fun h=>(by rw[h]at hr;cases hr),fun j q=>?_⟩
  by_cases d:j=i
  subst d;exact B.op hi m H
  have h1:=H.2 j<|ready_mono q d
  have⟨n,x,p,t⟩:=mem_ready.1 q
  have F:loud j=true->jCE md ops loud i=false:=fun E=>by
   cases S:jCE md ops loud i with
   |false=>rfl
   |true =>
    have A:=(Array.getElem?_eq_some_iff.1 hi).1
    have L:=(Array.getElem?_eq_some_iff.1 p).1
    have h1:=I.inFar J A m (mem_ready.1 hr).1 q d
    have h2:=List.all_eq_true.1 S j<|List.mem_range.2 L
    rw[E]at h2
    have h3:(jNH md ops i).getD j false=true:=z i A▸h1
    rw[h3]at h2;cases h2
  have h2:=zGU (e:=jCE md ops loud i) p (g j x p d n<|jJS hr t) (fun cs b=>s i oi cs b hi) Gd F B h1
  have l : ∀ k ok, ops[k]? = some ok -> k ≠ i -> (c.setIfInBounds j true).getD k true = false ->
    (∀e∈ok.after,Region.binds md e=true->e.on≠i)->oi.apart ops ok=true:=fun k ok T D u K=>by
   refine g k ok T D ?_ K
   by_cases y:j=k
   subst y;exact n
   rw[getD_set_ne true y]at u;exact u
  have G:¬(loud j=true/\free j=true):=fun⟨h1,h2⟩=>by
   have:=I.free J q h1 h2 i (Array.getElem?_eq_some_iff.1 hi).1 m;rw[(mem_ready.1 hr).1]at this;cases this
  refine zCV (fun R w' M h3=>O (c.setIfInBounds j true) R w' (M.resolve_right G) (I.step J q) l (ready_mono hr<|Ne.symm d) h3.1 ?_) (fun _=>N) (.inl N) h2
  rw[Array.setIfInBounds_comm _ _ d]
  exact h3.2
def jSQ(md:Region.Mode)(ops:Array Oper)(loud free:Nat->Bool):Bool:=
 (List.range ops.size).all fun i=>loud i ||(let f:=jNH md ops i
  f.size==ops.size&&(Region.ready md ops f).all (·==i)&&(List.range ops.size).all fun j=>!free j ||!f.getD j false)
def jUO(md:Region.Mode)(ops:Array Oper)(i:Nat):Array Bool:=if i<ops.size then jNH md ops i else Array.replicate ops.size true
def jPJ{loud free:Nat->Bool}(h:jSQ md ops loud free=true):Good md ops loud free (jUO md ops):=by
 have d:∀i,i<ops.size->loud i=false->(jNH md ops i).size=ops.size/\(∀j∈Region.ready md ops (jNH md ops i),j=i)/\∀j,j<ops.size->free j=true->(jNH md ops i).getD j false=false:=fun i hi b=>by
  have:=List.all_eq_true.1 h i<|List.mem_range.2 hi;simp only[b,Bool.false_or,Bool.and_eq_true,beq_iff_eq,List.all_eq_true,List.mem_range,Bool.or_eq_true,Bool.not_eq_true']at this;exact⟨this.1.1,this.1.2,fun j a c=>by rcases this.2 j a with h|h;rw[c]at h;cases h;exact h⟩
 refine⟨fun i b=>?_,fun i b j a=>?_,fun i hi b j a c=>?_⟩;unfold jUO;split;grind;simp;unfold jUO at a;split at a;grind;have⟨e,o,f,_⟩:=mem_ready.1 a;have:=(Array.getElem?_eq_some_iff.1 f).1;simp[this]at e;unfold jUO;rw[if_pos hi];exact(d i hi b).2.2 j a c
def jGU{n m}{loud:Nat->Bool}{b:Nat->Array Bool}:jHI n loud b (Array.replicate m false):=fun i _ _ _ k c=>by
 exfalso;rcases Nat.lt_or_ge k m with a|a;simp[a]at c;simp[a]at c
def jVC(P:Program)(md:Region.Mode)(ops:Array Oper)(C:World->Prop)(loud free:Nat->Bool)(Q:Act->World->Prop):Nat->Array Bool->Act->World->Prop
 |0,b,a,w=>Region.ready md ops b=[]/\Q a w
 |fuel+1,b,a,w =>
  (∃i,i∈Region.ready md ops b/\loud i=false/\Region.free md ops b i=true/\opM md P ops C loud free i (jVC P md ops C loud free Q fuel<|b.setIfInBounds i true) a w) \/
  ((Region.ready md ops b=[]->Q a w)/\∀i∈Region.ready md ops b,opM md P ops C loud free i (jVC P md ops C loud free Q fuel<|b.setIfInBounds i true) a w)
def jDN{loud free:Nat->Bool}{g:Nat->Array Bool}{Q:Act->World->Prop}(k:Good md ops loud free g)(c:∀i,i<ops.size->g i=jNH md ops i)(hs:Region.noSelect ops=true):∀(fuel:Nat) (b:Array Bool) (a:Act) (w:World),(C w\/xY loud ops.size b)->jHI ops.size loud g b ->
  jVC P md ops C loud free Q fuel b a w->jIN P md ops C loud free Q fuel b a w
 |0,_,_,_,_,_,h=>h
 |fuel+1,b,a,w,r,n,h=>by
  rcases h with⟨i,hr,j,p,h⟩|⟨s,h⟩;have⟨u,o,d,_⟩:=mem_ready.1 hr;have l:C w:=by
   rcases r with h|h;exact h;have:=h i (Array.getElem?_eq_some_iff.1 d).1 j;rw[u]at this;cases this
  have⟨v,y,x⟩:=jME d j h;exact jOA k c d j (Region.noSelect_spec hs) fuel b a w l n (Region.free_spec d p) hr y<|jDN k c hs fuel _ _ _ (.inl l) (k.step n hr) x;refine⟨s,fun i hi=>?_⟩;have hh:=h i hi;have e:∀a w,(C w\/xY loud ops.size (b.setIfInBounds i true))->jVC P md ops C loud free Q fuel (b.setIfInBounds i true) a w->jIN P md ops C loud free Q fuel (b.setIfInBounds i true) a w:=fun a w m h=>jDN k c hs fuel _ a w m (k.step n hi) h;have f:C w\/xY loud ops.size (b.setIfInBounds i true):=r.imp id fun h=>h.set i;unfold opM at hh|-;split;rename_i d;simp only[d]at hh;exact e _ _ f hh;rename_i o d;simp only[d]at hh;split;rename_i q;simp only[q,if_true]at hh;split;rename_i j;simp only[j,if_true]at hh;exact oX hh fun v w' ⟨m,t⟩=>⟨m,e _ _ (m.elim (fun p=>.inr<|(k.free n hi j p).set i) .inl) t⟩;grind;grind
def jMG{ro:Option Nat}{m id}{Q:Exit->Act->World->Prop}{a w}(C)(loud free:Nat->Bool)(hm:P.follows .mixedOrders=true)(hs:Region.noSelect ops=true)(d:jSQ .any ops loud free=true)(c:C { w with drawn:=w.drawn+1 })(h:jVC P .any ops C loud free (fun b w'=>Q .normal b w') ops.size (Array.replicate ops.size false) a { w with drawn:=w.drawn+1 }):(Code.region id ops true).wpIn (fen ro) m P Q a w:=
 wpIn_region_any hm<|jLA (Q':=Q) (jPJ d) (fun _ _ h=>h) _ _ _ _ (.inl c) jGU<|jDN (md:=.any) (Q:=fun b w'=>Q .normal b w') (jPJ d) (fun i hi=>if_pos hi) hs _ _ _ _ (.inl c) jGU h
end
abbrev Env:=Nat->Value
def upd(ρ:Env)(d:Nat)(v:Value):Env:=fun i=>if i=d then v else ρ i
def put(ρ:Env)(d:Option Nat)(v:Value):Env:=match d with|some d=>upd ρ d v|none=>ρ
def evE(ρ:Env):Operand->Value
 |.tmp t=>ρ t
 |.const v=>v
 |.global g=>.pointer<|some ⟨g,0,none⟩
 |.func f=>.func (.func f) #[] #[]
def uK(l:List Value):Env:=fun i=>l.getD i undef
structure Rep(ds:List Deferred)(n:Nat)(ρ:Env)(a:Act):Prop where
 defers:a.defers=ds
 size:a.tmps.size=n
 get:∀t,a.tmps.getD t undef=ρ t
def Rep.eval{ds:List Deferred}{n ρ a}(h:Rep ds n ρ a):a.eval=evE ρ:=by
 funext x;cases x with
 |tmp t=>exact h.get t
 |_=>rfl
def Rep.put{ds:List Deferred}{n ρ a}(h:Rep ds n ρ a){d:Option Nat}(c:∀k,d=some k->k<n)(v):Rep ds n (SE.put ρ d v) (a.put d v):=by
 cases d with
 |none=>exact h
 |some k =>
  refine⟨h.defers,by simp[Act.put,h.size],fun t=>?_⟩
  have b:=c k rfl
  simp only[Act.put,SE.put,upd]
  by_cases ht:t=k
  subst ht;simp[h.size,b]
  rw[if_neg ht,<-h.get t];simp[Array.getElem?_setIfInBounds_ne<|Ne.symm ht]
def zK(ops:Array Oper)(ρ:Env)(j:Nat):Option Bool:=
 match(ops[j]?).bind (·.dst)with
 |some d=>match ρ d with|.bool b=>some b|_=>none
 |none=>none
def Rep.yielded{ds:List Deferred}{n ρ a}(h:Rep ds n ρ a)(ops):yielded ops a.tmps=zK ops ρ:=by
 funext j;unfold Go.yielded zK;cases(ops[j]?).bind (·.dst)with
 |none=>rfl
 |some d =>
  simp only[Option.bind_some]
  have:=h.get d
  rw[Array.getD_eq_getD_getElem?]at this
  cases b:a.tmps[d]? with
  |none=>rw[b]at this;simp only[Option.getD_none]at this;rw[<-this];rfl
  |some v=>rw[b]at this;simp only[Option.getD_some]at this;rw[<-this];cases v<;>rfl
def mark(D:Nat):Deferred:={ target:=.collected D,args:=#[] }
structure Cx where
 ro:Option Nat
 ds:List Deferred
def jWI(x:Cx)(n:Nat)(Q:Exit->Env->World->Prop):Exit->Act->World->Prop:=fun e a w =>
 ∃ρ,(Rep x.ds n ρ a/\Q e ρ w)\/(e=.ret/\x.ro=none/\x.ds=[]/\∃D,Rep [mark D] n ρ a/\w.heap[D]?=some (.deferred<|some [])/\Q .ret ρ (w.putObj D<|.deferred none))
def wpE{x:Cx}(P:Program)(n:Nat)(c:Code)(Q:Exit->Env->World->Prop)(ρ:Env)(w:World):Prop:=∀a,Rep x.ds n ρ a->c.wpIn (fen x.ro) 0 P (jWI x n Q) a w
def jDP(next:Env->World->Prop)(Q:Exit->Env->World->Prop):Exit->Env->World->Prop
 |.normal,ρ,w=>next ρ w
 |e,ρ,w=>Q e ρ w
def jDL(id:Nat)(Q:Exit->Env->World->Prop):Exit->Env->World->Prop
 |.exit a,ρ,w=>if a=id then Q .normal ρ w else Q (.exit a) ρ w
 |e,ρ,w=>Q e ρ w
section
variable {x:Cx} {P:Program} {n:Nat} {Q:Exit->Env->World->Prop} {ρ:Env} {w:World}
def jZI{Q'}(b:∀e ρ w,Q e ρ w->Q' e ρ w){e a}(h:jWI x n Q e a w):jWI x n Q' e a w:=by
 obtain⟨ρ,⟨h1,h2⟩|⟨h1,h2,h3,D,c,f,d⟩⟩:=h;exact⟨ρ,.inl ⟨h1,b _ _ _ h2⟩⟩;exact⟨ρ,.inr ⟨h1,h2,h3,D,c,f,b _ _ _ d⟩⟩
def jJU{a}(h:jWI x n Q .normal a w):∃ρ,Rep x.ds n ρ a/\Q .normal ρ w:=by
 obtain⟨ρ,h|⟨h,_⟩⟩:=h;exact⟨ρ,h⟩;cases h
def jEP{c Q'}(d:∀e ρ w,Q e ρ w->Q' e ρ w)(h:wpE (x:=x) P n c Q ρ w):wpE (x:=x) P n c Q' ρ w:=
 fun a b=>wpIn_mono (h a b) fun _ _ _ h=>jZI d h
def vB(h:Q .normal ρ w):wpE (x:=x) P n .skip Q ρ w:=fun _ a=>wpIn_skip ⟨ρ,.inl ⟨a,h⟩⟩
def jRP(h:Q .ret ρ w):wpE (x:=x) P n .ret Q ρ w:=fun _ a=>wpIn_ret ⟨ρ,.inl ⟨a,h⟩⟩
def jAX{id}(h:Q (.exit id) ρ w):wpE (x:=x) P n (.exit id) Q ρ w:=fun _ a=>wpIn_exit ⟨ρ,.inl ⟨a,h⟩⟩
def jNZ{l}(h:Q .normal ρ w):wpE (x:=x) P n (.label l) Q ρ w:=fun _ a=>wpIn_label ⟨ρ,.inl ⟨a,h⟩⟩
def zL{c y}(h:wpE (x:=x) P n c (jDP (fun ρ w=>wpE (x:=x) P n y Q ρ w) Q) ρ w):wpE (x:=x) P n (.seq c y) Q ρ w:=fun a f =>
 wpIn_seq (wpIn_mono (h a f) (fun e a w b=>by
  cases e with
  |normal=>have⟨g,hr,d⟩:=jJU b;exact d a hr
  |_=>exact b))
def jCR{c y z t}(e:evE ρ c=.bool t)(ht:t=true->wpE (x:=x) P n y Q ρ w)(d:t=false->wpE (x:=x) P n z Q ρ w):wpE (x:=x) P n (.cond c y z) Q ρ w:=
 fun a b=>wpIn_cond_split (by rw[b.eval];exact e) (fun h=>ht h a b) fun h=>d h a b
def jXY{c y z}(d:evE ρ c=.bool true)(h:wpE (x:=x) P n y Q ρ w):wpE (x:=x) P n (.cond c y z) Q ρ w:=
 fun a b=>wpIn_cond_true (by rw[b.eval];exact d) (h a b)
def jXZ{c y z}(d:evE ρ c=.bool false)(h:wpE (x:=x) P n z Q ρ w):wpE (x:=x) P n (.cond c y z) Q ρ w:=
 fun a b=>wpIn_cond_false (by rw[b.eval];exact d) (h a b)
def qD{id c}(h:wpE (x:=x) P n c (jDL id Q) ρ w):wpE (x:=x) P n (.block id c) Q ρ w:=fun a i =>
 wpIn_block (wpIn_mono (h a i) (fun e a w f=>by
  cases e with
  |exit g =>
   obtain⟨d,⟨hr,b⟩|⟨h,_⟩⟩:=f
   simp only[jDL]at b
   simp only[Exit.inBlock]
   split
   rename_i h;rw[if_pos h]at b;exact⟨d,.inl ⟨hr,b⟩⟩
   rename_i h;rw[if_neg h]at b;exact⟨d,.inl ⟨hr,b⟩⟩
   cases h
  |_=>exact f))
def jNY{c}(j:x.ro=none)(d:∀l ρ w,¬Q (.goto l) ρ w)(h:wpE (x:=x) P n c Q ρ w):wpE (x:=x) P n (.scope c) Q ρ w:=fun a i=>by
 have h:=h a i;rw[j]at h|-;refine wpIn_wide.2<|wp_scope_straight<|Code.wp_mono (fun e a w b=>?_)<|wpIn_wide.1 h;cases e with
 |goto l =>
  obtain⟨f,⟨_,g⟩|⟨h,_⟩⟩:=b
  exact(d l f w g).elim
  cases h
 |_=>exact b
def jAW{c}{σ:Type}(I:σ->Env->World->Prop)(μ:σ->Nat)(s0:σ)(B:I s0 ρ w)(h:∀s ρ w,I s ρ w->wpE (x:=x) P n c (jDP (fun E w'=>∃s',I s' E w'/\μ s'<μ s) Q) ρ w):wpE (x:=x) P n (.loop c) Q ρ w:=by
 intro a F b k cs t p f;have key:∀m s ρ a w,μ s=m->Rep x.ds n ρ a->I s ρ w->∃e o w',jWI x n Q e o w'/\ArrivesIn (Machine.fenced P<|fen x.ro) P (lone (b.atR a (.code c ::.inLoop c ::k)) cs w) b k cs e o w':=by
  intro m;induction m using Nat.strongRecOn with
  |_ m A =>
   intro s ρ a w hm hr D
   have⟨e,a1,j,i,d⟩:=h s ρ w D a hr b (.inLoop c ::k) cs t p f
   cases e with
   |normal =>
    have⟨G,r,s',v,u⟩:=jJU i
    have⟨y,a2,C,q,g⟩:=A (μ s') (hm▸u) s' G a1 j rfl r v
    exact⟨y,a2,C,q,.of_steps (StepsIn.trans d<|.one (fenced_calm p f rfl) stepR_inLoop) g⟩
   |exit id=>exact⟨_,a1,j,i,.pass (x:=.inLoop c) rfl (fun _ _=>.inl Sm) d⟩
   |goto l=>exact⟨_,a1,j,i,.pass (x:=.inLoop c) rfl (fun _ _=>.inl Sm) d⟩
   |ret=>exact⟨_,a1,j,i,.pass (x:=.inLoop c) rfl (fun _ _=>.inl Sm) d⟩
   |panic H=>exact⟨_,a1,j,i,.pass (x:=.inLoop c) rfl (fun _ _=>.inl Sm) d⟩
   |outgrown=>exact⟨_,a1,j,i,.pass (x:=.inLoop c) rfl (fun _ _=>.inl Sm) d⟩
 have⟨e,o,w',z,d⟩:=key _ s0 ρ a w rfl F B;exact⟨e,o,w',z,.of_steps (.one (fenced_calm p f rfl) stepR_loop) d⟩
def wpL(P:Program)(ops:Array Oper)(Q:Env->World->Prop):List Oper->Env->World->Prop
 |[],ρ,w=>Q ρ w
 |o :: a,ρ,w =>
  if Region.wanted o (zK ops ρ)then yld P o (evE ρ) w fun v w'=>wpL P ops Q a (put ρ o.dst v) w'
  else wpL P ops Q a (put ρ o.dst undef) w
def oV(n:Nat)(l:List Oper):Bool:=l.all fun o=>match o.dst with|some d=>d<n|none=>true
def jKE{o l}(h:oV n (o ::l)=true):(∀k,o.dst=some k->k<n)/\oV n l=true:=by
 simp only[oV,List.all_cons,Bool.and_eq_true]at h;refine⟨fun k a=>?_,h.2⟩;have:=h.1;rw[a]at this;simpa using this
def jAV{ops Q'}(c:∀ρ a w,Rep x.ds n ρ a->Q' ρ w->jWI x n Q .normal a w):∀(l:List Oper) (ρ:Env) (a:Act) (w:World),oV n l=true->Rep x.ds n ρ a->wpL P ops Q' l ρ w->wpListIn (fen x.ro) 0 P ops (jWI x n Q) l a w
 |[],ρ,a,w,_,hr,h=>c _ _ _ hr h
 |o :: l,ρ,a,w,g,hr,h=>by
  have⟨e,b⟩:=jKE g;unfold wpL at h;unfold wpListIn;rw[hr.yielded];split;rename_i d;rw[if_pos d]at h;apply jIJ;rw[hr.eval];exact oX h fun v w' hh=>jAV c l _ _ _ b (hr.put e v) hh;rename_i d;rw[if_neg d]at h;exact⟨fun f _=>jPQ x.ro f,jAV c l _ _ _ b (hr.put e undef) h⟩
def jKZ{id l}(e:oV n l=true)(h:wpL P l.toArray (fun ρ w=>Q .normal ρ w) l ρ w):wpE (x:=x) P n (.region id l.toArray false) Q ρ w:=fun a b =>
 wpIn_region_lit<|jAV (fun d _ _ hr c=>⟨d,.inl ⟨hr,c⟩⟩) l ρ a w e b h
def opE(P:Program)(ops:Array Oper)(C:World->Prop)(loud free:Nat->Bool)(i:Nat)(K:Env->World->Prop)(ρ:Env)(w:World):Prop:=
 match ops[i]? with
 |none=>K ρ w
 |some o =>
  if Region.wanted o (zK ops ρ)then
   (if loud i then yld P o (evE ρ) w fun v w'=>(free i=true\/C w')/\K (put ρ o.dst v) w'
   else ∃v,((jCE .any ops loud i=true/\qy P o (evE ρ) w v)\/∀w',C w'->qy P o (evE ρ) w' v)/\K (put ρ o.dst v) w)
  else K (put ρ o.dst undef) w
def wpX(P:Program)(ops:Array Oper)(C:World->Prop)(loud free:Nat->Bool)(Q:Env->World->Prop):Nat->Array Bool->Env->World->Prop
 |0,a,ρ,w=>Region.ready .any ops a=[]/\Q ρ w
 |fuel+1,a,ρ,w =>
  (∃i,i∈Region.ready .any ops a/\loud i=false/\Region.free .any ops a i=true/\opE P ops C loud free i (wpX P ops C loud free Q fuel<|a.setIfInBounds i true) ρ w) \/
  ((Region.ready .any ops a=[]->Q ρ w)/\∀i∈Region.ready .any ops a,opE P ops C loud free i (wpX P ops C loud free Q fuel<|a.setIfInBounds i true) ρ w)
def jLL{ds:List Deferred}{ops:Array Oper}{C:World->Prop}{loud free:Nat->Bool}{i:Nat}{K:Env->World->Prop}{g:Act->World->Prop}(b:∀ρ a w,Rep ds n ρ a->K ρ w->g a w)(l:∀o,ops[i]?=some o->∀k,o.dst=some k->k<n){a:Act}(hr:Rep ds n ρ a)(h:opE P ops C loud free i K ρ w):opM .any P ops C loud free i g a w:=by
 unfold opE at h;unfold opM;cases f:ops[i]? with
 |none=>rw[f]at h;exact b _ _ _ hr h
 |some o =>
  rw[f]at h
  have c:=l o f
  simp only at h|-
  rw[hr.yielded]
  split
  rename_i e
  rw[if_pos e]at h
  rw[hr.eval]
  split
  rename_i d
  rw[if_pos d]at h
  exact oX h fun v w' ⟨j,hh⟩=>⟨j,b _ _ _ (hr.put c v) hh⟩
  rename_i d
  rw[if_neg d]at h
  have⟨v,h1,h2⟩:=h
  exact⟨v,h1,b _ _ _ (hr.put c v) h2⟩
  rename_i e
  rw[if_neg e]at h
  exact b _ _ _ (hr.put c undef) h
def jBS{ds:List Deferred}{ops C}{loud free:Nat->Bool}{Q'}{c:Act->World->Prop}(d:∀ρ a w,Rep ds n ρ a->Q' ρ w->c a w)(f:∀(i:Nat) (o:Oper),ops[i]?=some o->∀k,o.dst=some k->k<n):∀(fuel:Nat) (b:Array Bool) (ρ:Env) (a:Act) (w:World),Rep ds n ρ a->wpX P ops C loud free Q' fuel b ρ w->jVC P .any ops C loud free c fuel b a w
 |0,_,_,_,_,hr,h=>⟨h.1,d _ _ _ hr h.2⟩
 |fuel+1,b,ρ,a,w,hr,h=>by
  rcases h with⟨i,h1,h2,h3,g⟩|⟨j,h⟩;exact .inl ⟨i,h1,h2,h3,jLL (fun ρ a w hr h=>jBS d f fuel _ ρ a w hr h) (f i) hr g⟩;exact .inr ⟨fun e=>d _ _ _ hr<|j e,fun i hi=>jLL (fun ρ a w hr h=>jBS d f fuel _ ρ a w hr h) (f i) hr<|h i hi⟩
def vS(l:List Nat)(k:Nat):Bool:=l.contains k
def jWQ{l}(h:oV n l=true)(i:Nat)(o)(b:l.toArray[i]?=some o)(k:Nat)(a:o.dst=some k):k<n:=by
 have hm:o∈l:=Gd;have:=(List.all_eq_true.1 h) o hm;rw[a]at this;simpa using this
def jIK{id l}(C loud free)(hm:P.follows .mixedOrders=true)(d:oV n l=true)(hB:Region.noSelect l.toArray=true)(g:jSQ .any l.toArray (vS loud) (vS free)=true)(b:C { w with drawn:=w.drawn+1 })(h:wpX P l.toArray C (vS loud) (vS free) (fun ρ w=>Q .normal ρ w) l.toArray.size (Array.replicate l.toArray.size false) ρ { w with drawn:=w.drawn+1 }):wpE (x:=x) P n (.region id l.toArray true) Q ρ w:=fun a f =>
 jMG C (vS loud) (vS free) hm hB g b<|jBS (fun c _ _ hr e=>⟨c,.inl ⟨hr,e⟩⟩) (jWQ d) _ _ ρ a _ f h
def jFV(P:Program)(fn:Func)(n:Nat)(R:Ending->World->Prop):Exit->Env->World->Prop
 |.normal,ρ,w|.ret,ρ,w=>∃v,(∀ds a,Rep ds n ρ a->(results fn a.tmps).run P w=.ok v w)/\R (.returned v) w
 |_,_,_=>False
def jHU{n}(args)(a:args.length<=n):Rep [] n (uK args) { tmps:=args.toArray++Array.replicate (n-args.toArray.size) undef,defers:=[] }:=by
 refine⟨rfl,So,fun t=>?_⟩;simp only[uK,Array.getD_eq_getD_getElem?,List.getD_eq_getElem?_getD];by_cases h:t<args.length;rw[Array.getElem?_append_left<|by simpa using h];simp;rw[Array.getElem?_append_right<|by simpa using h];simp only[Array.getElem?_replicate];have:args[t]?=none:=by simpa using h
 rw[this];split<;>simp
def tE{fn tmps R v}(a:(results fn tmps).run P w=.ok v w)(b:R (.returned v) w):LeavesInM Fence.wide 0 P fn tmps R [] .returning w:=by
 exact⟨_,a,b⟩
def jCJ{f fn c args R}(m:P.funcs[f]?=some fn)(k:fn.body=some c)(l:fn.ntmps=n)(j:args.length<=n)(h:wpE (x:=⟨none,[]⟩) P n c (jFV P fn n R) (uK args) w):Calls P f args.toArray w R:=by
 subst l;refine callsIn_wide.1<|callsIn_of_wp_marks (n:=0) m k trivial ?_;refine wpIn_mono (h _<|jHU args j) ?_;rintro e a w' ⟨p,⟨hr,b⟩|⟨rfl,_,_,D,hr,o,b⟩⟩;have i:a.defers=[]:=hr.defers;cases e with
 |normal=>have⟨v,g,d⟩:=b;simp only[bodyPostM,i];exact tE (g _ a hr) d
 |ret=>have⟨v,g,d⟩:=b;simp only[bodyPostM,i];exact tE (g _ a hr) d
 |exit _=>exact b.elim
 |goto _=>exact b.elim
 |panic _=>exact b.elim
 |outgrown=>exact b.elim
 have⟨v,g,d⟩:=b;have i:a.defers=[mark D]:=hr.defers;simp only[bodyPostM,i];exact⟨Sm,.inl ⟨D,_,rfl,run_takeDeferred o,tE (g _ a hr) d⟩⟩
def res1{fn t v R e}(d:e=.ret\/e=.normal)(hr:fn.results=#[.tmp t])(c:ρ t=v)(h:R (.returned v) w):jFV P fn n R e ρ w:=by
 rcases d with rfl|rfl<;>exact⟨v,fun _ a b=>by rw[results_tmp hr,b.get,c],h⟩
def res0{fn R e}(b:e=.ret\/e=.normal)(hr:fn.results=#[])(h:R (.returned<|.tuple #[]) w):jFV P fn n R e ρ w:=by
 rcases b with rfl|rfl<;>exact⟨_,fun _ a _=>by rw[results_none hr],h⟩
def res2{fn t u v v' R e}(f:e=.ret\/e=.normal)(hr:fn.results=#[.tmp t,.tmp u])(d:ρ t=v)(b:ρ u=v')(h:R (.returned<|.tuple #[v,v']) w):jFV P fn n R e ρ w:=by
 rcases f with rfl|rfl<;>exact⟨_,fun _ a c=>by rw[results_tmp2 hr,c.get,c.get,d,b],h⟩
def jOK{fn}{ts:List Nat}(hr:fn.results=(ts.map ResultVar.tmp).toArray)(tmps)(a:ts.length≠1):(results fn tmps).run P w=.ok (.tuple (ts.map fun t=>tmps.getD t undef).toArray) w:=by
 have key:∀(f:ResultVar->Sem Value),(∀t,f (.tmp t)=pure (tmps.getD t undef))->∀(l:List Nat) (w:World),((l.map ResultVar.tmp).mapM f).run P w=.ok (l.map fun t=>tmps.getD t undef) w:=by
  intro f c l;induction l with
  |nil=>intro w;rfl
  |cons t l b=>intro w;rw[List.map_cons,List.mapM_cons,c];simp only[Sem.run_bind,Sem.run_pure,Result.andThen,b w,List.map_cons]
 unfold results;rw[hr,List.mapM_toArray];rw[Sem.run_bind,Sem.run_map,key _ fun _=>rfl];simp only[Result.andThen,Sem.run_pure];simp[a]
def res3{fn}{t u s:Nat}{v v' v'' R e}(g:e=.ret\/e=.normal)(hr:fn.results=#[.tmp t,.tmp u,.tmp s])(d:ρ t=v)(c:ρ u=v')(b:ρ s=v'')(h:R (.returned<|.tuple #[v,v',v'']) w):jFV P fn n R e ρ w:=by
 rcases g with rfl|rfl<;>exact⟨_,fun _ a f=>by rw[jOK (ts:=[t,u,s]) hr _ Sm];simp only[List.map_cons,List.map_nil,f.get,d,c,b],h⟩
end
end Go.SE
end
section
namespace Go.SE
structure Sl where
 a:Option Addr
 len:Nat
 cap:Nat
def Sl.v(s:Sl):Value:=.slice s.a s.len s.cap
def Sl.nil:Sl:=⟨none,0,0⟩
def Br(c:Bool)(A B:Prop):Prop:=(c=true->A)/\(c=false->B)
def Row(w:World)(a:Addr)(vs:List Value):Prop:=∀i,i<vs.length->w.cell? (a.add i)=vs[i]?
def zV(w:World)(a:Addr):Prop:=(∃u,w.cell? a=some u)/\w.frozen? a=false
def storeRowFrom(w:World)(a:Addr):Nat->List Value->World
 |_,[]=>w
 |i,v :: vs=>storeRowFrom (w.setCell (a.add i) v) a (i+1) vs
def storeRow(w:World)(a:Addr)(vs:List Value):World:=storeRowFrom w a 0 vs
def vE:Value->Bool
 |.agg _|.tuple _=>false
 |_=>true
section layers
variable {next:Env->World->Prop} {Q:Exit->Env->World->Prop} {ρ:Env} {w:World} {id id':Nat}
def uZ(h:next ρ w):jDP next Q .normal ρ w:=h
def jYH(h:Q (.exit id) ρ w):jDP next Q (.exit id) ρ w:=h
def jMM(h:Q .ret ρ w):jDP next Q .ret ρ w:=h
def zBB(h:Q .normal ρ w):jDL id Q .normal ρ w:=h
def zBA(h:Q .ret ρ w):jDL id Q .ret ρ w:=h
def jXK(h:Q .normal ρ w):jDL id Q (.exit id) ρ w:=by simpa[jDL]using h
def bl_ne(a:(id'==id)=false)(h:Q (.exit id') ρ w):jDL id Q (.exit id') ρ w:=by
 have:¬id'=id:=by simpa using a
 simpa[jDL,this]using h
end layers
section
variable {P:Program} {ops:Array Oper} {Q:Env->World->Prop} {ρ:Env} {w w':World} {rest:List Oper} {o:Oper} {v:Value}
def vH(h:Q ρ w):wpL P ops Q [] ρ w:=h
def yE{j d:Nat}{c t:Bool}(b:(ops[j]?).bind (·.dst)=some d)(a:ρ d=.bool c)(e:c=t):zK ops ρ j=some t:=by
 unfold zK;rw[b];simp only[a,e]
def qE{y:Nat->Option Bool}(a:o.guard=none):Region.wanted o y=true:=by simp[Region.wanted,a]
def want1{y:Nat->Option Bool}{j t}(b:o.guard=some (j,t))(a:y j=some t):Region.wanted o y=true:=by simp[Region.wanted,b,a]
def zEW{y:Nat->Option Bool}{j t u}(c:o.guard=some (j,t))(b:y j=some u)(a:(u==t)=false):Region.wanted o y=false:=by
 have:¬u=t:=by simpa using a
 simp[Region.wanted,c,b,this]
def st(a:Region.wanted o (zK ops ρ)=true)(hr:(execOp (evE ρ) o).run P w=.ok (.value v) w')(h:wpL P ops Q rest (put ρ o.dst v) w'):wpL P ops Q (o ::rest) ρ w:=by
 unfold wpL;rw[if_pos a];unfold yld;rw[hr];exact h
def stp(a:Region.wanted o (zK ops ρ)=true)(hr:(execOp (evE ρ) o).run P w=.ok (.value v) w)(h:wpL P ops Q rest (put ρ o.dst v) w):wpL P ops Q (o ::rest) ρ w:=st a hr h
def jDR(a:Region.wanted o (zK ops ρ)=true)(hr:(execOp (evE ρ) o).run P w=.ok .skip w')(h:wpL P ops Q rest (put ρ o.dst undef) w'):wpL P ops Q (o ::rest) ρ w:=by
 unfold wpL;rw[if_pos a];unfold yld;rw[hr];exact h
def jTL(a:Region.wanted o (zK ops ρ)=false)(h:wpL P ops Q rest (put ρ o.dst undef) w):wpL P ops Q (o ::rest) ρ w:=by
 unfold wpL;rw[if_neg (by rw[a];simp)];exact h
def jRT{f args}(b:Region.wanted o (zK ops ρ)=true)(hr:(execOp (evE ρ) o).run P w=.ok (.enter f args) w')(h:Calls P f args w' fun e a=>∃v,e=.returned v/\wpL P ops Q rest (put ρ o.dst v) a):wpL P ops Q (o ::rest) ρ w:=by
 unfold wpL;rw[if_pos b];unfold yld;rw[hr];exact h
variable {C:World->Prop} {loud free:Nat->Bool} {k fuel:Nat} {listed:Array Bool}
def jXX(a:Region.ready .any ops listed=[])(h:Q ρ w):wpX P ops C loud free Q 0 listed ρ w:=⟨a,h⟩
def goes(ops:Array Oper)(listed:Array Bool)(loud:Nat->Bool)(k:Nat):Bool:=(Region.ready .any ops listed).contains k&&!loud k&&Region.free .any ops listed k
def qgo(a:goes ops listed loud k=true)(h:opE P ops C loud free k (wpX P ops C loud free Q fuel<|listed.setIfInBounds k true) ρ w):wpX P ops C loud free Q (fuel+1) listed ρ w:=by
 simp only[goes,Bool.and_eq_true,Bool.not_eq_true']at a;exact .inl ⟨k,by simpa using a.1.1,a.1.2,a.2,h⟩
def lgo(hr:Region.ready .any ops listed=[k])(h:opE P ops C loud free k (wpX P ops C loud free Q fuel<|listed.setIfInBounds k true) ρ w):wpX P ops C loud free Q (fuel+1) listed ρ w:=
 .inr ⟨Gd,fun i hi=>by rw[hr]at hi;simp at hi;subst hi;exact h⟩
variable {K:Env->World->Prop}
def sx(d:ops[k]?=some o)(b:Region.wanted o (zK ops ρ)=true)(a:loud k=false)(hr:∀w',C w'->(execOp (evE ρ) o).run P w'=.ok (.value v) w')(h:K (put ρ o.dst v) w):opE P ops C loud free k K ρ w:=by
 unfold opE;rw[d];simp only;rw[if_pos b,if_neg (by rw[a];simp)];exact⟨v,.inr fun w' c=>by unfold qy;rw[hr w' c];exact⟨rfl,rfl⟩,h⟩
def sxe(d:ops[k]?=some o)(b:Region.wanted o (zK ops ρ)=true)(a:loud k=false)(c:jCE .any ops loud k=true)(hr:(execOp (evE ρ) o).run P w=.ok (.value v) w)(h:K (put ρ o.dst v) w):opE P ops C loud free k K ρ w:=by
 unfold opE;rw[d];simp only;rw[if_pos b,if_neg (by rw[a];simp)];exact⟨v,.inl ⟨c,by unfold qy;rw[hr];exact⟨rfl,rfl⟩⟩,h⟩
def sx_not(b:ops[k]?=some o)(a:Region.wanted o (zK ops ρ)=false)(h:K (put ρ o.dst undef) w):opE P ops C loud free k K ρ w:=by
 unfold opE;rw[b];simp only;rw[if_neg (by rw[a];simp)];exact h
def sl(d:ops[k]?=some o)(b:Region.wanted o (zK ops ρ)=true)(a:loud k=true)(hr:(execOp (evE ρ) o).run P w=.ok (.value v) w')(c:free k=true\/C w')(h:K (put ρ o.dst v) w'):opE P ops C loud free k K ρ w:=by
 unfold opE;rw[d];simp only;rw[if_pos b,if_pos a];unfold yld;rw[hr];exact⟨c,h⟩
def jYL(d:ops[k]?=some o)(b:Region.wanted o (zK ops ρ)=true)(a:loud k=true)(hr:(execOp (evE ρ) o).run P w=.ok .skip w')(c:free k=true\/C w')(h:K (put ρ o.dst undef) w'):opE P ops C loud free k K ρ w:=by
 unfold opE;rw[d];simp only;rw[if_pos b,if_pos a];unfold yld;rw[hr];exact⟨c,h⟩
def zGK{f args}(d:ops[k]?=some o)(c:Region.wanted o (zK ops ρ)=true)(b:loud k=true)(hr:(execOp (evE ρ) o).run P w=.ok (.enter f args) w')(h:Calls P f args w' fun e a=>∃v,e=.returned v/\(free k=true\/C a)/\K (put ρ o.dst v) a):opE P ops C loud free k K ρ w:=by
 unfold opE;rw[d];simp only;rw[if_pos c,if_pos b];unfold yld;rw[hr];exact h
end
section
variable {P:Program} {ε:Operand->Value} {w w':World} {d:Option Tmp} {ty:TypeId} {pos:String} {aft:Array Edge} {g:Option (Nat×Bool)}
def x_run{o}{s:Sem Value}{v}(a:execOp ε o=(do pure (.value (<-s))))(hs:s.run P w=.ok v w'):(execOp ε o).run P w=.ok (.value v) w':=by
 rw[a];simp[hs]
def x_runU{o}{s:Sem Unit}(a:execOp ε o=(do s;pure .skip))(hs:s.run P w=.ok () w'):(execOp ε o).run P w=.ok .skip w':=by
 rw[a];simp[hs]
def xZ{T x a v}(b:ε x=.pointer (some a))(c:(isAgg T).run P w=.ok false w)(e:w.cell? a=some v):
  (execOp ε ⟨d,.load T x,ty,pos,aft,g⟩).run P w=.ok (.value v) w:=by
 simp[execOp,Instr.loadAt,Instr.sureAddr,b,loadVar,c,e]
def jAH(a:Addr)(vs:List Value):∀(n i:Nat) (b:Array Value),i+n=vs.length->(∀j,i<=j->j<vs.length->w.cell? (a.add j)=vs[j]?)->(loadCellsFrom a i n b).run P w=.ok (b++(vs.drop i).toArray) w:=by
 intro n;induction n with
 | zero => intro i b hi _; have : vs.drop i = []:=by simp; omega
           simp[loadCellsFrom,this]
 |succ n e =>
  intro i b hi h
  have c:i<vs.length:=Om
  have d:=h i (Nat.le_refl _) c
  rw[List.getElem?_eq_getElem c]at d
  have:=e (i+1) (b.push vs[i]) Om Gd
  simp only[loadCellsFrom,Sem.run_bind,run_load,d,Result.andThen_ok,this]
  rw[List.drop_eq_getElem_cons c]
  congr 1
  apply Array.ext'
  simp
def jRM{T x a}{n:Nat}{vs}(f:ε x=.pointer (some a))(c:(isAgg T).run P w=.ok true w)(hs:(sizeOf T).run P w=.ok n w)(h:vs.length=n)(b:Row w a vs):
  (execOp ε ⟨d,.load T x,ty,pos,aft,g⟩).run P w=.ok (.value<|.agg vs.toArray) w:=by
 have:=jAH (P:=P) (w:=w) a vs n 0 #[] Om fun j _ e=>b j e
 simp[execOp,Instr.loadAt,Instr.sureAddr,f,loadVar,c,hs,loadCells,this]
def jLF{a v}(h1:vE v=true)(d:zV w a):(store a v).run P w=.ok () (w.setCell a v):=by
 have⟨⟨u,c⟩,b⟩:=d;cases v<;>simp[vE]at h1<;>simp[store,Sem.run,c,b]
def tY{T x y a v}(f:ε x=.pointer (some a))(e:ε y=v)(h1:vE v=true)(hs:(sizeOf T).run P w=.ok 1 w)(c:zV w a):
  (execOp ε ⟨d,.store T x y,ty,pos,aft,g⟩).run P w=.ok .skip (w.setCell a v):=by
 have b:v.cells=#[v]:=by cases v<;>simp[vE]at h1<;>rfl
 have h:a.add 0=a:=by simp[Addr.add]
 simp[execOp,Instr.storeAt,Instr.sureAddr,f,e,storeVar,hs,b,storeCells,h,jLF h1 c]
def cell?_setCell_some{w:World}{p q:Addr}{x v:Value}(h:w.cell? q=some v):∃v',(w.setCell p x).cell? q=some v':=by
 unfold World.cell? at h|-;unfold World.setCell;simp only[Array.getElem?_modify];by_cases a:p.block=q.block;rw[if_pos a];split at h;rename_i c e f g;rw[g];by_cases hs:q.spot.isSome;simp[hs]at h;simp only[hs,Bool.false_eq_true,if_false]at h;simp only[Option.map_some,hs,Bool.false_eq_true,if_false];by_cases d:p.spot.isSome;grind;simp only[d,Bool.false_eq_true,if_false,Array.getElem?_setIfInBounds];have b:=(Array.getElem?_eq_some_iff.1 h).1;split;grind;exact⟨v,h⟩;cases h;grind
def zV.setCell{w a b u}(h:zV w a):zV (w.setCell b u) a:=
 ⟨let ⟨_,hx⟩:=h.1;cell?_setCell_some hx,by rw[World.frozen?_setCell];exact h.2⟩
def jFA(a):∀(vs:List Value) (i:Nat) (w:World),(∀v∈vs,vE v=true)->(∀j,j<vs.length->zV w (a.add<|i+j))->(storeCells a vs i).run P w=.ok () (storeRowFrom w a i vs):=by
 intro vs;induction vs with
 |nil=>intro i w _ _;rfl
 |cons v vs d =>
  intro i w h1 c
  have e:zV w (a.add i):=by simpa using c 0 (by simp)
  have hr:=jLF (P:=P) (h1 v<|by simp) e
  have:=d (i+1) (w.setCell (a.add i) v) (by grind) (fun j f=>by
   have:=(c (j+1)<|by simpa using f).setCell (b:=a.add i) (u:=v);rwa [show i+(j+1)=i+1+j by omega]at this)
  simp[storeCells,hr,this,storeRowFrom]
def jHQ{T x y a n vs}(c:ε x=.pointer (some a))(e:ε y=.agg vs.toArray)(h1:vs.all vE=true)(hs:(sizeOf T).run P w=.ok n w)(b:vs.length=n)(f:∀j,j<vs.length->zV w (a.add j)):
  (execOp ε ⟨d,.store T x y,ty,pos,aft,g⟩).run P w=.ok .skip (storeRow w a vs):=by
 have:=jFA (P:=P) a vs 0 w (by simpa using h1) (by simpa using f)
 simp[execOp,Instr.storeAt,Instr.sureAddr,c,e,storeVar,hs,Value.cells,b,this,storeRow]
def gQ{T z cs}(a:(zeroValue T).run P w=.ok z w)(b:z.cells=cs):
  (execOp ε ⟨d,.alloc T,ty,pos,aft,g⟩).run P w=.ok (.value<|.pointer<|some ⟨w.heap.size,0,none⟩) (w.alloc<|.cells cs T):=by
 subst b
 simp[execOp,Instr.alloc,a,newVar,newRow]
def zGB{T x cs}(a:(ε x).cells=cs):
  (execOp ε ⟨d,.box T x,ty,pos,aft,g⟩).run P w=.ok (.value<|.pointer<|some ⟨w.heap.size,0,none⟩) (w.alloc<|.cells cs T):=by
 subst a
 simp[execOp,Instr.box,newVar,newRow]
def jXQ{c x y b v}(f:ε c=.bool b)(a:b=true)(e:ε x=v):(execOp ε ⟨d,.pick c x y,ty,pos,aft,g⟩).run P w=.ok (.value v) w:=by
 simp[execOp,f,a,e,asBool]
def jXR{c x y b v}(f:ε c=.bool b)(a:b=false)(e:ε y=v):(execOp ε ⟨d,.pick c x y,ty,pos,aft,g⟩).run P w=.ok (.value v) w:=by
 simp[execOp,f,a,e,asBool]
def jFZ{x p a}(b:ε x=.pointer p)(c:p=some a):(execOp ε ⟨d,.nilCheck x,ty,pos,aft,g⟩).run P w=.ok (.value<|.pointer<|some a) w:=by
 simp[execOp,b,c]
structure At(s:Sl)(i:Int)(size:Nat)(a:Addr):Prop where
 lo:0<=i
 hi:i<s.len
 at_:∃b,s.a=some b/\a=b.add (i.toNat*size)
def jDM{T E x ix s k i n a}(j:ε x=s.v)(hi:ε ix=.int k i)(h:(underlying T).run P w=.ok (.slice E) w)(hs:(sizeOf E).run P w=.ok n w)(f:At s i n a):
  (execOp ε ⟨d,.indexAddr T x ix,ty,pos,aft,g⟩).run P w=.ok (.value<|.pointer<|some a) w:=by
 obtain⟨c,h1,b,e,rfl⟩:=f
 simp[execOp,Instr.indexAt,j,hi,Sl.v,asIntOf,h,e,c,h1,hs]
def jVJ{x y:ByteArray}(h:x.toList=y.toList):x=y:=by
 have e:∀z:ByteArray,z.toList=z.data.toList:=fun z=>ByteArray.toList_eq z;rw[e,e]at h;cases x;cases y;simpa using h
def zBS(x y:ByteArray):(x.toList==y.toList)=decide (x=y):=by
 by_cases h:x=y;simp[h];have:¬x.toList=y.toList:=fun e=>h<|jVJ e;simp[h,this]
def zFZ{T e:TypeId}{a b:Operand}{x y:ByteArray}(c:ε a=.string x)(f:ε b=.string y):(execOp ε ⟨d,.binOp .eql T a b e,ty,pos,aft,g⟩).run P w=.ok (.value<|.bool<|decide (x=y)) w:=by
 simp[execOp,c,f,eqGuard,zBS,go_sem]
def zBM{T e:TypeId}{a b:Operand}{x y:ByteArray}(c:ε a=.string x)(f:ε b=.string y):(execOp ε ⟨d,.binOp .neq T a b e,ty,pos,aft,g⟩).run P w=.ok (.value<|.bool<|!decide (x=y)) w:=by
 simp[execOp,c,f,eqGuard,zBS,go_sem]
def jMF{T T' E a b x}(e:ε a=.pointer x)(h:ε b=.pointer none)(c:P.underlying T=some (.pointer E)):(execOp ε ⟨d,.binOp .eql T a b T',ty,pos,aft,g⟩).run P w=.ok (.value<|.bool x.isNone) w:=by
 have f:P.pointee T=E:=by simp[Program.pointee,c]
 have:=run_eql_pointer_nil (P:=P) w T x (by rw[f];exact c);simp[execOp,e,h,eqGuard,this]
def zBN{T T' E a b x}(e:ε a=.pointer x)(h:ε b=.pointer none)(c:P.underlying T=some (.pointer E)):(execOp ε ⟨d,.binOp .neq T a b T',ty,pos,aft,g⟩).run P w=.ok (.value<|.bool<|!x.isNone) w:=by
 have f:P.pointee T=E:=by simp[Program.pointee,c]
 have:=run_neq_pointer_nil (P:=P) w T x (by rw[f];exact c);simp[execOp,e,h,eqGuard,this]
def zGC{op:BinOp}{T T' a b xs ys r}(c:ε a=.agg xs)(e:ε b=.agg ys)(hm:P.eqGuardType P.depth T=false)(hr:(Go.binOp op T (.agg xs)<|.agg ys).run P w=.ok (.bool r) w):
  (execOp ε ⟨d,.binOp op T a b T',ty,pos,aft,g⟩).run P w=.ok (.value<|.bool r) w:=by
 have:=run_eqGuard_agg (P:=P) w op T a b xs ys hm
 simp[execOp,c,e,this,hr]
def zBP{op:BinOp}{T T' a b x y v}(c:ε a=x)(e:ε b=y)(f:(eqGuard op T a b x y).run P w=.ok () w)(hr:(Go.binOp op T x y).run P w=.ok v w):
  (execOp ε ⟨d,.binOp op T a b T',ty,pos,aft,g⟩).run P w=.ok (.value v) w:=by
 simp[execOp,c,e,f,hr]
def jXT{f x}{c:List Operand}{ts:Array TypeId}{caps args args'}(b:ε x=.func (.func f) #[] caps)(e:∀args w,(callFunc f args).run P w=.ok (.enter f args) w)(a:(c.map ε).toArray=args)(h:args++caps=args'):
  (execOp ε ⟨d,.call ⟨.value x,c.toArray,ts⟩,ty,pos,aft,g⟩).run P w=.ok (.enter f args') w:=by
 subst h;subst a
 simp[execOp,resolve,b,Deferred.ofValue,invoke,e]
def x_call{f}{c:List Operand}{ts:Array TypeId}{args}(b:∀args w,(callFunc f args).run P w=.ok (.enter f args) w)(a:(c.map ε).toArray=args):
  (execOp ε ⟨d,.call ⟨.value<|.func f,c.toArray,ts⟩,ty,pos,aft,g⟩).run P w=.ok (.enter f args) w\/ε (.func f)≠.func (.func f) #[] #[]:=by
 by_cases h:ε (.func f)=.func (.func f) #[] #[]
 exact .inl<|jXT (caps:=#[]) h b a Sm
 exact .inr h
def jXV{ρ f}{c:List Operand}{ts:Array TypeId}{args}(b:∀args w,(callFunc f args).run P w=.ok (.enter f args) w)(a:(c.map<|evE ρ).toArray=args):
  (execOp (evE ρ) ⟨d,.call ⟨.value<|.func f,c.toArray,ts⟩,ty,pos,aft,g⟩).run P w=.ok (.enter f args) w:=
 (x_call b a).resolve_right fun h=>h rfl
def jEM{b:Builtin}{c:List Operand}{ts:Array TypeId}{args}{s:Sem Value}{v}(f:(c.map ε).toArray=args)(e:∀a,builtin b ts ty a args=(do pure (.value (<-s))))(hr:s.run P w=.ok v w'):
  (execOp ε ⟨d,.call ⟨.builtin b,c.toArray,ts⟩,ty,pos,aft,g⟩).run P w=.ok (.value v) w':=by
 subst f
 simp only[execOp,resolve,pure_bind,invoke,List.map_toArray,e]
 simp[hr]
def jHR{T x i ok m k v}(a:ε x=m)(hi:ε i=k)(hr:(Instr.lookup T m k ok).run P w=.ok v w):(execOp ε ⟨d,.lookup T x i ok,ty,pos,aft,g⟩).run P w=.ok (.value v) w:=by
 simp[execOp,a,hi,hr]
def jIG{T x i y m k v}(a:ε x=m)(hi:ε i=k)(b:ε y=v)(hr:(Instr.mapUpdate T m k v).run P w=.ok () w'):(execOp ε ⟨d,.mapUpdate T x i y,ty,pos,aft,g⟩).run P w=.ok .skip w':=by
 simp[execOp,a,hi,b,hr]
def jIH{T x y l c v}(a:ε x=l)(b:ε y=c)(hr:(Instr.makeSlice T l c).run P w=.ok v w'):(execOp ε ⟨d,.makeSlice T x y,ty,pos,aft,g⟩).run P w=.ok (.value v) w':=by
 simp[execOp,a,b,hr]
def zGA{T x}{lo hi a:Option Operand}{s v}{l h m:Option Value}(b:ε x=s)(c:lo.map ε=l)(hh:hi.map ε=h)(hm:a.map ε=m)(hr:(Instr.sliceAt T s l h m).run P w=.ok v w):(execOp ε ⟨d,.slice T x lo hi a,ty,pos,aft,g⟩).run P w=.ok (.value v) w:=by
 simp only[execOp,b,c,hh,hm];simp[hr]
def jXS{S T x s v}(a:ε x=s)(hr:(convert S T s).run P w=.ok v w'):(execOp ε ⟨d,.convert S T x,ty,pos,aft,g⟩).run P w=.ok (.value v) w':=by
 simp[execOp,a,hr]
def jNX{T n}{a:List (Nat×Operand)}{vs:Array (Nat×Value)}{v}(b:(a.map fun p=>(p.1,ε p.2)).toArray=vs)(hr:(Instr.buildSlice T n vs).run P w=.ok v w'):(execOp ε ⟨d,.buildSlice T n a.toArray,ty,pos,aft,g⟩).run P w=.ok (.value v) w':=by
 subst b;simp only[execOp,List.map_toArray];simp[hr]
end
end Go.SE
namespace Go.SE
def Has(ρ:Env)(l:List (Nat×Value)):Prop:=l.map (fun p=>ρ p.1)=l.map (·.2)
def Has.mk{ρ}{l:List (Nat×Value)}(h:l.map (fun p=>ρ p.1)=l.map (·.2)):Has ρ l:=h
def qM(ρ:Env):List (Nat×Value)->Env
 |[]=>ρ
 |(d,v) :: l=>upd (qM ρ l) d v
def uI{ρ}:∀{l:List (Nat×Value)},Has ρ l->qM ρ l=ρ
 |[],_=>rfl
 |(d,v) :: l,h=>by
  have a:ρ d=v/\l.map (fun p=>ρ p.1)=l.map (·.2):=by simpa[Has]using h
  have:=uI (ρ:=ρ) (l:=l) a.2;simp only[qM,this];funext i;simp only[upd];split;rename_i e;rw[e,a.1];rfl
section
variable {P:Program} {n:Nat} {Q:Exit->Env->World->Prop} {ρ:Env} {w w':World}
def yW{cx c}{l:List (Nat×Value)}(h:Has ρ l)(a:wpE (x:=cx) P n c Q (qM ρ l) w):wpE (x:=cx) P n c Q ρ w:=by rwa [uI h]at a
structure New(w:World)(o:Obj)(p:Addr)(w':World):Prop where
 at_:p=⟨w.heap.size,0,none⟩
 to:w'=w.alloc o
def jLE{ops Q rest o O}(v:Addr->Value)(a:Region.wanted o (zK ops ρ)=true)(hr:(execOp (evE ρ) o).run P w=.ok (.value<|v ⟨w.heap.size,0,none⟩) (w.alloc O))(h:∀p w',New w O p w'->wpL P ops Q rest (put ρ o.dst<|v p) w'):wpL P ops Q (o ::rest) ρ w:=
 st a hr<|h _ _ ⟨rfl,rfl⟩
def jIV{ops Q rest o W}(a:Region.wanted o (zK ops ρ)=true)(hr:(execOp (evE ρ) o).run P w=.ok .skip W)(h:∀w',w'=W->wpL P ops Q rest (put ρ o.dst undef) w'):wpL P ops Q (o ::rest) ρ w:=
 jDR a hr<|h _ rfl
section
variable {ops:Array Oper} {C:World->Prop} {loud free:Nat->Bool} {k:Nat} {o:Oper} {K:Env->World->Prop}
def zEY{O}(v:Addr->Value)(c:ops[k]?=some o)(b:Region.wanted o (zK ops ρ)=true)(a:loud k=true)(hr:(execOp (evE ρ) o).run P w=.ok (.value<|v ⟨w.heap.size,0,none⟩) (w.alloc O))(h:∀p w',New w O p w'->(free k=true\/C w')/\K (put ρ o.dst<|v p) w'):opE P ops C loud free k K ρ w:=
 let hh:=h _ _ ⟨rfl,rfl⟩;sl c b a hr hh.1 hh.2
def jYM{W}(c:ops[k]?=some o)(b:Region.wanted o (zK ops ρ)=true)(a:loud k=true)(hr:(execOp (evE ρ) o).run P w=.ok .skip W)(h:∀w',w'=W->(free k=true\/C w')/\K (put ρ o.dst undef) w'):opE P ops C loud free k K ρ w:=
 let hh:=h _ rfl;jYL c b a hr hh.1 hh.2
def sxQ{W v}(c:ops[k]?=some o)(b:Region.wanted o (zK ops ρ)=true)(a:loud k=false)(hr:(execOp (evE ρ) o).run P W=.ok (.value v) W)(h:K (put ρ o.dst v) w):opE P ops (fun x=>x=W) loud free k K ρ w:=
 sx c b a Gd h
end
def jCQ{cx id l}(hm:P.follows .mixedOrders=true)(b:oV n l=true)(hB:Region.noSelect l.toArray=true)(a:jSQ .any l.toArray (vS []) (vS [])=true)(h:∀w',w'=w.drew->wpX P l.toArray (fun x=>x=w') (vS []) (vS []) (fun ρ w=>Q .normal ρ w) l.length (Array.replicate l.length false) ρ w'):wpE (x:=cx) P n (.region id l.toArray true) Q ρ w:=
 jIK (fun x=>x=w.drew) [] [] hm b hB a rfl (by simpa using h _ rfl)
def jGA{cx id l}(C loud free)(hm:P.follows .mixedOrders=true)(c:oV n l=true)(hB:Region.noSelect l.toArray=true)(b:jSQ .any l.toArray (vS loud) (vS free)=true)(a:C w.drew)(h:∀w',w'=w.drew->wpX P l.toArray C (vS loud) (vS free) (fun ρ w=>Q .normal ρ w) l.length (Array.replicate l.length false) ρ w'):wpE (x:=cx) P n (.region id l.toArray true) Q ρ w:=
 jIK C loud free hm c hB b a (by simpa using h _ rfl)
end
end Go.SE
namespace Go.SE
section
variable {P:Program} {n:Nat} {ρ:Env} {w:World}
def RV(P:Program)(ρ:Env)(w:World):ResultVar->Value->Prop
 |.tmp t,v=>ρ t=v
 |.cell a t,v=>∃A,ρ a=.pointer (some A)/\(loadVar t A).run P w=.ok v w
def RVs(P:Program)(ρ:Env)(w:World):List ResultVar->List Value->Prop
 |[],[]=>True
 |r :: rs,v :: vs=>RV P ρ w r v/\RVs P ρ w rs vs
 |_,_=>False
def jOI{T a}{n:Nat}{vs}(c:(isAgg T).run P w=.ok true w)(hs:(sizeOf T).run P w=.ok n w)(e:vs.length=n)(d:Row w a vs):(loadVar T a).run P w=.ok (.agg vs.toArray) w:=by
 have:=jAH (P:=P) (w:=w) a vs n 0 #[] Om fun j _ b=>d j b;simp[loadVar,c,hs,loadCells,this]
def jOJ{T a v}(b:(isAgg T).run P w=.ok false w)(c:w.cell? a=some v):(loadVar T a).run P w=.ok v w:=by
 simp[loadVar,b,c]
def RV.cellA{a A T vs k}(b:ρ a=.pointer (some A))(d:(isAgg T).run P w=.ok true w)(hs:(sizeOf T).run P w=.ok k w)(c:vs.length=k)(e:Row w A vs):RV P ρ w (.cell a T) (.agg vs.toArray):=⟨A,b,jOI d hs c e⟩
def RV.cell1{a A T v}(b:ρ a=.pointer (some A))(c:(isAgg T).run P w=.ok false w)(d:w.cell? A=some v):RV P ρ w (.cell a T) v:=⟨A,b,jOJ c d⟩
def jRW{fn}{rs:List ResultVar}{vs}(hr:fn.results=rs.toArray)(h:RVs P ρ w rs vs){ds:List Deferred}{a}(c:Rep ds n ρ a){v}(g:(if h:vs.toArray.size=1 then vs.toArray[0]else .tuple vs.toArray)=v):(results fn a.tmps).run P w=.ok v w:=by
 have key:∀(f:ResultVar->Sem Value),(∀t,f (.tmp t)=pure (a.tmps.getD t undef))->(∀x t,f (.cell x t)=(do loadVar t (<-asAddr (a.tmps.getD x undef))))->∀(rs:List ResultVar) (vs:List Value),RVs P ρ w rs vs->(rs.mapM f).run P w=.ok vs w:=by
  intro f i b rs;induction rs with
  |nil=>intro vs h;cases vs<;>simp only[RVs]at h;rfl
  |cons r rs j =>
   intro vs h
   cases vs with
   |nil=>simp only[RVs]at h
   |cons v vs =>
    have⟨h1,h2⟩:=h
    have:(f r).run P w=.ok v w:=by
     cases r with
     |tmp t=>rw[i,c.get];simp only[RV]at h1;rw[h1];rfl
     |cell x t =>
      have⟨A,e,d⟩:=h1
      rw[b,c.get,e]
      simp only[Sem.run_bind,asAddr,Sem.run_pure,Result.andThen]
      exact d
    rw[List.mapM_cons]
    simp only[Sem.run_bind,Sem.run_pure,Result.andThen,this,j vs h2]
 unfold results;rw[hr,List.mapM_toArray,Sem.run_bind,Sem.run_map,key _ (fun _=>rfl) (fun _ _=>rfl) rs vs h];simp only[Result.andThen,Sem.run_pure];rw[<-g]
def resG{fn}{rs:List ResultVar}{vs v R e}(d:e=.ret\/e=.normal)(hr:fn.results=rs.toArray)(h:RVs P ρ w rs vs)(c:(if h:vs.toArray.size=1 then vs.toArray[0]else .tuple vs.toArray)=v)(f:R (.returned v) w):jFV P fn n R e ρ w:=by
 rcases d with rfl|rfl<;>exact⟨v,fun _ a b=>jRW hr h b c,f⟩
end
section
variable {P:Program} {ε:Operand->Value} {w w':World} {d:Option Tmp} {ty:TypeId} {pos:String} {aft:Array Edge} {g:Option (Nat×Bool)}
def jXU{f x}{c:List Operand}{ts:Array TypeId}{fs caps args args'}(b:ε x=.func (.func f) fs caps)(e:∀args w,(callFunc f args).run P w=.ok (.enter f args) w)(a:(c.map ε).toArray=args)(h:(fs++args)++caps=args'):
  (execOp ε ⟨d,.call ⟨.value x,c.toArray,ts⟩,ty,pos,aft,g⟩).run P w=.ok (.enter f args') w:=by
 subst h;subst a
 simp[execOp,resolve,b,Deferred.ofValue,invoke,e]
end
end Go.SE
namespace Go.SE
end Go.SE
namespace Go.SE
def jAA{o:Oper}{l:List Oper}:(o ::l)[0]?=some o:=rfl
def yY{a o:Oper}{l:List Oper}{k:Nat}(h:l[k]?=some o):(a ::l)[k+1]?=some o:=by simpa using h
def jAB{o:Oper}{l:List Oper}{k:Nat}(h:l[k]?=some o):l.toArray[k]?=some o:=by simpa using h
end Go.SE
namespace Go.SE
def jII{P:Program}{ops:Array Oper}{Q:Env->World->Prop}{ρ:Env}{w:World}:∀(k:Nat) {l:List Oper} {ρ:Env} {w:World},wpL P ops (fun ρ w=>wpL P ops Q (l.drop k) ρ w) (l.take k) ρ w->wpL P ops Q l ρ w
 |0,l,ρ,w,h=>by simpa[wpL]using h
 |k+1,[],ρ,w,h=>by simpa[wpL]using h
 |k+1,o :: l,ρ,w,h=>by
  simp only[List.take_succ_cons,List.drop_succ_cons]at h;unfold wpL at h|-;split;rename_i a;rw[if_pos a]at h;exact oX h fun v w' hh=>jII (ρ:=ρ) (w:=w) k hh;rename_i a;rw[if_neg a]at h;exact jII (ρ:=ρ) (w:=w) k h
def jEN{P ops Q Q'}(b:∀ρ w,Q ρ w->Q' ρ w):∀{l:List Oper} {ρ:Env} {w:World},wpL P ops Q l ρ w->wpL P ops Q' l ρ w
 |[],ρ,w,h=>by unfold wpL at h|-;exact b _ _ h
 |o :: l,ρ,w,h=>by
  unfold wpL at h|-;split;rename_i a;rw[if_pos a]at h;exact oX h fun v w' hh=>jEN b hh;rename_i a;rw[if_neg a]at h;exact jEN b h
end Go.SE
namespace Go.SE
section
variable {P:Program} {ε:Operand->Value} {w w':World} {d:Option Tmp} {ty:TypeId} {pos:String} {aft:Array Edge} {g:Option (Nat×Bool)}
def zBO{f x}{c:List Operand}{ts:Array TypeId}{v fs caps args args'}(i:ε x=v)(b:v=.func (.func f) fs caps)(e:∀args w,(callFunc f args).run P w=.ok (.enter f args) w)(h:(c.map ε).toArray=args)(a:(fs++args)++caps=args'):
  (execOp ε ⟨d,.call ⟨.value x,c.toArray,ts⟩,ty,pos,aft,g⟩).run P w=.ok (.enter f args') w:=
 jXU (i.trans b) e h a
end
end Go.SE
namespace Go.SE
section
variable {P:Program} {ε:Operand->Value} {w w':World} {d:Option Tmp} {ty:TypeId} {pos:String} {aft:Array Edge} {g:Option (Nat×Bool)}
end
end Go.SE
end
section
namespace Go.SE
def jAS(w:World)(o:Obj)(i:Nat)(h:i<w.heap.size):(w.alloc o).heap[i]?=w.heap[i]?:=by
 show(w.heap.push o)[i]?=w.heap[i]?;rw[Array.getElem?_push,if_neg<|Nat.ne_of_lt h]
structure Ext(F:Nat->Prop)(w w':World):Prop where
 os:w'.os=w.os
 tape:w'.tape=w.tape
 output:w'.output=w.output
 drawn:w.drawn<=w'.drawn
 size:w.heap.size<=w'.heap.size
 keep:∀b,b<w.heap.size->¬F b->w'.heap[b]?=w.heap[b]?
def None(_:Nat):Prop:=False
abbrev Pure(w w':World):Prop:=Ext None w w'
def Ext.refl{F}(w):Ext F w w:=⟨rfl,rfl,rfl,Gd,Nat.le_refl _,fun _ _ _=>rfl⟩
def Ext.trans'{F G a b c}(h:Ext F a b)(k:Ext G b c)(e:∀i,i<a.heap.size->G i->F i):Ext F a c:=
 ⟨k.os.trans h.os,k.tape.trans h.tape,k.output.trans h.output,(by first|exact Nat.le_trans h.drawn k.drawn|exact Nat.le_refl _),Nat.le_trans h.size k.size,fun i hi d=>(k.keep i (Nat.lt_of_lt_of_le hi h.size) fun f=>d<|e i hi f).trans (h.keep i hi d)⟩
def Ext.trans{F a b c}(h:Ext F a b)(k:Ext F b c):Ext F a c:=h.trans' k fun _ _ h=>h
def Ext.mono{F G a b}(h:Ext F a b)(c:∀i,i<a.heap.size->F i->G i):Ext G a b:=
 ⟨h.os,h.tape,h.output,h.drawn,h.size,fun i hi e=>h.keep i hi fun d=>e<|c i hi d⟩
def Ext.pure{F a b}(h:Pure a b):Ext F a b:=h.mono fun _ _ h=>h.elim
def Ext.thenPure{F a b c}(h:Ext F a b)(k:Pure b c):Ext F a c:=h.trans k.pure
def Ext.below{w w'}(h:Pure w w'):RowKit.Below w.heap.size w w':=⟨h.os,h.tape,h.output,h.size,fun k a=>h.keep k a id⟩
def Ext.drew(w){F}:Ext F w w.drew:=⟨rfl,rfl,rfl,Fe,Nat.le_refl _,fun _ _ _=>rfl⟩
def tM{w:World}{b:Nat}{o:Obj}(h:w.heap[b]?=some o):b<w.heap.size:=(Array.getElem?_eq_some_iff.1 h).1
def Ext.heap{F:Nat->Prop}{w w':World}(h:Ext F w w'){b:Nat}{o:Obj}(a:w.heap[b]?=some o)(c:¬F b):w'.heap[b]?=some o:=by
 rw[h.keep b (tM a) c];exact a
def Ext.cell{F w w'}(h:Ext F w w'){a v}(c:w.cell? a=some v)(d:¬F a.block):w'.cell? a=some v:=by
 have b:a.block<w.heap.size:=World.block_lt_of_cell? w a c;unfold World.cell? at *;rw[h.keep _ b d];exact c
def Ext.row{F w w'}(h:Ext F w w'){a vs}(b:Row w a vs)(c:¬F a.block):Row w' a vs:=by
 intro i hi;have:=b i hi;rw[List.getElem?_eq_getElem hi]at this|-;refine h.cell this ?_;have:(a.add i).block=a.block:=by unfold Addr.add;split<;>rfl
 rw[this];exact c
def Ext.new{F w w' o p}(h:New w o p w'):Ext F w w':=by
 obtain⟨_,rfl⟩:=h;exact⟨rfl,rfl,rfl,Fe,Sm,fun b a _=>jAS w o b a⟩
def Ext.setCell{w}(a v):Ext (·=a.block) w (w.setCell a v):=
 ⟨rfl,rfl,rfl,Fe,by simp[World.setCell],fun b _ c=>heap_setCell_other w a b v c⟩
def zG(a:Addr)(i:Nat):(a.add i).block=a.block:=by unfold Addr.add;split<;>rfl
def Ext.storeRowFrom(a:Addr):∀(vs:List Value) (i:Nat) (w:World),Ext (·=a.block) w (storeRowFrom w a i vs)
 |[],_,w=>Ext.refl w
 |v :: vs,i,w=>by
  have h1:Ext (·=a.block) w (w.setCell (a.add i) v):=(Ext.setCell (a.add i) v).mono (fun _ _ h=>by rw[zG]at h;exact h);exact h1.trans<|Ext.storeRowFrom a vs (i+1) _
def Ext.storeRow(w a vs):Ext (·=a.block) w (SE.storeRow w a vs):=Ext.storeRowFrom a vs 0 w
structure Box(w:World)(p:Addr)(c:List Value)(T:TypeId):Prop where
 addr:p=⟨p.block,0,none⟩
 blk:w.heap[p.block]?=some (.cells c.toArray T (0,0))
def Box.of_new{w w' c T p}(h:New w (.cells c.toArray T) p w'):Box w' p c T:=by
 obtain⟨rfl,rfl⟩:=h;exact⟨rfl,heap_alloc_new w _⟩
def New.at_size{w w' o p}(h:New w o p w'):p.block=w.heap.size:=by rw[h.at_]
def New.block_new{w w' o p}(h:New w o p w'):w'.heap[p.block]?=some o:=by
 obtain⟨rfl,rfl⟩:=h;exact heap_alloc_new w _
def New.ne{w w' o o' p}(h:New w o p w'){b}(a:w.heap[b]?=some o'):b≠p.block:=by
 rw[h.at_size];exact Nat.ne_of_lt<|tM a
def Box.lt{w p c T}(h:Box w p c T):p.block<w.heap.size:=tM h.blk
def Box.ext{F w w' p c T}(h:Box w p c T)(a:Ext F w w')(b:¬F p.block):Box w' p c T:=⟨h.addr,a.heap h.blk b⟩
def Box.pure{w w' p c T}(h:Box w p c T)(a:Pure w w'):Box w' p c T:=h.ext a id
def Box.add{w p c T}(h:Box w p c T)(i):p.add i=⟨p.block,i,none⟩:=by
 rw[h.addr];unfold Addr.add;split<;>simp_all
def Box.cell{w p c T}(h:Box w p c T){i v}(a:c[i]?=some v):w.cell? (p.add i)=some v:=by
 rw[h.add,cell_of_row w _ _ _ _ _ h.blk];simpa using a
def Box.cell0{w p v c T}(h:Box w p (v ::c) T):w.cell? p=some v:=by
 have:=h.cell (i:=0) (v:=v) rfl;simpa[Addr.add]using this
def Box.row{w p c T}(h:Box w p c T):Row w p c:=fun i hi=>by
 rw[List.getElem?_eq_getElem hi];exact h.cell<|List.getElem?_eq_getElem hi
def Box.canW{w p c T}(h:Box w p c T){i}(hi:i<c.length):zV w (p.add i):=
 ⟨⟨c[i],h.cell<|List.getElem?_eq_getElem hi⟩,by rw[h.add];exact frozen_of_row w _ _ _ _ h.blk⟩
def Box.canW0{w p c T}(h:Box w p c T)(hi:0<c.length):zV w p:=by
 have:=h.canW hi;simpa[Addr.add]using this
def Box.canWs{w p c T}(h:Box w p c T){n}(a:n<=c.length):∀j,j<n->zV w (p.add j):=fun _ b=>h.canW Om
def Box.set{w p c T}(h:Box w p c T)(i v):Box (w.setCell (p.add i) v) p (c.set i v) T:=by
 refine⟨h.addr,?_⟩;rw[h.add];have:=heap_setCell_same w p.block i c.toArray T v h.blk;rw[this];simp
def Box.set0{w p u v c T}(h:Box w p (u ::c) T):Box (w.setCell p v) p (v ::c) T:=by
 have:=h.set 0 v;simpa[Addr.add]using this
def Box.storeFrom{p T}:∀(vs:List Value) (i:Nat) (w:World) (c:List Value),Box w p c T->i+vs.length=c.length->Box (storeRowFrom w p i vs) p (c.take i++vs) T
 |[],i,w,c,h,a=>by
  have:c.take i=c:=List.take_of_length_le (by simp at a;omega);simpa[storeRowFrom,this]using h
 |v :: vs,i,w,c,h,a=>by
  simp only[List.length_cons]at a;have:=Box.storeFrom vs (i+1) _ _ (h.set i v) So;simp only[storeRowFrom];have e:(c.set i v).take (i+1)++vs=c.take i++v ::vs:=by
   rw[List.take_succ_eq_append_getElem So,List.take_set_of_le<|Nat.le_refl i];simp
  rwa [e]at this
def Box.store{w p c vs T}(h:Box w p c T)(a:vs.length=c.length):Box (storeRow w p vs) p vs T:=by
 have:=Box.storeFrom vs 0 w c h Om;simpa[storeRow]using this
def Br.t{c}{A B:Prop}(a:c=true)(h:A):Br c A B:=⟨fun _=>h,fun e=>(by rw[a]at e;cases e)⟩
def Br.f{c}{A B:Prop}(a:c=false)(h:B):Br c A B:=⟨fun e=>(by rw[a]at e;cases e),fun _=>h⟩
end Go.SE
namespace Go.SE
def bx(n:Nat){w:World}{p:Addr}{c vs:List Value}{T:TypeId}(h:Box w p c T)(b:c.length=n)(a:vs.length=n){A:World->Prop}(k:∀w',Box w' p vs T->Ext (·=p.block) w w'->A w'):(∀j,j<n->zV w (p.add j))/\∀w',w'=storeRow w p vs->A w':=
 ⟨h.canWs Om,fun w' e=>by subst e;exact k _ (h.store Om)<|Ext.storeRow _ _ _⟩
def Ext.own{a w w':World}{p:Addr}(h:Pure a w)(b:a.heap.size<=p.block)(k:Ext (·=p.block) w w'):Pure a w':=
 h.trans' k Gd
def New.own{w0 w w' o p}(h:Pure w0 w)(a:New w o p w'):w0.heap.size<=p.block:=by rw[a.at_size];exact h.size
end Go.SE
namespace Go.SE
def Box.of_newA{w w' c T p}(h:New w (.cells c T) p w'):Box w' p c.toList T:=by
 obtain⟨rfl,rfl⟩:=h;exact⟨rfl,by simpa using heap_alloc_new w (.cells c T)⟩
def Box.row_eq{w p c vs T}(h:Box w p c T)(e:c=vs):Row w p vs:=e▸h.row
end Go.SE
end
section
namespace Go.SE
structure Rws(w:World)(e:TypeId)(sz:Nat)(s:Sl)(rs:List (List Value)):Prop where
 each:∀r∈rs,r.length=sz
 len:s.len=rs.length
 own:(s=Sl.nil/\rs=[])\/∃g cur,s.a=some ⟨g,0,none⟩/\w.heap[g]?=some (.cells cur e (0,0))/\rs.length<=s.cap/\s.cap<=maxLen/\cur.size=s.cap*sz/\cur.toList.take (rs.length*sz)=rs.flatten
def Sl.blk(s:Sl)(b:Nat):Prop:=∃a,s.a=some a/\a.block=b
def Rws.nil(w e sz):Rws w e sz Sl.nil []:=⟨Sm,rfl,.inl ⟨rfl,rfl⟩⟩
def vZ{rs:List (List Value)}{sz:Nat}(h:∀r∈rs,r.length=sz):rs.flatten.length=rs.length*sz:=by
 induction rs with
 |nil=>simp
 |cons r rs a =>
  have h1:=h r Sm
  have h2:=a Gd
  simp only[List.flatten_cons,List.length_append,h1,h2,List.length_cons,Nat.add_mul,Nat.one_mul]
  omega
def jEB{rs:List (List Value)}{sz:Nat}(h:∀r∈rs,r.length=sz){i:Nat}(hi:i<rs.length){j:Nat}(b:j<sz):rs.flatten[i*sz+j]?=rs[i][j]?:=by
 induction rs generalizing i with
 |nil=>simp at hi
 |cons r rs a =>
  have h1:=h r (by simp)
  cases i with
  |zero=>simp[List.getElem?_append_left<|show j<r.length by omega]
  |succ i =>
   simp only[List.flatten_cons,List.getElem_cons_succ]
   rw[List.getElem?_append_right<|by grind]
   have:=a (by grind) (i:=i) (by simpa using hi)
   rw[<-this]
   congr 1
   rw[h1,Nat.succ_mul];omega
def Rws.ext{F w w' e sz s rs}(h:Rws w e sz s rs)(f:Ext F w w')(d:∀b,s.blk b->¬F b):Rws w' e sz s rs:=by
 refine⟨h.each,h.len,?_⟩;rcases h.own with c|⟨g,cur,a,i,r⟩;exact .inl c;exact .inr ⟨g,cur,a,f.heap i<|d g ⟨_,a,rfl⟩,r⟩
def Rws.pure{w w' e sz s rs}(h:Rws w e sz s rs)(a:Pure w w'):Rws w' e sz s rs:=h.ext a fun _ _ h=>h
def Rws.lt{w e sz s rs}(h:Rws w e sz s rs){b}(f:s.blk b):b<w.heap.size:=by
 rcases h.own with⟨rfl,_⟩|⟨g,cur,d,i,_⟩;have⟨a,d,_⟩:=f;cases d;obtain⟨a,c,rfl⟩:=f;rw[d]at c;cases c;exact tM i
def Rws.at{w e sz s rs}(h:Rws w e sz s rs){i}(l:0<=i)(hi:i.toNat<rs.length):∃a,At s i sz a/\Row w a rs[i.toNat]/\s.blk a.block:=by
 rcases h.own with⟨_,rfl⟩|⟨g,cur,d,k,m,_,hs,ht⟩;simp at hi;refine⟨(⟨g,0,none⟩:Addr).add<|i.toNat*sz,⟨l,by rw[h.len];omega,⟨_,d,rfl⟩⟩,?_,⟨_,d,by rw[zG]⟩⟩;intro j n;have f:=h.each _<|List.getElem_mem hi;have b:((⟨g,0,none⟩:Addr).add<|i.toNat*sz).add j=⟨g,i.toNat*sz+j,none⟩:=by
  unfold Addr.add;split<;>split<;>simp_all
 rw[b,cell_of_row w g _ cur e (0,0) k,<-jEB h.each hi Om,<-ht,List.getElem?_take];have c:i.toNat*sz+j<rs.length*sz:=by
  have:(i.toNat+1)*sz<=rs.length*sz:=Nat.mul_le_mul_right _ hi;rw[Nat.succ_mul]at this;omega
 rw[if_pos c];simp
def jWC{v}(h:vE v=true):v.oneCell'=true:=by cases v<;>simp_all[vE,Value.oneCell']
structure SlType(P:Program)(t e:TypeId)(sz bytes:Nat):Prop where
 ht:P.underlying t=some (.slice e)
 hi:∃i z,P.info? e=some i/\i.zero=some z/\i.size=sz/\i.bytes=bytes/\z.cells.size=sz
 pos:0<sz
def jRX{w p r}(hr:Row w p r):∀j u,r[j]?=some u->w.cell? (p.add j)=some u:=fun j u a=>by
 rw[hr j (List.getElem?_eq_some_iff.1 a).1,a]
def Rws.grown{w:World}{e:TypeId}{sz:Nat}{rs:List (List Value)}(a:∀q∈rs,q.length=sz){cur:Array Value}{z:Value}(c:z.cells.size=sz)(b:cur.toList=rs.flatten){cap:Nat}(d:rs.length<=cap)(hm:cap<=maxLen):
  Rws (w.drew.alloc<|.cells (cur++Builtin.zeroCells z.cells (cap-rs.length)) e) e sz ⟨some ⟨w.heap.size,0,none⟩,rs.length,cap⟩ rs:=by
 refine⟨a,rfl,.inr ⟨w.heap.size,_,rfl,heap_alloc_new w.drew _,d,hm,?_,?_⟩⟩
 have:cur.size=rs.length*sz:=by rw[<-Array.length_toList,b,vZ a]
 rw[Array.size_append,size_zeroCells,c,this,<-Nat.add_mul]
 congr 1
 show rs.length+(cap-rs.length)=cap
 omega
 rw[Array.toList_append,b]
 have:=vZ a
 rw[<-this]
 exact List.take_left
def Rws.appends{P:Program}{w:World}{t ty e:TypeId}{sz bytes:Nat}(T:SlType P t e sz bytes){s:Sl}{rs qs:List (List Value)}(h:Rws w e sz s rs){p:Addr}{c:Nat}(hr:Row w p qs.flatten)(J:∀q∈qs,q.length=sz)(h1:∀q∈qs,q.all vE=true)(A:qs≠[])(k:(rs.length+qs.length)*bytes<=140737488355328)(hm:rs.length+qs.length<=maxLen):
  ∃s' w',(Builtin.append_ #[t,t] ty #[s.v,(Sl.mk (some p) qs.length c).v]).run P w=.ok s'.v w'/\Rws w' e sz s' (rs++qs)/\Ext s.blk w w'/\(∀b,s'.blk b->s.blk b\/w.heap.size<=b):=by
 have⟨i,z,hi,Q,N,L,G⟩:=T.hi
 subst N;subst L
 have O:∀u∈qs.flatten,u.oneCell'=true:=fun u o=>by
  have⟨q,A,o⟩:=List.mem_flatten.1 o;exact jWC<|List.all_eq_true.1 (h1 q A) u o
 have I:rs.length+qs.length<=9223372036854775807:=by simp only[maxLen]at hm;omega
 have l:=vZ J
 have y:0<qs.length:=List.length_pos_iff.2 A
 have n:∀q∈rs++qs,q.length=i.size:=fun q A=>(List.mem_append.1 A).elim (h.each q)<|J q
 have B:=vZ h.each
 rcases h.own with⟨rfl,rfl⟩|⟨g,cur,x,C,R,M,hcs,m⟩
 .simp only[List.length_nil,Nat.zero_add]at k I hm
  have d:=run_append_nil (P:=P) w t ty e i z T.ht hi Q p qs.length c qs.flatten l (jRX hr) y Om Om
  have C:=Rws.grown (w:=w) (e:=e) (rs:=qs) J (cur:=qs.flatten.toArray) G Sm (grownCap_ge w qs.length 0 e)<|grownCap_le_maxLen w _ 0 e hm
  refine⟨⟨some ⟨w.heap.size,0,none⟩,qs.length,grownCap w qs.length 0 e⟩,(w.drew.alloc<|.cells (qs.flatten.toArray++Builtin.zeroCells z.cells (grownCap w qs.length 0 e-qs.length)) e),d,?_,?_,?_⟩
  .simpa using C
  .exact⟨rfl,rfl,rfl,Fe,Sm,fun b k _=>jAS w.drew _ b k⟩
  .intro b k;obtain⟨a,x,rfl⟩:=k;cases x;right;exact Nat.le_refl _
 .have E:s.v=.slice (some ⟨g,0,none⟩) rs.length s.cap:=by unfold Sl.v;rw[x,h.len]
  by_cases f:rs.length+qs.length<=s.cap
  .have D:rs.length*i.size+qs.flatten.length<=cur.size:=by rw[l,hcs,<-Nat.add_mul];exact Nat.mul_le_mul_right _ f
   have d:=run_append_room (P:=P) w t ty e i T.ht hi g rs.length s.cap cur C p qs.length c qs.flatten l (jRX hr) O f D
   refine⟨⟨some ⟨g,0,none⟩,rs.length+qs.length,s.cap⟩,_,by rw[E];exact d,⟨n,Sm,.inr ⟨g,_,rfl,setRow_heap w g cur _ e _ C,by simpa using f,M,?_,?_⟩⟩,⟨rfl,rfl,rfl,Fe,Sm,fun b k S=>setRow_other w g b _ fun e=>S ⟨_,x,e.symm⟩⟩,fun b k=>by obtain⟨a,K,rfl⟩:=k;cases K;exact .inl ⟨_,x,rfl⟩⟩
   .grind
   .rw[m,List.flatten_append,List.length_append,Nat.add_mul,<-B,<-l,<-List.length_append]
    exact List.take_left
  .have r : ∀ j u, rs.flatten[j]? = some u -> w.cell? ((⟨g, 0, none⟩ : Addr).add j) = some u:=fun j u o => by
    have F:(⟨g,0,none⟩:Addr).add j=⟨g,j,none⟩:=by unfold Addr.add;split<;>simp_all
    rw[F,cell_of_row w g j cur e (0,0) C];rw[<-m,List.getElem?_take]at o;split at o
    .simpa using o
    .cases o
   have d:=run_append_grow (P:=P) w t ty e i z T.ht hi Q ⟨g,0,none⟩ rs.length s.cap rs.flatten B r p qs.length c qs.flatten l (jRX hr) Om Om<|growslice_fits Om k
   have H:=Rws.grown (w:=w) (e:=e) (rs:=rs++qs) n (cur:=rs.flatten.toArray++qs.flatten.toArray) G Sm (cap:=grownCap w (rs.length+qs.length) s.cap e) (by simpa using grownCap_ge w (rs.length+qs.length) s.cap e)<|grownCap_le_maxLen w _ _ e hm
   refine⟨⟨some ⟨w.heap.size,0,none⟩,rs.length+qs.length,grownCap w (rs.length+qs.length) s.cap e⟩,(w.drew.alloc<|.cells (rs.flatten.toArray++qs.flatten.toArray++Builtin.zeroCells z.cells (grownCap w (rs.length+qs.length) s.cap e-(rs.length+qs.length))) e),?_,?_,?_,?_⟩
   .rw[E];exact d
   .simpa using H
   .exact⟨rfl,rfl,rfl,Fe,Sm,fun b k _=>jAS w.drew _ b k⟩
   .intro b k;obtain⟨a,x,rfl⟩:=k;cases x;right;exact Nat.le_refl _
def Rws.append{P w t ty e sz bytes}(T:SlType P t e sz bytes){s rs}(h:Rws w e sz s rs){p c r}(hr:Row w p r)(a:r.length=sz)(h1:r.all vE=true)(d:(rs.length+1)*bytes<=140737488355328)(hm:rs.length+1<=maxLen):
  ∃s' w',(Builtin.append_ #[t,t] ty #[s.v,(Sl.mk (some p) 1 c).v]).run P w=.ok s'.v w'/\Rws w' e sz s' (rs++[r])/\Ext s.blk w w'/\(∀b,s'.blk b->s.blk b\/w.heap.size<=b):=
 Rws.appends T h (qs:=[r]) (by simpa using hr) (by simpa using a) (by simpa using h1) Sm d hm
end Go.SE
end
section
namespace Go.SE
open Go.Instr
def zIN(k:Value)(es:List MapEntry)(r:Option (Nat×Value)):Prop:=
 (r=.none/\∀e∈es,e.key≠k)\/∃i e,es[i]?=some e/\e.key=k/\r=some (i,e.val)
structure KeyOK(P:Program)(K:TypeId)(S:Value->Prop):Prop where
 check:∀k,S k->∀a w,(checkKey a 10000 K k).run P w=.ok () w
 find:∀k (es:List MapEntry) w,S k->(∀e∈es,S e.key)->∃r,(findKey K k es).run P w=.ok r w/\zIN k es r
 bits:∀k,S k->sameBits 10000 k k=true
structure CMap(w:World)(m:Nat)(es:List (Value×Value)):Prop where
 ex:∃d c,w.heap[m]?=some (.map d c)/\d.toList.map (fun e=>(e.key,e.val))=es/\d.toList.Pairwise (fun a b=>a.born<b.born)/\∀e∈d.toList,e.born<c
def CMap.ext{F w w' m}{es:List (Value×Value)}(h:CMap w m es)(c:Ext F w w')(d:¬F m):CMap w' m es:=by
 have⟨b,a,hm,r⟩:=h.ex;exact⟨b,a,c.heap hm d,r⟩
def CMap.lt{w m}{es:List (Value×Value)}(h:CMap w m es):m<w.heap.size:=by
 have⟨b,a,hm,r⟩:=h.ex;exact tM hm
def CMap.of_new{w w' p}(h:New w (.map #[] 0) p w'):CMap w' p.block []:=⟨#[],0,h.block_new,rfl,Sm,Sm⟩
def jBM{P K k w}:∀(es:List MapEntry) (i:Nat),(∀e∈es,∃b,(Op.equal K k e.key).run P w=.ok b w/\(b=true↔e.key=k)) ->
  ∃r,(findAsking K k es i).run P w=.ok r w/\((r=.none/\∀e∈es,e.key≠k)\/∃j e,es[j]?=some e/\e.key=k/\r=some (i+j,e.val))
 |[],i,_=>⟨.none,rfl,.inl ⟨rfl,Sm⟩⟩
 |e :: es,i,h=>by
  have⟨b,f,d⟩:=h e Sm;cases b with
  |true =>
   refine⟨some (i,e.val),?_,.inr ⟨0,e,rfl,d.1 rfl,rfl⟩⟩
   simp[findAsking,f]
  |false =>
   have⟨r,hr,g⟩:=jBM es (i+1) fun e l=>h e (by simp[l])
   refine⟨r,?_,?_⟩
   simp[findAsking,f,hr]
   rcases g with⟨h1,h2⟩|⟨j,c,h1,h2,h3⟩
   left
   refine⟨h1,fun c a=>?_⟩
   rcases List.mem_cons.1 a with rfl|a
   grind
   exact h2 c a
   exact .inr ⟨j+1,c,by simpa using h1,h2,by rw[h3,Nat.add_assoc,Nat.add_comm 1 j]⟩
def jKS{fs:Array Field}{k}:∀(es:List MapEntry) (i:Nat),es≠[]->findNow (.struct fs) k es i=.none
 |[],_,h=>absurd rfl h
 |e :: es,i,_=>by simp[findNow,sameNow]
def KeyOK.of_struct{P K}{S:Value->Prop}{fs:Array Field}(g:P.underlying K=some (.struct fs))(i:∀k,S k->∀h w,(checkKey h 10000 K k).run P w=.ok () w)(m:∀k k' w,S k->S k'->∃b,(Op.equal K k k').run P w=.ok b w/\(b=true↔k'=k))(j:∀k,S k->sameBits 10000 k k=true):KeyOK P K S:=by
 refine⟨i,fun k es w f c=>?_,j⟩;unfold findKey;simp only[Sem.run_bind,run_underlying g,Result.andThen_ok];by_cases d:es=[];subst d;exact⟨.none,by simp[findNow],.inl ⟨rfl,Sm⟩⟩;rw[jKS es 0 d];have⟨r,hr,l⟩:=jBM (P:=P) (K:=K) (k:=k) (w:=w) es 0 fun e a=>m k e.key w f<|c e a;exact⟨r,hr,by simpa[zIN]using l⟩
def jKC{q k}:∀(es:List MapEntry) (i:Nat),(∀e∈es,∃n,e.key=.int q n)->∃r,findNow (.int q) (.int q k) es i=some r/\((r=.none/\∀e∈es,e.key≠.int q k)\/∃j e,es[j]?=some e/\e.key=.int q k/\r=some (i+j,e.val))
 |[],i,_=>⟨.none,rfl,.inl ⟨rfl,Sm⟩⟩
 |e :: es,i,h=>by
  have⟨n,c⟩:=h e Sm;by_cases f:k=n;subst f;exact⟨some (i,e.val),by simp[findNow,sameNow,c],.inr ⟨0,e,rfl,c,rfl⟩⟩;have⟨r,hr,g⟩:=jKC (q:=q) (k:=k) es (i+1) Gd;have b:(k==n)=false:=by simpa using f
  refine⟨r,by simp[findNow,sameNow,c,b,hr],?_⟩;rcases g with⟨h1,h2⟩|⟨j,d,h1,h2,h3⟩;left;refine⟨h1,fun d a=>?_⟩;rcases List.mem_cons.1 a with rfl|a;grind;exact h2 d a;exact .inr ⟨j+1,d,by simpa using h1,h2,by rw[h3,Nat.add_assoc,Nat.add_comm 1 j]⟩
def jPZ{P K q}(a:P.underlying K=some (.int q))(n em w d):(checkKey em (d+1) K<|.int q n).run P w=.ok () w:=by
 simp[checkKey,run_underlying a]
def jOG(q n d):sameBits d (.int q n) (.int q n)=true:=by
 cases d<;>simp[sameBits]
def KeyOK.of_int{P K q}(b:P.underlying K=some (.int q)):KeyOK P K (fun k=>∃n,k=.int q n):=by
 refine⟨?_,?_,?_⟩;rintro _ ⟨n,rfl⟩ c w;exact jPZ b n c w 9999;rintro _ es w ⟨n,rfl⟩ a;have⟨r,hr,d⟩:=jKC (q:=q) (k:=n) es 0 a;exact⟨r,by simp[findKey,run_underlying b,hr],by simpa[zIN]using d⟩;rintro _ ⟨n,rfl⟩;exact jOG q n 10000
section
variable {P:Program} {T K E:TypeId} {S:Value->Prop} {w:World} {m:Nat} {es:List (Value×Value)}
def CMap.lookup(h:CMap w m es)(g:P.underlying T=some (.map K E))(d:KeyOK P K S)(hS:∀p∈es,S p.1){k z}(c:S k)(l:(zeroValue E).run P w=.ok z w)(ok):
  ((∀p∈es,p.1≠k)/\(Instr.lookup T (.map<|some m) k ok).run P w=.ok (if ok then .tuple #[z,.bool false]else z) w) \/
  ∃(i:Nat) (v:Value),es[i]?=some (k,v)/\(Instr.lookup T (.map<|some m) k ok).run P w=.ok (if ok then .tuple #[v,.bool true]else v) w:=by
 obtain⟨b,a,hm,rfl,_,_⟩:=h.ex
 have⟨r,hr,n⟩:=d.find k b.toList w c fun e o=>hS _<|List.mem_map.2 ⟨e,o,rfl⟩
 have f:=d.check k c b.isEmpty w
 have j:(getObj m).run P w=.ok (.map b a) w:=by simp[getObj,Sem.run,hm]
 rcases n with⟨rfl,s⟩|⟨i,e,hi,rfl,rfl⟩
 left
 refine⟨fun p q=>?_,?_⟩
 grind
 cases ok<;>simp[Instr.lookup,run_underlying g,j,f,hr,l]
 right
 refine⟨i,e.val,by simp[hi],?_⟩
 cases ok<;>simp[Instr.lookup,run_underlying g,j,f,hr]
def CMap.insert(h:CMap w m es)(o:P.underlying T=some (.map K E))(j:KeyOK P K S)(hS:∀p∈es,S p.1){k v}(g:S k)(n:∀p∈es,p.1≠k):
  ∃w',(Instr.mapUpdate T (.map<|some m) k v).run P w=.ok () w'/\CMap w' m (es++[(k,v)])/\Ext (·=m) w w':=by
 obtain⟨c,a,hm,rfl,u,t⟩:=h.ex
 have⟨r,hr,f⟩:=j.find k c.toList w g fun e q=>hS _<|List.mem_map.2 ⟨e,q,rfl⟩
 have l:=j.check k g false w
 have s:(getObj m).run P w=.ok (.map c a) w:=by simp[getObj,Sem.run,hm]
 have d:=tM hm
 rcases f with⟨rfl,_⟩|⟨i,e,hi,rfl,rfl⟩
 refine⟨{ w with heap:=w.heap.setIfInBounds m (.map (c.push { key:=k,val:=v,born:=a })<|a+1) },?_,⟨c.push { key:=k,val:=v,born:=a },a+1,by simp[d],Sm,?_,?_⟩,⟨rfl,rfl,rfl,Gd,Sm,fun b _ f=>by simp[Array.getElem?_setIfInBounds_ne<|Ne.symm f]⟩⟩
 simp[Instr.mapUpdate,run_underlying o,s,l,hr,setObj,Sem.run,hm]
 grind
 grind
 exact absurd rfl (n _<|List.mem_map.2 ⟨e,List.mem_of_getElem? hi,rfl⟩)
def jFG{α β:Type}(f:α->β):∀(l:List α) (i:Nat),(l.eraseIdx i).map f=(l.map f).eraseIdx i
 |[],i=>Sm
 |a :: l,0=>Sm
 |a :: l,i+1=>by simp[jFG f l i]
def CMap.delete(h:CMap w m es)(y:P.underlying T=some (.map K E))(o:KeyOK P K S)(hS:∀p∈es,S p.1){k v}(n:S k){i}(hi:es[i]?=some (k,v))(x:∀j u,es[j]?=some (k,u)->j=i){Q z}:
  ∃w',(Builtin.delete_ #[T,Q] z #[.map<|some m,k]).run P w=.ok (.tuple #[]) w'/\CMap w' m (es.eraseIdx i)/\Ext (·=m) w w':=by
 obtain⟨a,c,hm,rfl,D,C⟩:=h.ex
 have⟨r,hr,g⟩:=o.find k a.toList w n fun e A=>hS _<|List.mem_map.2 ⟨e,A,rfl⟩
 have s:=o.check k n a.isEmpty w
 have B:(getObj m).run P w=.ok (.map a c) w:=by simp[getObj,Sem.run,hm]
 have d:=tM hm
 rcases g with⟨rfl,F⟩|⟨j,e,q,rfl,rfl⟩
 grind
 have l:j=i:=x j e.val (by simp[q])
 subst l
 have f:j<a.size:=by
  have:=List.getElem?_eq_some_iff.1 q;have⟨h,_⟩:=this;simpa using h
 have t:(a.eraseIdxIfInBounds j).toList=a.toList.eraseIdx j:=by
  simp[Array.eraseIdxIfInBounds,f,Array.toList_eraseIdx]
 refine⟨{ w with heap:=w.heap.setIfInBounds m (.map (a.eraseIdxIfInBounds j) c) },?_,⟨a.eraseIdxIfInBounds j,c,by simp[d],?_,?_,?_⟩,⟨rfl,rfl,rfl,Gd,Sm,fun b _ g=>by simp[Array.getElem?_setIfInBounds_ne<|Ne.symm g]⟩⟩
 simp[Builtin.delete_,run_underlying y,B,s,hr,setObj,Sem.run,hm]
 rw[t];exact jFG _ _ _
 grind
 grind
def CMap.update(h:CMap w m es)(H:P.underlying T=some (.map K E))(C:KeyOK P K S)(hS:∀p∈es,S p.1){k v v'}(y:S k){i}(hi:es[i]?=some (k,v))(N:∀j u,es[j]?=some (k,u)->j=i):
  ∃w',(Instr.mapUpdate T (.map<|some m) k v').run P w=.ok () w'/\CMap w' m (es.set i (k,v'))/\Ext (·=m) w w':=by
 obtain⟨a,c,hm,rfl,F,O⟩:=h.ex
 have⟨r,hr,x⟩:=C.find k a.toList w y fun e L=>hS _<|List.mem_map.2 ⟨e,L,rfl⟩
 have I:=C.check k y false w
 have M:(getObj m).run P w=.ok (.map a c) w:=by simp[getObj,Sem.run,hm]
 have D:=tM hm
 rcases x with⟨rfl,o⟩|⟨j,e,A,l,rfl⟩
 grind
 have B:j=i:=N j e.val (by simp[A,l])
 subst B
 have⟨t,s⟩:=List.getElem?_eq_some_iff.1 A
 have q:j<a.size:=by simpa using t
 have d:a[j]?=some e:=by simpa using A
 have g:a[j]=e:=by simpa using s
 have J:(a.modify j fun e=>{ e with key:=k,val:=v' }).toList=a.toList.set j { e with key:=k,val:=v' }:=by
  rw[Array.toList_modify];apply List.ext_getElem?;intro n;rw[List.getElem?_modify,List.getElem?_set];by_cases o:j=n;grind;simp[o]
 have G:(a.toList.map (·.born)).Pairwise (·<·):=List.pairwise_map.2 F
 have z:(a.toList.set j { e with key:=k,val:=v' }).map (·.born)=a.toList.map (·.born):=by
  rw[List.map_set];apply List.ext_getElem?;intro n;rw[List.getElem?_set];by_cases o:j=n;subst o;simp[q,d,g];simp[o]
 have f:=C.bits k y
 refine⟨{ w with heap:=w.heap.setIfInBounds m (.map (a.modify j fun e=>{ e with key:=k,val:=v' }) c) },?_,⟨a.modify j fun e=>{ e with key:=k,val:=v' },c,by simp[D],?_,?_,?_⟩,⟨rfl,rfl,rfl,Gd,Sm,fun b _ x=>by simp[Array.getElem?_setIfInBounds_ne<|Ne.symm x]⟩⟩
 simp[Instr.mapUpdate,run_underlying H,M,I,hr,setObj,Sem.run,hm,keyThatStays,d,l,f]
 rw[J,List.map_set]
 grind
 grind
end
end Go.SE
end
section
namespace Go.SE
structure Lst(S:Nat->Prop)(w:World)(sz:Nat)(s:Sl)(rs:List (List Value)):Prop where
 len:s.len=rs.length
 at_:∀i (h:i<rs.length),∃a,At s i sz a/\S a.block/\Row w a rs[i]
def Lst.ext{S F w w' sz s rs}(h:Lst S w sz s rs)(c:Ext F w w')(d:∀b,S b->¬F b):Lst S w' sz s rs:=
 ⟨h.len,fun i hi=>let ⟨a,h1,h2,h3⟩:=h.at_ i hi;⟨a,h1,h2,c.row h3<|d _ h2⟩⟩
def Lst.pure{S w w' sz s rs}(h:Lst S w sz s rs)(a:Pure w w'):Lst S w' sz s rs:=h.ext a fun _ _ h=>h
def Rws.lst{w e sz s rs}(h:Rws w e sz s rs):Lst s.blk w sz s rs:=
 ⟨h.len,fun i hi=>let ⟨a,h1,h2,h3⟩:=h.at (i:=i) Om (by simpa using hi);⟨a,h1,h3,h2⟩⟩
def yP(a:Addr)(i j:Nat):(a.add i).add j=a.add (i+j):=by
 unfold Addr.add;repeat' split
 all_goals simp_all
 all_goals omega
section
variable {P:Program} {t e:TypeId} {sz bytes:Nat}
def SlType.sizeOf(T:SlType P t e sz bytes)(w):(Go.sizeOf e).run P w=.ok sz w:=by
 have⟨i,z,hi,_,hs,_⟩:=T.hi;simp[Go.sizeOf,Go.typeInfo,Sem.run,program,hi,hs,bind,pure,Sem.bind,Sem.pure]
def Rws.hi(T:SlType P t e sz bytes){w s rs}(h:Rws w e sz s rs){k}{n:Int}(o:0<=n)(l:n<=rs.length):
  ∃s':Sl,(Instr.sliceAt t s.v none (some<|.int k n) none).run P w=.ok s'.v w/\Rws w e sz s' (rs.take n.toNat)/\∀b,s'.blk b↔s.blk b:=by
 rcases h.own with⟨rfl,rfl⟩|⟨g,cur,c,m,p,hm,hs,ht⟩
 have:n=0:=by simpa using(show n=0 by simp at l;omega)
 subst this
 refine⟨Sl.nil,?_,by simpa using Rws.nil w e sz,fun _=>Iff.rfl⟩
 simp[Instr.sliceAt,Instr.slice,Sl.v,Sl.nil,run_underlying T.ht,Instr.sliceBounds,Instr.sliceBound,asIntOf,T.sizeOf]
 refine⟨⟨some ⟨g,0,none⟩,n.toNat,s.cap⟩,?_,⟨fun r hr=>h.each r<|List.mem_of_mem_take hr,So,.inr ⟨g,cur,rfl,m,So,hm,hs,?_⟩⟩,fun b=>?_⟩
 have a:n<=(s.cap:Int):=Om
 by_cases f:s.cap=0
 have:n=0:=Om
 subst this
 simp[Instr.sliceAt,Instr.slice,Sl.v,run_underlying T.ht,Instr.sliceBounds,Instr.sliceBound,asIntOf,T.sizeOf,c,f]
 simp[Instr.sliceAt,Instr.slice,Sl.v,run_underlying T.ht,Instr.sliceBounds,Instr.sliceBound,asIntOf,T.sizeOf,o,a,c,f,Addr.add]
 have d:(rs.take n.toNat).length=n.toNat:=So
 have i:rs=rs.take n.toNat++rs.drop n.toNat:=(List.take_append_drop _ _).symm
 have j:((rs.take n.toNat).flatten).length=n.toNat*sz:=by rw[vZ fun r hr=>h.each r<|List.mem_of_mem_take hr,d]
 have h3:n.toNat*sz<=rs.length*sz:=Nat.mul_le_mul_right _ Om
 calc cur.toList.take ((rs.take n.toNat).length*sz)=(cur.toList.take<|rs.length*sz).take (n.toNat*sz):=by rw[d,List.take_take,Nat.min_eq_left h3]
  _=((rs.take n.toNat).flatten++(rs.drop n.toNat).flatten).take (n.toNat*sz):=by rw[ht,<-List.flatten_append,<-i]
  _=(rs.take n.toNat).flatten:=by rw[<-j,List.take_left]
 simp[Sl.blk,c]
def Lst.lo{S}(T:SlType P t e sz bytes){w s rs}(h:Lst S w sz s rs)(d:s.len<=s.cap){k}{n:Int}(j:0<=n)(g:n<=rs.length):
  ∃s':Sl,(Instr.sliceAt t s.v (some<|.int k n) none none).run P w=.ok s'.v w/\Lst S w sz s' (rs.drop n.toNat):=by
 have c:n<=(s.len:Int):=by rw[h.len];exact g
 refine⟨⟨if s.cap=n.toNat then s.a else s.a.map (·.add<|n.toNat*sz),s.len-n.toNat,s.cap-n.toNat⟩,?_,⟨by simp[h.len],fun i hi=>?_⟩⟩
 simp[Instr.sliceAt,Instr.slice,Sl.v,run_underlying T.ht,Instr.sliceBounds,Instr.sliceBound,asIntOf,T.sizeOf,j,c]
 have b:n.toNat+i<rs.length:=by simp at hi;omega
 obtain⟨a,⟨_,f,p,l,rfl⟩,hS,hr⟩:=h.at_ (n.toNat+i) b
 refine⟨_,⟨Om,by simp only[h.len];omega,p.add<|n.toNat*sz,?_,rfl⟩,?_,?_⟩
 grind
 simpa[zG]using hS
 have:(p.add<|n.toNat*sz).add ((i:Int).toNat*sz)=p.add (((n.toNat+i:Nat):Int).toNat*sz):=by
  rw[yP,Int.toNat_natCast,Int.toNat_natCast,Nat.add_mul]
 rw[this,List.getElem_drop];exact hr
end
def Box.storeAt{p T}:∀(vs:List Value) (i a:Nat) (w:World) (c:List Value),Box w p c T->a+i+vs.length<=c.length ->
  Box (storeRowFrom w (p.add a) i vs) p (c.take (a+i)++vs++c.drop (a+i+vs.length)) T
 |[],i,a,w,c,h,b=>by simpa[storeRowFrom]using h
 |v :: vs,i,a,w,c,h,b=>by
  simp only[storeRowFrom];have h1:=h.set (a+i) v;rw[<-yP]at h1;have h2:=Box.storeAt vs (i+1) a _ _ h1 (by simp at b|-;omega);have e:(c.set (a+i) v).take (a+(i+1))++vs++(c.set (a+i) v).drop (a+(i+1)+vs.length)=c.take (a+i)++(v ::vs)++c.drop (a+i+(v ::vs).length):=by
   have d:a+i<c.length:=by simp at b;omega
   rw[List.drop_set_of_lt Om,<-Nat.add_assoc,List.take_succ_eq_append_getElem So,List.getElem_set_self,List.take_set_of_le<|Nat.le_refl _];simp only[List.length_cons,List.append_assoc,List.cons_append,List.nil_append];congr 4;omega
  rw[e]at h2;exact h2
def Rws.set{w e}{sz:Nat}{s rs}(h:Rws w e sz s rs){i:Nat}(hi:i<rs.length){r}(hr:r.length=sz){k:Int}(K:k=i):
  ∃a,At s k sz a/\(∀j,j<sz->zV w (a.add j))/\∀w',w'=storeRow w a r->Rws w' e sz s (rs.set i r)/\Ext s.blk w w':=by
 subst K
 rcases h.own with⟨_,rfl⟩|⟨g,cur,u,J,x,hm,hs,ht⟩
 simp at hi
 have B:Box w ⟨g,0,none⟩ cur.toList e:=⟨rfl,by simpa using J⟩
 have p:(i+1)*sz<=rs.length*sz:=Nat.mul_le_mul_right _ hi
 have z:rs.length*sz<=s.cap*sz:=Nat.mul_le_mul_right _ x
 have v:cur.toList.length=s.cap*sz:=by simpa using hs
 rw[Nat.succ_mul]at p
 refine⟨(⟨g,0,none⟩:Addr).add<|i*sz,⟨Om,by rw[h.len];omega,⟨_,u,Sm⟩⟩,fun j O=>?_,?_⟩
 rw[yP];exact B.canW Om
 intro w' c
 have y:=Box.storeAt r 0 (i*sz) w _ B (by rw[hr];omega)
 have E:Ext (·=g) w w':=by
  rw[c];have:=Ext.storeRow w ((⟨g,0,none⟩:Addr).add<|i*sz) r;rw[zG]at this;exact this
 have t:storeRowFrom w ((⟨g,0,none⟩:Addr).add<|i*sz) 0 r=w':=c.symm
 rw[t]at y
 refine⟨⟨?_,by rw[List.length_set];exact h.len,.inr ⟨g,_,u,y.blk,by rw[List.length_set];exact x,hm,?_,?_⟩⟩,E.mono fun b _ C=>⟨_,u,C.symm⟩⟩
 intro q l
 rcases List.mem_or_eq_of_mem_set l with o|rfl
 exact h.each q o
 exact hr
 grind
 have f:∀ q∈rs.set i r,q.length=sz:=by
  intro q l;rcases List.mem_or_eq_of_mem_set l with o|rfl;exact h.each q o;exact hr
 have M:rs=rs.take i++rs[i] ::rs.drop (i+1):=by rw[<-List.drop_eq_getElem_cons hi,List.take_append_drop]
 have A:rs.set i r=rs.take i++r ::rs.drop (i+1):=Gd
 have L:(rs.take i).flatten.length=i*sz:=by rw[vZ fun r hr=>h.each r<|List.mem_of_mem_take hr,List.length_take,Nat.min_eq_left Om]
 have I:rs[i].length=sz:=h.each _<|List.getElem_mem hi
 have N:(rs.drop<|i+1).flatten.length=(rs.length-(i+1))*sz:=by rw[vZ fun r hr=>h.each r<|List.mem_of_mem_drop hr,List.length_drop]
 have d:cur.toList=rs.flatten++cur.toList.drop (rs.length*sz):=by rw[<-ht,List.take_append_drop]
 have m:rs.flatten=(rs.take i).flatten++(rs[i]++(rs.drop<|i+1).flatten):=Gd
 have G:cur.toList.take (i*sz)=(rs.take i).flatten:=Gd
 have H:cur.toList.drop (i*sz+sz)=(rs.drop<|i+1).flatten++cur.toList.drop (rs.length*sz):=by
  conv=>lhs;rw[d,m]
  have:i*sz+sz=((rs.take i).flatten++rs[i]).length:=by rw[List.length_append,L,I]
  rw[<-List.append_assoc,List.append_assoc,this,List.drop_left]
 have n:((rs.set i r).flatten).length=(rs.set i r).length*sz:=vZ f
 have D:(rs.set i r).flatten=(rs.take i).flatten++(r++(rs.drop<|i+1).flatten):=by rw[A,List.flatten_append,List.flatten_cons]
 have F:(rs.take i).flatten++r++((rs.drop<|i+1).flatten++cur.toList.drop (rs.length*sz))=(rs.set i r).flatten++cur.toList.drop (rs.length*sz):=Gd
 rw[<-n,Nat.add_zero,hr,G,H,F]
 exact List.take_left
section
variable {P:Program} {t e:TypeId} {sz bytes:Nat}
def Rws.make(T:SlType P t e sz bytes){zr}(s:∀i z,P.info? e=some i->i.zero=some z->z.cells=zr.toArray){k k' n}(B:bytes*n<=281474976710656)(hm:n<=maxLen)(w):
  ∃w',(Instr.makeSlice t (.int k (n:Int))<|.int k' (n:Int)).run P w=.ok (Sl.mk (some ⟨w.heap.size,0,none⟩) n n).v w'/\Rws w' e sz ⟨some ⟨w.heap.size,0,none⟩,n,n⟩ (List.replicate n zr)/\Pure w w':=by
 have⟨i,z,hi,p,hs,A,d⟩:=T.hi
 have c:=s i z hi p
 have a:zr.length=sz:=by rw[<-d,c];simp
 have h:(n:Int)<=9223372036854775807:=by simp only[maxLen]at hm;omega
 have g:(i.bytes:Int)*(n:Int)<=281474976710656:=Gd
 have hr:=run_make (P:=P) w t e i z T.ht hi p k k' n n Om (Int.le_refl _) g h
 simp only[Int.toNat_natCast,hs]at hr
 have m:New w (.cells (madeCells z.cells<|n*sz) e) ⟨w.heap.size,0,none⟩ (w.alloc<|.cells (madeCells z.cells<|n*sz) e):=⟨rfl,rfl⟩
 refine⟨_,hr,⟨fun r hr=>by rw[(List.mem_replicate.1 hr).2,a],Sm,.inr ⟨w.heap.size,_,rfl,m.block_new,Sm,hm,by simp[size_madeCells],?_⟩⟩,Ext.new m⟩
 have f:=T.pos
 have o:∀r∈List.replicate n zr,r.length=sz:=fun r hr=>by rw[(List.mem_replicate.1 hr).2,a]
 rw[List.take_of_length_le<|by simp[size_madeCells]]
 apply List.ext_getElem?
 intro j
 by_cases x:j<n*sz
 have y:j/sz<n:=Nat.div_lt_of_lt_mul Gd
 have b:j%sz<sz:=Nat.mod_lt _ f
 have l:=jEB o (i:=j/sz) (by simpa using y) (j:=j%sz) b
 have q:j/sz*sz+j%sz=j:=by rw[Nat.mul_comm];exact Nat.div_add_mod j sz
 rw[q]at l
 rw[l]
 have u:z.cells.size=sz:=d
 simp only[madeCells,c,Array.getElem?_toList,Array.getElem?_map,Array.getElem?_range,x,List.size_toArray,a,List.getElem_replicate,if_true,Option.map_some]
 rw[List.getElem?_eq_getElem Om]
 simp[a,b]
 rw[List.getElem?_eq_none (by simp[size_madeCells];omega),List.getElem?_eq_none (by rw[vZ o];simp;omega)]
end
end Go.SE
end
section
namespace Go.SE
open Go.Instr
structure CEnt(w:World)(m:Nat)(z:Int)(i:Nat)(es:List (Value×Value)):Prop where
 ex:∃c d,w.heap[m]?=some (.map c d)/\c.toList.map (fun e=>(e.key,e.val))=es/\c.toList.Pairwise (fun a b=>a.born<b.born)/\(∀e∈c.toList,e.born<d)/\∃e,c.toList[i]?=some e/\(e.born:Int)=z
def CEnt.ext{F w w' m z i}{es:List (Value×Value)}(h:CEnt w m z i es)(c:Ext F w w')(d:¬F m):CEnt w' m z i es:=by
 have⟨b,a,hm,r⟩:=h.ex;exact⟨b,a,c.heap hm d,r⟩
section
variable {P:Program} {T K E:TypeId} {S:Value->Prop} {w:World} {m:Nat} {es:List (Value×Value)}
def CEnt.store{z i}(h:CEnt w m z i es){k v0 v}(hi:es[i]?=some (k,v0)):
  ∃w',(Instr.entryStore T (.map<|some m) (.int .i64 z) v).run P w=.ok () w'/\CMap w' m (es.set i (k,v))/\Ext (·=m) w w':=by
 obtain⟨a,c,hm,rfl,u,F,e,q,rfl⟩:=h.ex
 have D:(getObj m).run P w=.ok (.map a c) w:=by simp[getObj,Sem.run,hm]
 have s:=tM hm
 have⟨p,o⟩:=List.getElem?_eq_some_iff.1 q
 have f:i<a.size:=by simpa using p
 have x:a[i]?=some e:=by simpa using q
 have d:a[i]=e:=by simpa using o
 have l:e.key=k:=by
  rw[List.getElem?_map,q]at hi;have:=Option.some.inj hi;exact congrArg Prod.fst this
 have t:a.findIdx? (fun C=>(C.born:Int)==(e.born:Int))=some i:=by
  rw[Array.findIdx?_eq_some_iff_getElem];refine⟨f,by simp[d],fun j E=>?_⟩;have:=List.pairwise_iff_getElem.1 u j i So (by simpa using f) E;simp only[Array.getElem_toList,d]at this;simp only[beq_iff_eq];omega
 have A:(a.modify i fun e=>{ e with val:=v }).toList=a.toList.set i { e with val:=v }:=by
  rw[Array.toList_modify];apply List.ext_getElem?;intro n;rw[List.getElem?_modify,List.getElem?_set];by_cases g:i=n;grind;simp[g]
 have y:(a.toList.map (·.born)).Pairwise (·<·):=List.pairwise_map.2 u
 have r:(a.toList.set i { e with val:=v }).map (·.born)=a.toList.map (·.born):=by
  rw[List.map_set];apply List.ext_getElem?;intro n;rw[List.getElem?_set];by_cases g:i=n;subst g;simp[f,d];simp[g]
 refine⟨{ w with heap:=w.heap.setIfInBounds m (.map (a.modify i fun e=>{ e with val:=v }) c) },?_,⟨a.modify i fun e=>{ e with val:=v },c,by simp[s],?_,?_,?_⟩,⟨rfl,rfl,rfl,Gd,Sm,fun b _ B=>by simp[Array.getElem?_setIfInBounds_ne<|Ne.symm B]⟩⟩
 simp[Instr.entryStore,D,asInt,asIntOf,t,setObj,Sem.run,hm]
 rw[A,List.map_set,l]
 grind
 grind
end
end Go.SE
end
section
namespace Go.SE
abbrev HBx:=Addr×List Value×TypeId
def isCl:Obj->Bool
 |.cells ..=>true
 |_=>false
structure HBZ(Z:List (Nat×Obj))(H:Nat->Prop)(w:World)(l:List HBx):Prop where
 box:∀x∈l,Box w x.1 x.2.1 x.2.2
 hid:∀x∈l,H x.1.block
 ne:l.Pairwise fun x y=>x.1.block≠y.1.block
 fz:∀x∈Z,H x.1/\w.heap[x.1]?=some x.2/\isCl x.2=false
abbrev HB(H:Nat->Prop)(w:World)(l:List HBx):Prop:=HBZ [] H w l
structure Hst(w0:World)(H:Nat->Prop)(w:World)(a:Nat->Prop)(w':World):Prop where
 ext:Ext a w w'
 sub:∀b,H b->a b
 new:∀b,a b->H b\/w.heap.size<=b
 old:∀b,a b->w0.heap.size<=b
 lt:∀b,a b->b<w'.heap.size
 base:w0.heap.size<=w'.heap.size
structure Kept(H:Nat->Prop)(w w':World):Prop where
 size:w.heap.size<=w'.heap.size
 keep:∀b,b<w.heap.size->H b->w'.heap[b]?=w.heap[b]?
def Ext.kept{F H w w'}(h:Ext F w w')(c:∀b,H b->¬F b):Kept H w w':=⟨h.size,fun b a d=>h.keep b a<|c b d⟩
def Ext.keptP{H w w'}(h:Pure w w'):Kept H w w':=h.kept fun _ _ h=>h
def Kept.refl{H}(w):Kept H w w:=⟨Nat.le_refl _,fun _ _ _=>rfl⟩
section
variable {w0 w w1 w2 wv:World} {H H1 H2 Hv:Nat->Prop} {Z:List (Nat×Obj)} {l l':List HBx}
def Hst.start(w0):Hst w0 None w0 None w0:=⟨Ext.refl _,fun _ h=>h,fun _ h=>.inl h,fun _ h=>h.elim,fun _ h=>h.elim,Nat.le_refl _⟩
def HB.nil(H w):HB H w []:=⟨fun _ h=>(by cases h),fun _ h=>(by cases h),List.Pairwise.nil,fun _ h=>(by cases h)⟩
def Hst.here(h:Hst w0 Hv wv H w):Hst w0 H w H w:=⟨Ext.refl _,fun _ h=>h,fun _ h=>.inl h,h.old,h.lt,h.base⟩
def Hst.again(h:Hst w0 Hv wv H w)(a:Kept H w w1):Hst w0 H w1 H w1:=
 ⟨Ext.refl _,fun _ h=>h,fun _ h=>.inl h,h.old,fun b c=>Nat.lt_of_lt_of_le (h.lt b c) a.size,Nat.le_trans h.base a.size⟩
def Hst.trans(h:Hst w0 Hv wv H w)(k:Hst w0 H w H1 w1):Hst w0 Hv wv H1 w1:=
 ⟨(h.ext.mono fun b _ a=>k.sub b a).trans k.ext,fun b a=>k.sub b<|h.sub b a,fun b a=>(k.new b a).elim (fun a=>h.new b a) fun a=>.inr<|Nat.le_trans h.ext.size a,k.old,k.lt,k.base⟩
def Hst.pure(h:Hst w0 Hv wv H w)(E:Pure w w1):Hst w0 Hv wv H w1:=
 ⟨h.ext.thenPure E,h.sub,h.new,h.old,fun b a=>Nat.lt_of_lt_of_le (h.lt b a) E.size,Nat.le_trans h.base E.size⟩
def Hst.drew(h:Hst w0 Hv wv H w):Hst w0 Hv wv H w.drew:=h.pure<|Ext.drew w
def HBZ.kept(a:HBZ Z H w l)(c:Kept H w w1):HBZ Z H w1 l:=
 ⟨fun x b=>⟨(a.box x b).addr,by rw[c.keep _ (a.box x b).lt<|a.hid x b];exact(a.box x b).blk⟩,a.hid,a.ne,fun x b=>⟨(a.fz x b).1,by rw[c.keep _ (tM (a.fz x b).2.1) (a.fz x b).1];exact(a.fz x b).2.1,(a.fz x b).2.2⟩⟩
def HBZ.pure(a:HBZ Z H w l)(E:Pure w w1):HBZ Z H w1 l:=a.kept E.keptP
def HBZ.drew(a:HBZ Z H w l):HBZ Z H w.drew l:=a.pure<|Ext.drew w
def HBZ.sub(a:HBZ Z H w l)(c:l'.Sublist l):HBZ Z H w l':=⟨fun x b=>a.box x<|c.subset b,fun x b=>a.hid x<|c.subset b,a.ne.sublist c,a.fz⟩
def Hst.alloc{c T p}(h:Hst w0 Hv wv H w)(a:HBZ Z H w l)(f:New w (.cells c.toArray T) p w1):∃H1,Hst w0 Hv wv H1 w1/\HBZ Z H1 w1 ((p,c,T) ::l):=by
 have E:Pure w w1:=Ext.new f;have g:p.block=w.heap.size:=f.at_size;have B:=Box.of_new f;refine⟨fun b=>H b\/b=p.block,⟨(h.ext.thenPure E).mono fun b _ a=>.inl a,fun b a=>.inl<|h.sub b a,?_,?_,?_,Nat.le_trans h.base E.size⟩,?_⟩;rintro b (a|rfl);exact h.new b a;right;rw[g];exact h.ext.size;rintro b (a|rfl);exact h.old b a;rw[g];exact h.base;rintro b (a|rfl);exact Nat.lt_of_lt_of_le (h.lt b a) E.size;exact B.lt;have e:=a.pure E;refine⟨?_,?_,?_,fun x d=>⟨.inl (e.fz x d).1,(e.fz x d).2⟩⟩;intro x d;rcases List.mem_cons.1 d with rfl|d;exact B;exact e.box x d;intro x d;rcases List.mem_cons.1 d with rfl|d;exact .inr rfl;exact .inl<|e.hid x d;refine List.pairwise_cons.2 ⟨fun x d=>?_,e.ne⟩;have:=(a.box x d).lt;show p.block≠x.1.block;omega
def HBZ.at(a:HBZ Z H w l){i:Nat}{p c T}(hi:l[i]?=some (p,c,T)):Box w p c T:=a.box _<|List.mem_of_getElem? hi
def HBZ.cell(a:HBZ Z H w l)(i j:Nat){p c T v}(hi:l[i]?=some (p,c,T))(b:c[j]?=some v):w.cell? (p.add j)=some v:=(a.at hi).cell b
def HBZ.cell0(a:HBZ Z H w l)(i:Nat){p c T v}(hi:l[i]?=some (p,c,T))(b:c[0]?=some v):w.cell? p=some v:=by
 have:=a.cell i 0 hi b;simpa[Addr.add]using this
def HBZ.row(e:HBZ Z H w l)(i j n:Nat){p c vs T}(hi:l[i]?=some (p,c,T))(d:(c.drop j).take n=vs):Row w (p.add j) vs:=by
 intro k b;subst d;have a:k<n/\j+k<c.length:=by simp at b;omega
 rw[yP,List.getElem?_take,if_pos a.1,List.getElem?_drop,List.getElem?_eq_getElem a.2];exact(e.at hi).cell<|List.getElem?_eq_getElem a.2
def HBZ.row0(e:HBZ Z H w l)(i n:Nat){p c vs T}(hi:l[i]?=some (p,c,T))(d:c.take n=vs):Row w p vs:=by
 intro k b;subst d;have a:k<n/\k<c.length:=by simp at b;omega
 rw[List.getElem?_take,if_pos a.1,List.getElem?_eq_getElem a.2];exact(e.at hi).cell<|List.getElem?_eq_getElem a.2
def HBZ.canW(a:HBZ Z H w l)(i j:Nat){p c T}(hi:l[i]?=some (p,c,T))(b:decide (j<c.length)=true):zV w (p.add j):=(a.at hi).canW<|of_decide_eq_true b
def HBZ.canWs(a:HBZ Z H w l)(i j n:Nat){p c T}(hi:l[i]?=some (p,c,T))(d:decide (j+n<=c.length)=true):∀k,k<n->zV w ((p.add j).add k):=fun k b=>by
 rw[yP];exact(a.at hi).canW Gd
def HBZ.canWs0(a:HBZ Z H w l)(i n:Nat){p c T}(hi:l[i]?=some (p,c,T))(d:decide (n<=c.length)=true):∀k,k<n->zV w (p.add k):=fun k b=>(a.at hi).canW Gd
def HBZ.put{i:Nat}{p:Addr}{c n:List Value}{T:TypeId}(a:HBZ Z H w l)(h:Hst w0 Hv wv H w)(hi:l[i]?=some (p,c,T))(hB:Box w1 p n T)(r:Ext (·=p.block) w w1)(y:l.set i (p,n,T)=l'):Hst w0 Hv wv H w1/\HBZ Z H w1 l':=by
 have f:=List.mem_of_getElem? hi;refine⟨⟨h.ext.trans' r fun b _ e=>by subst e;exact a.hid _ f,h.sub,h.new,h.old,fun b a=>Nat.lt_of_lt_of_le (h.lt b a) r.size,Nat.le_trans h.base r.size⟩,?_⟩;subst y;have⟨s,o⟩:=List.getElem?_eq_some_iff.1 hi;have m:∀k x,(l.set i (p,n,T))[k]?=some x->(k=i/\x=(p,n,T))\/(k≠i/\l[k]?=some x):=by
  intro k x d;rw[List.getElem?_set]at d;by_cases g:i=k;grind;grind
 have t:∀k x,k≠i->l[k]?=some x->x.1.block≠p.block:=by
  intro k x g d;have⟨z,v⟩:=List.getElem?_eq_some_iff.1 d;have A:=List.pairwise_iff_getElem.1 a.ne;rcases Nat.lt_or_gt_of_ne g with u|u;grind;grind
 refine⟨?_,?_,?_,fun x d=>⟨(a.fz x d).1,r.heap (a.fz x d).2.1 fun e=>?_,(a.fz x d).2.2⟩⟩;intro x d;have⟨k,g⟩:=List.getElem?_of_mem d;rcases m k x g with⟨_,rfl⟩|⟨q,j⟩;exact hB;exact(a.box x<|List.mem_of_getElem? j).ext r<|t k x q j;intro x d;have⟨k,g⟩:=List.getElem?_of_mem d;rcases m k x g with⟨_,rfl⟩|⟨q,j⟩;have:=a.hid _ f;exact this;exact a.hid x<|List.mem_of_getElem? j;have e:(l.set i (p,n,T)).map (fun x=>x.1.block)=l.map (fun x=>x.1.block):=by
  rw[List.map_set];apply List.ext_getElem?;intro k;rw[List.getElem?_set];by_cases g:i=k;subst g;simp[s,o];simp[g]
 have:=List.pairwise_map.2 a.ne;exact List.pairwise_map.1<|e▸this;have h1:=(a.box _ f).blk;have h2:=(a.fz x d).2;simp only at h1;rw[e,h1]at h2;have h3:=Option.some.inj h2.1;rw[<-h3]at h2;cases h2.2
def HBZ.set{i:Nat}(j:Nat){p c v T}(a:HBZ Z H w l)(h:Hst w0 Hv wv H w)(hi:l[i]?=some (p,c,T))(b:l.set i (p,c.set j v,T)=l'):Hst w0 Hv wv H (w.setCell (p.add j) v)/\HBZ Z H (w.setCell (p.add j) v) l':=
 a.put h hi ((a.at hi).set j v) (by have:=Ext.setCell (w:=w) (p.add j) v;rw[zG]at this;exact this) b
def HBZ.store{i:Nat}(j:Nat){p c vs T}(a:HBZ Z H w l)(h:Hst w0 Hv wv H w)(hi:l[i]?=some (p,c,T))(d:decide (j+vs.length<=c.length)=true)(b:l.set i (p,c.take j++vs++c.drop (j+vs.length),T)=l'):Hst w0 Hv wv H (storeRow w (p.add j) vs)/\HBZ Z H (storeRow w (p.add j) vs) l':=
 a.put h hi (by have:=Box.storeAt vs 0 j w c (a.at hi) Gd;simpa[storeRow]using this) (by have:=Ext.storeRow w (p.add j) vs;rw[zG]at this;exact this) b
def HBZ.store0{i:Nat}{p:Addr}{c vs:List Value}{T:TypeId}(a:HBZ Z H w l)(h:Hst w0 Hv wv H w)(hi:l[i]?=some (p,c,T))(d:decide (vs.length<=c.length)=true)(b:l.set i (p,vs++c.drop vs.length,T)=l'):Hst w0 Hv wv H (storeRow w p vs)/\HBZ Z H (storeRow w p vs) l':=by
 have:=a.store 0 (vs:=vs) h hi (by simpa using d) (by simpa using b);simpa[Addr.add]using this
def Ext.hst{F}(E:Ext F w0 w)(h:Hst w0 H w H1 w1):Ext F w0 w1:=E.trans' h.ext fun b c a=>absurd (h.old b a) Om
def Hst.disj(h:Hst w0 H w H1 w1){G:Nat->Prop}(c:∀b,G b->b<w.heap.size/\¬H b):∀b,G b->¬H1 b:=fun b a h1=>(h.new b h1).elim (c b a).2 Gd
def Hst.disj0(h:Hst w0 H w H1 w1){G:Nat->Prop}(c:∀b,G b->b<w0.heap.size):∀b,G b->¬H1 b:=fun b a h1=>Oi (c b a)<|h.old b h1
end
end Go.SE
namespace Go.SE
section
variable {H:Nat->Prop} {w:World} {a:Addr}
def Kept.setCell{v}(h:¬H a.block):Kept H w (w.setCell a v):=(Ext.setCell a v).kept fun b c e=>h<|e▸c
def Kept.storeRow{vs}(h:¬H a.block):Kept H w (SE.storeRow w a vs):=(Ext.storeRow w a vs).kept fun b c e=>h<|e▸c
def HBZ.drop{Z:List (Nat×Obj)}{l}(a:HBZ Z H w l)(n):HBZ Z H w (l.drop n):=a.sub<|List.drop_sublist n l
def jRO{cx P n c Q ρ}(J)(h:wpE (x:=cx) P n c (jDP J fun _ _ _=>False) ρ w)(b:∀ρ w,J ρ w->Q .normal ρ w):wpE (x:=cx) P n c Q ρ w:=
 jEP (fun e ρ w a=>by cases e<;>first|exact b _ _ a|exact a.elim) h
def jMW{Q:Exit->Env->World->Prop}{ρ:Env}{l:List (Nat×Value)}(h:Has ρ l)(a:Q .normal (qM ρ l) w):Q .normal ρ w:=by rwa [uI h]at a
end
end Go.SE
namespace Go.SE
def gZ{α:Type}{o:α}{l:List α}:(o ::l)[0]?=some o:=rfl
def gS{α:Type}{a o:α}{l:List α}{k}(h:l[k]?=some o):(a ::l)[k+1]?=some o:=by simpa using h
end Go.SE
end
section
namespace Go.SE
structure Own(H:Nat->Prop)(w:World)(e:TypeId)(sz:Nat)(s:Sl)(rs:List (List Value)):Prop where
 rows:Rws w e sz s rs
 vis:∀b,s.blk b->¬H b
section
variable {w0 w w1 w2 wv:World} {H H1 Hv:Nat->Prop} {e:TypeId} {sz:Nat} {s:Sl} {rs:List (List Value)}
def Own.hst(h:Own H w e sz s rs)(hs:Hst w0 H w H1 w1):Own H1 w1 e sz s rs:=
 have c:∀b,s.blk b->¬H1 b:=hs.disj fun b a=>⟨h.rows.lt a,h.vis b a⟩
 ⟨h.rows.ext hs.ext c,c⟩
def Own.pure(h:Own H w e sz s rs)(E:Pure w w1):Own H w1 e sz s rs:=⟨h.rows.pure E,h.vis⟩
def Own.ext{F}(h:Own H w e sz s rs)(E:Ext F w w1)(a:∀b,s.blk b->¬F b):Own H w1 e sz s rs:=⟨h.rows.ext E a,h.vis⟩
def Own.nil(H w):Own H w e sz Sl.nil []:=⟨Rws.nil _ _ _,fun b h=>by have⟨a,h,_⟩:=h;cases h⟩
def Rws.nth{α:Type}{f:α->List Value}{xs:List α}(h:Rws w e sz s (xs.map f)){j}(b:j<xs.length):∃a,At s j sz a/\Row w a (f xs[j]):=by
 have⟨a,h1,h2,_⟩:=h.at (i:=j) Om (by simpa using b);exact⟨a,h1,by simpa using h2⟩
def Own.nth{α:Type}{f:α->List Value}{xs:List α}(h:Own H w e sz s (xs.map f)){j}(b:j<xs.length):∃a,At s j sz a/\Row w a (f xs[j]):=h.rows.nth b
def Lst.nth{S}{α:Type}{f:α->List Value}{xs:List α}(h:Lst S w sz s (xs.map f)){j}(b:j<xs.length):∃a,At s j sz a/\S a.block/\Row w a (f xs[j]):=by
 have⟨a,h1,h2,h3⟩:=h.at_ j (by simpa using b);exact⟨a,h1,h2,by simpa using h3⟩
def jBB{a v}(h:Row w a [v]):w.cell? a=some v:=by
 have:=h 0 Sm;simpa[Addr.add]using this
def Hst.first(h:Hst w0 None w0 H1 w1):Pure w0 w1:=(Ext.refl w0).hst h
def Own.append{P t ty bytes}(T:SlType P t e sz bytes)(h:Own H w e sz s rs)(hs:Hst w0 Hv wv H w){p c r}(hr:Row w p r)(j:r.length=sz)(h1:r.all vE=true)(g:(rs.length+1)*bytes<=140737488355328)(hm:rs.length+1<=maxLen):
  ∃s' w',(Builtin.append_ #[t,t] ty #[s.v,(Sl.mk (some p) 1 c).v]).run P w=.ok s'.v w'/\Own H w' e sz s' (rs++[r])/\Ext s.blk w w'/\Kept H w w'/\(∀b,s'.blk b->s.blk b\/w.heap.size<=b):=by
 have⟨s',w',f,k,i,a⟩:=h.rows.append T (ty:=ty) (c:=c) hr j h1 g hm
 exact⟨s',w',f,⟨k,fun b g=>(a b g).elim (h.vis b) fun l d=>Oh<|hs.lt b d⟩,i,i.kept fun b d hS=>h.vis b hS d,a⟩
end
def zQ{j n:Nat}(h:j<n)(a:n<=9223372036854775807):IntKind.i64.wrap ((j:Int)+1)=((j+1:Nat):Int):=by
 rw[IntWalk.i64_in _ Om];omega
def uR{j n:Nat}(h:j<n):((n:Int)-((j+1:Nat):Int)).toNat<((n:Int)-(j:Int)).toNat:=Om
def vR{j n m:Nat}(hm:m=n)(h:decide ((j:Int)<(m:Int))=true):j<n:=by have h:=of_decide_eq_true h;omega
def yI{j n m:Nat}(hm:m=n)(a:j<=n)(h:decide ((j:Int)<(m:Int))=false):j=n:=by have h:=of_decide_eq_false h;omega
end Go.SE
namespace Go.SE
def yQ{cx P n c Q ρ w N}(J)(b:∀ρ w,J ρ w->N ρ w)(h:wpE (x:=cx) P n c (jDP J Q) ρ w):wpE (x:=cx) P n c (jDP N Q) ρ w:=
 jEP (fun e ρ w a=>by cases e<;>first|exact b _ _ a|exact a) h
end Go.SE
namespace Go.SE
section
variable {w0 w w1:World} {H H1:Nat->Prop}
def jDB{a v}(h:w.cell? a=some v)(b:¬H a.block)(hs:Hst w0 H w H1 w1):w1.cell? a=some v:=
 hs.ext.cell h fun h1=>(hs.new _ h1).elim b fun h2=>Oh<|World.block_lt_of_cell? w a h
def jMQ{a v vs}(h:Row w a (v ::vs))(b:¬H a.block)(hs:Hst w0 H w H1 w1):Row w1 a (v ::vs):=
 hs.ext.row h (fun h1=>(hs.new _ h1).elim b (fun h2=>by
  have c:=h 0 Sm;have:=World.block_lt_of_cell? w (a.add 0) c;rw[zG]at this;omega))
def jAU{P ops C}{loud free:Nat->Bool}{Q Q'}(b:∀ρ w,Q ρ w->Q' ρ w):∀{fuel:Nat} {a:Array Bool} {ρ:Env} {w:World},wpX P ops C loud free Q fuel a ρ w->wpX P ops C loud free Q' fuel a ρ w
 |0,_,_,_,h=>⟨h.1,b _ _ h.2⟩
 |fuel+1,a,ρ,w,h=>by
  have key:∀i ρ w,opE P ops C loud free i (wpX P ops C loud free Q fuel<|a.setIfInBounds i true) ρ w->opE P ops C loud free i (wpX P ops C loud free Q' fuel<|a.setIfInBounds i true) ρ w:=by
   intro i ρ w h;unfold opE at h|-;split;rename_i f;simp only[f]at h;exact jAU b h;rename_i o f;simp only[f]at h;split;rename_i d;rw[if_pos d]at h;split;rename_i c;rw[if_pos c]at h;exact oX h fun v w' ⟨j,g⟩=>⟨j,jAU b g⟩;rename_i c;rw[if_neg c]at h;have⟨v,h1,h2⟩:=h;exact⟨v,h1,jAU b h2⟩;rename_i d;rw[if_neg d]at h;exact jAU b h
  rcases h with⟨i,h1,h2,h3,k⟩|⟨l,h⟩;exact .inl ⟨i,h1,h2,h3,key _ _ _ k⟩;exact .inr ⟨fun e=>b _ _<|l e,fun i hi=>key _ _ _<|h i hi⟩
def jXW{P ops C}{loud free:Nat->Bool}{Q ρ fuel}{a:Array Bool}(J)(h:wpX P ops C loud free J fuel a ρ w)(b:∀ρ w,J ρ w->Q ρ w):wpX P ops C loud free Q fuel a ρ w:=jAU b h
def q_has{Q:Env->World->Prop}{ρ:Env}{l:List (Nat×Value)}(h:Has ρ l)(a:Q (qM ρ l) w):Q ρ w:=by rwa [uI h]at a
end
end Go.SE
namespace Go.SE
section
variable {P:Program} {t e:TypeId} {sz bytes:Nat}
end
end Go.SE
end
section
namespace Go.SE
open Go.Instr
section
variable {P:Program} {T K E:TypeId} {S:Value->Prop} {w:World} {m:Nat} {es:List (Value×Value)}
structure CntMap(w:World)(m:Nat)(a:List Value)(B:Int):Prop where
 ex:∃es,CMap w m es/\es.map Prod.fst=a/\∀p∈es,∃n,p.2=.int .i64 n/\1<=n/\n<=B
 nodup:a.Nodup
def CntMap.ext{F w w' m ks B}(h:CntMap w m ks B)(a:Ext F w w')(b:¬F m):CntMap w' m ks B:=
 ⟨let ⟨es,h1,h2⟩:=h.ex;⟨es,h1.ext a b,h2⟩,h.nodup⟩
def CntMap.lt{w m ks B}(h:CntMap w m ks B):m<w.heap.size:=let ⟨_,h1,_⟩:=h.ex;h1.lt
def CntMap.of_new{w w' p}(h:New w (.map #[] 0) p w')(B):CntMap w' p.block [] B:=⟨⟨[],CMap.of_new h,rfl,Sm⟩,List.nodup_nil⟩
def CntMap.mono{w m ks B B'}(h:CntMap w m ks B)(hB:B<=B'):CntMap w m ks B':=
 ⟨let ⟨es,h1,h2,h3⟩:=h.ex;⟨es,h1,h2,fun p a=>let ⟨n,h4,h5,h6⟩:=h3 p a;⟨n,h4,h5,Om⟩⟩,h.nodup⟩
def CntMap.look{ks B}(h:CntMap w m ks B)(j:P.underlying T=some (.map K E))(b:KeyOK P K S)(hS:∀k∈ks,S k){k}(a:S k)(f:∀w,(zeroValue E).run P w=.ok (.int .i64 0) w):
  ∃v,(Instr.lookup T (.map<|some m) k false).run P w=.ok (.int .i64 v) w/\((k∈ks/\1<=v/\v<=B)\/(k∉ks/\v=0)):=by
 obtain⟨es,d,rfl,c⟩:=h.ex
 rcases d.lookup j b Gd a (f w) false with⟨g,hr⟩|⟨i,v,hi,hr⟩
 refine⟨0,hr,.inr ⟨fun hm=>?_,rfl⟩⟩
 obtain⟨p,e,rfl⟩:=List.mem_map.1 hm
 exact g p e rfl
 obtain⟨n,rfl,h1,h2⟩:=c _<|List.mem_of_getElem? hi
 exact⟨n,hr,.inl ⟨List.mem_map.2 ⟨_,List.mem_of_getElem? hi,rfl⟩,h1,h2⟩⟩
end
end Go.SE
end
section
namespace Go.SE
abbrev cl:=Calls Go.Proofs.Tryz.prog
abbrev li (w:World)(a:Addr)(Q:Int→Prop):Prop:=∃v,w.cell? a=some (.int .i64 v)∧Q v
abbrev lu (w:World)(a:Addr)(Q:Int→Prop):Prop:=∃v,w.cell? a=some (.int .u64 v)∧Q v
abbrev lp (w:World)(a:Addr)(Q:Option Addr→Prop):Prop:=∃v,w.cell? a=some (.pointer v)∧Q v
abbrev ls (w:World)(a:Addr)(Q:ByteArray→Prop):Prop:=∃v,w.cell? a=some (.string v)∧Q v
abbrev lb (w:World)(a:Addr)(Q:Bool→Prop):Prop:=∃v,w.cell? a=some (.bool v)∧Q v
abbrev lx (w:World)(a:Addr)(Q:Sl→Prop):Prop:=∃v,w.cell? a=some (Sl.v v)∧Q v
abbrev XA (Q:Sl→World→Prop):Ending→World→Prop:=fun e w=>∃a0,e=.returned (a0.v)∧Q a0 w
abbrev XB (Q:Int→World→Prop):Ending→World→Prop:=fun e w=>∃a0,e=.returned (.int .i64 a0)∧Q a0 w
abbrev XC (Q:Bool→World→Prop):Ending→World→Prop:=fun e w=>∃a0,e=.returned (.bool a0)∧Q a0 w
abbrev XD (Q:(Option Addr)→World→Prop):Ending→World→Prop:=fun e w=>∃a0,e=.returned (.pointer a0)∧Q a0 w
abbrev XE (Q:Int→Bool→World→Prop):Ending→World→Prop:=fun e w=>∃a0 a1,e=.returned (.tuple #[.int .i64 a0,.bool a1])∧Q a0 a1 w
abbrev XF (Q:Sl→Bool→World→Prop):Ending→World→Prop:=fun e w=>∃a0 a1,e=.returned (.tuple #[a0.v,.bool a1])∧Q a0 a1 w
abbrev XG (Q:Int→Int→Bool→Bool→World→Prop):Ending→World→Prop:=fun e w=>∃a0 a1 a2 a3,e=.returned (.tuple #[.int .i64 a0,.int .i64 a1,.bool a2,.bool a3])∧Q a0 a1 a2 a3 w
abbrev XH (Q:Int→Int→World→Prop):Ending→World→Prop:=fun e w=>∃a0 a1,e=.returned (.tuple #[.int .i64 a0,.int .i64 a1])∧Q a0 a1 w
abbrev XI (Q:Bool→Bool→Bool→Bool→Int→Int→World→Prop):Ending→World→Prop:=fun e w=>∃a0 a1 a2 a3 a4 a5,e=.returned (.tuple #[.agg #[.bool a0,.bool a1,.bool a2,.bool a3,.int .i64 a4],.int .i64 a5])∧Q a0 a1 a2 a3 a4 a5 w
abbrev XJ (Q:Int→Int→Int→World→Prop):Ending→World→Prop:=fun e w=>∃a0 a1 a2,e=.returned (.tuple #[.int .i64 a0,.int .i64 a1,.int .i64 a2])∧Q a0 a1 a2 w
abbrev XK (Q:Bool→Bool→Bool→Bool→Int→Bool→World→Prop):Ending→World→Prop:=fun e w=>∃a0 a1 a2 a3 a4 a5,e=.returned (.tuple #[.agg #[.bool a0,.bool a1,.bool a2,.bool a3,.int .i64 a4],.bool a5])∧Q a0 a1 a2 a3 a4 a5 w
abbrev XL (Q:Int→Int→Int→Int→ByteArray→Int→Int→Bool→World→Prop):Ending→World→Prop:=fun e w=>∃a0 a1 a2 a3 a4 a5 a6 a7,e=.returned (.tuple #[.agg #[.int .i64 a0,.int .i64 a1,.int .i64 a2,.int .u64 a3,.string a4,.int .i64 a5,.int .i64 a6],.bool a7])∧Q a0 a1 a2 a3 a4 a5 a6 a7 w
abbrev XM (Q:Int→Int→Int→Int→ByteArray→World→Prop):Ending→World→Prop:=fun e w=>∃a0 a1 a2 a3 a4,e=.returned (.agg #[.int .i64 a0,.int .i64 a1,.int .i64 a2,.int .u64 a3,.string a4])∧Q a0 a1 a2 a3 a4 w
abbrev XN (Q:Sl→Int→World→Prop):Ending→World→Prop:=fun e w=>∃a0 a1,e=.returned (.tuple #[a0.v,.int .i64 a1])∧Q a0 a1 w
abbrev XO (Q:Int→Int→Int→Int→ByteArray→Int→Int→World→Prop):Ending→World→Prop:=fun e w=>∃a0 a1 a2 a3 a4 a5 a6,e=.returned (.agg #[.int .i64 a0,.int .i64 a1,.int .i64 a2,.int .u64 a3,.string a4,.int .i64 a5,.int .i64 a6])∧Q a0 a1 a2 a3 a4 a5 a6 w
abbrev XP (Q:ByteArray→World→Prop):Ending→World→Prop:=fun e w=>∃a0,e=.returned (.string a0)∧Q a0 w
abbrev XQ (Q:(Option Addr)→Bool→World→Prop):Ending→World→Prop:=fun e w=>∃a0 a1,e=.returned (.tuple #[.pointer a0,.bool a1])∧Q a0 a1 w
abbrev XR (Q:Bool→Int→Int→World→Prop):Ending→World→Prop:=fun e w=>∃a0 a1 a2,e=.returned (.agg #[.bool a0,.int .i64 a1,.int .i64 a2])∧Q a0 a1 a2 w
abbrev XS (Q:ByteArray→Int→Int→World→Prop):Ending→World→Prop:=fun e w=>∃a0 a1 a2,e=.returned (.tuple #[.string a0,.int .i64 a1,.int .i64 a2])∧Q a0 a1 a2 w
abbrev XT (Q:Int→World→Prop):Ending→World→Prop:=fun e w=>∃a0,e=.returned (.int .u8 a0)∧Q a0 w
abbrev XU (Q:Int→World→Prop):Ending→World→Prop:=fun e w=>∃a0,e=.returned (.int .u64 a0)∧Q a0 w
abbrev XV (Q:(Option Addr)→Int→Int→World→Prop):Ending→World→Prop:=fun e w=>∃a0 a1 a2,e=.returned (.tuple #[.pointer a0,.int .i64 a1,.int .i64 a2])∧Q a0 a1 a2 w
abbrev XW (Q:Int→Int→Int→ByteArray→Bool→Bool→World→Prop):Ending→World→Prop:=fun e w=>∃a0 a1 a2 a3 a4 a5,e=.returned (.tuple #[.agg #[.int .i64 a0,.int .i64 a1,.int .u64 a2,.string a3,.bool a4],.bool a5])∧Q a0 a1 a2 a3 a4 a5 w
section
variable {P:Program} {ops:Array Oper} {Q:Env->World->Prop} {ρ:Env} {w:World} {rest:List Oper} {o:Oper}
def q0(v)(h:wpL P ops Q rest (put ρ o.dst v) w)(a:Region.wanted o (zK ops ρ)=true:=by kernel_rfl)(hr:(execOp (evE ρ) o).run P w=.ok (.value v) w:=by kernel_rfl):wpL P ops Q (o ::rest) ρ w:=stp a hr h
def q1(v)(a:Region.wanted o (zK ops ρ)=true)(h:wpL P ops Q rest (put ρ o.dst v) w)(hr:(execOp (evE ρ) o).run P w=.ok (.value v) w:=by kernel_rfl):wpL P ops Q (o ::rest) ρ w:=stp a hr h
def q2(v)(hr:(execOp (evE ρ) o).run P w=.ok (.value v) w)(h:wpL P ops Q rest (put ρ o.dst v) w)(a:Region.wanted o (zK ops ρ)=true:=by kernel_rfl):wpL P ops Q (o ::rest) ρ w:=stp a hr h
variable {C:World->Prop} {loud free:Nat->Bool} {fuel:Nat} {listed:Array Bool}
def qx(k v)(d:ops[k]?=some o)(h:wpX P ops C loud free Q fuel (listed.setIfInBounds k true) (put ρ o.dst v) w)(c:goes ops listed loud k=true:=by kernel_rfl)(b:Region.wanted o (zK ops ρ)=true:=by kernel_rfl)(a:loud k=false:=by kernel_rfl)(hr:∀w',(execOp (evE ρ) o).run P w'=.ok (.value v) w':=by intro _;kernel_rfl):wpX P ops C loud free Q (fuel+1) listed ρ w:=
 qgo c<|sx d b a (fun w' _=>hr w') h
def qq{W}(k v)(d:ops[k]?=some o)(h:wpX P ops (fun x=>x=W) loud free Q fuel (listed.setIfInBounds k true) (put ρ o.dst v) w)(c:goes ops listed loud k=true:=by kernel_rfl)(b:Region.wanted o (zK ops ρ)=true:=by kernel_rfl)(a:loud k=false:=by kernel_rfl)(hr:(execOp (evE ρ) o).run P W=.ok (.value v) W:=by kernel_rfl):wpX P ops (fun x=>x=W) loud free Q (fuel+1) listed ρ w:=
 qgo c<|sxQ d b a hr h
end
section
variable {P:Program} {n:Nat} {Q:Exit->Env->World->Prop} {ρ:Env} {w:World}
def rg{cx id l}(h:wpL P l.toArray (fun ρ w=>Q .normal ρ w) l ρ w)(a:oV n l=true:=by kernel_rfl):wpE (x:=cx) P n (.region id l.toArray false) Q ρ w:=jKZ a h
end
section
variable {α:Type} {x0 x1 x2 x3 x4 x5 x6 x7 x8 x9 o:α} {l:List α}
def Kp0:(o ::l).toArray[0]?=some o:=rfl
def Kp1:(x0 ::o ::l).toArray[1]?=some o:=rfl
def Kp2:(x0 ::x1 ::o ::l).toArray[2]?=some o:=rfl
def Kp3:(x0 ::x1 ::x2 ::o ::l).toArray[3]?=some o:=rfl
def Kp4:(x0 ::x1 ::x2 ::x3 ::o ::l).toArray[4]?=some o:=rfl
def Kp5:(x0 ::x1 ::x2 ::x3 ::x4 ::o ::l).toArray[5]?=some o:=rfl
def Kp6:(x0 ::x1 ::x2 ::x3 ::x4 ::x5 ::o ::l).toArray[6]?=some o:=rfl
def Kp7:(x0 ::x1 ::x2 ::x3 ::x4 ::x5 ::x6 ::o ::l).toArray[7]?=some o:=rfl
def Kp8:(x0 ::x1 ::x2 ::x3 ::x4 ::x5 ::x6 ::x7 ::o ::l).toArray[8]?=some o:=rfl
def Kp9:(x0 ::x1 ::x2 ::x3 ::x4 ::x5 ::x6 ::x7 ::x8 ::o ::l).toArray[9]?=some o:=rfl
end
end Go.SE
end
section
namespace Go.SE
section
variable {α:Type} {a b c d e f g h o:α} {l:List α} {k:Nat}
def S4(x:l[k]?=some o):(a ::b ::c ::d ::l)[k+4]?=some o:=by simpa using x
def S8(x:l[k]?=some o):(a ::b ::c ::d ::e ::f ::g ::h ::l)[k+8]?=some o:=by simpa using x
end
section
variable {P:Program} {ε:Operand->Value} {w w':World} {d:Option Tmp} {ty:TypeId} {pos:String} {aft:Array Edge} {g:Option (Nat×Bool)}
def xl{T:TypeId}{x:Operand}{a:Addr}{v:Value}(b:(isAgg T).run P w=.ok false w)(e:w.cell? a=some v)(c:ε x=.pointer (some a):=by kernel_rfl):(execOp ε ⟨d,.load T x,ty,pos,aft,g⟩).run P w=.ok (.value v) w:=xZ c b e
def xT{c x y:Operand}{b:Bool}{v:Value}(a:b=true)(f:ε c=.bool b:=by kernel_rfl)(e:ε x=v:=by kernel_rfl):(execOp ε ⟨d,.pick c x y,ty,pos,aft,g⟩).run P w=.ok (.value v) w:=jXQ f a e
def xF{c x y:Operand}{b:Bool}{v:Value}(a:b=false)(f:ε c=.bool b:=by kernel_rfl)(e:ε y=v:=by kernel_rfl):(execOp ε ⟨d,.pick c x y,ty,pos,aft,g⟩).run P w=.ok (.value v) w:=jXR f a e
def xb{T:TypeId}{x:Operand}{cs:Array Value}(a:(ε x).cells=cs:=by kernel_rfl):(execOp ε ⟨d,.box T x,ty,pos,aft,g⟩).run P w=.ok (.value<|.pointer<|some ⟨w.heap.size,0,none⟩) (w.alloc<|.cells cs T):=zGB a
def xs{T:TypeId}{x y:Operand}{a:Addr}{v:Value}(hs:(sizeOf T).run P w=.ok 1 w)(e:zV w a)(b:ε x=.pointer (some a):=by kernel_rfl)(c:ε y=v:=by kernel_rfl)(h1:vE v=true:=by rfl):(execOp ε ⟨d,.store T x y,ty,pos,aft,g⟩).run P w=.ok .skip (w.setCell a v):=tY b c h1 hs e
end
section
variable {P:Program} {ρ:Env} {w w':World} {ty:TypeId} {pos:String} {aft:Array Edge} {g:Option (Nat×Bool)} {d:Option Tmp}
def xc{f:FuncId}{c:List Operand}{ts:Array TypeId}{args:Array Value}(b:∀args w,(callFunc f args).run P w=.ok (.enter f args) w)(a:(c.map<|evE ρ).toArray=args:=by kernel_rfl):
  (execOp (evE ρ) ⟨d,.call ⟨.value<|.func f,c.toArray,ts⟩,ty,pos,aft,g⟩).run P w=.ok (.enter f args) w:=jXV b a
end
section
variable {P:Program} {ops:Array Oper} {Q:Env->World->Prop} {ρ:Env} {w w':World} {rest:List Oper} {o:Oper} {v:Value}
def sn{O:Obj}(hr:(execOp (evE ρ) o).run P w=.ok (.value<|.pointer<|some ⟨w.heap.size,0,none⟩) (w.alloc O))(h:∀p w',New w O p w'->wpL P ops Q rest (put ρ o.dst<|.pointer<|some p) w')(a:Region.wanted o (zK ops ρ)=true:=by kernel_rfl):wpL P ops Q (o ::rest) ρ w:=jLE (fun p=>.pointer<|some p) a hr h
def sk{j:Nat}{t u:Bool}(b:zK ops ρ j=some u)(h:wpL P ops Q rest (put ρ o.dst undef) w)(c:o.guard=some (j,t):=by rfl)(a:(u==t)=false:=by rfl):wpL P ops Q (o ::rest) ρ w:=jTL (zEW c b a) h
end
section
variable {H:Nat->Prop} {w:World} {l:List HBx}
def HBZ.c{Z:List (Nat×Obj)}(a:HBZ Z H w l)(i j:Nat){p:Addr}{c:List Value}{T:TypeId}{v:Value}(hi:l[i]?=some (p,c,T))(b:c[j]?=some v:=by kernel_rfl):w.cell? (p.add j)=some v:=a.cell i j hi b
def HBZ.c0{Z:List (Nat×Obj)}(a:HBZ Z H w l)(i:Nat){p:Addr}{c:List Value}{T:TypeId}{v:Value}(hi:l[i]?=some (p,c,T))(b:c[0]?=some v:=by kernel_rfl):w.cell? p=some v:=a.cell0 i hi b
end
abbrev vi(n:Int):Value:=.int .i64 n
abbrev vu(n:Int):Value:=.int .u64 n
abbrev vs(n:ByteArray):Value:=.string n
abbrev vb(n:Bool):Value:=.bool n
abbrev vp(n:Option Addr):Value:=.pointer n
end Go.SE
namespace Go.SE
def Kept.hh{w0 wv w a:World}{Hv H:Nat->Prop}{Z:List (Nat×Obj)}{l:List HBx}(b:Kept H w a)(hs:Hst w0 Hv wv H w)(c:HBZ Z H w l):Hst w0 H a H a/\HBZ Z H a l:=⟨hs.again b,c.kept b⟩
end Go.SE
namespace Go.SE
section
variable {P:Program} {ops:Array Oper} {C:World->Prop} {loud free:Nat->Bool} {K:Env->World->Prop} {ρ:Env} {w w' W:World} {o:Oper} {v:Value} {k:Nat}
def sy(c:ops[k]?=some o)(hr:∀w',C w'->(execOp (evE ρ) o).run P w'=.ok (.value v) w')(h:K (put ρ o.dst v) w)(b:Region.wanted o (zK ops ρ)=true:=by kernel_rfl)(a:loud k=false:=by kernel_rfl):opE P ops C loud free k K ρ w:=sx c b a hr h
def sz(c:ops[k]?=some o)(b:Region.wanted o (zK ops ρ)=true)(hr:∀w',C w'->(execOp (evE ρ) o).run P w'=.ok (.value v) w')(h:K (put ρ o.dst v) w)(a:loud k=false:=by kernel_rfl):opE P ops C loud free k K ρ w:=sx c b a hr h
def sye(d:ops[k]?=some o)(hr:(execOp (evE ρ) o).run P w=.ok (.value v) w)(h:K (put ρ o.dst v) w)(b:Region.wanted o (zK ops ρ)=true:=by kernel_rfl)(a:loud k=false:=by kernel_rfl)(c:jCE .any ops loud k=true:=by kernel_rfl):opE P ops C loud free k K ρ w:=sxe d b a c hr h
def sl_t(c:ops[k]?=some o)(hr:(execOp (evE ρ) o).run P w=.ok .skip W)(h:∀w',w'=W->(free k=true\/C w')/\K (put ρ o.dst undef) w')(b:Region.wanted o (zK ops ρ)=true:=by kernel_rfl)(a:loud k=true:=by kernel_rfl):opE P ops C loud free k K ρ w:=jYM c b a hr h
variable {Q:Env->World->Prop} {fuel:Nat} {listed:Array Bool}
def qg(k:Nat)(h:opE P ops C loud free k (wpX P ops C loud free Q fuel<|listed.setIfInBounds k true) ρ w)(a:goes ops listed loud k=true:=by kernel_rfl):wpX P ops C loud free Q (fuel+1) listed ρ w:=qgo a h
def lg(k:Nat)(h:opE P ops C loud free k (wpX P ops C loud free Q fuel<|listed.setIfInBounds k true) ρ w)(hr:Region.ready .any ops listed=[k]:=by kernel_rfl):wpX P ops C loud free Q (fuel+1) listed ρ w:=lgo hr h
variable {ε:Operand->Value} {d:Option Tmp} {ty:TypeId} {pos:String} {aft:Array Edge} {g:Option (Nat×Bool)}
def xi{T E:TypeId}{x ix:Operand}{s:Sl}{i:Int}{n:Nat}{a:Addr}(c:(underlying T).run P w=.ok (.slice E) w)(hs:(sizeOf E).run P w=.ok n w)(b:At s i n a)(e:ε x=s.v:=by kernel_rfl)(hi:ε ix=.int .i64 i:=by kernel_rfl):(execOp ε ⟨d,.indexAddr T x ix,ty,pos,aft,g⟩).run P w=.ok (.value<|.pointer<|some a) w:=jDM e hi c hs b
def hm{l:List (Nat×Value)}(h:l.map (fun p=>ρ p.1)=l.map (·.2):=by kernel_rfl):Has ρ l:=Has.mk h
def wn{Q:Env->World->Prop}{listed:Array Bool}(h:Q ρ w)(a:Region.ready .any ops listed=[]:=by kernel_rfl):wpX P ops C loud free Q 0 listed ρ w:=jXX a h
def sm{rest:List Oper}(h:wpL P ops Q rest (put ρ o.dst undef) w)(a:Region.wanted o (zK ops ρ)=false:=by kernel_rfl):wpL P ops Q (o ::rest) ρ w:=jTL a h
def sc{rest:List Oper}{f:FuncId}{c:List Operand}{ts:Array TypeId}{args:Array Value}(i:∀args w,(callFunc f args).run P w=.ok (.enter f args) w)(h:Calls P f args w fun e a=>∃v,e=.returned v/\wpL P ops Q rest (put ρ d v) a)(j:Region.wanted ⟨d,.call ⟨.value<|.func f,c.toArray,ts⟩,ty,pos,aft,g⟩ (zK ops ρ)=true:=by kernel_rfl)(b:(c.map<|evE ρ).toArray=args:=by kernel_rfl):
  wpL P ops Q (⟨d,.call ⟨.value<|.func f,c.toArray,ts⟩,ty,pos,aft,g⟩ ::rest) ρ w:=jRT j (jXV i b) h
def cw{n:Nat}{f:FuncId}{a:Func}{c:Code}{args:List Value}{R:Ending->World->Prop}(g:P.funcs[f]?=some a)(e:a.ntmps=n)(h:wpE (x:=⟨none,[]⟩) P n c (jFV P a n R) (uK args) w)(b:a.body=some c:=by exact rfl)(d:args.length<=n:=by exact Nat.le_of_ble_eq_true rfl):Calls P f args.toArray w R:=jCJ g b e d h
def rs1{n:Nat}{a:Func}{t:Nat}{v:Value}{R:Ending->World->Prop}{e:Exit}(hr:a.results=#[.tmp t])(h:R (.returned v) w)(b:ρ t=v:=by kernel_rfl)(c:e=.ret\/e=.normal:=by exact .inl rfl):jFV P a n R e ρ w:=res1 c hr b h
end
end Go.SE
namespace Go.SE
def Kept.sc{H:Nat->Prop}{w w':World}{a:Addr}{v:Value}(h:¬H a.block)(e:w'=w.setCell a v):Kept H w w':=by rw[e];exact Kept.setCell h
end Go.SE
namespace Go.SE
section
variable {P:Program} {n:Nat} {Q:Exit->Env->World->Prop} {ρ:Env} {w:World}
def ln{ops:Array Oper}{next:Env->World->Prop}(h:next ρ w):wpL P ops (fun ρ w=>jDP next Q .normal ρ w) [] ρ w:=h
def eg{a:Cx}{id:Nat}{l:List Oper}{y:Code}(h:wpL P l.toArray (fun ρ w=>jDP (fun ρ w=>wpE (x:=a) P n y Q ρ w) Q .normal ρ w) l ρ w)(b:oV n l=true:=by kernel_rfl):wpE (x:=a) P n (.seq (.region id l.toArray false) y) Q ρ w:=zL<|rg h b
def er{x:Cx}(h:Q .ret ρ w):wpE (x:=x) P n .ret Q ρ w:=jRP h
variable {ε:Operand->Value} {w':World} {d:Option Tmp} {ty:TypeId} {pos:String} {aft:Array Edge} {g:Option (Nat×Bool)}
def xo{T:TypeId}{x y:Operand}{n:Nat}(a:Addr)(vs:List Value)(hs:(sizeOf T).run P w=.ok n w)(f:∀j,j<vs.length->zV w (a.add j))(c:ε x=.pointer (some a):=by kernel_rfl)(e:ε y=.agg vs.toArray:=by kernel_rfl)(h1:vs.all vE=true:=by rfl)(b:vs.length=n:=by rfl):
  (execOp ε ⟨d,.store T x y,ty,pos,aft,g⟩).run P w=.ok .skip (storeRow w a vs):=jHQ c e h1 hs b f
def xa{T:TypeId}{x:Operand}{n:Nat}(a:Addr)(vs:List Value)(e:(isAgg T).run P w=.ok true w)(hs:(sizeOf T).run P w=.ok n w)(f:Row w a vs)(c:ε x=.pointer (some a):=by kernel_rfl)(b:vs.length=n:=by rfl):
  (execOp ε ⟨d,.load T x,ty,pos,aft,g⟩).run P w=.ok (.value<|.agg vs.toArray) w:=jRM c e hs b f
end
section
variable {H Hv:Nat->Prop} {w0 wv w w':World} {l l':List HBx} {Z:List (Nat×Obj)} {p:Addr} {c vs:List Value} {T:TypeId}
def HBZ.r0(a:HBZ Z H w l)(i n:Nat)(hi:l[i]?=some (p,c,T))(b:c.take n=vs:=by kernel_rfl):Row w p vs:=a.row0 i n hi b
def HBZ.k0(a:HBZ Z H w l)(i n:Nat)(hi:l[i]?=some (p,c,T))(b:decide (n<=c.length)=true:=by kernel_rfl):∀k,k<n->zV w (p.add k):=a.canWs0 i n hi b
def HBZ.s0(a:HBZ Z H w l)(i:Nat)(vs:List Value)(h:Hst w0 Hv wv H w)(b:w'=storeRow w p vs)(hi:l[i]?=some (p,c,T))(e:decide (vs.length<=c.length)=true:=by kernel_rfl)(d:l.set i (p,vs++c.drop vs.length,T)=l':=by kernel_rfl):Hst w0 Hv wv H w'/\HBZ Z H w' l':=by
 subst b;exact a.store0 h hi e d
end
end Go.SE
namespace Go.SE
abbrev ve:Value:=.string ⟨#[]⟩
def bte(b:Bool):b=true\/b=false:=Bool.eq_false_or_eq_true b
section
variable {P:Program} {ops:Array Oper} {Q:Env->World->Prop} {C:World->Prop} {loud free:Nat->Bool} {K:Env->World->Prop} {ρ:Env} {w:World} {k:Nat} {d:Option Tmp} {ty:TypeId} {pos:String} {aft:Array Edge} {g:Option (Nat×Bool)}
def ss{rest:List Oper}{o:Oper}{W:World}(hr:(execOp (evE ρ) o).run P w=.ok .skip W)(h:∀w',w'=W->wpL P ops Q rest (put ρ o.dst undef) w')(a:o.guard=none:=by rfl):wpL P ops Q (o ::rest) ρ w:=jIV (qE a) hr h
variable {ε:Operand->Value}
def xn{x:Operand}{p:Option Addr}{a:Addr}(c:p=some a)(b:ε x=.pointer p:=by kernel_rfl):(execOp ε ⟨d,.nilCheck x,ty,pos,aft,g⟩).run P w=.ok (.value<|.pointer<|some a) w:=jFZ b c
end
end Go.SE
namespace Go.SE
def rv:Result Next->Value
 |.ok (.value v) _=>v
 |_=>undef
def sv(P:Program)(o:Oper)(ρ:Env)(w:World):Env:=put ρ o.dst<|rv<|(execOp (evE ρ) o).run P w
def isv:Result Next->Bool
 |.ok (.value _) _=>true
 |_=>false
def wof(w:World):Result Next->World
 |.ok _ w'=>w'
 |_=>w
def zFA{r:Result Next}{w w0:World}(h:isv r=true)(b:wof w0 r=w):r=.ok (.value<|rv r) w:=by
 cases r with
 |ok a w' =>
  cases a with
  |value v=>simp[rv,wof]at b|-;exact b
  |_=>simp[isv]at h
 |_=>simp[isv]at h
def okl(P:Program)(ops:Array Oper)(o:Oper)(ρ:Env)(w:World):Bool×World:=(Region.wanted o (zK ops ρ)&&isv ((execOp (evE ρ) o).run P w),wof w<|(execOp (evE ρ) o).run P w)
def okq{P:Program}{ops:Array Oper}{o:Oper}{ρ:Env}{w:World}(h:okl P ops o ρ w=(true,w)):Region.wanted o (zK ops ρ)=true/\(execOp (evE ρ) o).run P w=.ok (.value<|rv<|(execOp (evE ρ) o).run P w) w:=by
 have h1:=congrArg Prod.fst h;have h2:=congrArg Prod.snd h;simp only[okl,Bool.and_eq_true]at h1 h2;exact⟨h1.1,zFA h1.2 h2⟩
def okv(P:Program)(o:Oper)(ρ:Env)(w:World):Bool×World:=(isv<|(execOp (evE ρ) o).run P w,wof w<|(execOp (evE ρ) o).run P w)
def okw{P:Program}{o:Oper}{ρ:Env}{w:World}(h:okv P o ρ w=(true,w)):(execOp (evE ρ) o).run P w=.ok (.value<|rv<|(execOp (evE ρ) o).run P w) w:=zFA (congrArg Prod.fst h)<|congrArg Prod.snd h
section
variable {P:Program} {ops:Array Oper} {Q:Env->World->Prop} {ρ:Env} {w:World} {rest:List Oper} {o o1 o2 o3 o4 o5:Oper}
def q(h:wpL P ops Q rest (sv P o ρ w) w)(a:okl P ops o ρ w=(true,w):=by kernel_rfl):wpL P ops Q (o ::rest) ρ w:=stp (okq a).1 (okq a).2 h
def qb(h:wpL P ops Q rest (sv P o1 (sv P o ρ w) w) w)(a:okl P ops o ρ w=(true,w):=by kernel_rfl)(h1:okl P ops o1 (sv P o ρ w) w=(true,w):=by kernel_rfl):wpL P ops Q (o ::o1 ::rest) ρ w:=q (q h h1) a
def qc(h:wpL P ops Q rest (sv P o2 (sv P o1 (sv P o ρ w) w) w) w)(a:okl P ops o ρ w=(true,w):=by kernel_rfl)(h1:okl P ops o1 (sv P o ρ w) w=(true,w):=by kernel_rfl)(h2:okl P ops o2 (sv P o1 (sv P o ρ w) w) w=(true,w):=by kernel_rfl):wpL P ops Q (o ::o1 ::o2 ::rest) ρ w:=q (q (q h h2) h1) a
def qd(h:wpL P ops Q rest (sv P o3 (sv P o2 (sv P o1 (sv P o ρ w) w) w) w) w)(a:okl P ops o ρ w=(true,w):=by kernel_rfl)(h1:okl P ops o1 (sv P o ρ w) w=(true,w):=by kernel_rfl)(h2:okl P ops o2 (sv P o1 (sv P o ρ w) w) w=(true,w):=by kernel_rfl)(h3:okl P ops o3 (sv P o2 (sv P o1 (sv P o ρ w) w) w) w=(true,w):=by kernel_rfl):wpL P ops Q (o ::o1 ::o2 ::o3 ::rest) ρ w:=qb (qb h h2 h3) a h1
def qk(d:Nat){j:Nat}{c t:Bool}(f:c=t)(h:wpL P ops Q rest (sv P o ρ w) w)(e:o.guard=some (j,t):=by rfl)(b:(ops[j]?).bind (·.dst)=some d:=by kernel_rfl)(a:ρ d=.bool c:=by kernel_rfl)(hr:okv P o ρ w=(true,w):=by kernel_rfl):wpL P ops Q (o ::rest) ρ w:=stp (want1 e<|yE b a f) (okw hr) h
def q3{v:Value}(hr:(execOp (evE ρ) o).run P w=.ok (.value v) w)(h:wpL P ops Q rest (put ρ o.dst v) w)(a:Region.wanted o (zK ops ρ)=true:=by kernel_rfl):wpL P ops Q (o ::rest) ρ w:=stp a hr h
def q4{v:Value}(d:Nat){j:Nat}{c t:Bool}(f:c=t)(hr:(execOp (evE ρ) o).run P w=.ok (.value v) w)(h:wpL P ops Q rest (put ρ o.dst v) w)(e:o.guard=some (j,t):=by rfl)(b:(ops[j]?).bind (·.dst)=some d:=by kernel_rfl)(a:ρ d=.bool c:=by kernel_rfl):wpL P ops Q (o ::rest) ρ w:=stp (want1 e<|yE b a f) hr h
def sj(d:Nat){j:Nat}{c t u:Bool}(b:c=u)(h:wpL P ops Q rest (put ρ o.dst undef) w)(g:o.guard=some (j,t):=by rfl)(a:(u==t)=false:=by rfl)(e:(ops[j]?).bind (·.dst)=some d:=by kernel_rfl)(f:ρ d=.bool c:=by kernel_rfl):wpL P ops Q (o ::rest) ρ w:=jTL (zEW g (yE e f b) a) h
def sj2(d:Nat){e f:Nat}{c u g a:Bool}(b:c=u)(h:wpL P ops Q rest (put (put ρ o.dst undef) o1.dst undef) w)(m:o.guard=some (e,g):=by rfl)(j:(u==g)=false:=by rfl)(d0:(ops[e]?).bind (·.dst)=some d:=by kernel_rfl)(k:ρ d=.bool c:=by kernel_rfl)(i:o1.guard=some (f,a):=by rfl)(n1:(u==a)=false:=by rfl)(d1:(ops[f]?).bind (·.dst)=some d:=by kernel_rfl)(l:(put ρ o.dst undef) d=.bool c:=by kernel_rfl):wpL P ops Q (o ::o1 ::rest) ρ w:=sj d b (sj d b (h) i n1 d1 l) m j d0 k
def sj3(d:Nat){f i g:Nat}{c u j b e:Bool}(a:c=u)(h:wpL P ops Q rest (put (put (put ρ o.dst undef) o1.dst undef) o2.dst undef) w)(q:o.guard=some (f,j):=by rfl)(m:(u==j)=false:=by rfl)(d0:(ops[f]?).bind (·.dst)=some d:=by kernel_rfl)(n:ρ d=.bool c:=by kernel_rfl)(l:o1.guard=some (i,b):=by rfl)(n1:(u==b)=false:=by rfl)(d1:(ops[i]?).bind (·.dst)=some d:=by kernel_rfl)(p:(put ρ o.dst undef) d=.bool c:=by kernel_rfl)(r:o2.guard=some (g,e):=by rfl)(n2:(u==e)=false:=by rfl)(d2:(ops[g]?).bind (·.dst)=some d:=by kernel_rfl)(k:(put (put ρ o.dst undef) o1.dst undef) d=.bool c:=by kernel_rfl):wpL P ops Q (o ::o1 ::o2 ::rest) ρ w:=sj d a (sj d a (sj d a (h) r n2 d2 k) l n1 d1 p) q m d0 n
def sj4(d:Nat){g k i l:Nat}{c u e b f j:Bool}(a:c=u)(h:wpL P ops Q rest (put (put (put (put ρ o.dst undef) o1.dst undef) o2.dst undef) o3.dst undef) w)(t:o.guard=some (g,e):=by rfl)(q:(u==e)=false:=by rfl)(d0:(ops[g]?).bind (·.dst)=some d:=by kernel_rfl)(r:ρ d=.bool c:=by kernel_rfl)(n:o1.guard=some (k,b):=by rfl)(n1:(u==b)=false:=by rfl)(d1:(ops[k]?).bind (·.dst)=some d:=by kernel_rfl)(s:(put ρ o.dst undef) d=.bool c:=by kernel_rfl)(x:o2.guard=some (i,f):=by rfl)(n2:(u==f)=false:=by rfl)(d2:(ops[i]?).bind (·.dst)=some d:=by kernel_rfl)(m:(put (put ρ o.dst undef) o1.dst undef) d=.bool c:=by kernel_rfl)(p:o3.guard=some (l,j):=by rfl)(n3:(u==j)=false:=by rfl)(d3:(ops[l]?).bind (·.dst)=some d:=by kernel_rfl)(v:(put (put (put ρ o.dst undef) o1.dst undef) o2.dst undef) d=.bool c:=by kernel_rfl):wpL P ops Q (o ::o1 ::o2 ::o3 ::rest) ρ w:=sj d a (sj d a (sj d a (sj d a (h) p n3 d3 v) x n2 d2 m) n n1 d1 s) t q d0 r
variable {d:Option Tmp} {ty:TypeId} {pos:String} {aft:Array Edge} {g:Option (Nat×Bool)}
def ql{τ:Type}{F:τ->Value}{R:τ->Prop}{T:TypeId}{x:Operand}{a:Addr}(e:(isAgg T).run P w=.ok false w)(h:∃v,w.cell? a=some (F v)/\R v)(k:∀v,R v->wpL P ops Q rest (put ρ d<|F v) w)(c:evE ρ x=.pointer (some a):=by kernel_rfl)(b:Region.wanted ⟨d,.load T x,ty,pos,aft,g⟩ (zK ops ρ)=true:=by kernel_rfl):wpL P ops Q (⟨d,.load T x,ty,pos,aft,g⟩ ::rest) ρ w:=by
 have⟨v,f,h⟩:=h;exact q2 _ (xZ c e f) (k v h) b
def qm{R:Addr->Prop}{x:Operand}{p:Option Addr}(h:∃a,p=some a/\R a)(k:∀a,R a->wpL P ops Q rest (put ρ d<|.pointer<|some a) w)(e:evE ρ x=.pointer p:=by kernel_rfl)(c:Region.wanted ⟨d,.nilCheck x,ty,pos,aft,g⟩ (zK ops ρ)=true:=by kernel_rfl):wpL P ops Q (⟨d,.nilCheck x,ty,pos,aft,g⟩ ::rest) ρ w:=by
 have⟨a,b,h⟩:=h;exact q2 _ (jFZ e b) (k a h) c
def qi{R:Addr->Prop}{T E:TypeId}{x ix:Operand}{s:Sl}{i:Int}{n:Nat}(e:(underlying T).run P w=.ok (.slice E) w)(hs:(sizeOf E).run P w=.ok n w)(h:∃a,At s i n a/\R a)(k:∀a,R a->wpL P ops Q rest (put ρ d<|.pointer<|some a) w)(f:evE ρ x=s.v:=by kernel_rfl)(hi:evE ρ ix=.int .i64 i:=by kernel_rfl)(c:Region.wanted ⟨d,.indexAddr T x ix,ty,pos,aft,g⟩ (zK ops ρ)=true:=by kernel_rfl):wpL P ops Q (⟨d,.indexAddr T x ix,ty,pos,aft,g⟩ ::rest) ρ w:=by
 have⟨a,b,h⟩:=h;exact q2 _ (jDM f hi e hs b) (k a h) c
def qa{T:TypeId}{x:Operand}{n:Nat}{a:Addr}{vs:List Value}(e:(isAgg T).run P w=.ok true w)(hs:(sizeOf T).run P w=.ok n w)(b:Row w a vs)(h:wpL P ops Q rest (put ρ d<|.agg vs.toArray) w)(i:evE ρ x=.pointer (some a):=by kernel_rfl)(f:vs.length=n:=by rfl)(c:Region.wanted ⟨d,.load T x,ty,pos,aft,g⟩ (zK ops ρ)=true:=by kernel_rfl):wpL P ops Q (⟨d,.load T x,ty,pos,aft,g⟩ ::rest) ρ w:=q2 _ (jRM i e hs f b) h c
def st1{R:World->Prop}{T:TypeId}{x y:Operand}{a:Addr}{v:Value}(hs:(sizeOf T).run P w=.ok 1 w)(h:zV w a/\∀w',w'=w.setCell a v->R w')(k:∀w',R w'->wpL P ops Q rest (put ρ d undef) w')(e:evE ρ x=.pointer (some a):=by kernel_rfl)(c:evE ρ y=v:=by kernel_rfl)(h1:vE v=true:=by rfl)(b:Region.wanted ⟨d,.store T x y,ty,pos,aft,g⟩ (zK ops ρ)=true:=by kernel_rfl):wpL P ops Q (⟨d,.store T x y,ty,pos,aft,g⟩ ::rest) ρ w:=
 jDR b (tY e c h1 hs h.1)<|k _<|h.2 _ rfl
variable {H Hv:Nat->Prop} {w0 wv:World} {l:List HBx} {Z:List (Nat×Obj)}
theorem st2 {R:World→Prop} {T:TypeId} {x y:Operand} {a:Addr} {v:Value} (hs:(sizeOf T).run P w=.ok 1 w) (hst:Hst w0 Hv wv H w) (hb:HBZ Z H w l) (h:zV w a∧¬ H a.block∧∀w',w'=w.setCell a v→R w') (k:∀w',Hst w0 H w' H w'→HBZ Z H w' l→R w'→wpL P ops Q rest (put ρ d undef) w') (hx:evE ρ x=.pointer (some a):=by kernel_rfl) (hy:evE ρ y=v:=by kernel_rfl) (h1:vE v=true:=by rfl) (hw:Region.wanted ⟨d,.store T x y,ty,pos,aft,g⟩ (zK ops ρ)=true:=by kernel_rfl):wpL P ops Q (⟨d,.store T x y,ty,pos,aft,g⟩ :: rest) ρ w :=
 jDR hw (tY hx hy h1 hs h.1) (by obtain ⟨hst,hb⟩:=(Kept.setCell h.2.1).hh hst hb;exact k _ hst hb (h.2.2 _ rfl))
def nw2{R:Addr->World->Prop}{O:Obj}(hst:Hst w0 Hv wv H w)(a:HBZ Z H w l)(h:∀p w',New w O p w'->R p w')(hr:(execOp (evE ρ) o).run P w=.ok (.value<|.pointer<|some ⟨w.heap.size,0,none⟩) (w.alloc O))(k:∀p w',Hst w0 H w' H w'->HBZ Z H w' l->R p w'->wpL P ops Q rest (put ρ o.dst<|.pointer<|some p) w')(c:Region.wanted o (zK ops ρ)=true:=by kernel_rfl):wpL P ops Q (o ::rest) ρ w:=sn hr (fun p w' b=>by
 have⟨hst,a⟩:=(Ext.new (F:=None) b).keptP.hh hst a;exact k p w' hst a<|h p w' b) c
def nw3(c:List Value)(T:TypeId)(hst:Hst w0 Hv wv H w)(a:HBZ Z H w l)(hr:(execOp (evE ρ) o).run P w=.ok (.value<|.pointer<|some ⟨w.heap.size,0,none⟩) (w.alloc<|.cells c.toArray T))(k:∀p w' b,Hst w0 Hv wv b w'->HBZ Z b w' ((p,c,T) ::l)->wpL P ops Q rest (put ρ o.dst<|.pointer<|some p) w')(d:Region.wanted o (zK ops ρ)=true:=by kernel_rfl):wpL P ops Q (o ::rest) ρ w:=sn hr (fun p w' e=>by
 have⟨f,hst,a⟩:=hst.alloc a e;exact k p w' f hst a) d
def sbx(i:Nat)(vs:List Value){p:Addr}{c:List Value}{T U:TypeId}{x y:Operand}{n:Nat}(hs:(sizeOf T).run P w=.ok n w)(hst:Hst w0 Hv wv H w)(e:HBZ Z H w l)(hi:l[i]?=some (p,c,U))(k:∀w',Hst w0 Hv wv H w'->HBZ Z H w' (l.set i (p,vs++c.drop vs.length,U))->wpL P ops Q rest (put ρ d undef) w')(o:evE ρ x=.pointer (some p):=by kernel_rfl)(m:evE ρ y=.agg vs.toArray:=by kernel_rfl)(h1:vs.all vE=true:=by rfl)(j:vs.length=n:=by rfl)(f:decide (vs.length<=c.length)=true:=by kernel_rfl)(h:Region.wanted ⟨d,.store T x y,ty,pos,aft,g⟩ (zK ops ρ)=true:=by kernel_rfl):wpL P ops Q (⟨d,.store T x y,ty,pos,aft,g⟩ ::rest) ρ w:=
 jDR h (jHQ o m h1 hs j<|e.canWs0 i _ hi f) (by have⟨a,b⟩:=e.store0 (vs:=vs) hst hi f rfl;exact k _ a b)
end
section
variable {H Hv:Nat->Prop} {w0 wv w w':World} {l l':List HBx} {Z:List (Nat×Obj)} {p:Addr} {c vs:List Value} {T:TypeId}
def HBZ.st1(a:HBZ Z H w l)(i:Nat)(h:Hst w0 Hv wv H w)(b:w'=storeRow w p vs)(hi:l[i]?=some (p,c,T))(d:decide (vs.length<=c.length)=true:=by kernel_rfl):Hst w0 Hv wv H w'/\HBZ Z H w' (l.set i (p,vs++c.drop vs.length,T)):=by
 subst b;exact a.store0 h hi d rfl
def HBZ.d(a:HBZ Z H w l)(i j:Nat){p:Addr}{c:List Value}{T:TypeId}(hi:l[i]?=some (p,c,T))(b:c[j]?=some (c.getD j undef):=by kernel_rfl):w.cell? (p.add j)=some (c.getD j undef):=a.cell i j hi b
def HBZ.d0(a:HBZ Z H w l)(i:Nat){p:Addr}{c:List Value}{T:TypeId}(hi:l[i]?=some (p,c,T))(b:c[0]?=some (c.getD 0 undef):=by kernel_rfl):w.cell? p=some (c.getD 0 undef):=a.cell0 i hi b
def Hst.nw{O:Obj}{p:Addr}(h:Hst w0 Hv wv H w)(a:HBZ Z H w l)(b:New w O p w'):Hst w0 H w' H w'/\HBZ Z H w' l:=(Ext.new (F:=None) b).keptP.hh h a
def Hst.pp(h:Hst w0 Hv wv H w)(a:HBZ Z H w l)(E:Pure w w'):Hst w0 Hv wv H w'/\HBZ Z H w' l:=⟨h.pure E,a.pure E⟩
def Hst.hr{R:Prop}(hs:Hst w0 Hv wv H w)(h:Hst w0 Hv wv H w->R):R/\Hst w0 H w H w:=⟨h hs,hs.here⟩
def st0(w0:World):Hst w0 None w0 None w0/\HB None w0 []:=⟨Hst.start w0,HB.nil None w0⟩
end
def Br.br{c:Bool}{A B:Prop}(h:Br c A B):(c=true/\A)\/(c=false/\B):=by
 cases c;exact .inr ⟨rfl,h.2 rfl⟩;exact .inl ⟨rfl,h.1 rfl⟩
section
variable {P:Program} {n:Nat} {Q:Exit->Env->World->Prop} {ρ:Env} {w:World}
def cbr{a:Cx}{c:Operand}{y z:Code}{t:Bool}{A B:Prop}(h:Br t A B)(ht:A->wpE (x:=a) P n y Q ρ w)(b:B->wpE (x:=a) P n z Q ρ w)(d:evE ρ c=.bool t:=by kernel_rfl):wpE (x:=a) P n (.cond c y z) Q ρ w:=jCR d (fun e=>ht<|h.1 e) fun e=>b<|h.2 e
def gg2{a:Func}{r s:ResultVar}{v u:Value}{R:Ending->World->Prop}{e:Exit}(hr:a.results=#[r,s])(h:RV P ρ w r v)(b:RV P ρ w s u)(d:R (.returned<|.tuple #[v,u]) w)(c:e=.ret\/e=.normal:=by exact .inl rfl):jFV P a n R e ρ w:=resG c (rs:=[r,s]) (vs:=[v,u]) hr ⟨h,b,trivial⟩ rfl d
end
end Go.SE
namespace Go.SE
section
variable {P:Program} {ops:Array Oper} {Q:Env->World->Prop} {ρ:Env} {w:World} {rest:List Oper} {o:Oper}
variable {H Hv:Nat->Prop} {w0 wv:World} {l:List HBx} {Z:List (Nat×Obj)}
def nw5{R:Addr->World->Prop}{O:Obj}(v:Addr->Value)(hst:Hst w0 Hv wv H w)(a:HBZ Z H w l)(h:∀p w',New w O p w'->R p w')(k:∀p w',Hst w0 H w' H w'->HBZ Z H w' l->R p w'->wpL P ops Q rest (put ρ o.dst<|v p) w')(hr:(execOp (evE ρ) o).run P w=.ok (.value<|v ⟨w.heap.size,0,none⟩) (w.alloc O):=by kernel_rfl)(c:Region.wanted o (zK ops ρ)=true:=by kernel_rfl):wpL P ops Q (o ::rest) ρ w:=jLE v c hr (fun p w' b=>by
 have⟨hst,a⟩:=hst.nw a b;exact k p w' hst a<|h p w' b)
end
section
variable {P:Program} {ops:Array Oper} {C:World->Prop} {loud free:Nat->Bool} {K:Env->World->Prop} {ρ:Env} {w:World} {k:Nat}
variable {d:Option Tmp} {ty:TypeId} {pos:String} {aft:Array Edge} {g:Option (Nat×Bool)}
end
section
variable {P:Program} {n:Nat} {Q:Exit->Env->World->Prop} {ρ:Env} {w:World}
variable {H Hv:Nat->Prop} {w0 wv:World} {l':List HBx} {Z:List (Nat×Obj)}
def dr2{R:World->Prop}{d:Cx}{id:Nat}{l:List Oper}(C:World->Prop)(loud free:List Nat)(a:C w.drew)(h:∀w',w'=w.drew->R w')(hs:Hst w0 Hv wv H w)(b:HBZ Z H w l')(k:∀w',Hst w0 Hv wv H w'->HBZ Z H w' l'->R w'->wpX P l.toArray C (vS loud) (vS free) (fun ρ w=>Q .normal ρ w) l.length (Array.replicate l.length false) ρ w')(hm:P.follows .mixedOrders=true:=by kernel_rfl)(c:oV n l=true:=by kernel_rfl)(hB:Region.noSelect l.toArray=true:=by kernel_rfl)(f:jSQ .any l.toArray (vS loud) (vS free)=true:=by kernel_rfl):wpE (x:=d) P n (.region id l.toArray true) Q ρ w:=jGA C loud free hm c hB f a fun w' e=>k w' (e▸hs.drew) (e▸b.drew)<|h w' e
end
end Go.SE
namespace Go.SE
abbrev Aa(e:Int)(b:Int)(f:Int)(c:Int)(d:ByteArray)(a:Sl):Value:=.agg #[vi e,vi b,vi f,vu c,vs d,a.v]
abbrev Ab(e:Int)(b:Int)(g:Int)(c:Int)(d:ByteArray)(a:Int)(f:Int):List Value:=[vi e,vi b,vi g,vu c,vs d,vi a,vi f]
abbrev Ac(e:Int)(b:Int)(f:Int)(c:Int)(d:ByteArray)(a:Sl):List Value:=[vi e,vi b,vi f,vu c,vs d,a.v]
abbrev Ae(e:Int)(b:Int)(g:Int)(c:Int)(d:ByteArray)(a:Int)(f:Int):Value:=.agg #[vi e,vi b,vi g,vu c,vs d,vi a,vi f]
abbrev Af(d:Bool)(a:Bool)(e:Bool)(b:Bool)(c:Int):List Value:=[vb d,vb a,vb e,vb b,vi c]
abbrev Ag(S:Bool)(Q:Bool)(V:Bool)(W:Bool)(R:Int)(O:Bool)(T:Bool)(X:Bool)(U:Bool)(P:Int)(D:Bool)(w:Bool)(C:Bool)(m:Bool)(M:Int)(L:Bool)(q:Bool)(c:Bool)(E:Bool)(j:Int)(b:Bool)(z:Bool)(A:Bool)(r:Bool)(H:Int)(G:Bool)(n:Bool)(s:Bool)(K:Bool)(t:Int)(F:Bool)(o:Bool)(J:Bool)(a:Bool)(u:Int)(d:Bool)(y:Bool)(v:Bool)(h:Bool)(I:Int)(p:Bool)(g:Bool)(l:Bool)(i:Bool)(x:Int)(N:Bool)(k:Bool)(B:Bool)(e:Bool)(f:Int):List Value:=[vb S,vb Q,vb V,vb W,vi R,vb O,vb T,vb X,vb U,vi P,vb D,vb w,vb C,vb m,vi M,vb L,vb q,vb c,vb E,vi j,vb b,vb z,vb A,vb r,vi H,vb G,vb n,vb s,vb K,vi t,vb F,vb o,vb J,vb a,vi u,vb d,vb y,vb v,vb h,vi I,vb p,vb g,vb l,vb i,vi x,vb N,vb k,vb B,vb e,vi f]
end Go.SE
end
section
namespace Go.SE
inductive Fr where
 |t (c:Code)
 |b (id:Nat)
 |r (ops:Array Oper) (l:List Oper)
 |j (J:Env->World->Prop)
inductive Pos where
 |c (c:Code)
 |r (ops:Array Oper) (l:List Oper)
 |d (ops:Array Oper) (q:Option World) (C:World->Prop) (H:Nat->Prop) (l:List HBx) (ld fr:List Nat) (b:Nat) (a:Array Bool) (s:Option Nat)
 |x (e:Exit)
structure Cf where
 pos:Pos
 fr:List Fr
 ρ:Env
 w:World
 kn:List (Nat×Bool)
def kl:List (Nat×Bool)->Nat->Option Bool
 |[],_=>none
 |(t,b) :: l,d=>cond (Nat.beq t d) (some b)<|kl l d
def kdn:List (Nat×Bool)->Nat->List (Nat×Bool)
 |[],_=>[]
 |(t,b) :: l,d=>cond (Nat.beq t d) (kdn l d) ((t,b) :: kdn l d)
def kd(l:List (Nat×Bool)):Option Nat->List (Nat×Bool)
 |none=>l
 |some d=>kdn l d
def Kn(c:Cf):Prop:=∀d b,kl c.kn d=some b->c.ρ d=.bool b
def asB:Value->Option Bool
 |.bool b=>some b
 |_=>none
def bK(kn:List (Nat×Bool))(ρ:Env):Operand->Option Bool
 |.tmp d=>match kl kn d with
  |some b=>some b
  |none=>asB<|ρ d
 |x=>asB<|evE ρ x
def yK(ops:Array Oper)(kn:List (Nat×Bool))(ρ:Env)(j:Nat):Option Bool:=
 match(ops[j]?).bind (·.dst)with
 |some d=>bK kn ρ<|.tmp d
 |none=>none
abbrev cx0:Cx:=⟨none,[]⟩
def Cl(q:Option World)(C:World->Prop)(H:Nat->Prop)(l:List HBx)(x:World):Prop:=match q with
 |some w=>x=w
 |none=>C x/\HB H x l
section
variable (P:Program) (n:Nat) (Q:Exit->Env->World->Prop)
def Qf:List Fr->Exit->Env->World->Prop
 |[]=>Q
 |.t c :: fs=>jDP (fun ρ w=>wpE (x:=cx0) P n c (Qf fs) ρ w)<|Qf fs
 |.b id :: fs=>jDL id<|Qf fs
 |.r ops l :: fs=>jDP (fun ρ w=>wpL P ops (fun ρ w=>Qf fs .normal ρ w) l ρ w)<|Qf fs
 |.j J :: fs=>jDP J<|Qf fs
def Wq(c:Cf):Prop:=match c.pos with
 |.c k=>wpE (x:=cx0) P n k (Qf P n Q c.fr) c.ρ c.w
 |.r ops l=>wpL P ops (fun ρ w=>Qf P n Q c.fr .normal ρ w) l c.ρ c.w
 |.d ops q C H l ld fr b a none=>wpX P ops (Cl q C H l) (vS ld) (vS fr) (fun ρ w=>Qf P n Q c.fr .normal ρ w) b a c.ρ c.w
 |.d ops q C H l ld fr b a (some k)=>opE P ops (Cl q C H l) (vS ld) (vS fr) k (wpX P ops (Cl q C H l) (vS ld) (vS fr) (fun ρ w=>Qf P n Q c.fr .normal ρ w) b<|a.setIfInBounds k true) c.ρ c.w
 |.x e=>Qf P n Q c.fr e c.ρ c.w
def Wk(c:Cf):Prop:=Kn c->Wq P n Q c
end
def W(P:Program)(a:Func)(R:Ending->World->Prop)(c:Cf):Prop:=Wk P a.ntmps (jFV P a a.ntmps R) c
def nxt(ops:Array Oper)(ld:List Nat)(a:Array Bool):Option Nat:=
 match(Region.ready .any ops a).find? (fun k=>!vS ld k)with
 |some k=>if goes ops a (vS ld) k then some k else none
 |none=>match Region.ready .any ops a with
  |[k]=>some k
  |_=>none
def s1(n:Nat)(c:Cf):Option (Pos×List Fr):=match c.pos with
 |.c k=>match k with
  |.seq a b=>some (.c a,.t b :: c.fr)
  |.block id a=>some (.c a,.b id :: c.fr)
  |.skip=>some (.x .normal,c.fr)
  |.label _=>some (.x .normal,c.fr)
  |.ret=>some (.x .ret,c.fr)
  |.exit id=>some (.x<|.exit id,c.fr)
  |.scope a=>some (.c a,c.fr)
  |.region _ ops false=>if oV n ops.toList then some (.r ops ops.toList,c.fr)else none
  |_=>none
 |.r _ []=>some (.x .normal,c.fr)
 |.d ops _ _ _ _ ld _ 0 f none=>if(Region.ready .any ops f).isEmpty then some (.x .normal,c.fr)else none
 |.d ops q C H l ld fr (g+1) f none=>match nxt ops ld f with
  |some k=>some (.d ops q C H l ld fr g f<|some k,c.fr)
  |none=>none
 |.x e=>match c.fr,e with
  |.t k :: fs,.normal=>some (.c k,fs)
  |.r ops l :: fs,.normal=>some (.r ops l,fs)
  |.b _ :: fs,.normal=>some (.x .normal,fs)
  |.b id :: fs,.exit i=>if i=id then some (.x .normal,fs)else some (.x<|.exit i,fs)
  |.t _ :: fs,.exit i=>some (.x<|.exit i,fs)
  |.r _ _ :: fs,.exit i=>some (.x<|.exit i,fs)
  |.j _ :: fs,.exit i=>some (.x<|.exit i,fs)
  |_ :: fs,.ret=>some (.x .ret,fs)
  |_,_=>none
 |_=>none
def nrm(n:Nat):Nat->Cf->Cf
 |0,c=>c
 |f+1,c=>match s1 n c with
  |some (p,fs)=>nrm n f ⟨p,fs,c.ρ,c.w,c.kn⟩
  |none=>c
def hdo(c:Cf):Option Oper:=match c.pos with
 |.r _ (o :: _)=>some o
 |.d ops _ _ _ _ _ _ _ _ (some k)=>ops[k]?
 |_=>none
def jWB(c:Cf):Array Oper:=match c.pos with
 |.r ops _=>ops
 |.d ops _ _ _ _ _ _ _ _ _=>ops
 |_=>#[]
def wtd(c:Cf)(o:Oper):Bool:=Region.wanted o<|yK (jWB c) c.kn c.ρ
def cur(c:Cf):Option Oper:=match hdo c with
 |some o=>cond (wtd c o) (some o) none
 |none=>none
def yN(v:Value)(w':World)(c:Cf):Cf:=match c.pos with
 |.r ops (o :: l)=>⟨.r ops l,c.fr,put c.ρ o.dst v,w',kd c.kn o.dst⟩
 |.d ops q C H l ld fr b a (some k)=>match ops[k]? with
  |some o=>⟨.d ops q C H l ld fr b (a.setIfInBounds k true) none,c.fr,put c.ρ o.dst v,w',kd c.kn o.dst⟩
  |none=>c
 |_=>c
def isd(c:Cf):Bool:=match c.pos with
 |.d ..=>true
 |_=>false
def lou(c:Cf):Bool:=match c.pos with
 |.d _ _ _ _ _ ld _ _ _ (some k)=>vS ld k
 |_=>false
def sp1(P:Program)(c:Cf)(o:Oper):Option (Option Value):=match o.op with
 |.pick x a b=>some (match bK c.kn c.ρ x with
  |some true=>some<|evE c.ρ a
  |some false=>some<|evE c.ρ b
  |none=>none)
 |.binOp .eql T x y _=>match evE c.ρ x,evE c.ρ y with
  |.string s,.string t=>some<|some<|.bool<|decide (s=t)
  |.pointer p,.pointer none=>match P.underlying T with
   |some (.pointer _)=>some<|some<|.bool p.isNone
   |_=>none
  |_,_=>none
 |.binOp .neq T x y _=>match evE c.ρ x,evE c.ρ y with
  |.string s,.string t=>some<|some<|.bool<|!decide (s=t)
  |.pointer p,.pointer none=>match P.underlying T with
   |some (.pointer _)=>some<|some<|.bool<|!p.isNone
   |_=>none
  |_,_=>none
 |_=>none
def o1(P:Program)(c:Cf):Option (Cf×List ((World->Result Next)×Value)):=
 match c.pos with
 |.c (.cond x a b)=>match bK c.kn c.ρ x with
  |some true=>some (⟨.c a,c.fr,c.ρ,c.w,c.kn⟩,[])
  |some false=>some (⟨.c b,c.fr,c.ρ,c.w,c.kn⟩,[])
  |none=>none
 |_=>match hdo c with
  |none=>none
  |some o=>cond (wtd c o) (match sp1 P c o with
   |some (some v)=>cond (lou c) none<|some (yN v c.w c,[])
   |some none=>none
   |none=>match(execOp (evE c.ρ) o).run P c.w with
    |.ok (.value v) w'=>cond (isd c) (cond (lou c) none<|some (yN v c.w c,[(fun x=>(execOp (evE c.ρ) o).run P x,v)]))<|some (yN v w' c,[])
    |.ok .skip w'=>cond (isd c) none<|some (yN undef w' c,[])
    |_=>none) (some (yN undef c.w c,[]))
structure Ad where
 c:Cf
 ok:Bool
 ds:List ((World->Result Next)×Value)
def adv(P:Program)(n:Nat):Nat->Cf->Ad
 |0,c=>⟨nrm n 99 c,true,[]⟩
 |k+1,c=>match o1 P (nrm n 99 c)with
  |some (c',d)=>match adv P n k c' with
   |⟨a,ok,ds⟩=>⟨a,ok,d++ds⟩
  |none=>⟨c,false,[]⟩
def Ad.see(a:Ad):Bool×List (World->Result Next):=(a.ok,a.ds.map (·.1))
def Ad.so(a:Ad):Bool×List (World->Result Next):=(true,a.ds.map fun p w=>.ok (.value p.2) w)
def jUF{d t b}:∀{l:List (Nat×Bool)},kl (kdn l t) d=some b->d≠t/\kl l d=some b
 |[],h=>by cases h
 |(s,c) :: l,h=>by
  simp only[kdn]at h;cases hs:Nat.beq s t with
  |true =>
   rw[hs]at h
   have:=jUF (l:=l) h
   refine⟨this.1,?_⟩
   have h2:=Nat.eq_of_beq_eq_true hs
   subst h2
   have:Nat.beq s d=false:=by cases e:Nat.beq s d with
    |true=>exact absurd (Nat.eq_of_beq_eq_true e).symm this.1
    |false=>rfl
   simp only[kl,this,cond_false];exact(jUF (l:=l) h).2
  |false =>
   rw[hs]at h
   simp only[cond_false,kl]at h|-
   cases e:Nat.beq s d with
   |true =>
    rw[e]at h
    refine⟨fun h2=>?_,h⟩
    subst h2;rw[hs]at e;cases e
   |false=>rw[e]at h;exact jUF (l:=l) h
def kl_kd{d b}{l:List (Nat×Bool)}{o:Option Nat}(h:kl (kd l o) d=some b):o≠some d/\kl l d=some b:=by
 cases o with
 |none=>exact⟨nofun,h⟩
 |some t=>have:=jUF h;exact⟨fun e=>this.1 (Option.some.inj e).symm,this.2⟩
def zFD{ρ}{o:Option Nat}{d v}(h:o≠some d):put ρ o v d=ρ d:=by
 cases o with
 |none=>rfl
 |some t=>simp only[put,upd];rw[if_neg fun e=>h<|by rw[e]]
def zET{c}(a:Kn c){x b}(h:bK c.kn c.ρ x=some b):evE c.ρ x=.bool b:=by
 cases x with
 |tmp d =>
  simp only[bK]at h
  split at h
  .rename_i e;cases h;exact a _ _ e
  .simp only[evE];generalize c.ρ d=v at h;cases v<;>simp only[asB]at h<;>first|(cases h;done)|(cases h;rfl)
 |_=>simp only[bK]at h;generalize evE c.ρ _=v at h;cases v<;>simp only[asB]at h<;>first|(cases h;done)|(cases h;rfl)
def jNW{c}(a:Kn c)(ops):yK ops c.kn c.ρ=zK ops c.ρ:=by
 funext j;unfold yK zK;cases(ops[j]?).bind (·.dst)with
 |none=>rfl
 |some d =>
  simp only[bK]
  cases e:kl c.kn d with
  |some b=>rw[a _ _ e]
  |none=>simp only;generalize c.ρ d=v;cases v<;>rfl
section
variable {P:Program} {n:Nat} {Q:Exit->Env->World->Prop} {c c':Cf}
def Ng(Q:Exit->Env->World->Prop):Prop:=∀l ρ w,¬Q (.goto l) ρ w
def zBE(h:Ng Q):∀fs,Ng (Qf P n Q fs)
 |[]=>h
 |.t _ :: fs=>fun l ρ w=>zBE h fs l ρ w
 |.b _ :: fs=>fun l ρ w=>zBE h fs l ρ w
 |.r _ _ :: fs=>fun l ρ w=>zBE h fs l ρ w
 |.j _ :: fs=>fun l ρ w=>zBE h fs l ρ w
def Qf_ret{ρ w}(f:Fr)(fs:List Fr):Qf P n Q (f ::fs) .ret ρ w=Qf P n Q fs .ret ρ w:=by cases f<;>rfl
def s1_ok(f:Ng Q){p:Pos}{fs:List Fr}(h:s1 n c=some (p,fs))(k:Wq P n Q ⟨p,fs,c.ρ,c.w,c.kn⟩):Wq P n Q c:=by
 have⟨pos,fr,ρ,w,kn⟩:=c;unfold s1 at h;simp only at h;split at h;split at h;cases h;exact zL k;cases h;exact qD k;cases h;exact vB k;cases h;exact jNZ k;cases h;exact jRP k;cases h;exact jAX k;cases h;exact jNY rfl (zBE f _) k;rename_i ops;split at h;rename_i e;cases h;have:=fun id=>jKZ (x:=cx0) (id:=id) (Q:=Qf P n Q _) e (by rw[Array.toArray_toList];exact k);simp only[Array.toArray_toList]at this;exact this _;cases h;cases h;rename_i ops;cases h;exact vH (P:=P) (ops:=ops) k;split at h;rename_i ops q C H l ld d i b;cases h;exact jXX (P:=P) (C:=Cl q C H l) (loud:=vS ld) (free:=vS d) (by simpa using b) k;cases h;split at h;rename_i k' a;cases h;unfold nxt at a;split at a;split at a;rename_i g;cases a;exact qgo g k;cases a;split at a;rename_i hr;cases a;exact lgo hr k;cases a;cases h;split at h;cases h;exact k;cases h;exact k;cases h;exact k;split at h;rename_i b;cases h;subst b;exact jXK k;rename_i b;cases h;exact bl_ne (by simpa using b) k;cases h;exact k;cases h;exact k;cases h;exact k;cases h;exact Eq.mpr (Qf_ret _ _) k;cases h;cases h
def jZE(a:Ng Q):∀(f:Nat) {c:Cf},Wk P n Q (nrm n f c)->Wk P n Q c
 |0,_,k=>k
 |f+1,c,k=>by
  unfold nrm at k;split at k;rename_i p fs h;exact fun b=>s1_ok a h<|jZE a f k b;exact k
def need(c:Cf):World->Prop:=match c.pos with
 |.d _ q C H l _ _ _ _ _=>Cl q C H l
 |_=>fun x=>x=c.w
def jBE(a:Kn c)(v w'):Kn (yN v w' c):=by
 unfold yN;split;intro d b h;have:=kl_kd h;exact(zFD this.1).trans<|a _ _ this.2;split;intro d b h;have:=kl_kd h;exact(zFD this.1).trans<|a _ _ this.2;exact a;exact a
def zHC{o v w'}(hh:hdo c=some o)(a:isd c=false):∃ops l,c.pos=.r ops (o ::l)/\jWB c=ops/\yN v w' c=⟨.r ops l,c.fr,put c.ρ o.dst v,w',kd c.kn o.dst⟩:=by
 unfold hdo at hh;split at hh;rename_i h1;cases hh;exact⟨_,_,h1,by unfold jWB;rw[h1],by unfold yN;rw[h1]⟩;rename_i h1;simp[isd,h1]at a;cases hh
def zHD{o v w'}(hh:hdo c=some o)(a:isd c=true):∃ops q C H l ld fr e b k,c.pos=.d ops q C H l ld fr e b (some k)/\jWB c=ops/\ops[k]?=some o/\lou c=vS ld k/\yN v w' c=⟨.d ops q C H l ld fr e (b.setIfInBounds k true) none,c.fr,put c.ρ o.dst v,w',kd c.kn o.dst⟩:=by
 unfold hdo at hh;split at hh;rename_i h1;simp[isd,h1]at a;rename_i h1;exact⟨_,_,_,_,_,_,_,_,_,_,h1,by unfold jWB;rw[h1],hh,by unfold lou;rw[h1],by unfold yN;simp[h1,hh]⟩;cases hh
def jKG{o}(a:cur c=some o):hdo c=some o/\wtd c o=true:=by
 unfold cur at a;split at a;grind;cases a
def Wq_r{ops l}(h:c.pos=.r ops l):Wq P n Q c=wpL P ops (fun ρ w=>Qf P n Q c.fr .normal ρ w) l c.ρ c.w:=by unfold Wq;rw[h]
def Wq_d{ops}{q:Option World}{C H l ld fr fu}{a:Array Bool}{k}(h:c.pos=.d ops q C H l ld fr fu a (some k)):Wq P n Q c=opE P ops (Cl q C H l) (vS ld) (vS fr) k (wpX P ops (Cl q C H l) (vS ld) (vS fr) (fun ρ w=>Qf P n Q c.fr .normal ρ w) fu<|a.setIfInBounds k true) c.ρ c.w:=by unfold Wq;rw[h]
def jSD{o v}(f:cur c=some o)(e:lou c=false)(hr:Kn c->∀x,need c x->(execOp (evE c.ρ) o).run P x=.ok (.value v) x)(k:Wk P n Q (yN v c.w c)):Wk P n Q c:=by
 intro d;have⟨hh,a⟩:=jKG f;unfold wtd at a;rw[jNW d]at a;replace k:=k<|jBE d _ _;cases b:isd c with
 |false =>
  have⟨ops,l,h1,h2,h3⟩:=zHC (v:=v) (w':=c.w) hh b
  rw[h2]at a;rw[h3]at k;rw[Wq_r h1]
  exact stp a (hr d _ (by unfold need;rw[h1])) k
 |true =>
  have⟨ops,q,C,H,l,ld,fr,p,m,j,h1,h2,i,g,h3⟩:=zHD (v:=v) (w':=c.w) hh b
  rw[h2]at a;rw[h3]at k;rw[Wq_d h1];rw[g]at e
  exact sx i a e (fun x h=>hr d x (by unfold need;rw[h1];exact h)) k
def off_ok{o}(hh:hdo c=some o)(a:wtd c o=false)(k:Wk P n Q (yN undef c.w c)):Wk P n Q c:=by
 intro d;unfold wtd at a;rw[jNW d]at a;replace k:=k<|jBE d _ _;cases b:isd c with
 |false =>
  have⟨ops,l,h1,h2,h3⟩:=zHC (v:=undef) (w':=c.w) hh b
  rw[h2]at a;rw[h3]at k;rw[Wq_r h1]
  exact jTL a k
 |true =>
  have⟨ops,q,C,H,l,ld,fr,g,f,j,h1,h2,e,h,h3⟩:=zHD (v:=undef) (w':=c.w) hh b
  rw[h2]at a;rw[h3]at k;rw[Wq_d h1]
  exact sx_not e a k
def st_ok{o v w'}(e:cur c=some o)(b:isd c=false)(hr:(execOp (evE c.ρ) o).run P c.w=.ok (.value v) w')(k:Wk P n Q (yN v w' c)):Wk P n Q c:=by
 intro d;have⟨hh,a⟩:=jKG e;unfold wtd at a;rw[jNW d]at a;replace k:=k<|jBE d _ _;have⟨ops,l,h1,h2,h3⟩:=zHC (v:=v) (w':=w') hh b;rw[h2]at a;rw[h3]at k;rw[Wq_r h1];exact st a hr k
def jYN{o w'}(e:cur c=some o)(b:isd c=false)(hr:(execOp (evE c.ρ) o).run P c.w=.ok .skip w')(k:Wk P n Q (yN undef w' c)):Wk P n Q c:=by
 intro d;have⟨hh,a⟩:=jKG e;unfold wtd at a;rw[jNW d]at a;replace k:=k<|jBE d _ _;have⟨ops,l,h1,h2,h3⟩:=zHC (v:=undef) (w':=w') hh b;rw[h2]at a;rw[h3]at k;rw[Wq_r h1];exact jDR a hr k
def sp1_ok(b:Kn c){o v}(h:sp1 P c o=some (some v))(y):(execOp (evE c.ρ) o).run P y=.ok (.value v) y:=by
 have⟨dst,op,ty,pos,aft,g⟩:=o;unfold sp1 at h;simp only at h;split at h;split at h;rename_i a;cases h;exact jXQ (zET b a) rfl rfl;rename_i a;cases h;exact jXR (zET b a) rfl rfl;cases h;split at h;rename_i h1 h2;cases h;exact zFZ h1 h2;rename_i h1 h2;split at h;rename_i h3;cases h;exact jMF h1 h2 h3;cases h;cases h;split at h;rename_i h1 h2;cases h;exact zBM h1 h2;rename_i h1 h2;split at h;rename_i h3;cases h;exact zBN h1 h2 h3;cases h;cases h;cases h
def o1_ok{d:List ((World->Result Next)×Value)}(h:o1 P c=some (c',d))(hs:d.map (·.1)=d.map fun p w=>.ok (.value p.2) w)(k:Wk P n Q c'):Wk P n Q c:=by
 unfold o1 at h;split at h;rename_i x a b q;intro g;have⟨pos,fs,ρ,w,kn⟩:=c;simp only at q;subst q;split at h;rename_i m;cases h;exact jXY (zET g m)<|k g;rename_i m;cases h;exact jXZ (zET g m)<|k g;cases h;split at h;cases h;rename_i o hh;cases j:wtd c o with
 |false=>rw[j]at h;cases h;exact off_ok hh j k
 |true =>
  have i:cur c=some o:=by unfold cur;rw[hh];simp only[j,cond_true]
  rw[j]at h
  simp only[cond_true]at h
  split at h
  rename_i v l
  cases f:lou c with
  |true=>rw[f]at h;cases h
  |false=>rw[f]at h;cases h;exact jSD i f (fun g y _=>sp1_ok g l y) k
  cases h
  split at h
  rename_i v w' hr
  cases e:isd c with
  |true =>
   rw[e]at h
   cases f:lou c with
   |true=>rw[f]at h;cases h
   |false =>
    rw[f]at h
    cases h
    simp only[List.map_cons,List.map_nil,List.cons.injEq,and_true]at hs
    exact jSD i f (fun _ x _=>congrFun hs x) k
  |false =>
   rw[e]at h
   cases h
   exact st_ok i e hr k
  rename_i w' hr
  cases e:isd c with
  |true=>rw[e]at h;cases h
  |false=>rw[e]at h;cases h;exact jYN i e hr k
  cases h
def zFV(a:Ng Q):∀(m:Nat) {c:Cf},(adv P n m c).see=(adv P n m c).so->Wk P n Q (adv P n m c).c->Wk P n Q c
 |0,c,_,k=>jZE a 99 k
 |m+1,c,hs,k=>by
  unfold adv at hs k;split at hs;rename_i c' d h1;rw[h1]at k;simp only at hs k;have b:(adv P n m c').see=(adv P n m c').so/\d.map (·.1)=d.map fun p w=>.ok (.value p.2) w:=by
   simp only[Ad.see,Ad.so,List.map_append,Prod.mk.injEq]at hs|-;have⟨e,h2⟩:=hs;have:=List.append_inj h2 Sm;exact⟨⟨e,this.2⟩,this.1⟩
  exact jZE a 99<|o1_ok h1 b.2<|zFV a m b.1 k;simp[Ad.see,Ad.so]at hs
end
def zGW(P fn n R):Ng (jFV P fn n R):=fun _ _ _ h=>h
def W.on{P fn R c}(m)(hs:(adv P fn.ntmps m c).see=(adv P fn.ntmps m c).so)(k:W P fn R (adv P fn.ntmps m c).c):W P fn R c:=zFV (zGW P fn _ R) m hs k
end Go.SE
end
section
open Go Go.SE List
namespace Go.SE
section
variable {P:Program} {t e:TypeId} {sz bytes:Nat}
def jJC(T:SlType P t e sz bytes)(w:World)(ty:TypeId)(s x:Sl)(g:s.len<=s.cap)(f:x.len=0):(Builtin.append_ #[t,t] ty #[s.v,x.v]).run P w=.ok s.v w:=by
 have⟨a,n,c⟩:=s;have⟨b,m,d⟩:=x;simp only at g f;subst f;cases b<;>cases a<;>simp[Builtin.append_,Sl.v,run_underlying T.ht,T.sizeOf,Builtin.lenOf,Builtin.firstCells,loadCells,loadCellsFrom,storeCells,g]
end
def jTU{w sz}:∀{rs:List (List Value)} {p:Addr},(∀r∈rs,r.length=sz)->(∀i (h:i<rs.length),Row w (p.add<|i*sz) rs[i])->Row w p rs.flatten
 |[],p,_,_=>fun i h=>by simp at h
 |r :: rs,p,b,h=>by
  have hr:Row w p r:=by have:=h 0 (by simp);simpa[Addr.add]using this
  have c:=b r (by simp);have e:=jTU (rs:=rs) (p:=p.add sz) (fun q d=>b q<|mem_cons_of_mem _ d) (fun i hi=>by
   have:=h (i+1) (by simpa using hi);rw[yP,show sz+i*sz=(i+1)*sz by rw[Nat.succ_mul];omega];simpa using this)
  intro i hi;rw[flatten_cons]at hi|-;by_cases a:i<r.length;rw[hr i a,getElem?_append_left a];have:=e (i-r.length) (by grind);rw[yP,show sz+(i-r.length)=i by omega]at this;rw[this,getElem?_append_right<|by omega]
section
variable {P:Program} {t e:TypeId} {sz bytes:Nat}
def Rws.empty{w w' p}(a:New w (.cells #[] e) p w'):Rws w' e sz ⟨some p,0,0⟩ []:=by
 have⟨b,c⟩:=a;refine⟨Sm,rfl,.inr ⟨w.heap.size,#[],by rw[b],?_,Sm,Sm,Sm,Sm⟩⟩;rw[c];exact heap_alloc_new w<|.cells #[] e
def Rws.appendL(T:SlType P t e sz bytes){w ty s x rs qs}(h:Rws w e sz s rs){S}(k:Lst S w sz x qs)(u:∀q∈qs,q.length=sz)(h1:∀q∈qs,q.all vE=true)(m:(rs.length+qs.length)*bytes<=140737488355328)(hm:rs.length+qs.length<=maxLen):
  ∃s' w',(Builtin.append_ #[t,t] ty #[s.v,x.v]).run P w=.ok s'.v w'/\Rws w' e sz s' (rs++qs)/\Ext s.blk w w'/\(∀b,s'.blk b->s.blk b\/w.heap.size<=b):=by
 cases o:qs with
 |nil =>
  subst o
  have l:s.len<=s.cap:=by
   rcases h.own with⟨rfl,_⟩|⟨g,cur,_,_,l,_⟩;exact Nat.le_refl _;rw[h.len];exact l
  exact⟨s,w,jJC T w ty s x l k.len,by simpa using h,Ext.refl w,fun b m=>.inl m⟩
 |cons q0 r =>
  rw[<-o]
  have c:qs≠[]:=by rw[o];simp
  have d:=length_pos_iff.2 c
  have⟨_,⟨_,_,p,y,_⟩,_,_⟩:=k.at_ 0 d
  have f:Row w p qs.flatten:=jTU u (fun i hi=>by
   obtain⟨a,⟨_,_,b,j,rfl⟩,_,hr⟩:=k.at_ i hi;rw[y]at j;cases j;simpa using hr)
  have n:x.v=(Sl.mk (some p) qs.length x.cap).v:=by unfold Sl.v;rw[y,k.len]
  rw[n]
  exact h.appends T f u h1 c m hm
end
def look{α:Type}:List (Int×α)->Int->Option α
 |[],_=>none
 |p :: M,k=>if p.1=k then some p.2 else look M k
def uS{α:Type}{M:List (Int×α)}{k}:look M k=none↔k∉M.map Prod.fst:=by
 induction M with
 |nil=>simp[look]
 |cons p M a =>
  rw[look]
  split
  rename_i h;simp[h]
  grind
def tB{α:Type}{M:List (Int×α)}{k}{v:α}(h:look M k=some v):(k,v)∈M:=by
 induction M with
 |nil=>cases h
 |cons p M a =>
  rw[look]at h
  split at h
  grind
  grind
def jZH{α:Type}{M:List (Int×α)}(a:(M.map Prod.fst).Nodup){i:Nat}{k:Int}{v:α}(h:M[i]?=some (k,v)):look M k=some v:=by
 induction M generalizing i with
 |nil=>simp at h
 |cons p M c =>
  rw[map_cons,nodup_cons]at a
  rw[look]
  cases i with
  |zero=>simp at h;subst h;simp
  |succ i =>
   have d:M[i]?=some (k,v):=by simpa using h
   have b:p.1≠k:=fun e=>a.1 Gd
   rw[if_neg b]
   exact c a.2 d
def jSI{α:Type}{M:List (Int×α)}(a:(M.map Prod.fst).Nodup){k}{v:α}(h:(k,v)∈M):look M k=some v:=by
 have⟨i,hi,e⟩:=getElem_of_mem h;exact jZH a (by rw[getElem?_eq_getElem hi,e])
def jPC{α:Type}{M:List (Int×α)}{k x}{v:α}(h:k∉M.map Prod.fst):look (M++[(k,v)]) x=if k=x then some v else look M x:=by
 induction M with
 |nil=>simp[look]
 |cons p M a =>
  simp only[map_cons,mem_cons,not_or]at h
  rw[cons_append,look,look,a h.2]
  by_cases e:p.1=x
  grind
  rw[if_neg e,if_neg e]
def jRK(k:Int):Value:=.int .i64 k
structure IMap{α:Type}(f:α->Value)(w:World)(m:Nat)(M:List (Int×α)):Prop where
 map:CMap w m (M.map fun p=>(jRK p.1,f p.2))
 nd:(M.map Prod.fst).Nodup
section
variable {α:Type} {f:α->Value} {w w':World} {m:Nat} {M:List (Int×α)} {P:Program} {T K E:TypeId}
def IMap.ext{F}(h:IMap f w m M)(a:Ext F w w')(b:¬F m):IMap f w' m M:=⟨h.map.ext a b,h.nd⟩
def IMap.pure(h:IMap f w m M)(a:Pure w w'):IMap f w' m M:=h.ext a id
def IMap.lt(h:IMap f w m M):m<w.heap.size:=h.map.lt
def IMap.of_new{p}(h:New w (.map #[] 0) p w'):IMap f w' p.block []:=⟨CMap.of_new h,nodup_nil⟩
def IMap.keys(M:List (Int×α)):∀p∈M.map fun p=>(jRK p.1,f p.2),∃n,p.1=.int .i64 n:=by
 intro p a;obtain⟨q,_,rfl⟩:=mem_map.1 a;exact⟨_,rfl⟩
def IMap.get(h:IMap f w m M)(d:P.underlying T=some (.map K E))(e:P.underlying K=some (.int .i64)){z}(c:(zeroValue E).run P w=.ok z w)(k ok):
  (look M k=none/\(Instr.lookup T (.map<|some m) (.int .i64 k) ok).run P w=.ok (if ok then .tuple #[z,.bool false]else z) w)\/∃v,look M k=some v/\(Instr.lookup T (.map<|some m) (.int .i64 k) ok).run P w=.ok (if ok then .tuple #[f v,.bool true]else f v) w:=by
 rcases h.map.lookup d (KeyOK.of_int e) (IMap.keys M) (k:=jRK k) ⟨k,rfl⟩ c ok with⟨h1,h2⟩|⟨i,v,h1,h2⟩
 refine .inl ⟨uS.2 fun hm=>?_,h2⟩
 obtain⟨q,g,rfl⟩:=mem_map.1 hm
 exact h1 _ (mem_map.2 ⟨q,g,rfl⟩) rfl
 rw[getElem?_map]at h1
 cases hi:M[i]? with
 |none=>rw[hi]at h1;cases h1
 |some q =>
  rw[hi]at h1
  have⟨a,b⟩:=q
  simp[jRK]at h1
  obtain⟨rfl,rfl⟩:=h1
  exact .inr ⟨b,jZH h.nd hi,h2⟩
def IMap.put(h:IMap f w m M)(j:P.underlying T=some (.map K E))(c:P.underlying K=some (.int .i64)){k}(g:look M k=none)(v:α):
  ∃w',(Instr.mapUpdate T (.map<|some m) (.int .i64 k)<|f v).run P w=.ok () w'/\IMap f w' m (M++[(k,v)])/\Ext (·=m) w w':=by
 have a:=uS.1 g
 have⟨w',h1,h2,h3⟩:=h.map.insert j (KeyOK.of_int c) (IMap.keys M) (k:=jRK k) (v:=f v) ⟨k,rfl⟩ (fun p d e=>by
  obtain⟨q,i,rfl⟩:=mem_map.1 d;simp only[jRK,Value.int.injEq,true_and]at e;exact a<|mem_map.2 ⟨q,i,e⟩)
 refine⟨w',h1,⟨by simpa using h2,?_⟩,h3⟩
 rw[map_append,nodup_append]
 exact⟨h.nd,Sm,fun x l y b e=>by simp at b;subst b;exact a<|e▸l⟩
def IMap.again(h:IMap f w m M)(x:P.underlying T=some (.map K E))(o:P.underlying K=some (.int .i64)){k}{v:α}(r:look M k=some v):
  ∃w',(Instr.mapUpdate T (.map<|some m) (.int .i64 k)<|f v).run P w=.ok () w'/\IMap f w' m M/\Ext (·=m) w w':=by
 have⟨i,hi,e⟩:=List.getElem_of_mem<|tB r
 have g:(M.map fun p=>(jRK p.1,f p.2))[i]?=some (jRK k,f v):=by simp[hi,e]
 have⟨w',h1,h2,h3⟩:=h.map.update x (KeyOK.of_int o) (IMap.keys M) (k:=jRK k) (v:=f v) (v':=f v) ⟨k,rfl⟩ g (fun j u a=>by
  rw[List.getElem?_map]at a;cases l:M[j]? with
  |none=>rw[l]at a;cases a
  |some q =>
   rw[l]at a
   simp[jRK]at a
   have⟨c,d⟩:=List.getElem?_eq_some_iff.1 l
   have t:(M.map Prod.fst)[j]'(by simpa using c)=(M.map Prod.fst)[i]'(by simpa using hi):=by simp[d,e,a.1]
   exact(List.getElem_inj h.nd).1 t)
 have b:(M.map fun p=>(jRK p.1,f p.2)).set i (jRK k,f v)=M.map fun p=>(jRK p.1,f p.2):=by
  apply List.ext_getElem?;intro n;rw[List.getElem?_set];by_cases s:i=n;grind;rw[if_neg s]
 rw[b]at h2
 exact⟨w',h1,⟨h2,h.nd⟩,h3⟩
end
end Go.SE
end
section
open Go Go.SE List
namespace Go.SE
def Ext.putObj(w r o):Ext (·=r) w (w.putObj r o):=⟨rfl,rfl,rfl,Fe,Sm,fun b _ a=>World.putObj_heap_other a⟩
abbrev Yld(P:Program)(l:Nat)(args:Array Value)(w:World)(R:Ending->WP):Prop:=YieldAt Fence.wide 0 P l args w R
def zBF(P:Program)(d:FuncId)(lb:Array Value){α:Type}(encs:α->Array Value)(xs:List α)(Rd:WP)(w:World):Prop:=
 ∀(l:Nat) (J c:List α->NP->WP) (W:World),Pure w W ->
  (∀pre X A,J pre X A->Rd A) ->
  (∀pre X A a A',J pre X A->Hst W X A a A'->J pre a A') ->
  (∀pre X A a A',c pre X A->Hst W X A a A'->c pre a A') ->
  (∀pre y X A,J pre X A->Hst W X A X A->(∃b,xs=pre++y ::b)->Yld P l (encs y) A fun e A'=>(e=.returned (.bool true)/\Kept X A A'/\J (pre++[y]) X A')\/(e=.returned (.bool false)/\Kept X A A'/\c (pre++[y]) X A')) ->
  J [] None W ->
  Calls P d (#[.func (.yield l) #[] #[]]++lb) W fun e A=>(∃v,e=.returned v)/\∃X,Hst W X A X A/\(J xs X A\/∃pre,c pre X A)
def zCB:List Nat->List Value->Env->Env
 |p :: a,v :: vs,ρ=>zCB a vs<|upd ρ p v
 |_,_,ρ=>ρ
def jOL{n}:∀(a:List Nat) (vs:List Value) (ρ:Env) (t:Array Value),(∀p∈a,p<n)->Rep [] n ρ { tmps:=t,defers:=[] } ->
  Rep [] n (zCB a vs ρ) { tmps:=(a.zip vs).foldl (fun t (x:Nat×Value)=>t.setIfInBounds x.1 x.2) t,defers:=[] }
 |[],vs,ρ,t,_,h=>by cases vs<;>exact h
 |p :: a,[],ρ,t,_,h=>h
 |p :: a,v :: vs,ρ,t,c,h=>by
  rw[zip_cons_cons,foldl_cons];exact jOL a vs _ _ Gd<|h.put (d:=some p) (fun k b=>by cases b;exact c p Sm) v
def jTV(id:Nat)(Y:NP)(A:World)(I b c:NP->WP):Exit->Env->WP
 |.normal,_,A'=>Kept Y A A'/\I Y A'
 |.exit a,_,A'=>a=id/\Kept Y A A'/\b Y A'
 |.ret,_,A'=>Kept Y A A'/\c Y A'
 |_,_,_=>False
def zFU(D:Nat)(Q:Exit->Env->WP):Exit->Env->WP
 |.ret,ρ,w=>w.heap[D]?=some (.deferred<|some [])/\Q .ret ρ (w.putObj D<|.deferred none)
 |_,_,_=>False
def Kept.trans{H a b c}(h:Kept H a b)(k:Kept H b c):Kept H a c:=⟨Nat.le_trans h.size k.size,fun i hi d=>(k.keep i (Nat.lt_of_lt_of_le hi h.size) d).trans<|h.keep i hi d⟩
def Kept.mono{H H' a b}(h:Kept H a b)(hs:∀b,H' b->H b):Kept H' a b:=⟨h.size,fun i hi c=>h.keep i hi<|hs i c⟩
structure RngI{α:Type}(w0:World)(Rd:WP)(I c b:List α->NP->WP):Prop where
 rd:∀pre Y A,I pre Y A->Rd A
 i:∀pre Y A a A',I pre Y A->Hst w0 Y A a A'->I pre a A'
 x:∀pre Y A a A',c pre Y A->Hst w0 Y A a A'->c pre a A'
 r:∀pre Y A a A',b pre Y A->Hst w0 Y A a A'->b pre a A'
def wpB(P:Program)(n:Nat)(c y:Code)(Q:Exit->Env->WP)(ρ:Env)(w:World):Prop:=∀a,Rep [] n ρ a->c.wpIn (fen none) 0 P (Exit.then (fun a w=>y.wpIn (fen none) 0 P (jWI ⟨none,[]⟩ n Q) a w) (jWI ⟨none,[]⟩ n Q)) a w
def jMH{P n Q ρ w a c y}(h:wpE (x:=⟨none,[]⟩) P n a (jDP (fun ρ w=>wpB P n c y Q ρ w) Q) ρ w):wpE (x:=⟨none,[]⟩) P n (.seq (.seq a c) y) Q ρ w:=fun a f =>
 wpIn_seq (wpIn_seq (wpIn_mono (h a f) (fun e a w b=>by
  cases e with
  |normal=>have⟨g,hr,d⟩:=jJU b;exact d a hr
  |_=>exact b)))
def af_r{D Q ρ w}(h1:w.heap[D]?=some (.deferred<|some []))(h:∀a,a=w.putObj D (.deferred none)->Q .ret ρ a):zFU D Q .ret ρ w:=⟨h1,h _ rfl⟩
def rd_n{id Y A A'}{I a b:NP->WP}{ρ}(h:Kept Y A A'/\I Y A'):jTV id Y A I a b .normal ρ A':=h
def rd_x{id Y A A'}{I a b:NP->WP}{ρ}(h:Kept Y A A'/\a Y A'):jTV id Y A I a b (.exit id) ρ A':=⟨rfl,h⟩
def rd_r{id Y A A'}{I b a:NP->WP}{ρ}(h:Kept Y A A'/\a Y A'):jTV id Y A I b a .ret ρ A':=h
def HBZ.behind{H Y w A l D}(a:HB H w l)(e:Kept H w A)(f:∀b,H b->Y b)(g:Y D)(c:A.heap[D]?=some (.deferred<|some [])):HBZ [(D,.deferred<|some [])] Y A l:=
 ⟨(a.kept e).box,fun x d=>f _<|a.hid x d,a.ne,fun x d=>by
  cases mem_singleton.1 d;exact⟨g,c,rfl⟩⟩
def HBZ.leave{w0 wv Hv H w l D}(a:HBZ [(D,.deferred<|some [])] H w l)(hs:Hst w0 Hv wv H w){w1}(h1:w1=w.putObj D (.deferred none)):Hst w0 Hv wv H w1/\HB H w1 l:=by
 have d:=a.fz _<|mem_singleton.2 rfl;have E:Ext (·=D) w w1:=by rw[h1];exact Ext.putObj w D _
 refine⟨⟨h1▸hs.ext.trans' (Ext.putObj w D _) Gd,hs.sub,hs.new,hs.old,fun b a=>Nat.lt_of_lt_of_le (hs.lt b a) E.size,Nat.le_trans hs.base E.size⟩,?_⟩;refine⟨fun x c=>(a.box x c).ext E fun e=>?_,a.hid,a.ne,fun x c=>by cases c⟩;have h2:=(a.box x c).blk;rw[e,d.2.1]at h2;cases h2
def HBZ.dead{H w l D}(a:HBZ [(D,.deferred<|some [])] H w l):w.heap[D]?=some (.deferred<|some []):=(a.fz _<|mem_singleton.2 rfl).2.1
def zFY{P}{ε:Operand->Value}{w w'}{d:Option Tmp}{ty}{pos:String}{aft:Array Edge}{g:Option (Nat×Bool)}{l x v}{c:List Operand}{ts:Array TypeId}{args}{r:Next}(e:ε x=v)(b:v=.func (.yield l) #[] #[])(a:(c.map ε).toArray=args)(hr:(Instr.yield l args).run P w=.ok r w'):
  (execOp ε ⟨d,.call ⟨.value x,c.toArray,ts⟩,ty,pos,aft,g⟩).run P w=.ok r w':=by
 subst b;subst a
 simp[execOp,resolve,e,Deferred.ofValue,invoke,hr]
def zBV{P ops Q ρ w rest}{d:Option Tmp}{ty}{pos:String}{aft:Array Edge}{g:Option (Nat×Bool)}{l x v}{c:List Operand}{ts:Array TypeId}{args}(f:Region.wanted ⟨d,.call ⟨.value x,c.toArray,ts⟩,ty,pos,aft,g⟩ (zK ops ρ)=true)(m:evE ρ x=v)(j:v=.func (.yield l) #[] #[])(k:(c.map<|evE ρ).toArray=args)(h:Yld P l args w fun e b=>∃v,e=.returned v/\wpL P ops Q rest (put ρ d v) b):wpL P ops Q (⟨d,.call ⟨.value x,c.toArray,ts⟩,ty,pos,aft,g⟩ ::rest) ρ w:=by
 have⟨n,tmps,a,body,hr,i⟩:=h;unfold wpL;rw[if_pos f];unfold yld;rw[zFY m j k hr];exact i
def Yld.mono{P l args w R R'}(h:Yld P l args w R)(hr:∀e w,R e w->R' e w):Yld P l args w R':=by
 have⟨b,tmps,a,body,h1,h2⟩:=h;exact⟨b,tmps,a,body,h1,RoundIn.mono h2 hr⟩
section
variable {P:Program} {n:Nat} {Q:Exit->Env->WP} {ρ:Env} {w w0:World} {H Hv:NP} {wv:World}
def jIM{id g}{ps:Array Tmp}{assign body y gf lb}{α:Type}{encs:α->Array Value}{xs:List α}{Rd}(hg:evE ρ g=.func (.func gf) #[] lb)(eg:∀args w,(callFunc gf args).run P w=.ok (.enter gf args) w)(hit:zBF P gf lb encs xs Rd w)(hps:∀z,(encs z).size=ps.size)(hpn:∀p∈ps.toList,p<n)(hs:Hst w0 Hv wv H w)(I Ix Ir:List α->NP->WP)(hRI:RngI w0 Rd I Ix Ir)(h0:I [] H w)(S:∀l z A,wpE (x:=⟨some l,[]⟩) P n assign (jDP (fun ρ' A'=>A'=A/\∀pre Y A,I pre Y A->Hst w0 Y A Y A->(∃post,xs=pre++z :: post)->wpE (x:=⟨some l,[]⟩) P n body (jTV id Y A (I (pre++[z])) (Ix (pre++[z])) (Ir (pre++[z]))) ρ' A) fun _ _ _=>False) (zCB ps.toList (encs z).toList ρ) A)(hrest:∀D Y A,Hst w0 Y A Y A->Y D->A.heap[D]?=some (.deferred (some []))->(∀b,H b->Y b)->Kept H w A->(I xs Y A\/∃pre,Ix pre Y A)->wpE (x:=⟨none,[mark D]⟩) P n y (zFU D Q) ρ A)(hret:∀D pre Y A,Hst w0 Y A Y A->Y D->A.heap[D]?=some (.deferred (some []))->Ir pre Y A->Q .ret ρ (A.putObj D (.deferred none))):
  wpB P n (.block id (.rangeFunc g ps assign body)) y Q ρ w:=by
 have⟨hRd,hI,hIx,hIr⟩:=hRI
 intro a ha
 refine wpIn_block (wpIn_rangeFunc ?_)
 intro fn _
 obtain⟨i,j⟩:∃i:LoopState->Option Code->Loop,i=fun st pe=>{ state:=st,pending:=pe,fn,tmps:=a.tmps,params:=ps,assign,body,defers:=w.heap.size }:=⟨_,rfl⟩
 obtain⟨m,L⟩:∃m,(w.alloc (.deferred (some []))).alloc (.loop (i .ready none))=m:=⟨_,rfl⟩
 have hL1:m.heap[w.heap.size+1]?=some (.loop (i .ready none)):=by
  rw[<-L];have:=World.alloc_heap_new (w.alloc (.deferred (some []))) (.loop (i .ready none));rwa [World.size_alloc]at this
 have hK1:m.heap[w.heap.size]?=some (.deferred (some [])):=by
  rw[<-L];exact(RowKit.Below.heap_alloc _ _ _ Sm).trans (World.alloc_heap_new w _)
 have hsz:m.heap.size=w.heap.size+2:=by rw[<-L];simp
 have E1:Pure w m:=by
  rw[<-L];exact⟨rfl,rfl,rfl,Fe,So,fun b f _=>(RowKit.Below.heap_alloc _ _ _ So).trans (RowKit.Below.heap_alloc _ _ _ f)⟩
 let B:NP->NP:=fun X b=>H b\/b=w.heap.size\/b=w.heap.size+1\/X b
 have Z:∀b,H b->b<w.heap.size:=hs.lt
 have here:∀{X:NP} {A:World},Hst m X A X A->Hst w0 (B X) A (B X) A:=fun {X A} h =>
  ⟨Ext.refl _,fun _ h=>h,fun _ h=>.inl h,fun b f=>by
   rcases f with f|rfl|rfl|f
   .exact hs.old b f
   .exact hs.base
   .have:=hs.base;omega
   .have:=h.old b f;have:=hs.base;omega,fun b f=>by
   have z:=h.base;rcases f with f|rfl|rfl|f
   .have:=Z b f;omega
   .omega
   .omega
   .exact h.lt b f,Oi h.base hs.base⟩
 have up:∀{X X':NP} {A A':World},Hst m X A X A->Hst m X A X' A'->Hst w0 (B X) A (B X') A':=fun {X X' A A'} h k =>
  ⟨k.ext.mono Gd,fun b f=>by
   rcases f with f|f|f|f
   .exact .inl f
   .exact .inr (.inl f)
   .grind
   .exact .inr (.inr (.inr (k.sub b f))),fun b f=>by
   rcases f with f|f|f|f
   .exact .inl (.inl f)
   .grind
   .grind
   .exact(k.new b f).imp_left fun h=>.inr (.inr (.inr h)),(here k.here).old,(here k.here).lt,(here k.here).base⟩
 have nX:∀{X:NP} {A:World},Hst m X A X A->∀b,b<w.heap.size+2->¬X b:=fun h b f hx=>Oh (h.old b hx)
 have R:∀{X X':NP} {A A':World},Kept H w A->Hst m X A X' A'->Kept H w A':=fun {X X' A A'} U k =>
  U.trans (k.ext.kept fun b f hx=>nX k.here b (Oh (Z b f)) hx)
 have turn:∀{X:NP} {A:World} (o:Obj),Hst m X A X A->Hst w0 (B X) A (B X) (A.putObj (w.heap.size+1) o):=fun {X A} o h =>
  ⟨(Ext.putObj A _ o).mono Gd,fun _ h=>h,fun _ h=>.inl h,(here h).old,fun b f=>by have:=(here h).lt b f;simpa using this,by simpa using(here h).base⟩
 have W:∀{X:NP} {A:World} (o:Obj),Hst m X A X A->Hst m X (A.putObj (w.heap.size+1) o) X (A.putObj (w.heap.size+1) o):=fun o h =>
  ⟨Ext.refl _,fun _ h=>h,fun _ h=>.inl h,h.old,fun b f=>by have:=h.lt b f;simpa using this,by simpa using h.base⟩
 have C:∀{A:World} (o:Obj),Kept H w A->Kept H w (A.putObj (w.heap.size+1) o):=fun {A} o U=>U.trans ((Ext.putObj A _ o).kept Gd)
 let Jc:Code->List α->NP->WP:=fun c pre Y A=>match c with
  |.ret=>Ir pre Y A
  |.exit M=>M=id/\Ix pre Y A
  |_=>False
 have hJc:∀c pre Y A Y' A',Jc c pre Y A->Hst w0 Y A Y' A'->Jc c pre Y' A':=Gd
 refine⟨w.heap.size+1,[mark w.heap.size],m,{ target:=.fn (.func gf) lb,args:=#[.func (.yield (w.heap.size+1)) #[] #[]] },m,gf,
  #[.func (.yield (w.heap.size+1)) #[] #[]]++lb,m,?_,?_,fun _ _=>trivial,?_,(fun h=>by cases h),callsIn_wide.2 ?_⟩
 .rw[<-L,j];exact run_enterLoop_outer _ _ _ _ _
 .have hev:a.eval g=.func (.func gf) #[] lb:=by rw[ha.eval];exact hg
  simp only[resolve,hev]
  simp[go_sem]
 .simp[invoke,go_sem,eg]
 have G:Hst m None m None m:=Hst.start m
 refine(hit (w.heap.size+1)
  (fun pre X A=>Hst m X A X A/\I pre (B X) A/\A.heap[w.heap.size+1]?=some (.loop (i .ready none))/\A.heap[w.heap.size]?=some (.deferred (some []))/\Kept H w A)
  (fun pre X A=>Hst m X A X A/\∃c,Jc c pre (B X) A/\A.heap[w.heap.size+1]?=some (.loop (i .done (some c)))/\A.heap[w.heap.size]?=some (.deferred (some []))/\Kept H w A)
  m E1 Gd
  (fun pre X A X' A' h k=>⟨k.here,hI _ _ _ _ _ h.2.1 (up h.1 k),k.ext.heap h.2.2.1 (nX k.here _ Om),k.ext.heap h.2.2.2.1 (nX k.here _ Om),R h.2.2.2.2 k⟩)
  (fun pre X A X' A' h k=>by
   have⟨h1,c,h2,h3,h4,h5⟩:=h;exact⟨k.here,c,hJc _ _ _ _ _ _ h2 (up h1 k),k.ext.heap h3 (nX k.here _ Om),k.ext.heap h4 (nX k.here _ Om),R h5 k⟩)
  ?_ ⟨G,hI _ _ _ _ _ h0 ⟨E1.pure,fun b f=>.inl f,fun b f=>?_,(here G).old,(here G).lt,(here G).base⟩,hL1,hK1,E1.keptP⟩).mono ?_
 .-- one round
  rintro pre z X A ⟨hX,hi,hl,U,K⟩ _ hpost
  have hlt:w.heap.size+1<A.heap.size:=(Array.getElem?_eq_some_iff.1 hl).1
  have hy:=run_yield (P:=P) (args:=encs z) hl (by rw[j];exact hps z)
  rw[j]at hy
  refine⟨fn,_,assign,body,hy,roundIn_of_wpIn (F:=Fence.wide) trivial ?_⟩
  have hrep:Rep [] n (zCB ps.toList (encs z).toList ρ) { tmps:=(ps.zip (encs z)).foldl (fun t (x:Nat×Value)=>t.setIfInBounds x.1 x.2) a.tmps,defers:=[] }:=by
   have:=jOL ps.toList (encs z).toList ρ a.tmps hpn ⟨rfl,ha.size,ha.get⟩;rw[<-Array.foldl_toList,Array.toList_zip];exact this
  refine wpIn_mono (S (w.heap.size+1) z A _ hrep) ?_
  rintro e a1 A1 ⟨ρ',E⟩
  have E:=E.resolve_right (fun h=>by cases h.2.1)
  have⟨hr1,J⟩:=E
  cases e<;>first|exact J.elim|skip
  obtain⟨rfl,hbody⟩:=J
  refine⟨_,run_beginRound hl (by rw[j]),?_⟩
  have T1:=turn (.loop { i .ready none with state:=.busy }) hX
  have hX1:=W (.loop { i .ready none with state:=.busy }) hX
  have hl2:(A1.putObj (w.heap.size+1) (.loop { i .ready none with state:=.busy })).heap[w.heap.size+1]?=some (.loop { i .ready none with state:=.busy }):=World.putObj_heap_same hlt
  have hk2:(A1.putObj (w.heap.size+1) (.loop { i .ready none with state:=.busy })).heap[w.heap.size]?=some (.deferred (some [])):=(World.putObj_heap_other Om).trans U
  have hkH2:=C (.loop { i .ready none with state:=.busy }) K
  have hi2:=hI _ _ _ _ _ hi T1
  refine wpIn_mono (hbody pre (B X) _ hi2 T1.here hpost a1 hr1) ?_
  have fin : ∀ (d : Option Code) (s : World), Kept (B X) (A1.putObj (w.heap.size + 1) (.loop { i .ready none with state:=.busy })) s ->
    (Instr.endRound (w.heap.size+1) d).run P s=.ok (.bool d.isNone) (s.putObj (w.heap.size+1) (.loop (i (if d.isNone then .ready else .done) d))) /\
    Hst m X (s.putObj (w.heap.size+1) (.loop (i (if d.isNone then .ready else .done) d))) X (s.putObj (w.heap.size+1) (.loop (i (if d.isNone then .ready else .done) d))) /\
    Hst w0 (B X) s (B X) (s.putObj (w.heap.size+1) (.loop (i (if d.isNone then .ready else .done) d))) /\
    (s.putObj (w.heap.size+1) (.loop (i (if d.isNone then .ready else .done) d))).heap[w.heap.size+1]?=some (.loop (i (if d.isNone then .ready else .done) d)) /\
    (s.putObj (w.heap.size+1) (.loop (i (if d.isNone then .ready else .done) d))).heap[w.heap.size]?=some (.deferred (some [])) /\
    Kept H w (s.putObj (w.heap.size+1) (.loop (i (if d.isNone then .ready else .done) d))) /\
    Kept X A1 (s.putObj (w.heap.size+1) (.loop (i (if d.isNone then .ready else .done) d))):=fun d s q=>by
   have hl3:s.heap[w.heap.size+1]?=some (.loop { i .ready none with state:=.busy }):=by
    rw[q.keep _ (by simpa using hlt) (.inr (.inr (.inl rfl)))];exact hl2
   have hD3:s.heap[w.heap.size]?=some (.deferred (some [])):=by
    rw[q.keep _ So (.inr (.inl rfl))];exact hk2
   have hX3:Hst m X s X s:=hX1.again (q.mono Gd)
   have u:=run_endRound (P:=P) d hl3
   rw[j]at u
   refine⟨by rw[j];exact u,W _ hX3,turn _ hX3,World.putObj_heap_same (Array.getElem?_eq_some_iff.1 hl3).1,(World.putObj_heap_other Om).trans hD3,C _ (hkH2.trans (q.mono fun b f=>.inl f)),?_⟩
   have k1:Kept X A1 (A1.putObj (w.heap.size+1) (.loop { i .ready none with state:=.busy })):=(Ext.putObj A1 _ _).kept fun b f e=>Oh (hX.old b f)
   exact(k1.trans (q.mono fun b f=>.inr (.inr (.inr f)))).trans ((Ext.putObj s _ _).kept fun b f e=>Oh (hX.old b f))
  rintro e a3 s ⟨ρ3,E⟩
  have E:=E.resolve_right (fun h=>by cases h.2.1)
  have⟨hr3,J⟩:=E
  cases e with
  |normal =>
   have⟨q,O⟩:=J
   have⟨f1,f2,f3,f4,f5,f6,f7⟩:=fin none s q
   exact⟨_,_,f1,.inl ⟨rfl,f7,f2,hI _ _ _ _ _ O f3,f4,f5,f6⟩⟩
  |ret =>
   have⟨q,O⟩:=J
   have⟨f1,f2,f3,f4,f5,f6,f7⟩:=fin (some .ret) s q
   exact⟨_,_,f1,.inr ⟨rfl,f7,f2,.ret,hIr _ _ _ _ _ O f3,f4,f5,f6⟩⟩
  |exit M =>
   obtain⟨rfl,q,O⟩:=J
   have⟨f1,f2,f3,f4,f5,f6,f7⟩:=fin (some (.exit M)) s q
   exact⟨_,_,f1,.inr ⟨rfl,f7,f2,.exit M,⟨rfl,hIx _ _ _ _ _ O f3⟩,f4,f5,f6⟩⟩
  |goto t=>exact J.elim
  |panic ch=>exact J.elim
  |outgrown=>exact J.elim
 .rcases f with f|rfl|rfl|f
  .exact .inl f
  .exact .inr (Nat.le_refl _)
  .exact .inr Om
  .exact f.elim
 .-- behind the iterator
  have N:Rep [mark w.heap.size] n ρ { a with defers:=[mark w.heap.size]++a.defers }:=⟨by rw[show a.defers=[]from ha.defers];rfl,ha.size,ha.get⟩
  have go:∀(A:World),Hst w0 (B fun b=>H b\/b=w.heap.size\/b=w.heap.size+1) A (B fun b=>H b\/b=w.heap.size\/b=w.heap.size+1) A->True:=fun _ _=>trivial
  have V : ∀ (X : NP) (A : World), Hst w0 (B X) A (B X) A -> A.heap[w.heap.size]? = some (.deferred (some [])) -> Kept H w A -> (I xs (B X) A \/ ∃ pre, Ix pre (B X) A) ->
    y.wpIn (fen none) 0 P (jWI ⟨none,[]⟩ n Q) { a with defers:=[mark w.heap.size]++a.defers } A:=by
   intro X A hA hD hkA hIA
   refine wpIn_mono (hrest w.heap.size (B X) A hA (.inr (.inl rfl)) hD (fun b f=>.inl f) hkA hIA _ N) ?_
   rintro e a2 A2 ⟨ρ2,⟨hr2,J⟩|⟨_,_,h,_⟩⟩
   .cases e<;>first|exact J.elim|skip
    exact⟨ρ2,.inr ⟨rfl,rfl,rfl,w.heap.size,hr2,J.1,J.2⟩⟩
   .cases h
  rintro e A ⟨⟨v,rfl⟩,X,_,⟨hX,hi,hl,U,K⟩|⟨pre,hX,c,hc,hl,U,K⟩⟩
  .obtain⟨o, u⟩ : ∃ o, (Instr.endLoop (w.heap.size + 1)).run P A = .ok none (A.putObj (w.heap.size + 1) o):=by
    have:=run_endLoop (P:=P) hl (by rw[j];simp);rw[j]at this;exact⟨_,this⟩
   have T:=turn o hX
   exact⟨none,_,u,V X _ T.here ((World.putObj_heap_other Om).trans U) (C _ K) (.inl (hI _ _ _ _ _ hi T))⟩
  .obtain⟨o, u⟩ : ∃ o, (Instr.endLoop (w.heap.size + 1)).run P A = .ok (some c) (A.putObj (w.heap.size + 1) o):=by
    have:=run_endLoop (P:=P) hl (by rw[j];simp);rw[j]at this;exact⟨_,this⟩
   have T:=turn o hX
   refine⟨some c,_,u,?_⟩
   have hc':=hJc _ _ _ _ _ _ hc T
   have hD:=(World.putObj_heap_other (w:=A) (r:=w.heap.size+1) (o:=o) (k:=w.heap.size) Om).trans U
   cases c<;>first|exact hc.elim|skip
   case exit M =>
    obtain⟨rfl,hx⟩:=hc'
    refine wpIn_exit ?_
    simp only[Exit.inBlock,if_true]
    exact V X _ T.here hD (C _ K) (.inr ⟨pre,hx⟩)
   case ret =>
    refine wpIn_ret ?_
    exact⟨ρ,.inr ⟨rfl,rfl,rfl,w.heap.size,N,hD,hret w.heap.size pre (B X) _ T.here (.inr (.inl rfl)) hD hc'⟩⟩
end
end Go.SE
namespace Go.SE
def Hst.putD{w0 w H D o}(hs:Hst w0 H w H w)(c:H D):Hst w0 H w H (w.putObj D o):=
 ⟨(Ext.putObj w D o).mono Gd,fun _ h=>h,fun _ h=>.inl h,hs.old,fun b a=>by have:=hs.lt b a;simpa using this,by simpa using hs.base⟩
end Go.SE
end
section
namespace Go.SE
structure AtA(p:Addr)(i:Int)(n size:Nat)(a:Addr):Prop where
 lo:0<=i
 hi:i<n
 at_:a=p.add (i.toNat*size)
section
variable {P:Program} {ε:Operand->Value} {w w':World} {d:Option Tmp} {ty:TypeId} {pos:String} {aft:Array Edge} {g:Option (Nat×Bool)}
def jVA{T E x ix p k i m n a}(f:ε x=.pointer (some p))(hi:ε ix=.int k i)(c:(underlying T).run P w=.ok (.array m E) w)(hs:(sizeOf E).run P w=.ok n w)(b:AtA p i m n a):
  (execOp ε ⟨d,.indexAddr T x ix,ty,pos,aft,g⟩).run P w=.ok (.value<|.pointer<|some a) w:=by
 obtain⟨e,h1,rfl⟩:=b
 simp[execOp,Instr.indexAt,Instr.sureAddr,f,hi,asIntOf,c,e,h1,hs]
end
def GG(π A X:Prop):Prop:=π->A->X
structure HS(w0:World)(Hv:Nat->Prop)(wv:World)(H:Nat->Prop)(w:World)(l:List HBx):Prop where
 s:Hst w0 Hv wv H w
 b:HB H w l
abbrev aa(P:Program)(fn:Func)(m:Nat)(c:Cf):Ad:=adv P fn.ntmps m c
abbrev vv(P:Program)(fn:Func)(m:Nat)(c:Cf):Cf:=(adv P fn.ntmps m c).c
def pv(v:Value)(c:Cf):Cf:=yN v c.w c
def yM(fn:Func):Code:=fn.body.getD .skip
section
variable {π A X:Prop} {α β γ δ ε ζ η θ ι κ:Type}
def xe{p:α->Prop}(k:∀{a},GG π (p a) X):GG π (∃a,p a) X:=fun h ⟨_,q⟩=>k h q
def xe2{p:α->β->Prop}(k:∀{a b},GG π (p a b) X):GG π (∃a b,p a b) X:=fun h ⟨_,_,q⟩=>k h q
def xe3{p:α->β->γ->Prop}(k:∀{a b c},GG π (p a b c) X):GG π (∃a b c,p a b c) X:=fun h ⟨_,_,_,q⟩=>k h q
def xe4{p:α->β->γ->δ->Prop}(k:∀{a b c d},GG π (p a b c d) X):GG π (∃a b c d,p a b c d) X:=fun h ⟨_,_,_,_,q⟩=>k h q
def xe5{p:α->β->γ->δ->ε->Prop}(k:∀{a b c d e},GG π (p a b c d e) X):GG π (∃a b c d e,p a b c d e) X:=fun h ⟨_,_,_,_,_,q⟩=>k h q
def xe6{p:α->β->γ->δ->ε->ζ->Prop}(k:∀{a b c d e f},GG π (p a b c d e f) X):GG π (∃a b c d e f,p a b c d e f) X:=fun h ⟨_,_,_,_,_,_,q⟩=>k h q
def yy{p:α->Prop}{e:α}(k:GG π (p e) X):GG π (∀y,y=e->p y) X:=fun h q=>k h<|q e rfl
end
section
variable {w0 wv w:World} {Hv H:Nat->Prop} {l:List HBx} {X:Prop}
def an{r:World->Prop}(k:GG (HS w0 H w H w l) (r w) X):GG (HS w0 H wv H w l) (∀w',Hst w0 H wv H w'->r w') X:=fun h q=>k ⟨h.s.here,h.b⟩<|q w h.s
def ah{r:(Nat->Prop)->World->Prop}(k:GG (HS w0 H w H w l) (r H w) X):GG (HS w0 Hv wv H w l) (∀a w',Hst w0 Hv wv a w'->r a w') X:=fun h q=>k ⟨h.s.here,h.b⟩<|q H w h.s
end
def atW(c:Cf):Option World:=match c.pos with
 |.d _ q _ _ _ _ _ _ _ _=>q
 |_=>some c.w
def clC(c:Cf):Option (World->Prop):=match c.pos with
 |.d _ none C _ _ _ _ _ _ _=>some C
 |_=>none
def clH(c:Cf):Nat->Prop:=match c.pos with
 |.d _ _ _ H _ _ _ _ _ _=>H
 |_=>None
def clL(c:Cf):List HBx:=match c.pos with
 |.d _ _ _ _ l _ _ _ _ _=>l
 |_=>[]
def fre(c:Cf):Bool:=match c.pos with
 |.d _ _ _ _ _ _ fr _ _ (some k)=>vS fr k
 |_=>true
def lok(c:Cf):Bool:=match c.pos with
 |.d _ _ _ _ _ ld _ _ _ (some k)=>vS ld k
 |.d ..=>false
 |_=>true
section
variable {P:Program} {n:Nat} {Q:Exit->Env->World->Prop} {c:Cf}
def jGI{w}(h:atW c=some w)(x)(a:need c x):x=w:=by
 have⟨pos,fr,ρ,w',kn⟩:=c;cases pos with
 |d ops q C H l ld fr e b s=>simp only[atW]at h;subst h;exact a
 |_=>simp only[atW,Option.some.injEq]at h;subst h;exact a
def xC{C}(h:clC c=some C)(x):need c x↔C x/\HB (clH c) x (clL c):=by
 unfold clC at h;unfold need clH clL;split at h;rename_i e;rw[e];cases h;exact Iff.rfl;cases h
def lo_ok{o v w'}(e:cur c=some o)(g:lok c=true)(hr:(execOp (evE c.ρ) o).run P c.w=.ok (.value v) w')(f:fre c=true\/need c w')(k:Wk P n Q (yN v w' c)):Wk P n Q c:=by
 cases a:isd c with
 |false=>exact st_ok e a hr k
 |true =>
  intro d
  have⟨hh,b⟩:=jKG e
  unfold wtd at b
  rw[jNW d]at b
  replace k:=k<|jBE d _ _
  have⟨ops,q,C,H,l,ld,fr,p,m,j,h1,h2,i,r,h3⟩:=zHD (v:=v) (w':=w') hh a
  rw[h2]at b;rw[h3]at k;rw[Wq_d h1]
  refine sl i b (by simpa[lok,h1]using g) hr (f.imp (fun h=>by simpa[fre,h1]using h) fun h=>?_) k
  unfold need at h;rw[h1]at h;exact h
def jSJ{o w'}(e:cur c=some o)(g:lok c=true)(hr:(execOp (evE c.ρ) o).run P c.w=.ok .skip w')(f:fre c=true\/need c w')(k:Wk P n Q (yN undef w' c)):Wk P n Q c:=by
 cases a:isd c with
 |false=>exact jYN e a hr k
 |true =>
  intro d
  have⟨hh,b⟩:=jKG e
  unfold wtd at b
  rw[jNW d]at b
  replace k:=k<|jBE d _ _
  have⟨ops,q,C,H,l,ld,fr,p,m,j,h1,h2,i,r,h3⟩:=zHD (v:=undef) (w':=w') hh a
  rw[h2]at b;rw[h3]at k;rw[Wq_d h1]
  refine jYL i b (by simpa[lok,h1]using g) hr (f.imp (fun h=>by simpa[fre,h1]using h) fun h=>?_) k
  unfold need at h;rw[h1]at h;exact h
def zGY{o f args}(t:cur c=some o)(u:lok c=true)(hr:(execOp (evE c.ρ) o).run P c.w=.ok (.enter f args) c.w)(k:Calls P f args c.w fun e w1=>∃v,e=.returned v/\(fre c=true\/need c w1)/\Wk P n Q (yN v w1 c)):Wk P n Q c:=by
 intro m;have⟨hh,d⟩:=jKG t;unfold wtd at d;rw[jNW m]at d;cases b:isd c with
 |false =>
  have⟨ops,l,h1,h2,_⟩:=zHC (v:=undef) (w':=c.w) hh b
  rw[h2]at d;rw[Wq_r h1]
  refine jRT d hr<|k.mono fun e w1 ⟨v,i,_,k⟩=>⟨v,i,?_⟩
  have⟨g,l',a,A,h3⟩:=zHC (v:=v) (w':=w1) hh b
  rw[h1]at a;cases a
  replace k:=k<|jBE m _ _
  rw[h3]at k;exact k
 |true =>
  have⟨ops,q,C,H,l,ld,fr,J,B,j,h1,h2,r,D,_⟩:=zHD (v:=undef) (w':=c.w) hh b
  rw[h2]at d;rw[Wq_d h1]
  refine zGK r d (by simpa[lok,h1]using u) hr (k.mono fun e w1 ⟨v,i,x,k⟩=>⟨v,i,x.imp (fun h=>by simpa[fre,h1]using h) fun h=>?_,?_⟩)
  unfold need at h;rw[h1]at h;exact h
  have⟨g,E,I,F,l',y,s,p,z,G,a,_,_,_,h3⟩:=zHD (v:=v) (w':=w1) hh b
  rw[h1]at a;cases a
  replace k:=k<|jBE m _ _
  rw[h3]at k;exact k
end
section
variable {P:Program} {fn:Func} {R:Ending->World->Prop} {c:Cf} {π A:Prop}
def cwH{f args w}(d:P.funcs[f]?=some fn)(h:A)(k:GG (HS w None w None w []) A (W P fn R ⟨.c<|yM fn,[],uK args,w,[]⟩))(b:(fn.body.isSome,Nat.ble args.length fn.ntmps)=(true,true):=by kernel_rfl):Calls P f args.toArray w R:=by
 have⟨h1,h2⟩:=Prod.mk.inj b;have⟨e,a⟩:=Option.isSome_iff_exists.1 h1;refine jCJ d a rfl (Nat.le_of_ble_eq_true h2) ?_;have:=k ⟨Hst.start w,HB.nil None w⟩ h;unfold yM at this;rw[a]at this;exact this (fun _ _ h=>by cases h)
def cwN{f args w}(b:P.funcs[f]?=some fn)(h:A)(k:GG True A (W P fn R ⟨.c<|yM fn,[],uK args,w,[]⟩))(a:(fn.body.isSome,Nat.ble args.length fn.ntmps)=(true,true):=by kernel_rfl):Calls P f args.toArray w R:=
 cwH b h (fun _ h=>k trivial h) a
def rdw{o v}(m)(hs:(aa P fn m c).see=(aa P fn m c).so)(b:cur (vv P fn m c)=some o)(a:lou (vv P fn m c)=false)(hr:∀x,need (vv P fn m c) x->(execOp (evE (vv P fn m c).ρ) o).run P x=.ok (.value v) x)(k:W P fn R (pv v<|vv P fn m c)):W P fn R c:=
 W.on m hs<|jSD b a (fun _=>hr) k
def ldI(P:Program)(c:Cf):Option (Value×(World->Result Bool)×Bool):=match cur c with
 |some ⟨_,.load T x,_,_,_,_⟩=>some (evE c.ρ x,fun y=>(isAgg T).run P y,lou c)
 |_=>none
def ldG{p v}(m)(hs:(aa P fn m c).see=(aa P fn m c).so)(h:ldI P (vv P fn m c)=some (.pointer<|some p,fun y=>.ok false y,false))(a:∀x,need (vv P fn m c) x->x.cell? p=some v)(k:W P fn R (pv v<|vv P fn m c)):W P fn R c:=by
 unfold ldI at h;split at h;rename_i d;simp only[Option.some.injEq,Prod.mk.injEq]at h;exact rdw m hs d h.2.2 (fun x b=>xZ h.1 (congrFun h.2.1 x)<|a x b) k;cases h
def ld{α:Type}{F:α->Value}{r:α->Prop}{a w}(m)(k:∀{v},GG π (r v)<|W P fn R<|pv (F v)<|vv P fn m c)(h:((aa P fn m c).see,ldI P<|vv P fn m c,atW<|vv P fn m c)=((aa P fn m c).so,some (.pointer<|some a,fun y=>.ok false y,false),some w):=by kernel_rfl):GG π (∃v,w.cell? a=some (F v)/\r v) (W P fn R c):=by
 rintro d ⟨v,b,hr⟩;simp only[Prod.mk.injEq]at h;exact ldG m h.1 h.2.1 (fun x e=>by rw[jGI h.2.2 x e];exact b) (k d hr)
def ldc{α:Type}{F:α->Value}{r:α->Prop}{a C}(m)(k:∀{v},GG π (r v)<|W P fn R<|pv (F v)<|vv P fn m c)(h:((aa P fn m c).see,ldI P<|vv P fn m c,clC<|vv P fn m c)=((aa P fn m c).so,some (.pointer<|some a,fun y=>.ok false y,false),some C):=by kernel_rfl):GG π (∃v,(∀w',C w'->w'.cell? a=some (F v))/\r v) (W P fn R c):=by
 rintro d ⟨v,b,hr⟩;simp only[Prod.mk.injEq]at h;exact ldG m h.1 h.2.1 (fun x e=>b x ((xC h.2.2 x).1 e).1)<|k d hr
def lrI(P:Program)(c:Cf):Option (Value×(World->Result Bool)×(World->Result Nat)×Bool):=match cur c with
 |some ⟨_,.load T x,_,_,_,_⟩=>some (evE c.ρ x,fun y=>(isAgg T).run P y,fun y=>(sizeOf T).run P y,lou c)
 |_=>none
def lrG{p vs}(m)(hs:(aa P fn m c).see=(aa P fn m c).so)(h:lrI P (vv P fn m c)=some (.pointer<|some p,fun y=>.ok true y,fun y=>.ok vs.length y,false))(a:∀x,need (vv P fn m c) x->Row x p vs)(k:W P fn R (pv (.agg vs.toArray)<|vv P fn m c)):W P fn R c:=by
 unfold lrI at h;split at h;rename_i d;simp only[Option.some.injEq,Prod.mk.injEq]at h;exact rdw m hs d h.2.2.2 (fun x b=>jRM h.1 (congrFun h.2.1 x) (congrFun h.2.2.1 x) rfl (a x b)) k;cases h
def lr{r:Prop}{vs a w}(m)(k:GG π r (W P fn R<|pv (.agg vs.toArray)<|vv P fn m c))(h:((aa P fn m c).see,lrI P<|vv P fn m c,atW<|vv P fn m c)=((aa P fn m c).so,some (.pointer<|some a,fun y=>.ok true y,fun y=>.ok vs.length y,false),some w):=by kernel_rfl):GG π (Row w a vs/\r) (W P fn R c):=by
 rintro d ⟨b,hr⟩;simp only[Prod.mk.injEq]at h;exact lrG m h.1 h.2.1 (fun x e=>by rw[jGI h.2.2 x e];exact b) (k d hr)
def lrc{r:Prop}{vs a C}(m)(k:GG π r (W P fn R<|pv (.agg vs.toArray)<|vv P fn m c))(h:((aa P fn m c).see,lrI P<|vv P fn m c,clC<|vv P fn m c)=((aa P fn m c).so,some (.pointer<|some a,fun y=>.ok true y,fun y=>.ok vs.length y,false),some C):=by kernel_rfl):GG π ((∀w',C w'->Row w' a vs)/\r) (W P fn R c):=by
 rintro d ⟨b,hr⟩;simp only[Prod.mk.injEq]at h;exact lrG m h.1 h.2.1 (fun x e=>b x ((xC h.2.2 x).1 e).1)<|k d hr
def hcs(l:List HBx)(i:Nat):List Value:=match l[i]? with
 |some (_,cs,_)=>cs
 |none=>[]
def hvl(l:List HBx)(i j:Nat):Value:=(hcs l i).getD j undef
def had(l:List HBx)(i:Nat)(a:List Nat):Addr:=match l[i]? with
 |some (p,_,_)=>a.foldl Addr.add p
 |none=>⟨0,0,none⟩
def sum:List Nat->Nat
 |[]=>0
 |j :: a=>j+sum a
def jPL(p:Addr):∀(a:List Nat) (k:Nat),a.foldl Addr.add (p.add k)=p.add (k+sum a)
 |[],k=>rfl
 |j :: a,k=>by rw[List.foldl_cons,yP,jPL p a,sum,Nat.add_assoc]
def jCZ(p)(a:List Nat):a.foldl Addr.add p=p.add (sum a):=by
 have:=jPL p a 0;rwa [Nat.zero_add]at this
def jNB{H x l}(c:HB H x l){i js}(a:Nat.blt (sum js) (hcs l i).length=true):x.cell? (had l i js)=some (hvl l i<|sum js):=by
 unfold hcs at a;unfold had hvl hcs;split at a;rename_i p cs T e;rw[jCZ];have b:sum js<cs.length:=of_decide_eq_true (by simpa[Nat.blt_eq]using a);refine c.cell i (sum js) e ?_;rw[List.getD_eq_getElem?_getD,List.getElem?_eq_getElem b];rfl;cases a
def jNA{H x l}(b:HB H x l){i n js}(a:Nat.ble (sum js+n) (hcs l i).length=true)(c:0<n):Row x (had l i js) (((hcs l i).drop<|sum js).take n):=by
 unfold hcs at a|-;unfold had;split at a;rename_i p cs T e;rw[jCZ];exact b.row i (sum js) n e rfl;have:=Nat.le_of_ble_eq_true a;simp at this;omega
def lh{w0 wv w Hv H l}(m i js)(k:GG (HS w0 Hv wv H w l) A (W P fn R<|pv (hvl l i<|sum js)<|vv P fn m c))(h:((aa P fn m c).see,ldI P<|vv P fn m c,atW<|vv P fn m c,Nat.blt (sum js) (hcs l i).length)=((aa P fn m c).so,some (.pointer<|some<|had l i js,fun y=>.ok false y,false),some w,true):=by kernel_rfl):GG (HS w0 Hv wv H w l) A (W P fn R c):=by
 intro a hr;simp only[Prod.mk.injEq]at h;exact ldG m h.1 h.2.1 (fun x d=>by rw[jGI h.2.2.1 x d];exact jNB a.b h.2.2.2) (k a hr)
def lhc(m i js)(k:GG π A (W P fn R<|pv (hvl (clL<|vv P fn m c) i<|sum js)<|vv P fn m c))(h:((aa P fn m c).see,ldI P<|vv P fn m c,(clC<|vv P fn m c).isSome,Nat.blt (sum js) (hcs (clL<|vv P fn m c) i).length)=((aa P fn m c).so,some (.pointer<|some<|had (clL<|vv P fn m c) i js,fun y=>.ok false y,false),true,true):=by kernel_rfl):GG π A (W P fn R c):=by
 intro b hr;simp only[Prod.mk.injEq]at h;have⟨C,d⟩:=Option.isSome_iff_exists.1 h.2.2.1;exact ldG m h.1 h.2.1 (fun x a=>jNB ((xC d x).1 a).2 h.2.2.2)<|k b hr
def lgg{w0 wv w Hv H l}(m i js n)(k:GG (HS w0 Hv wv H w l) A (W P fn R<|pv (.agg (((hcs l i).drop<|sum js).take n).toArray)<|vv P fn m c))(h:((aa P fn m c).see,lrI P<|vv P fn m c,atW<|vv P fn m c,Nat.ble (sum js+n) (hcs l i).length,Nat.blt 0 n)=((aa P fn m c).so,some (.pointer<|some<|had l i js,fun y=>.ok true y,fun y=>.ok (((hcs l i).drop<|sum js).take n).length y,false),some w,true,true):=by kernel_rfl):GG (HS w0 Hv wv H w l) A (W P fn R c):=by
 intro a hr;simp only[Prod.mk.injEq]at h;exact lrG m h.1 h.2.1 (fun x d=>by rw[jGI h.2.2.1 x d];exact jNA a.b h.2.2.2.1<|by simpa[Nat.blt_eq]using h.2.2.2.2) (k a hr)
def lgc(m i js n)(k:GG π A (W P fn R<|pv (.agg (((hcs (clL<|vv P fn m c) i).drop<|sum js).take n).toArray)<|vv P fn m c))(h:((aa P fn m c).see,lrI P<|vv P fn m c,(clC<|vv P fn m c).isSome,Nat.ble (sum js+n) (hcs (clL<|vv P fn m c) i).length,Nat.blt 0 n)=((aa P fn m c).so,some (.pointer<|some<|had (clL<|vv P fn m c) i js,fun y=>.ok true y,fun y=>.ok (((hcs (clL<|vv P fn m c) i).drop<|sum js).take n).length y,false),true,true,true):=by kernel_rfl):GG π A (W P fn R c):=by
 intro b hr;simp only[Prod.mk.injEq]at h;have⟨C,d⟩:=Option.isSome_iff_exists.1 h.2.2.1;exact lrG m h.1 h.2.1 (fun x a=>jNA ((xC d x).1 a).2 h.2.2.2.1<|by simpa[Nat.blt_eq]using h.2.2.2.2) (k b hr)
end
section
variable {P:Program} {fn:Func} {R:Ending->World->Prop} {c:Cf} {π A:Prop}
def ncI(c:Cf):Option (Value×Bool):=match cur c with
 |some ⟨_,.nilCheck x,_,_,_,_⟩=>some (evE c.ρ x,lou c)
 |_=>none
def nc{r:Addr->Prop}{p}(m)(k:∀{a},GG π (r a)<|W P fn R<|pv (.pointer<|some a)<|vv P fn m c)(h:((aa P fn m c).see,ncI<|vv P fn m c)=((aa P fn m c).so,some (.pointer p,false)):=by kernel_rfl):GG π (∃a,p=some a/\r a) (W P fn R c):=by
 rintro e ⟨a,d,hr⟩;simp only[Prod.mk.injEq]at h;have⟨b,h⟩:=h;unfold ncI at h;split at h;rename_i f;simp only[Option.some.injEq,Prod.mk.injEq]at h;exact rdw m b f h.2 (fun x _=>jFZ h.1 d)<|k e hr;cases h
def ivo:Value->Option Int
 |.int _ i=>some i
 |_=>none
def zFJ{v i}(h:ivo v=some i):∃k,v=.int k i:=by
 cases v<;>simp only[ivo]at h<;>first|(cases h;done)|(cases h;exact⟨_,rfl⟩)
def ixI(P:Program)(c:Cf):Option (Value×Option Int×(World->Result Nat)×Bool):=match cur c with
 |some ⟨_,.indexAddr T x i,_,_,_,_⟩=>match P.underlying T with
  |some (.slice e)=>some (evE c.ρ x,ivo<|evE c.ρ i,fun y=>(sizeOf e).run P y,lou c)
  |_=>none
 |_=>none
def ix{r:Addr->Prop}{s i n}(m)(k:∀{a},GG π (r a)<|W P fn R<|pv (.pointer<|some a)<|vv P fn m c)(h:((aa P fn m c).see,ixI P<|vv P fn m c)=((aa P fn m c).so,some (s.v,some i,fun y=>.ok n y,false)):=by kernel_rfl):GG π (∃a,At s i n a/\r a) (W P fn R c):=by
 rintro d ⟨a,e,hr⟩;simp only[Prod.mk.injEq]at h;have⟨j,h⟩:=h;unfold ixI at h;split at h;rename_i b;split at h;rename_i g;simp only[Option.some.injEq,Prod.mk.injEq]at h;have⟨h1,h2,h3,f⟩:=h;have⟨l,h2⟩:=zFJ h2;exact rdw m j b f (fun x _=>jDM h1 h2 (run_underlying g x) (congrFun h3 x) e)<|k d hr;cases h;cases h
def rnI(c:Cf):Option (Sem Next):=(cur c).map fun o=>execOp (evE c.ρ) o
def rnG{s:Sem Value}{v}(m)(hs:(aa P fn m c).see=(aa P fn m c).so)(h:rnI (vv P fn m c)=some (do pure (.value (<-s))))(b:lou (vv P fn m c)=false)(d:∀x,need (vv P fn m c) x->s.run P x=.ok v x)(k:W P fn R (pv v<|vv P fn m c)):W P fn R c:=by
 unfold rnI at h;cases a:cur (vv P fn m c)with
 |none=>rw[a]at h;cases h
 |some o=>rw[a]at h;exact rdw m hs a b (fun x e=>x_run (Option.some.inj h)<|d x e) k
def rn{r:Prop}{s:Sem Value}{v w}(m)(k:GG π r (W P fn R<|pv v<|vv P fn m c))(h:((aa P fn m c).see,rnI<|vv P fn m c,lou<|vv P fn m c,atW<|vv P fn m c)=((aa P fn m c).so,some<|do pure (.value (<-s)),false,some w):=by kernel_rfl):GG π (s.run P w=.ok v w/\r) (W P fn R c):=by
 rintro b ⟨a,hr⟩;simp only[Prod.mk.injEq]at h;exact rnG m h.1 h.2.1 h.2.2.1 (fun x d=>by rw[jGI h.2.2.2 x d];exact a) (k b hr)
def rnc{r:Prop}{s:Sem Value}{v C}(m)(k:GG π r (W P fn R<|pv v<|vv P fn m c))(h:((aa P fn m c).see,rnI<|vv P fn m c,lou<|vv P fn m c,clC<|vv P fn m c)=((aa P fn m c).so,some<|do pure (.value (<-s)),false,some C):=by kernel_rfl):GG π ((∀w',C w'->s.run P w'=.ok v w')/\r) (W P fn R c):=by
 rintro b ⟨a,hr⟩;simp only[Prod.mk.injEq]at h;exact rnG m h.1 h.2.1 h.2.2.1 (fun x d=>a x ((xC h.2.2.2 x).1 d).1)<|k b hr
def rbI(P:Program)(c:Cf):Option (BinOp×TypeId×Value×Value×(World->Result Unit)×Bool):=match cur c with
 |some ⟨_,.binOp op T a b _,_,_,_,_⟩=>some (op,T,evE c.ρ a,evE c.ρ b,fun y=>(eqGuard op T a b (evE c.ρ a)<|evE c.ρ b).run P y,lou c)
 |_=>none
def rbG{op:BinOp}{T x y v}(m)(hs:(aa P fn m c).see=(aa P fn m c).so)(h:rbI P (vv P fn m c)=some (op,T,x,y,fun y=>.ok () y,false))(b:∀z,need (vv P fn m c) z->(Go.binOp op T x y).run P z=.ok v z)(k:W P fn R (pv v<|vv P fn m c)):W P fn R c:=by
 unfold rbI at h;split at h;rename_i e;simp only[Option.some.injEq,Prod.mk.injEq]at h;obtain⟨rfl,rfl,h1,h2,h3,d⟩:=h;rw[h1,h2]at h3;exact rdw m hs e d (fun z a=>zBP h1 h2 (congrFun h3 z)<|b z a) k;cases h
def rb{r:Prop}{op:BinOp}{T x y v w}(m)(k:GG π r (W P fn R<|pv v<|vv P fn m c))(h:((aa P fn m c).see,rbI P<|vv P fn m c,atW<|vv P fn m c)=((aa P fn m c).so,some (op,T,x,y,fun y=>.ok () y,false),some w):=by kernel_rfl):GG π ((Go.binOp op T x y).run P w=.ok v w/\r) (W P fn R c):=by
 rintro b ⟨a,hr⟩;simp only[Prod.mk.injEq]at h;exact rbG m h.1 h.2.1 (fun x d=>by rw[jGI h.2.2 x d];exact a) (k b hr)
def rbc{r:Prop}{op:BinOp}{T x y v C}(m)(k:GG π r (W P fn R<|pv v<|vv P fn m c))(h:((aa P fn m c).see,rbI P<|vv P fn m c,clC<|vv P fn m c)=((aa P fn m c).so,some (op,T,x,y,fun y=>.ok () y,false),some C):=by kernel_rfl):GG π ((∀w',C w'->(Go.binOp op T x y).run P w'=.ok v w')/\r) (W P fn R c):=by
 rintro b ⟨a,hr⟩;simp only[Prod.mk.injEq]at h;exact rbG m h.1 h.2.1 (fun x d=>a x ((xC h.2.2 x).1 d).1)<|k b hr
def aeI(P:Program)(c:Cf):Option (BinOp×TypeId×Value×Value×Bool×Bool):=match cur c with
 |some ⟨_,.binOp op T a b _,_,_,_,_⟩=>some (op,T,evE c.ρ a,evE c.ρ b,P.eqGuardType P.depth T,lou c)
 |_=>none
def ae{op:BinOp}{T xs ys b}(m)(e:∀z,(Go.binOp op T (.agg xs)<|.agg ys).run P z=.ok (.bool b) z)(k:GG π A (W P fn R<|pv (.bool b)<|vv P fn m c))(h:((aa P fn m c).see,aeI P<|vv P fn m c)=((aa P fn m c).so,some (op,T,.agg xs,.agg ys,false,false)):=by kernel_rfl):GG π A (W P fn R c):=by
 intro d hr;simp only[Prod.mk.injEq]at h;have⟨g,h⟩:=h;unfold aeI at h;split at h;rename_i a;simp only[Option.some.injEq,Prod.mk.injEq]at h;obtain⟨rfl,rfl,h1,h2,h3,f⟩:=h;exact rdw m g a f (fun z _=>zGC h1 h2 h3<|e z)<|k d hr;cases h
def WV(P:Program)(fn:Func)(R:Ending->World->Prop)(c:Cf)(v:Value)(w1:World):Prop:=(fre c=true\/need c w1)/\W P fn R (yN v w1 c)
def WR(P:Program)(fn:Func)(R:Ending->World->Prop)(c:Cf)(e:Ending)(w1:World):Prop:=∃v,e=.returned v/\WV P fn R c v w1
def aan{v w1}(k:GG π A (W P fn R<|yN v w1 c))(h:fre c=true:=by kernel_rfl):GG π A (WV P fn R c v w1):=fun a hr=>⟨.inl h,k a hr⟩
def aah{w0 w w1 H l v}{r:Prop}(k:GG (HS w0 H w1 H w1 l) r (W P fn R<|yN v w1 c))(h:fre c=true:=by kernel_rfl):GG (HS w0 H w H w l) (Kept H w w1/\r) (WV P fn R c v w1):=fun a hr=>⟨.inl h,k ⟨a.s.again hr.1,a.b.kept hr.1⟩ hr.2⟩
def aac{w0 w w1 H l v}{r:Prop}{C}(k:GG (HS w0 H w1 H w1 l) r (W P fn R<|yN v w1 c))(h:(clC c,clH c,clL c)=(some C,H,l):=by kernel_rfl):GG (HS w0 H w H w l) (C w1/\Kept H w w1/\r) (WV P fn R c v w1):=fun a hr=>by
 simp only[Prod.mk.injEq]at h;refine⟨.inr<|(xC h.1 _).2 ⟨hr.1,?_⟩,k ⟨a.s.again hr.2.1,a.b.kept hr.2.1⟩ hr.2.2⟩;rw[h.2.1,h.2.2];exact a.b.kept hr.2.1
def ef{r:Prop}{s:Sem Value}{v w w1}(m)(k:GG π r (WV P fn R (vv P fn m c) v w1))(h:((aa P fn m c).see,rnI<|vv P fn m c,lok<|vv P fn m c,(vv P fn m c).w)=((aa P fn m c).so,some<|do pure (.value (<-s)),true,w):=by kernel_rfl):GG π (s.run P w=.ok v w1/\r) (W P fn R c):=by
 rintro b ⟨d,hr⟩;simp only[Prod.mk.injEq]at h;have⟨g,h1,h2,h3⟩:=h;have⟨f,e⟩:=k b hr;unfold rnI at h1;cases a:cur (vv P fn m c)with
 |none=>rw[a]at h1;cases h1
 |some o=>rw[a]at h1;exact W.on m g<|lo_ok a h2 (by rw[h3];exact x_run (Option.some.inj h1) d) f e
def es{r:Prop}{s:Sem Unit}{w w1}(m)(k:GG π r (WV P fn R (vv P fn m c) undef w1))(h:((aa P fn m c).see,rnI<|vv P fn m c,lok<|vv P fn m c,(vv P fn m c).w)=((aa P fn m c).so,some (do s;pure .skip),true,w):=by kernel_rfl):GG π (s.run P w=.ok () w1/\r) (W P fn R c):=by
 rintro b ⟨d,hr⟩;simp only[Prod.mk.injEq]at h;have⟨g,h1,h2,h3⟩:=h;have⟨f,e⟩:=k b hr;unfold rnI at h1;cases a:cur (vv P fn m c)with
 |none=>rw[a]at h1;cases h1
 |some o=>rw[a]at h1;exact W.on m g<|jSJ a h2 (by rw[h3];exact x_runU (Option.some.inj h1) d) f e
def caI(c:Cf):Option (FuncId×Array Value):=match cur c with
 |some ⟨_,.call ⟨.value x,a,_⟩,_,_,_,_⟩=>match evE c.ρ x with
  |.func (.func f) fs caps=>some (f,fs++(a.toList.map<|evE c.ρ).toArray++caps)
  |_=>none
 |_=>none
def caG{f args w}(m)(h:∀args w,(callFunc f args).run P w=.ok (.enter f args) w)(hs:(aa P fn m c).see=(aa P fn m c).so)(h1:caI (vv P fn m c)=some (f,args))(h2:lok (vv P fn m c)=true)(h3:(vv P fn m c).w=w)(k:Calls P f args w fun e w1=>WR P fn R (vv P fn m c) e w1):W P fn R c:=by
 unfold caI at h1;split at h1;rename_i d x b ts ty pos aft g a;split at h1;rename_i j fs caps i;cases h1;refine W.on m hs<|zGY a h2 ?_ (by rw[h3];exact k);have:=jXU (P:=P) (w:=(vv P fn m c).w) (d:=d) (ty:=ty) (pos:=pos) (aft:=aft) (g:=g) (c:=b.toList) (ts:=ts) i h rfl rfl;rw[Array.toArray_toList]at this;exact this;cases h1;cases h1
def cc{f args w Q}(m)(b:∀args w,(callFunc f args).run P w=.ok (.enter f args) w)(k:∀{e w1},GG π (Q e w1)<|WR P fn R (vv P fn m c) e w1)(h:((aa P fn m c).see,caI<|vv P fn m c,lok<|vv P fn m c,(vv P fn m c).w)=((aa P fn m c).so,some (f,args),true,w):=by kernel_rfl):GG π (Calls P f args w Q) (W P fn R c):=by
 intro a hr;simp only[Prod.mk.injEq]at h;exact caG m b h.1 h.2.1 h.2.2.1 h.2.2.2<|hr.mono fun e w1 q=>k a q
def rt{v w1}{r:Prop}{e}(k:GG π r (WV P fn R c v w1)):GG π (e=.returned v/\r) (WR P fn R c e w1):=fun a hr=>⟨v,hr.1,k a hr.2⟩
section
variable {w0 wv w:World} {Hv H:Nat->Prop} {l:List HBx}
def cp{f args v}(m)(d:∀args w,(callFunc f args).run P w=.ok (.enter f args) w)(i:∀w,Calls P f args w fun e w'=>e=.returned v/\Pure w w')(k:∀{w1},GG (HS w0 Hv wv H w1 l) A<|W P fn R<|yN v w1<|vv P fn m c)(h:((aa P fn m c).see,caI<|vv P fn m c,lok<|vv P fn m c,(vv P fn m c).w,fre<|vv P fn m c)=((aa P fn m c).so,some (f,args),true,w,true):=by kernel_rfl):GG (HS w0 Hv wv H w l) A (W P fn R c):=by
 intro a hr;simp only[Prod.mk.injEq]at h;exact caG m d h.1 h.2.1 h.2.2.1 h.2.2.2.1<|(i w).mono fun e w1 ⟨g,E⟩=>⟨v,g,.inl h.2.2.2.2,k ⟨a.s.pure E,a.b.pure E⟩ hr⟩
end
def spD(q:Nat)(c:Cf):Option Nat:=match q with
 |0=>match c.pos with
  |.c (.cond (.tmp d) _ _)=>some d
  |_=>none
 |1=>match hdo c with
  |some o=>match o.guard with
   |some (j,_)=>((jWB c)[j]?).bind (·.dst)
   |none=>none
  |none=>none
 |_=>match hdo c with
  |some ⟨_,.pick (.tmp d) _ _,_,_,_,_⟩=>some d
  |_=>none
def spV(q:Nat)(c:Cf):Option Value:=(spD q c).map c.ρ
def ka(q:Nat)(b:Bool)(c:Cf):Cf:=⟨c.pos,c.fr,c.ρ,c.w,match spD q c with|some d=>(d,b) ::c.kn|none=>c.kn⟩
def zDK{q b}(h:spV q c=some (.bool b))(k:W P fn R (ka q b c)):W P fn R c:=by
 intro i;refine k ?_;unfold spV at h;cases a:spD q c with
 |none=>rw[a]at h;cases h
 |some d =>
  rw[a]at h
  intro g l f
  simp only[ka,a,kl]at f
  show c.ρ g=_
  cases e:Nat.beq d g with
  |true =>
   rw[e]at f
   have j:=Nat.eq_of_beq_eq_true e
   rw[<-j]
   cases f
   exact Option.some.inj h
  |false=>rw[e]at f;exact i _ _ f
def br{A B:Prop}{e}(q m)(f:GG π A (W P fn R<|ka q true<|vv P fn m c))(d:GG π B (W P fn R<|ka q false<|vv P fn m c))(h:((aa P fn m c).see,spV q<|vv P fn m c)=((aa P fn m c).so,some<|.bool e):=by kernel_rfl):GG π (Br e A B) (W P fn R c):=by
 intro b hr;simp only[Prod.mk.injEq]at h;refine W.on m h.1 ?_;cases a:e with
 |true=>exact zDK (by rw[<-a];exact h.2) (f b<|hr.1 a)
 |false=>exact zDK (by rw[<-a];exact h.2) (d b<|hr.2 a)
def nwI(P:Program)(c:Cf):Option (Value×World):=match cur c with
 |some o=>match(execOp (evE c.ρ) o).run P c.w with
  |.ok (.value v) w'=>some (v,w')
  |_=>none
 |none=>none
def nwV(P:Program)(c:Cf)(p:Addr):Value:=match nwI P c with
 |some (.pointer _,_)=>.pointer<|some p
 |some (.slice _ l k,_)=>.slice (some p) l k
 |some (.map _,_)=>.map<|some p.block
 |_=>undef
def nwG{O w}(m)(v:Addr->Value)(hs:(aa P fn m c).see=(aa P fn m c).so)(h1:nwI P (vv P fn m c)=some (v ⟨w.heap.size,0,none⟩,w.alloc O))(h2:lok (vv P fn m c)=true)(k:∀p w1,New w O p w1->WV P fn R (vv P fn m c) (v p) w1):W P fn R c:=by
 unfold nwI at h1;split at h1;rename_i o d;split at h1;rename_i v' w' hr;simp only[Option.some.injEq,Prod.mk.injEq]at h1;obtain⟨rfl,rfl⟩:=h1;have⟨b,a⟩:=k _ _ ⟨rfl,rfl⟩;exact W.on m hs<|lo_ok d h2 hr b a;cases h1;cases h1
def nwn{r:Addr->World->Prop}{O w}(m)(k:∀{p w1},GG π (r p w1)<|W P fn R<|yN (nwV P (vv P fn m c) p) w1<|vv P fn m c)(h:((aa P fn m c).see,nwI P<|vv P fn m c,lok<|vv P fn m c,fre<|vv P fn m c)=((aa P fn m c).so,some (nwV P (vv P fn m c) ⟨w.heap.size,0,none⟩,w.alloc O),true,true):=by kernel_rfl):GG π (∀p w1,New w O p w1->r p w1) (W P fn R c):=by
 intro b hr;simp only[Prod.mk.injEq]at h;exact nwG m _ h.1 h.2.1 h.2.2.1 fun p w1 a=>⟨.inl h.2.2.2,k b<|hr p w1 a⟩
section
variable {w0 wv w:World} {Hv H:Nat->Prop} {l:List HBx}
def nwh{r:Addr->World->Prop}{O}(m)(k:∀{p w1},GG (HS w0 H w1 H w1 l) (r p w1)<|W P fn R<|yN (nwV P (vv P fn m c) p) w1<|vv P fn m c)(h:((aa P fn m c).see,nwI P<|vv P fn m c,lok<|vv P fn m c,fre<|vv P fn m c)=((aa P fn m c).so,some (nwV P (vv P fn m c) ⟨w.heap.size,0,none⟩,w.alloc O),true,true):=by kernel_rfl):GG (HS w0 H w H w l) (∀p w1,New w O p w1->r p w1) (W P fn R c):=by
 intro d hr;simp only[Prod.mk.injEq]at h;exact nwG m _ h.1 h.2.1 h.2.2.1 fun p w1 a=>⟨.inl h.2.2.2,k ⟨d.s.again (Ext.new (F:=None) a).keptP,d.b.kept (Ext.new (F:=None) a).keptP⟩<|hr p w1 a⟩
def nwc{r:Addr->World->Prop}{O C}(m)(k:∀{p w1},GG (HS w0 H w1 H w1 l) (r p w1)<|W P fn R<|yN (nwV P (vv P fn m c) p) w1<|vv P fn m c)(h:((aa P fn m c).see,nwI P<|vv P fn m c,lok<|vv P fn m c,clC<|vv P fn m c,clH<|vv P fn m c,clL<|vv P fn m c)=((aa P fn m c).so,some (nwV P (vv P fn m c) ⟨w.heap.size,0,none⟩,w.alloc O),true,some C,H,l):=by kernel_rfl):GG (HS w0 H w H w l) (∀p w1,New w O p w1->C w1/\r p w1) (W P fn R c):=by
 intro d hr;simp only[Prod.mk.injEq]at h;refine nwG m _ h.1 h.2.1 h.2.2.1 fun p w1 a=>⟨.inr<|(xC h.2.2.2.1 _).2 ⟨(hr p w1 a).1,?_⟩,k ⟨d.s.again (Ext.new (F:=None) a).keptP,d.b.kept (Ext.new (F:=None) a).keptP⟩ (hr p w1 a).2⟩;rw[h.2.2.2.2.1,h.2.2.2.2.2];exact d.b.kept (Ext.new (F:=None) a).keptP
def nhI(P:Program)(c:Cf):List Value×TypeId:=match cur c with
 |some ⟨_,.alloc T,_,_,_,_⟩=>match(zeroValue T).run P c.w with
  |.ok z _=>(z.cells.toList,T)
  |_=>([],T)
 |some ⟨_,.box T x,_,_,_,_⟩=>((evE c.ρ x).cells.toList,T)
 |_=>([],0)
def nh(m)(k:∀{p w1 d},GG (HS w0 Hv wv d w1 ((p,(nhI P<|vv P fn m c).1,(nhI P<|vv P fn m c).2) ::l)) A<|W P fn R<|yN (.pointer<|some p) w1<|vv P fn m c)(h:((aa P fn m c).see,nwI P<|vv P fn m c,lok<|vv P fn m c,fre<|vv P fn m c)=((aa P fn m c).so,some (.pointer<|some ⟨w.heap.size,0,none⟩,w.alloc<|.cells (nhI P<|vv P fn m c).1.toArray (nhI P<|vv P fn m c).2),true,true):=by kernel_rfl):GG (HS w0 Hv wv H w l) A (W P fn R c):=by
 intro a hr;simp only[Prod.mk.injEq]at h;refine nwG m (fun p=>.pointer<|some p) h.1 h.2.1 h.2.2.1 fun p w1 e=>⟨.inl h.2.2.2,?_⟩;have⟨d,s1,b1⟩:=a.s.alloc a.b e;exact k ⟨s1,b1⟩ hr
end
end
section
variable {P:Program} {fn:Func} {R:Ending->World->Prop} {c:Cf} {π A:Prop}
def stI(P:Program)(c:Cf):Option (Value×Value×(World->Result Nat)):=match cur c with
 |some ⟨_,.store T x y,_,_,_,_⟩=>some (evE c.ρ x,evE c.ρ y,fun w=>(sizeOf T).run P w)
 |_=>none
def stG{a v w}(m)(hs:(aa P fn m c).see=(aa P fn m c).so)(h1:stI P (vv P fn m c)=some (.pointer<|some a,v,fun y=>.ok 1 y))(g:vE v=true)(h2:lok (vv P fn m c)=true)(h3:(vv P fn m c).w=w)(b:zV w a)(k:∀w1,w1=w.setCell a v->WV P fn R (vv P fn m c) undef w1):W P fn R c:=by
 unfold stI at h1;split at h1;rename_i f;simp only[Option.some.injEq,Prod.mk.injEq]at h1;have⟨e,d⟩:=k _ rfl;exact W.on m hs<|jSJ f h2 (by rw[h3];exact tY h1.1 h1.2.1 g (congrFun h1.2.2 w) b) e d;cases h1
def stA{a vs w}(m)(hs:(aa P fn m c).see=(aa P fn m c).so)(h1:stI P (vv P fn m c)=some (.pointer<|some a,.agg vs.toArray,fun y=>.ok vs.length y))(g:vs.all vE=true)(h2:lok (vv P fn m c)=true)(h3:(vv P fn m c).w=w)(b:∀j,j<vs.length->zV w (a.add j))(k:∀w1,w1=storeRow w a vs->WV P fn R (vv P fn m c) undef w1):W P fn R c:=by
 unfold stI at h1;split at h1;rename_i f;simp only[Option.some.injEq,Prod.mk.injEq]at h1;have⟨e,d⟩:=k _ rfl;exact W.on m hs<|jSJ f h2 (by rw[h3];exact jHQ h1.1 h1.2.1 g (congrFun h1.2.2 w) rfl b) e d;cases h1
def ssn{r:World->Prop}{a:Addr}{v:Value}{w:World}(m:Nat)(k:∀{w1},GG π (r w1)<|W P fn R<|yN undef w1<|vv P fn m c)(h:((aa P fn m c).see,stI P<|vv P fn m c,vE v,lok<|vv P fn m c,(vv P fn m c).w,fre<|vv P fn m c)=((aa P fn m c).so,some (.pointer<|some a,v,fun y=>.ok 1 y),true,true,w,true):=by kernel_rfl):GG π (zV w a/\∀w1,w1=w.setCell a v->r w1) (W P fn R c):=by
 rintro b ⟨d,hr⟩;simp only[Prod.mk.injEq]at h;exact stG m h.1 h.2.1 h.2.2.1 h.2.2.2.1 h.2.2.2.2.1 d fun w1 e=>⟨.inl h.2.2.2.2.2,k b<|hr w1 e⟩
def usn{r:World->Prop}{a:Addr}{vs:List Value}{n:Nat}{w:World}(m:Nat)(k:∀{w1},GG π (r w1)<|W P fn R<|yN undef w1<|vv P fn m c)(h:((aa P fn m c).see,stI P<|vv P fn m c,vs.all vE,lok<|vv P fn m c,(vv P fn m c).w,fre<|vv P fn m c,vs.length)=((aa P fn m c).so,some (.pointer<|some a,.agg vs.toArray,fun y=>.ok vs.length y),true,true,w,true,n):=by kernel_rfl):GG π ((∀j,j<n->zV w (a.add j))/\∀w1,w1=storeRow w a vs->r w1) (W P fn R c):=by
 rintro b ⟨d,hr⟩;simp only[Prod.mk.injEq]at h;exact stA m h.1 h.2.1 h.2.2.1 h.2.2.2.1 h.2.2.2.2.1 (by grind) fun w1 e=>⟨.inl h.2.2.2.2.2.1,k b<|hr w1 e⟩
section
variable {w0 wv w:World} {Hv H:Nat->Prop} {l:List HBx}
def ssh{r:World->Prop}{a:Addr}{v:Value}(m:Nat)(k:∀{w1},GG (HS w0 H w1 H w1 l) (r w1)<|W P fn R<|yN undef w1<|vv P fn m c)(h:((aa P fn m c).see,stI P<|vv P fn m c,vE v,lok<|vv P fn m c,(vv P fn m c).w,fre<|vv P fn m c)=((aa P fn m c).so,some (.pointer<|some a,v,fun y=>.ok 1 y),true,true,w,true):=by kernel_rfl):GG (HS w0 H w H w l) (zV w a/\¬H a.block/\∀w1,w1=w.setCell a v->r w1) (W P fn R c):=by
 rintro f ⟨g,d,hr⟩;simp only[Prod.mk.injEq]at h;exact stG m h.1 h.2.1 h.2.2.1 h.2.2.2.1 h.2.2.2.2.1 g fun w1 e=>⟨.inl h.2.2.2.2.2,k (by subst e;exact⟨f.s.again<|Kept.setCell d,f.b.kept<|Kept.setCell d⟩)<|hr w1 e⟩
def ssc{r:World->Prop}{a:Addr}{v:Value}{C:World->Prop}(m:Nat)(k:∀{w1},GG (HS w0 H w1 H w1 l) (r w1)<|W P fn R<|yN undef w1<|vv P fn m c)(h:((aa P fn m c).see,stI P<|vv P fn m c,vE v,lok<|vv P fn m c,(vv P fn m c).w,clC<|vv P fn m c,clH<|vv P fn m c,clL<|vv P fn m c)=((aa P fn m c).so,some (.pointer<|some a,v,fun y=>.ok 1 y),true,true,w,some C,H,l):=by kernel_rfl):GG (HS w0 H w H w l) (zV w a/\¬H a.block/\∀w1,w1=w.setCell a v->C w1/\r w1) (W P fn R c):=by
 rintro f ⟨g,d,hr⟩;simp only[Prod.mk.injEq]at h;refine stG m h.1 h.2.1 h.2.2.1 h.2.2.2.1 h.2.2.2.2.1 g fun w1 e=>⟨.inr<|(xC h.2.2.2.2.2.1 _).2 ⟨(hr w1 e).1,?_⟩,k (by subst e;exact⟨f.s.again<|Kept.setCell d,f.b.kept<|Kept.setCell d⟩) (hr w1 e).2⟩;subst e;rw[h.2.2.2.2.2.2.1,h.2.2.2.2.2.2.2];exact f.b.kept<|Kept.setCell d
def ush{r:World->Prop}{a:Addr}{vs:List Value}{n:Nat}(m:Nat)(k:∀{w1},GG (HS w0 H w1 H w1 l) (r w1)<|W P fn R<|yN undef w1<|vv P fn m c)(h:((aa P fn m c).see,stI P<|vv P fn m c,vs.all vE,lok<|vv P fn m c,(vv P fn m c).w,fre<|vv P fn m c,vs.length)=((aa P fn m c).so,some (.pointer<|some a,.agg vs.toArray,fun y=>.ok vs.length y),true,true,w,true,n):=by kernel_rfl):GG (HS w0 H w H w l) ((∀j,j<n->zV w (a.add j))/\¬H a.block/\∀w1,w1=storeRow w a vs->r w1) (W P fn R c):=by
 rintro f ⟨g,d,hr⟩;simp only[Prod.mk.injEq]at h;exact stA m h.1 h.2.1 h.2.2.1 h.2.2.2.1 h.2.2.2.2.1 (by grind) fun w1 e=>⟨.inl h.2.2.2.2.2.1,k (by subst e;exact⟨f.s.again<|Kept.storeRow d,f.b.kept<|Kept.storeRow d⟩)<|hr w1 e⟩
def usc{r:World->Prop}{a:Addr}{vs:List Value}{n:Nat}{C:World->Prop}(m:Nat)(k:∀{w1},GG (HS w0 H w1 H w1 l) (r w1)<|W P fn R<|yN undef w1<|vv P fn m c)(h:((aa P fn m c).see,stI P<|vv P fn m c,vs.all vE,lok<|vv P fn m c,(vv P fn m c).w,clC<|vv P fn m c,clH<|vv P fn m c,clL<|vv P fn m c,vs.length)=((aa P fn m c).so,some (.pointer<|some a,.agg vs.toArray,fun y=>.ok vs.length y),true,true,w,some C,H,l,n):=by kernel_rfl):GG (HS w0 H w H w l) ((∀j,j<n->zV w (a.add j))/\¬H a.block/\∀w1,w1=storeRow w a vs->C w1/\r w1) (W P fn R c):=by
 rintro f ⟨g,d,hr⟩;simp only[Prod.mk.injEq]at h;refine stA m h.1 h.2.1 h.2.2.1 h.2.2.2.1 h.2.2.2.2.1 (by grind) fun w1 e=>⟨.inr<|(xC h.2.2.2.2.2.1 _).2 ⟨(hr w1 e).1,?_⟩,k (by subst e;exact⟨f.s.again<|Kept.storeRow d,f.b.kept<|Kept.storeRow d⟩) (hr w1 e).2⟩;subst e;rw[h.2.2.2.2.2.2.1,h.2.2.2.2.2.2.2.1];exact f.b.kept<|Kept.storeRow d
def hpt(l:List HBx)(i j:Nat)(vs:List Value):List HBx:=match l[i]? with
 |some (p,cs,T)=>l.set i (p,cs.take j++vs++cs.drop (j+vs.length),T)
 |none=>l
def stV(P:Program)(c:Cf):Value:=match stI P c with
 |some (_,v,_)=>v
 |none=>undef
def sh(m i:Nat)(js)(k:∀{w1},GG (HS w0 Hv wv H w1<|hpt l i (sum js) [stV P<|vv P fn m c]) A<|W P fn R<|yN undef w1<|vv P fn m c)(h:((aa P fn m c).see,stI P<|vv P fn m c,vE<|stV P<|vv P fn m c,lok<|vv P fn m c,(vv P fn m c).w,fre<|vv P fn m c,Nat.ble (sum js+1) (hcs l i).length)=((aa P fn m c).so,some (.pointer<|some<|had l i js,stV P<|vv P fn m c,fun y=>.ok 1 y),true,true,w,true,true):=by kernel_rfl):GG (HS w0 Hv wv H w l) A (W P fn R c):=by
 intro d hr;simp only[Prod.mk.injEq]at h;have⟨r,h1,q,h2,h3,o,j⟩:=h;have a:=Nat.le_of_ble_eq_true j;generalize stV P (vv P fn m c)=v at *;cases e:l[i]? with
 |none=>simp[hcs,e]at a
 |some x =>
  have⟨p,cs,T⟩:=x
  simp only[hcs,e]at a
  have n:had l i js=p.add (sum js):=by simp only[had,e,jCZ]
  rw[n]at h1
  refine stG m r h1 q h2 h3 (d.b.canW i (sum js) e<|decide_eq_true<|by omega) fun w1 f=>⟨.inl o,?_⟩
  have g:l.set i (p,cs.set (sum js) v,T)=hpt l i (sum js) [v]:=by
   simp only[hpt,e];congr 3;rw[List.set_eq_take_append_cons_drop,if_pos<|by omega];simp
  have:=d.b.set (sum js) (v:=v) d.s e g
  subst f
  exact k ⟨this.1,this.2⟩ hr
def stC(P:Program)(c:Cf):List Value:=match stI P c with
 |some (_,.agg vs,_)=>vs.toList
 |_=>[]
def sg(m i:Nat)(js)(k:∀{w1},GG (HS w0 Hv wv H w1<|hpt l i (sum js)<|stC P<|vv P fn m c) A<|W P fn R<|yN undef w1<|vv P fn m c)(h:((aa P fn m c).see,stI P<|vv P fn m c,(stC P<|vv P fn m c).all vE,lok<|vv P fn m c,(vv P fn m c).w,fre<|vv P fn m c,Nat.ble (sum js+(stC P<|vv P fn m c).length) (hcs l i).length,Nat.blt 0 (stC P<|vv P fn m c).length)=((aa P fn m c).so,some (.pointer<|some<|had l i js,.agg (stC P<|vv P fn m c).toArray,fun y=>.ok (stC P<|vv P fn m c).length y),true,true,w,true,true,true):=by kernel_rfl):GG (HS w0 Hv wv H w l) A (W P fn R c):=by
 intro d hr;simp only[Prod.mk.injEq]at h;have⟨u,h1,t,h2,h3,r,o,f⟩:=h;have a:=Nat.le_of_ble_eq_true o;have g:0<(stC P<|vv P fn m c).length:=by simpa[Nat.blt_eq]using f
 generalize stC P (vv P fn m c)=vs at *;cases e:l[i]? with
 | none => have : (hcs l i).length = 0:=by simp[hcs, e]
           omega
 |some x =>
  have⟨p,cs,T⟩:=x
  simp only[hcs,e]at a
  have q:had l i js=p.add (sum js):=by simp only[had,e,jCZ]
  rw[q]at h1
  refine stA m u h1 t h2 h3 (d.b.canWs i (sum js) vs.length e<|decide_eq_true<|by omega) fun w1 j=>⟨.inl r,?_⟩
  have n:l.set i (p,cs.take (sum js)++vs++cs.drop (sum js+vs.length),T)=hpt l i (sum js) vs:=by simp only[hpt,e]
  have:=d.b.store (sum js) (vs:=vs) d.s e (decide_eq_true<|by omega) n
  subst j
  exact k ⟨this.1,this.2⟩ hr
end
def tms:List ResultVar->Option (List Nat)
 |[]=>some []
 |.tmp t :: l=>match tms l with
  |some ts=>some (t :: ts)
  |none=>none
 |_=>none
def rsV(ρ:Env):List Nat->Value
 |[t]=>ρ t
 |ts=>.tuple (ts.map ρ).toArray
def rsI(fn:Func)(c:Cf):Option (Value×World):=match c.pos,c.fr with
 |.x .ret,[]=>match tms fn.results.toList with
  |some ts=>some (rsV c.ρ ts,c.w)
  |none=>none
 |.x .normal,[]=>match tms fn.results.toList with
  |some ts=>some (rsV c.ρ ts,c.w)
  |none=>none
 |_,_=>none
def zEX{ρ w}:∀{l:List ResultVar} {ts:List Nat},tms l=some ts->RVs P ρ w l (ts.map ρ)
 |[],ts,h=>by cases h;trivial
 |.tmp t :: l,ts,h=>by
  simp only[tms]at h;split at h;rename_i b a;cases h;exact⟨rfl,zEX a⟩;cases h
 |.cell _ _ :: l,ts,h=>by simp[tms]at h
def rsV_ok{ρ}(ts):(if h:(ts.map ρ).toArray.size=1 then(ts.map ρ).toArray[0]else .tuple (ts.map ρ).toArray)=rsV ρ ts:=by
 match ts with
 |[]=>rfl
 |[t]=>rfl
 |t :: u :: ts=>simp[rsV]
def rr{v w}(m)(a:A->R (.returned v) w:=by first|exact fun h=>⟨_,rfl,h⟩|exact fun h=>⟨_,_,rfl,h⟩|exact fun h=>⟨rfl,h⟩|exact fun h=>⟨_,_,_,rfl,h⟩|exact fun h=>⟨_,_,_,_,rfl,h⟩|exact fun h=>⟨_,_,_,_,_,rfl,h⟩|exact fun h=>⟨_,_,_,_,_,_,rfl,h⟩|exact fun h=>⟨_,_,_,_,_,_,_,rfl,h⟩|exact fun h=>⟨_,_,_,_,_,_,_,_,rfl,h⟩|exact fun h=>⟨_,_,_,_,_,_,_,_,_,rfl,h⟩|exact fun h=>⟨_,_,_,_,_,_,_,_,_,_,rfl,h⟩)(h:((aa P fn m c).see,rsI fn<|vv P fn m c)=((aa P fn m c).so,some (v,w)):=by kernel_rfl):GG π A (W P fn R c):=by
 intro f hr;simp only[Prod.mk.injEq]at h;refine W.on m h.1 fun _=>?_;have⟨_,h⟩:=h;have key:∀(ρ:Env) (w':World) (ts:List Nat) (e:Exit),e=.ret\/e=.normal->tms fn.results.toList=some ts->some (rsV ρ ts,w')=some (v,w)->jFV P fn fn.ntmps R e ρ w':=by
  intro ρ w' ts e d ht b;cases b;exact resG d (by rw[Array.toArray_toList]) (zEX ht) (rsV_ok ts)<|a hr
 unfold rsI at h;unfold Wq;split at h
 .rename_i h1 h2;split at h
  .rename_i ts ht;rw[h1,h2];exact key _ _ _ _ (.inl rfl) ht h
  .cases h
 .rename_i h1 h2;split at h
  .rename_i ts ht;rw[h1,h2];exact key _ _ _ _ (.inr rfl) ht h
  .cases h
 .cases h
def rgI(P:Program)(n:Nat)(ld fr:List Nat)(c:Cf):Option (Bool×Bool×Bool×Bool):=match c.pos with
 |.c (.region _ ops true)=>some (P.follows .mixedOrders,oV n ops.toList,Region.noSelect ops,jSQ .any ops (vS ld)<|vS fr)
 |_=>none
def rgP(q:Option World)(C:World->Prop)(H:Nat->Prop)(l:List HBx)(ld fr:List Nat)(w1:World)(c:Cf):Cf:=match c.pos with
 |.c (.region _ ops true)=>⟨.d ops q C H l ld fr ops.size (Array.replicate ops.size false) none,c.fr,c.ρ,w1,c.kn⟩
 |_=>c
def rgK{n Q C H l}{q:Option World}{ld fr}(h:rgI P n ld fr c=some (true,true,true,true))(e:Cl q C H l c.w.drew)(k:Wk P n Q (rgP q C H l ld fr c.w.drew c)):Wk P n Q c:=by
 intro d;have⟨pos,fs,ρ,w,kn⟩:=c;unfold rgI at h;split at h;rename_i id ops a;simp only at a;subst a;simp only[Option.some.injEq,Prod.mk.injEq]at h;have⟨h1,h2,h3,f⟩:=h;have:=k d;have b:=fun id=>jIK (x:=cx0) (P:=P) (n:=n) (id:=id) (l:=ops.toList) (ρ:=ρ) (w:=w) (Q:=Qf P n Q fs) (Cl q C H l) ld fr h1 h2 (by rw[Array.toArray_toList];exact h3) (by rw[Array.toArray_toList];exact f) e (by rw[Array.toArray_toList];exact this);rw[Array.toArray_toList]at b;exact b _;cases h
def rgG{C H l}(q:Option World)(m ld fr)(hs:(aa P fn m c).see=(aa P fn m c).so)(h:rgI P fn.ntmps ld fr (vv P fn m c)=some (true,true,true,true))(a:Cl q C H l (vv P fn m c).w.drew)(k:W P fn R (rgP q C H l ld fr (vv P fn m c).w.drew<|vv P fn m c)):W P fn R c:=W.on m hs<|rgK h a k
section
variable {w0 wv w:World} {Hv H:Nat->Prop} {l:List HBx}
def dq(m)(k:∀{w1},GG (HS w0 Hv wv H w1 l) A<|W P fn R<|rgP (some w1) (fun _=>True) H l [] [] w1<|vv P fn m c)(h:((aa P fn m c).see,rgI P fn.ntmps [] []<|vv P fn m c,(vv P fn m c).w)=((aa P fn m c).so,some (true,true,true,true),w):=by kernel_rfl):GG (HS w0 Hv wv H w l) A (W P fn R c):=by
 intro a hr;simp only[Prod.mk.injEq]at h;exact rgG (some (vv P fn m c).w.drew) m [] [] h.1 h.2.1 rfl (k (by rw[h.2.2];exact⟨a.s.drew,a.b.drew⟩) hr)
def dC{r:(World->Prop)->World->Prop}(m ld fr)(k:∀{C w1},GG (HS w0 H w1 H w1 l) (r C w1)<|W P fn R<|rgP none C H l ld fr w1<|vv P fn m c)(h:((aa P fn m c).see,rgI P fn.ntmps ld fr<|vv P fn m c,(vv P fn m c).w)=((aa P fn m c).so,some (true,true,true,true),w):=by kernel_rfl):GG (HS w0 H w H w l) (∃C:World->Prop,C w.drew/\∀w1,w1=w.drew->r C w1) (W P fn R c):=by
 rintro a ⟨C,d,hr⟩;simp only[Prod.mk.injEq]at h;refine rgG none m ld fr h.1 h.2.1 ?_<|k ?_<|hr _ (by rw[h.2.2]);rw[h.2.2];exact⟨d,a.b.drew⟩;rw[h.2.2];exact⟨a.s.drew.here,a.b.drew⟩
end
def dgI(c:Cf):List Nat:=match c.pos with
 |.d ops _ _ _ _ _ _ (_+1) a none=>Region.ready .any ops a
 |_=>[]
def dgo(i:Nat)(c:Cf):Cf:=match c.pos with
 |.d ops q C H l ld fr (b+1) a none=>⟨.d ops q C H l ld fr b a<|(Region.ready .any ops a)[i]?,c.fr,c.ρ,c.w,c.kn⟩
 |_=>c
def dgK{n Q}(a:0<(dgI c).length)(k:∀i,i<(dgI c).length->Wk P n Q (dgo i c)):Wk P n Q c:=by
 intro d;have⟨pos,fs,ρ,w,kn⟩:=c;unfold dgI at a k;split at a;rename_i ops q C H l ld fr h g b;simp only at b;subst b;simp only at k a;refine .inr ⟨fun f=>(by rw[f]at a;cases a),fun j e=>?_⟩;obtain⟨i,hi,rfl⟩:=List.getElem_of_mem e;have:=k i hi d;simp only[dgo,List.getElem?_eq_getElem hi]at this;exact this;cases a
def dgG(m)(hs:(aa P fn m c).see=(aa P fn m c).so)(a:0<(dgI<|vv P fn m c).length)(k:∀i,i<(dgI<|vv P fn m c).length->W P fn R (dgo i<|vv P fn m c)):W P fn R c:=W.on m hs<|dgK a k
def dgb{A B:Prop}(m)(d:GG π A (W P fn R<|dgo 0<|vv P fn m c))(b:GG π B (W P fn R<|dgo 1<|vv P fn m c))(h:((aa P fn m c).see,(dgI<|vv P fn m c).length)=((aa P fn m c).so,2):=by kernel_rfl):GG π (A/\B) (W P fn R c):=by
 intro a hr;simp only[Prod.mk.injEq]at h;refine dgG m h.1 (by rw[h.2];decide) fun i hi=>?_;rw[h.2]at hi;match i,hi with
 |0,_=>exact d a hr.1
 |1,_=>exact b a hr.2
end
section
variable {P:Program} {n:Nat} {Q Q':Exit->Env->World->Prop} {c:Cf}
def oR(h:∀e ρ w,Q e ρ w->Q' e ρ w):∀(fs:List Fr) (e:Exit) (ρ:Env) (w:World),Qf P n Q fs e ρ w->Qf P n Q' fs e ρ w
 |[],e,ρ,w,k=>h e ρ w k
 |.t c :: fs,e,ρ,w,k=>by cases e<;>first|exact jEP (fun e ρ w=>oR h fs e ρ w) k|exact oR h fs _ ρ w k
 |.b id :: fs,e,ρ,w,k=>by
  cases e with
  |exit i=>simp only[Qf,jDL]at k|-;split<;>rename_i hi<;>simp only[hi]at k<;>exact oR h fs _ ρ w k
  |_=>exact oR h fs _ ρ w k
 |.r ops l :: fs,e,ρ,w,k=>by cases e<;>first|exact jEN (fun ρ w=>oR h fs _ ρ w) k|exact oR h fs _ ρ w k
 |.j J :: fs,e,ρ,w,k=>by cases e<;>first|exact k|exact oR h fs _ ρ w k
def jRI(a:List Fr):∀d,Qf P n Q (d++a)=Qf P n (Qf P n Q a) d
 |[]=>rfl
 |.t c :: fs=>by simp only[List.cons_append,Qf,jRI a fs]
 |.b id :: fs=>by simp only[List.cons_append,Qf,jRI a fs]
 |.r ops l :: fs=>by simp only[List.cons_append,Qf,jRI a fs]
 |.j J :: fs=>by simp only[List.cons_append,Qf,jRI a fs]
def zCW{ops C}{loud free:Nat->Bool}{i K K' ρ w}(a:∀ρ w,K ρ w->K' ρ w)(h:opE P ops C loud free i K ρ w):opE P ops C loud free i K' ρ w:=by
 unfold opE at h|-;split;rename_i c;simp only[c]at h;exact a _ _ h;rename_i o c;simp only[c]at h;split;rename_i b;rw[if_pos b]at h;split;rename_i e;rw[if_pos e]at h;exact oX h fun v w' ⟨d,f⟩=>⟨d,a _ _ f⟩;grind;rename_i b;rw[if_neg b]at h;exact a _ _ h
def zIL(h:∀e ρ w,Q e ρ w->Q' e ρ w)(k:Wq P n Q c):Wq P n Q' c:=by
 have⟨pos,fs,ρ,w,kn⟩:=c;cases pos with
 |c a=>exact jEP (fun e ρ w=>oR h fs e ρ w) k
 |r ops l=>exact jEN (fun ρ w=>oR h fs _ ρ w) k
 |x e=>exact oR h fs _ ρ w k
 |d ops q C H l ld fr f b s =>
  cases s with
  |none=>exact jAU (fun ρ w=>oR h fs _ ρ w) k
  |some j=>exact zCW (fun ρ w=>jAU fun ρ w=>oR h fs _ ρ w) k
def zFW{pos:Pos}{a b:List Fr}{ρ w}{kn:List (Nat×Bool)}:Wq P n Q ⟨pos,a++b,ρ,w,kn⟩=Wq P n (Qf P n Q b) ⟨pos,a,ρ,w,kn⟩:=by
 unfold Wq;simp only[jRI]
def jBQ(i:Nat)(J:Env->World->Prop)(c:Cf):Cf:=⟨c.pos,c.fr.take i++.j J ::c.fr.drop i,c.ρ,c.w,c.kn⟩
def jUK{i J}(a:∀ρ w,J ρ w->Qf P n Q (c.fr.drop i) .normal ρ w)(k:Wk P n Q (jBQ i J c)):Wk P n Q c:=by
 intro b;replace k:=k b;have⟨pos,fs,ρ,w,kn⟩:=c;unfold jBQ at k;simp only at k a;rw[zFW]at k;rw[show fs=fs.take i++fs.drop i from(List.take_append_drop i fs).symm,zFW];exact zIL (fun e ρ w h=>by cases e<;>first|exact a ρ w h|exact h) k
def ctR(k:Nat)(c:Cf):Cf:=match c.pos with
 |.r ops l=>⟨.r ops<|l.take k,.r ops (l.drop k) :: c.fr,c.ρ,c.w,c.kn⟩
 |_=>c
def ctR_ok{k}(h:Wk P n Q (ctR k c)):Wk P n Q c:=by
 unfold ctR at h;split at h;rename_i a;intro b;replace h:=h b;have⟨pos,fs,ρ,w,kn⟩:=c;simp only at a;subst a;exact jII (ρ:=ρ) (w:=w) k h;exact h
end
section
variable {P:Program} {fn:Func} {R:Ending->World->Prop} {c:Cf} {π A:Prop}
def ct(m k)(h:GG π A (W P fn R<|ctR k<|vv P fn m c))(hs:(aa P fn m c).see=(aa P fn m c).so:=by kernel_rfl):GG π A (W P fn R c):=fun a hr=>W.on m hs<|ctR_ok<|h a hr
def kp(a:List Nat)(ρ:Env):List (Nat×Value):=a.map fun s=>(s,ρ s)
abbrev mtg(i:Nat)(L:List (Nat×Value))(ρ:Env)(w:World)(c:Cf)(kn:List (Nat×Bool)):Cf:=⟨.x .normal,c.fr.drop i,qM ρ L,w,kn⟩
section
variable {w0 wv w:World} {Hv H:Nat->Prop} {l:List HBx}
def jnc(T:List (Nat×Value)->List HBx->(Nat->Prop)->World->Prop)(m i ks)(ka:∀{J:Env->World->Prop},(∀{L l H w},T L l H w->HS w0 H w H w l->∀{ρ},Has ρ (kp ks (vv P fn m c).ρ++L)->J ρ w)->GG π A (W P fn R<|jBQ i J<|vv P fn m c))(a:∀{L l H w ρ},T L l H w->HS w0 H w H w l->W P fn R (mtg i (kp ks (vv P fn m c).ρ++L) ρ w (vv P fn m c) []))(hs:(aa P fn m c).see=(aa P fn m c).so):GG π A (W P fn R c):=fun b hr=>by
 refine W.on m hs<|jUK (i:=i) (J:=fun ρ w=>∃L l H,T L l H w/\HS w0 H w H w l/\Has ρ (kp ks (vv P fn m c).ρ++L)) ?_<|ka Gd b hr;rintro ρ w ⟨L,l,H,ht,hS,hh⟩;have:=a (ρ:=ρ) ht hS (fun _ _ h=>by cases h);unfold mtg at this;rw[uI hh]at this;exact this
def jnE(d:Nat)(c:Cf)(L:List (Nat×Value))(l:List HBx):Option (Exit×Option Fr×World×List Value×List HBx):=match c.pos with
 |.x e=>some (e,c.fr.head?,c.w,L.map fun p=>c.ρ p.1,l.drop d)
 |_=>none
def jeG{J}{L:List (Nat×Value)}{l' d}(m)(hs:(aa P fn m c).see=(aa P fn m c).so)(h:jnE d (vv P fn m c) L l=some (.normal,some<|.j J,w,L.map (·.2),l'))(j:∀{ρ},Has ρ L->J ρ w):W P fn R c:=by
 refine W.on m hs fun _=>?_;unfold jnE at h;split at h;rename_i e g;simp only[Option.some.injEq,Prod.mk.injEq]at h;obtain⟨rfl,h2,rfl,b,_⟩:=h;unfold Wq;rw[g];simp only;cases a:(vv P fn m c).fr with
 |nil=>rw[a]at h2;cases h2
 |cons f fs=>rw[a]at h2;cases h2;exact j b
 cases h
def jnE_l{d c}{L:List (Nat×Value)}{x:Exit×Option Fr×World×List Value×List HBx}(h:jnE d c L l=some x):l.drop d=x.2.2.2.2:=by
 unfold jnE at h;split at h;cases h;rfl;cases h
def je{J}{L:List (Nat×Value)}{l'}(m d)(j:HS w0 H w H w l'->A->∀{ρ},Has ρ L->J ρ w)(h:((aa P fn m c).see,jnE d (vv P fn m c) L l)=((aa P fn m c).so,some (.normal,some<|.j J,w,L.map (·.2),l')):=by kernel_rfl):GG (HS w0 H w H w l) A (W P fn R c):=fun a hr=>by
 simp only[Prod.mk.injEq]at h;have e:=jnE_l h.2;simp only at e;exact jeG m h.1 h.2 fun hh=>j ⟨a.s,by rw[<-e];exact a.b.drop d⟩ hr hh
def jen{J}{L:List (Nat×Value)}{w}(m)(j:A->∀{ρ},Has ρ L->J ρ w)(h:((aa P fn m c).see,jnE 0 (vv P fn m c) L [])=((aa P fn m c).so,some (.normal,some<|.j J,w,L.map (·.2),[])):=by kernel_rfl):GG π A (W P fn R c):=fun _ hr=>by
 simp only[Prod.mk.injEq]at h;exact jeG m h.1 h.2 fun hh=>j hr hh
def bn(cs:List Bool)(i:Nat):Bool:=cs.getD i false
def ub(b:Nat->Bool)(i:Nat)(t:Bool):Nat->Bool:=fun j=>cond (Nat.beq j i) t<|b j
def ub_eq{b:Nat->Bool}{i t}(h:b i=t):ub b i t=b:=by
 funext j;unfold ub;cases e:Nat.beq j i with
 |true=>rw[Nat.eq_of_beq_eq_true e,h];rfl
 |false=>rfl
def PJ(w0:World)(Hv:Nat->Prop)(wv:World)(J:Env->World->Prop)(L:(Nat->Bool)->List (Nat×Value))(hs:(Nat->Bool)->List HBx)(b:Nat->Bool):Prop:=∀H w,HS w0 Hv wv H w (hs b)->∀ρ,Has ρ (L b)->J ρ w
def kf(a:List Nat):List (Nat×Bool)->List (Nat×Bool)
 |[]=>[]
 |(d,b) :: kn=>cond (a.any<|Nat.beq d) ((d,b) :: kf a kn)<|kf a kn
def zDG{ks d b}:∀{kn:List (Nat×Bool)},kl (kf ks kn) d=some b->d∈ks/\kl kn d=some b
 |[],h=>by cases h
 |(s,t) :: kn,h=>by
  simp only[kf]at h;cases e:ks.any (Nat.beq s)with
  |true =>
   rw[e]at h
   simp only[cond_true,kl]at h|-
   cases a:Nat.beq s d with
   |true =>
    rw[a]at h
    have:=Nat.eq_of_beq_eq_true a
    subst this
    have⟨x,f,c⟩:=List.any_eq_true.1 e
    exact⟨by rw[Nat.eq_of_beq_eq_true c];exact f,h⟩
   |false=>rw[a]at h;exact zDG (kn:=kn) h
  |false =>
   rw[e]at h
   have:=zDG (kn:=kn) h
   refine⟨this.1,?_⟩
   simp only[kl]
   cases a:Nat.beq s d with
   |true =>
    have g:=Nat.eq_of_beq_eq_true a
    subst g
    have:ks.any (Nat.beq s)=true:=List.any_eq_true.2 ⟨s,this.1,Nat.beq_refl s⟩
    rw[this]at e;cases e
   |false=>exact this.2
def jIY{ρ ρ' d}:∀{a:List Nat} {L:List (Nat×Value)},d∈a->qM ρ (kp a ρ'++L) d=ρ' d
 |s :: a,L,h=>by
  show(if d=s then ρ' s else qM ρ (kp a ρ'++L) d)=ρ' d;by_cases e:d=s;rw[if_pos e,e];rw[if_neg e];exact jIY<|(List.mem_cons.1 h).resolve_left e
def ph(hs:(Nat->Bool)->List HBx->List HBx)(m i)(cs:List Bool)(ks)(f:(Nat->Bool)->List (Nat×Value))(ka:∀{J:Env->World->Prop},PJ w0 Hv wv J (fun b=>kp ks (vv P fn m c).ρ++f b) (fun b=>hs b l) (bn cs)->GG (HS w0 Hv wv H w l) A (W P fn R<|jBQ i J<|vv P fn m c))(g:∀{H w ρ},GG (HS w0 Hv wv H w<|hs (bn cs) l) A<|W P fn R<|mtg i (kp ks (vv P fn m c).ρ++f (bn cs)) ρ w (vv P fn m c)<|kf ks (vv P fn m c).kn)(h:(aa P fn m c).see=(aa P fn m c).so:=by kernel_rfl):GG (HS w0 Hv wv H w l) A (W P fn R c):=fun e hr=>by
 refine W.on m h fun a=>?_;refine jUK (i:=i) (J:=fun ρ w=>∃H,HS w0 Hv wv H w (hs (bn cs) l)/\Has ρ (kp ks (vv P fn m c).ρ++f (bn cs))) ?_ (ka (fun _ _ hS _ hh=>⟨_,hS,hh⟩) e hr) a;rintro ρ w ⟨H,hS,hh⟩;have:=g (ρ:=ρ) hS hr (fun d b h=>by
  have:=zDG h;exact(jIY this.1).trans<|a _ _ this.2)
 unfold mtg at this;rw[uI hh]at this;exact this
def pj(m i)(cs:List Bool)(ks)(f:(Nat->Bool)->List (Nat×Value))(ka:∀{J:Env->World->Prop},PJ w0 Hv wv J (fun b=>kp ks (vv P fn m c).ρ++f b) (fun _=>l) (bn cs)->GG (HS w0 Hv wv H w l) A (W P fn R<|jBQ i J<|vv P fn m c))(a:∀{H w ρ},GG (HS w0 Hv wv H w l) A<|W P fn R<|mtg i (kp ks (vv P fn m c).ρ++f (bn cs)) ρ w (vv P fn m c)<|kf ks (vv P fn m c).kn)(h:(aa P fn m c).see=(aa P fn m c).so:=by kernel_rfl):GG (HS w0 Hv wv H w l) A (W P fn R c):=ph (fun _ l=>l) m i cs ks f ka a h
def pb{d:(Nat->Bool)->Prop}{b:Nat->Bool}(q m i)(j:d b)(g:d (ub b i true)->GG π A (W P fn R<|ka q true<|vv P fn m c))(f:d (ub b i false)->GG π A (W P fn R<|ka q false<|vv P fn m c))(h:((aa P fn m c).see,spV q<|vv P fn m c)=((aa P fn m c).so,some<|.bool<|b i):=by kernel_rfl):GG π A (W P fn R c):=by
 intro e hr;simp only[Prod.mk.injEq]at h;refine W.on m h.1 ?_;cases a:b i with
 |true=>exact zDK (by rw[<-a];exact h.2) (g (by rw[ub_eq a];exact j) e hr)
 |false=>exact zDK (by rw[<-a];exact h.2) (f (by rw[ub_eq a];exact j) e hr)
def pe{J}{L:(Nat->Bool)->List (Nat×Value)}{hs:(Nat->Bool)->List HBx}{b:Nat->Bool}(m d)(j:PJ w0 Hv wv J L hs b)(h:((aa P fn m c).see,jnE d (vv P fn m c) (L b) l)=((aa P fn m c).so,some (.normal,some<|.j J,w,(L b).map (·.2),hs b)):=by kernel_rfl):GG (HS w0 Hv wv H w l) A (W P fn R c):=fun a hr=>by
 simp only[Prod.mk.injEq]at h;have e:=jnE_l h.2;simp only at e;exact jeG m h.1 h.2 fun hh=>j H w ⟨a.s,by rw[<-e];exact a.b.drop d⟩ _ hh
end
def PN(w:World)(J:Env->World->Prop)(L:(Nat->Bool)->List (Nat×Value))(b:Nat->Bool):Prop:=∀ρ,Has ρ (L b)->J ρ w
def pjn(m i)(cs:List Bool)(ks)(f:(Nat->Bool)->List (Nat×Value))(ka:∀{J:Env->World->Prop},PN (vv P fn m c).w J (fun b=>kp ks (vv P fn m c).ρ++f b) (bn cs)->GG π A (W P fn R<|jBQ i J<|vv P fn m c))(g:∀{ρ},GG π A<|W P fn R<|mtg i (kp ks (vv P fn m c).ρ++f (bn cs)) ρ (vv P fn m c).w (vv P fn m c)<|kf ks (vv P fn m c).kn)(h:(aa P fn m c).see=(aa P fn m c).so:=by kernel_rfl):GG π A (W P fn R c):=fun e hr=>by
 refine W.on m h fun a=>?_;refine jUK (i:=i) (J:=fun ρ w=>w=(vv P fn m c).w/\Has ρ (kp ks (vv P fn m c).ρ++f (bn cs))) ?_ (ka (fun _ hh=>⟨rfl,hh⟩) e hr) a;rintro ρ w ⟨rfl,hh⟩;have:=g (ρ:=ρ) e hr (fun d b h=>by
  have:=zDG h;exact(jIY this.1).trans<|a _ _ this.2)
 unfold mtg at this;rw[uI hh]at this;exact this
def pen{w J}{L:(Nat->Bool)->List (Nat×Value)}{b:Nat->Bool}(m)(j:PN w J L b)(h:((aa P fn m c).see,jnE 0 (vv P fn m c) (L b) [])=((aa P fn m c).so,some (.normal,some<|.j J,w,(L b).map (·.2),[])):=by kernel_rfl):GG π A (W P fn R c):=fun _ _=>by
 simp only[Prod.mk.injEq]at h;exact jeG m h.1 h.2 fun hh=>j _ hh
def lpI(c:Cf)(L:List (Nat×Value)):Option (World×List Value):=match c.pos with
 |.c (.loop _)=>some (c.w,L.map fun p=>c.ρ p.1)
 |_=>none
def lpC(J:Env->World->Prop)(L:List (Nat×Value))(ρ:Env)(w:World)(c:Cf):Cf:=match c.pos with
 |.c (.loop b)=>⟨.c b,.j J :: c.fr,qM ρ L,w,[]⟩
 |_=>c
def lpK{n Q}{σ:Type}(L:σ->List (Nat×Value))(I:σ->World->Prop)(a:σ->World->Nat){s0:σ}{w}(h:lpI c (L s0)=some (w,(L s0).map (·.2)))(i:I s0 w)(k:∀{s w1 ρ} {J:Env->World->Prop},(∀{s' w'},I s' w'/\a s' w'<a s w1->∀{ρ},Has ρ (L s')->J ρ w')->I s w1->Wk P n Q (lpC J (L s) ρ w1 c)):Wk P n Q c:=by
 intro j;unfold lpI at h;have⟨pos,fs,ρ,w',kn⟩:=c;split at h;rename_i b d;simp only at d;subst d;simp only[Option.some.injEq,Prod.mk.injEq]at h;obtain⟨rfl,h2⟩:=h;refine jAW (σ:=σ×World) (fun s ρ w=>w=s.2/\Has ρ (L s.1)/\I s.1 w) (fun s=>a s.1 s.2) (s0,w') ⟨rfl,h2,i⟩ ?_;rintro⟨s,w1⟩ f g ⟨rfl,hh,e⟩;have:=k (J:=fun ρ w=>∃s':σ×World,(w=s'.2/\Has ρ (L s'.1)/\I s'.1 w)/\a s'.1 s'.2<a s g) (ρ:=f) (fun {s' w'} h _ hh=>⟨(s',w'),⟨rfl,hh,h.1⟩,h.2⟩) e (fun _ _ h=>by cases h);unfold lpC at this;simp only at this;rw[uI hh]at this;exact this;cases h
end
section
variable {P:Program} {fn:Func} {R:Ending->World->Prop} {c:Cf} {π A:Prop}
def ldR(ρ:Env):List ResultVar->List Value->List ResultVar×List Value
 |.tmp t :: rs,vs=>ldR ρ rs<|vs++[ρ t]
 |rs,vs=>(rs,vs)
def pkv:List Value->Value
 |[v]=>v
 |vs=>.tuple vs.toArray
def WS(P:Program)(R:Ending->World->Prop)(c:Cf)(s:List ResultVar×List Value):Prop:=∃us,RVs P c.ρ c.w s.1 us/\R (.returned<|pkv<|s.2++us) c.w
def nxR(c:Cf)(s:List ResultVar×List Value)(v:Value):List ResultVar×List Value:=ldR c.ρ s.1.tail<|s.2++[v]
def jZJ:∀{rs:List ResultVar} {vs:List Value},WS P R c (ldR c.ρ rs vs)->WS P R c (rs,vs)
 |[],_,h=>h
 |.cell _ _ :: _,_,h=>h
 |.tmp t :: rs,vs,h=>by
  have⟨us,h1,h2⟩:=jZJ (rs:=rs) (vs:=vs++[c.ρ t]) h;exact⟨c.ρ t ::us,⟨rfl,h1⟩,by simpa using h2⟩
def zFF{s:List ResultVar×List Value}{r:ResultVar}{v}(hs:s.1.head?=some r)(a:RV P c.ρ c.w r v)(k:WS P R c (nxR c s v)):WS P R c s:=by
 have⟨rs,vs⟩:=s;cases rs with
 |nil=>cases hs
 |cons b rs =>
  cases hs
  have⟨us,h1,h2⟩:=jZJ k
  exact⟨v ::us,⟨a,h1⟩,by simpa using h2⟩
def isE(c:Cf):Bool:=match c.pos,c.fr with
 |.x .ret,[]=>true
 |.x .normal,[]=>true
 |_,_=>false
def rss(m)(k:GG π A (WS P R (vv P fn m c)<|ldR (vv P fn m c).ρ fn.results.toList []))(h:((aa P fn m c).see,isE<|vv P fn m c)=((aa P fn m c).so,true):=by kernel_rfl):GG π A (W P fn R c):=by
 intro d hr;simp only[Prod.mk.injEq]at h;refine W.on m h.1 fun _=>?_;have⟨us,h1,h2⟩:=jZJ<|k d hr;have key:∀e:Exit,e=.ret\/e=.normal->jFV P fn fn.ntmps R e (vv P fn m c).ρ (vv P fn m c).w:=fun e f=>by
  refine resG f (by rw[Array.toArray_toList]) h1 ?_ h2;rw[List.nil_append];match us with
  |[]=>rfl
  |[v]=>rfl
  |u :: v :: us=>simp[pkv]
 have h3:=h.2;unfold isE at h3;unfold Wq;split at h3;rename_i a b;rw[a,b];exact key _<|.inl rfl;rename_i a b;rw[a,b];exact key _<|.inr rfl;cases h3
def rcI(P:Program)(c:Cf)(s:List ResultVar×List Value):Option (Value×(World->Result Bool)×(World->Result Nat)):=match s.1 with
 |.cell a T :: _=>some (c.ρ a,fun y=>(isAgg T).run P y,fun y=>(sizeOf T).run P y)
 |_=>none
def qG1{s:List ResultVar×List Value}{p v n}(h:rcI P c s=some (.pointer<|some p,fun y=>.ok false y,fun y=>.ok n y))(a:c.w.cell? p=some v)(k:WS P R c (nxR c s v)):WS P R c s:=by
 unfold rcI at h;split at h;rename_i e;simp only[Option.some.injEq,Prod.mk.injEq]at h;exact zFF (by rw[e];rfl) (RV.cell1 h.1 (congrFun h.2.1 _) a) k;cases h
def qG2{s:List ResultVar×List Value}{p us}(h:rcI P c s=some (.pointer<|some p,fun y=>.ok true y,fun y=>.ok us.length y))(a:Row c.w p us)(k:WS P R c (nxR c s<|.agg us.toArray)):WS P R c s:=by
 unfold rcI at h;split at h;rename_i e;simp only[Option.some.injEq,Prod.mk.injEq]at h;exact zFF (by rw[e];rfl) (RV.cellA h.1 (congrFun h.2.1 _) (congrFun h.2.2 _) rfl a) k;cases h
def qcc{s:List ResultVar×List Value}{α:Type}{F:α->Value}{r:α->Prop}{p w}(k:∀{v},GG π (r v)<|WS P R c<|nxR c s<|F v)(h:(rcI P c s,c.w)=(some (.pointer<|some p,fun y=>.ok false y,fun y=>.ok 1 y),w):=by kernel_rfl):GG π (∃v,w.cell? p=some (F v)/\r v) (WS P R c s):=by
 rintro b ⟨v,a,hr⟩;simp only[Prod.mk.injEq]at h;exact qG1 h.1 (by rw[h.2];exact a) (k b hr)
def qrr{s:List ResultVar×List Value}{r:Prop}{p us w}(k:GG π r (WS P R c<|nxR c s<|.agg us.toArray))(h:(rcI P c s,c.w)=(some (.pointer<|some p,fun y=>.ok true y,fun y=>.ok us.length y),w):=by kernel_rfl):GG π (Row w p us/\r) (WS P R c s):=by
 rintro b ⟨a,hr⟩;simp only[Prod.mk.injEq]at h;exact qG2 h.1 (by rw[h.2];exact a) (k b hr)
def qaa{s:List ResultVar×List Value}{r:Prop}{p us n w}(k:GG π r (WS P R c<|nxR c s<|.agg us))(h:(rcI P c s,c.w)=(some (.pointer<|some p,fun y=>.ok true y,fun y=>.ok n y),w):=by kernel_rfl):GG π ((us.size=n/\Row w p us.toList)/\r) (WS P R c s):=by
 rintro b ⟨⟨a,d⟩,hr⟩;simp only[Prod.mk.injEq]at h;have e:us.toList.length=n:=by simpa using a
 refine qG2 (us:=us.toList) (by rw[e];exact h.1) (by rw[h.2];exact d) ?_;rw[Array.toArray_toList];exact k b hr
section
variable {w0 wv w:World} {Hv H:Nat->Prop} {l:List HBx}
def qgg{s:List ResultVar×List Value}(i js n)(k:GG (HS w0 Hv wv H w l) A (WS P R c<|nxR c s<|.agg (((hcs l i).drop<|sum js).take n).toArray))(h:(rcI P c s,c.w,Nat.ble (sum js+n) (hcs l i).length,Nat.blt 0 n)=(some (.pointer<|some<|had l i js,fun y=>.ok true y,fun y=>.ok (((hcs l i).drop<|sum js).take n).length y),w,true,true):=by kernel_rfl):GG (HS w0 Hv wv H w l) A (WS P R c s):=by
 intro a hr;simp only[Prod.mk.injEq]at h;exact qG2 h.1 (by rw[h.2.1];exact jNA a.b h.2.2.1<|by simpa[Nat.blt_eq]using h.2.2.2) (k a hr)
end
def qee{s:List ResultVar×List Value}{v w}(a:A->R (.returned v) w:=by first|exact fun h=>⟨_,rfl,h⟩|exact fun h=>⟨_,_,rfl,h⟩|exact fun h=>⟨_,_,_,rfl,h⟩|exact fun h=>⟨_,_,_,_,rfl,h⟩|exact fun h=>⟨_,_,_,_,_,rfl,h⟩|exact fun h=>⟨_,_,_,_,_,_,rfl,h⟩|exact fun h=>⟨_,_,_,_,_,_,_,rfl,h⟩|exact fun h=>⟨_,_,_,_,_,_,_,_,rfl,h⟩|exact fun h=>⟨_,_,_,_,_,_,_,_,_,rfl,h⟩|exact fun h=>⟨_,_,_,_,_,_,_,_,_,_,rfl,h⟩|exact fun h=>⟨_,_,_,_,_,_,_,_,_,_,_,rfl,h⟩|exact fun h=>⟨_,_,_,_,_,_,_,_,_,_,_,_,rfl,h⟩)(h:(s.1,pkv s.2,c.w)=([],v,w):=by kernel_rfl):GG π A (WS P R c s):=fun _ hr=>by
 simp only[Prod.mk.injEq]at h;refine⟨[],?_,?_⟩
 .rw[h.1];trivial
 .grind
def eaB(c:Cf):Bool:=match c.pos with
 |.d ops _ _ _ _ ld _ _ _ (some k)=>jCE .any ops (vS ld) k
 |_=>false
def zDT{n Q o v}(g:cur c=some o)(f:lou c=false)(d:eaB c=true)(hr:(execOp (evE c.ρ) o).run P c.w=.ok (.value v) c.w)(k:Wk P n Q (yN v c.w c)):Wk P n Q c:=by
 intro e;have⟨hh,b⟩:=jKG g;unfold wtd at b;rw[jNW e]at b;replace k:=k<|jBE e _ _;cases a:isd c with
 |false =>
  have⟨ops,l,h1,h2,h3⟩:=zHC (v:=v) (w':=c.w) hh a
  unfold eaB at d;rw[h1]at d;cases d
 |true =>
  have⟨ops,q,C,H,l,ld,fr,p,m,j,h1,h2,i,h,h3⟩:=zHD (v:=v) (w':=c.w) hh a
  rw[h2]at b;rw[h3]at k;rw[Wq_d h1];rw[h]at f
  exact sxe i b f (by simpa[eaB,h1]using d) hr k
def lde{α:Type}{F:α->Value}{r:α->Prop}{a w}(m)(k:∀{v},GG π (r v)<|W P fn R<|pv (F v)<|vv P fn m c)(h:((aa P fn m c).see,ldI P<|vv P fn m c,eaB<|vv P fn m c,(vv P fn m c).w)=((aa P fn m c).so,some (.pointer<|some a,fun y=>.ok false y,false),true,w):=by kernel_rfl):GG π (∃v,w.cell? a=some (F v)/\r v) (W P fn R c):=by
 rintro e ⟨v,d,hr⟩;simp only[Prod.mk.injEq]at h;have⟨b,h1,h2,h3⟩:=h;unfold ldI at h1;split at h1;rename_i f;simp only[Option.some.injEq,Prod.mk.injEq]at h1;exact W.on m b<|zDT f h1.2.2 h2 (by rw[h3];exact xZ h1.1 (congrFun h1.2.1 w) d) (k e hr);cases h1
def iaI(P:Program)(c:Cf):Option (Value×Option Int×Nat×(World->Result Nat)×Bool):=match cur c with
 |some ⟨_,.indexAddr T x i,_,_,_,_⟩=>match P.underlying T with
  |some (.array k e)=>some (evE c.ρ x,ivo<|evE c.ρ i,k,fun y=>(sizeOf e).run P y,lou c)
  |_=>none
 |_=>none
def ixa{r:Addr->Prop}{p i k n}(m)(g:∀{a},GG π (r a)<|W P fn R<|pv (.pointer<|some a)<|vv P fn m c)(h:((aa P fn m c).see,iaI P<|vv P fn m c)=((aa P fn m c).so,some (.pointer<|some p,some i,k,fun y=>.ok n y,false)):=by kernel_rfl):GG π (∃a,AtA p i k n a/\r a) (W P fn R c):=by
 rintro d ⟨a,f,hr⟩;simp only[Prod.mk.injEq]at h;have⟨o,h⟩:=h;unfold iaI at h;split at h;rename_i b;split at h;rename_i l;simp only[Option.some.injEq,Prod.mk.injEq]at h;obtain⟨h1,h2,rfl,h3,j⟩:=h;have⟨e,h2⟩:=zFJ h2;exact rdw m o b j (fun x _=>jVA h1 h2 (run_underlying l x) (congrFun h3 x) f)<|g d hr;cases h;cases h
section
variable {w0 w:World} {H:Nat->Prop} {l:List HBx}
def vsh{r:World->Prop}{a:Addr}{vs:List Value}{n:Nat}(m:Nat)(k:∀{w1},GG (HS w0 H w1 H w1 l) (r w1)<|W P fn R<|yN undef w1<|vv P fn m c)(h:((aa P fn m c).see,stI P<|vv P fn m c,lok<|vv P fn m c,(vv P fn m c).w,fre<|vv P fn m c,vs.length)=((aa P fn m c).so,some (.pointer<|some a,.agg vs.toArray,fun y=>.ok vs.length y),true,w,true,n):=by kernel_rfl):GG (HS w0 H w H w l) ((vs.all vE=true/\∀j,j<n->zV w (a.add j))/\¬H a.block/\∀w1,w1=storeRow w a vs->r w1) (W P fn R c):=by
 rintro f ⟨⟨g,i⟩,d,hr⟩;simp only[Prod.mk.injEq]at h;exact stA m h.1 h.2.1 g h.2.2.1 h.2.2.2.1 (by rw[h.2.2.2.2.2];exact i) fun w1 e=>⟨.inl h.2.2.2.2.1,k (by subst e;exact⟨f.s.again<|Kept.storeRow d,f.b.kept<|Kept.storeRow d⟩)<|hr w1 e⟩
end
def fo{r:FuncId->Array Value->Array Value->Prop}{v:Value}{X:Prop}(k:∀{f fs cs},v=.func (.func f) fs cs->GG π (r f fs cs) X):GG π (∃f fs cs,v=.func (.func f) fs cs/\r f fs cs) X:=fun b ⟨_,_,_,a,hr⟩=>k a b hr
def cvI(c:Cf):Option (Value×List Value):=match cur c with
 |some ⟨_,.call ⟨.value x,a,_⟩,_,_,_,_⟩=>some (evE c.ρ x,a.toList.map<|evE c.ρ)
 |_=>none
def cv{f fs cs ag v w Q}(m)(a:v=.func (.func f) fs cs)(k:∀{e w1},GG π (Q e w1)<|WR P fn R (vv P fn m c) e w1)(h:((aa P fn m c).see,cvI<|vv P fn m c,lok<|vv P fn m c,(vv P fn m c).w)=((aa P fn m c).so,some (v,ag),true,w):=by kernel_rfl):GG π ((∀args w,(callFunc f args).run P w=.ok (.enter f args) w)/\Calls P f (fs++ag.toArray++cs) w Q) (W P fn R c):=by
 rintro b ⟨d,hr⟩;simp only[Prod.mk.injEq]at h;refine caG m d h.1 ?_ h.2.2.1 h.2.2.2<|hr.mono fun e w1 q=>k b q;have h2:=h.2.1;unfold cvI at h2;split at h2;rename_i g;cases h2;unfold caI;rw[g];simp only[a];cases h2
end
def Sc(w0:World)(Hv:Nat->Prop)(wv:World)(l:List HBx)(x:World):Prop:=∃a,Hst w0 Hv wv a x/\HB a x l
section
variable {P:Program} {fn:Func} {R:Ending->World->Prop} {c:Cf} {A:Prop} {w0 wv w:World} {Hv H:Nat->Prop} {l:List HBx}
def jZF{l'}(h:clC c=some (Sc w0 Hv wv l'))(x)(b:need c x):∃a,Hst w0 Hv wv a x/\HB a x l':=((xC h x).1 b).1
def s_need{l' k}(h:(clC c,clH c,clL c)=(some<|Sc w0 Hv wv l',None,[]))(d:l.drop k=l')(a:HS w0 Hv wv H w l):need c w:=by
 simp only[Prod.mk.injEq]at h;refine(xC h.1 w).2 ⟨⟨H,a.s,by rw[<-d];exact a.b.drop k⟩,?_⟩;rw[h.2.1,h.2.2];exact HB.nil _ _
def dss(m ld fr)(k:∀{w1},GG (HS w0 Hv wv H w1 l) A<|W P fn R<|rgP none (Sc w0 Hv wv l) None [] ld fr w1<|vv P fn m c)(h:((aa P fn m c).see,rgI P fn.ntmps ld fr<|vv P fn m c,(vv P fn m c).w)=((aa P fn m c).so,some (true,true,true,true),w):=by kernel_rfl):GG (HS w0 Hv wv H w l) A (W P fn R c):=by
 intro d hr;simp only[Prod.mk.injEq]at h;have e:=h.2.2;have a:HS w0 Hv wv H (vv P fn m c).w.drew l:=by rw[e];exact⟨d.s.drew,d.b.drew⟩
 exact rgG none m ld fr h.1 h.2.1 ⟨⟨H,a.s,a.b⟩,HB.nil _ _⟩<|k a hr
def lds{α:Type}{F:α->Value}{r:α->Prop}{a}(m)(k:∀{v},GG (HS w0 H wv H w l) (r v)<|W P fn R<|pv (F v)<|vv P fn m c)(h:((aa P fn m c).see,ldI P<|vv P fn m c,clC<|vv P fn m c)=((aa P fn m c).so,some (.pointer<|some a,fun y=>.ok false y,false),some<|Sc w0 H wv l):=by kernel_rfl):GG (HS w0 H wv H w l) (∃v,wv.cell? a=some (F v)/\¬H a.block/\r v) (W P fn R c):=by
 rintro b ⟨v,d,e,hr⟩;simp only[Prod.mk.injEq]at h;exact ldG m h.1 h.2.1 (fun x f=>by have⟨g,h1,_⟩:=jZF h.2.2 x f;exact jDB d e h1) (k b hr)
def lrs{r:Prop}{u vs a}(m)(k:GG (HS w0 H wv H w l) r (W P fn R<|pv (.agg (u ::vs).toArray)<|vv P fn m c))(h:((aa P fn m c).see,lrI P<|vv P fn m c,clC<|vv P fn m c)=((aa P fn m c).so,some (.pointer<|some a,fun y=>.ok true y,fun y=>.ok (u ::vs).length y,false),some<|Sc w0 H wv l):=by kernel_rfl):GG (HS w0 H wv H w l) (Row wv a (u ::vs)/\¬H a.block/\r) (W P fn R c):=by
 rintro b ⟨d,e,hr⟩;simp only[Prod.mk.injEq]at h;exact lrG m h.1 h.2.1 (fun x f=>by have⟨g,h1,_⟩:=jZF h.2.2 x f;exact jMQ d e h1) (k b hr)
def lhs(m k i js)(d:GG (HS w0 Hv wv H w l) A (W P fn R<|pv (hvl (l.drop k) i<|sum js)<|vv P fn m c))(h:((aa P fn m c).see,ldI P<|vv P fn m c,clC<|vv P fn m c,Nat.blt (sum js) (hcs (l.drop k) i).length)=((aa P fn m c).so,some (.pointer<|some<|had (l.drop k) i js,fun y=>.ok false y,false),some<|Sc w0 Hv wv<|l.drop k,true):=by kernel_rfl):GG (HS w0 Hv wv H w l) A (W P fn R c):=by
 intro b hr;simp only[Prod.mk.injEq]at h;exact ldG m h.1 h.2.1 (fun x a=>by have⟨e,_,h2⟩:=jZF h.2.2.1 x a;exact jNB h2 h.2.2.2) (d b hr)
def cps{f args v}(m d)(j:∀args w,(callFunc f args).run P w=.ok (.enter f args) w)(i:∀w,Calls P f args w fun e w'=>e=.returned v/\Pure w w')(k:∀{w1},GG (HS w0 Hv wv H w1 l) A<|W P fn R<|yN v w1<|vv P fn m c)(h:((aa P fn m c).see,caI<|vv P fn m c,lok<|vv P fn m c,(vv P fn m c).w,clC<|vv P fn m c,clH<|vv P fn m c,clL<|vv P fn m c)=((aa P fn m c).so,some (f,args),true,w,some<|Sc w0 Hv wv<|l.drop d,None,[]):=by kernel_rfl):GG (HS w0 Hv wv H w l) A (W P fn R c):=by
 intro a hr;simp only[Prod.mk.injEq]at h;refine caG m j h.1 h.2.1 h.2.2.1 h.2.2.2.1<|(i w).mono fun e w1 ⟨n,E⟩=>?_;have g:HS w0 Hv wv H w1 l:=⟨a.s.pure E,a.b.pure E⟩;exact⟨v,n,.inr<|s_need (l':=l.drop d) (k:=d) (by simp only[h.2.2.2.2]) rfl g,k g hr⟩
end
section
variable {P:Program} {fn:Func} {R:Ending->World->Prop} {c:Cf} {π A:Prop}
def dqn{r:World->Prop}{w:World}(m:Nat)(k:∀{w1},GG π (r w1)<|W P fn R<|rgP (some w1) (fun _=>True) None [] [] [] w1<|vv P fn m c)(h:((aa P fn m c).see,rgI P fn.ntmps [] []<|vv P fn m c,(vv P fn m c).w)=((aa P fn m c).so,some (true,true,true,true),w):=by kernel_rfl):GG π (∀w1,w1=w.drew->r w1) (W P fn R c):=by
 intro a hr;simp only[Prod.mk.injEq]at h;exact rgG (some (vv P fn m c).w.drew) m [] [] h.1 h.2.1 rfl (k a<|hr _<|by rw[h.2.2])
def dcn{r:(World->Prop)->World->Prop}{w}(m ld fr)(k:∀{C w1},GG π (r C w1)<|W P fn R<|rgP none C None [] ld fr w1<|vv P fn m c)(h:((aa P fn m c).see,rgI P fn.ntmps ld fr<|vv P fn m c,(vv P fn m c).w)=((aa P fn m c).so,some (true,true,true,true),w):=by kernel_rfl):GG π (∃C:World->Prop,C w.drew/\∀w1,w1=w.drew->r C w1) (W P fn R c):=by
 rintro a ⟨C,b,hr⟩;simp only[Prod.mk.injEq]at h;exact rgG none m ld fr h.1 h.2.1 ⟨by rw[h.2.2];exact b,HB.nil _ _⟩ (k a<|hr _<|by rw[h.2.2])
def acn{v w1}{r:Prop}{C}(k:GG π r (W P fn R<|yN v w1 c))(h:(clC c,clH c,clL c)=(some C,None,[]):=by kernel_rfl):GG π (C w1/\r) (WV P fn R c v w1):=fun a hr=>by
 simp only[Prod.mk.injEq]at h;refine⟨.inr<|(xC h.1 _).2 ⟨hr.1,?_⟩,k a hr.2⟩;rw[h.2.1,h.2.2];exact HB.nil _ _
def nxc{r:Addr->World->Prop}{O C w}(m)(k:∀{p w1},GG π (r p w1)<|W P fn R<|yN (nwV P (vv P fn m c) p) w1<|vv P fn m c)(h:((aa P fn m c).see,nwI P<|vv P fn m c,lok<|vv P fn m c,clC<|vv P fn m c,clH<|vv P fn m c,clL<|vv P fn m c)=((aa P fn m c).so,some (nwV P (vv P fn m c) ⟨w.heap.size,0,none⟩,w.alloc O),true,some C,None,[]):=by kernel_rfl):GG π (∀p w1,New w O p w1->C w1/\r p w1) (W P fn R c):=by
 intro b hr;simp only[Prod.mk.injEq]at h;refine nwG m _ h.1 h.2.1 h.2.2.1 fun p w1 a=>⟨.inr<|(xC h.2.2.2.1 _).2 ⟨(hr p w1 a).1,?_⟩,k b (hr p w1 a).2⟩;rw[h.2.2.2.2.1,h.2.2.2.2.2];exact HB.nil _ _
end
section
variable {P:Program} {fn:Func} {R:Ending->World->Prop} {c:Cf} {A:Prop}
def PR(w:World)(R:Ending->World->Prop)(val:(Nat->Bool)->Value)(b:Nat->Bool):Prop:=∀H w1,Hst w None w H w1->R (.returned<|val b) w1
def cwp{f args w v}(b:P.funcs[f]?=some fn)(cs:List Bool)(val:(Nat->Bool)->Value)(k:PR w (fun e w'=>e=.returned v/\Pure w w') val (bn cs)->GG (HS w None w None w []) True (W P fn (fun e w'=>e=.returned v/\Pure w w') ⟨.c<|yM fn,[],uK args,w,[]⟩))(a:(fn.body.isSome,Nat.ble args.length fn.ntmps,val<|bn cs)=(true,true,v):=by kernel_rfl):Calls P f args.toArray w (fun e w'=>e=.returned v/\Pure w w'):=by
 simp only[Prod.mk.injEq]at a;exact cwH b trivial (k fun H w1 hs=>⟨by rw[a.2.2],(Ext.refl (F:=None) w).hst hs⟩) (by rw[a.1,a.2.1])
section
variable {w w1:World} {H:Nat->Prop} {l:List HBx} {val:(Nat->Bool)->Value} {b:Nat->Bool}
def qpe(m)(j:PR w R val b)(h:((aa P fn m c).see,rsI fn<|vv P fn m c)=((aa P fn m c).so,some (val b,w1)):=by kernel_rfl):GG (HS w None w H w1 l) A (W P fn R c):=fun a hr=>rr m (fun _=>j H w1 a.s) h a hr
def qpf{s:List ResultVar×List Value}(j:PR w R val b)(h:(s.1,pkv s.2,c.w)=([],val b,w1):=by kernel_rfl):GG (HS w None w H w1 l) A (WS P R c s):=fun a hr=>qee (fun _=>j H w1 a.s) h a hr
end
end
section
variable {P:Program} {fn:Func} {R:Ending->World->Prop} {c:Cf} {π A:Prop}
end
end Go.SE
end
