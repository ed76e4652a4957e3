import Derived.KernelRfl
import Derived.Orders
import Derived.OrdersIn
import Derived.Still
import Derived.RangeFuncLeaves
import Derived.Tactics
import Derived.Scope
import Derived.TacticsIn
import Derived.RangeFuncRecord
import Derived.Laws.StructEq
import Derived.Laws.Rows
import Derived.Laws.NewBlocks
import Derived.Laws.Strings
import Derived.Laws.Pointers
import Derived.Below
import Derived.Laws.AppendOwn
import Derived.Laws.MakeOwn
import Derived.IntWalk
import Derived.Test.YtjjcakjoeiolgaaGreatProg
import Derived.RangeFuncSeq
import Derived.RangeFuncIn
import Derived.Laws.Entries
set_option linter.defProp false
section
namespace Go
def Om{P:Prop}(h:P:=by omega):P:=h
def Kf{P:Prop}(h:P:=by kernel_rfl):P:=h
def Gd{P:Prop}(h:P:=by grind):P:=h
def Sm{P:Prop}(h:P:=by simp):P:=h
def De{P:Prop}(h:P:=by decide):P:=h
def So{P:Prop}(h:P:=by simp;omega):P:=h
def Ic{P:Prop}(h:P:=by intro c a;cases a):P:=h
def Sy{P:Prop}(h:P:=by simp only;omega):P:=h
def Fe{P:Prop}(h:P:=by first|exact Nat.le_refl _|exact Nat.le_succ _):P:=h
def Oh{A P:Prop}(a:A)(h:A->P:=by intro _;omega):P:=h a
def Oi{A B P:Prop}(a:A)(b:B)(h:A->B->P:=by intro _ _;omega):P:=h a b
end Go
end
section
namespace Go.SE
abbrev NP:=Nat->Prop
abbrev WP:=World->Prop
def nj(P:Program)(o:Oper)(ε:Operand->Value)(w:World)(R:Value->World->Prop):Prop:=
 match(execOp ε o).run P w with
 |.ok (.value v) w'=>R v w'
 |.ok .skip w'=>R undef w'
 |.ok (.enter f args) w'=>Calls P f args w' fun e a=>∃v,e=.returned v/\R v a
 |.ok (.row row args) w'=>Rows P row args w' R
 |.ok (.round l f tmps assign body) w'=>RoundIn Fence.wide 0 P l f tmps assign body w' fun e a=>∃v,e=.returned v/\R v a
 |_=>False
section
variable {P:Program} {ops:Array Oper} {md:Region.Mode} {C:World->Prop}
def tP{o}{ε:Operand->Value}{w}{R d:Value->World->Prop}(h:nj P o ε w R)(hr:∀v w',R v w'->d v w'):nj P o ε w d:=by
 unfold nj at *;generalize (execOp ε o).run P w=r at *;cases r with
 |ok n w' =>
  cases n<;>simp only at h|-<;>first
   |exact hr _ _ h
   |exact h.mono fun e b ⟨v,a,c⟩=>⟨v,a,hr _ _ c⟩
   |exact RoundIn.mono h fun e b ⟨v,a,c⟩=>⟨v,a,hr _ _ c⟩
   |exact h.mono hr
 |halt x w'=>exact h
def jz:Option Nat->Fence
 |none=>Fence.wide
 |some l=>Fence.wide.inRound l
def KL(ro:Option Nat):(jz ro).round=ro:=by cases ro<;>rfl
def Ce(ro:Option Nat)(f):(jz ro).fn f:=by cases ro<;>trivial
def Kv(ro:Option Nat):(jz ro).depth=none:=by cases ro<;>rfl
def Calls.jz{ro:Option Nat}{m f args w R}(h:Calls P f args w R):CallsIn (SE.jz ro) m P f args w R:=by
 cases ro with
 |none=>exact callsIn_wide.2 h
 |some l=>exact(callsIn_wide.2 h:CallsIn Fence.wide m P f args w R)
def Rows.jz{ro:Option Nat}{m}{row:String}{args w}{R:Value->World->Prop}(h:Rows P row args w R):RowsIn (SE.jz ro) m P row args w R:=by
 have a:RowsIn Fence.wide m P row args w R:=fun c cs _=>let ⟨v,w',r,s⟩:=h c cs;⟨v,w',r,stepsIn_wide.2 s⟩
 cases ro with
 |none=>exact a
 |some l=>exact a
def RoundIn.jz{ro:Option Nat}{n m l f tmps assign body w R}(h:RoundIn Fence.wide n P l f tmps assign body w R):RoundIn (SE.jz ro) m P l f tmps assign body w R:=by
 have a:RoundIn Fence.wide m P l f tmps assign body w R:=⟨trivial,fun c cs _=>h.2 c cs<|room_wide _⟩;cases ro with
 |none=>exact a
 |some l'=>exact a
def ND{o}{ε:Operand->Value}{w}{R:Value->World->Prop}(h:nj P o ε w R):∀c,o.op≠.defer c:=by
 intro c a;unfold nj execOp at h;rw[a]at h;simp only[Sem.run_bind]at h;generalize (resolve ε c o.type).run P w=r at h;cases r with
 |ok d w'=>exact h
 |halt x w'=>exact h
def My{ro:Option Nat}{m o a w}{K:Act->World->Prop}{Q:Exit->Act->World->Prop}(h:nj P o a.eval w fun v w'=>K (a.put o.dst v) w'):o.wpIn (jz ro) m P a w K Q:=by
 refine⟨fun f _=>Ce ro f,?_⟩;rw[KL,Oper.semAt_eq _ _ _<|ND h];have c:(jz ro).depth.isSome=true->1<=m:=fun h=>by rw[Kv]at h;cases h
 unfold nj at h;generalize (execOp a.eval o).run P w=r at *;cases r with
 |ok n w' =>
  cases n<;>simp only at h<;>simp only[Oper.uponIn]
  case value=>exact h
  case skip=>exact h
  case enter=>exact⟨c,(Calls.jz h).mono fun e d ⟨v,b,g⟩=>by subst b;exact g⟩
  case row=>exact⟨c,Rows.jz h⟩
  case round=>exact⟨c,(RoundIn.jz h).mono fun e d ⟨v,b,g⟩=>by subst b;exact g⟩
 |halt x w'=>exact h.elim
def qy(P:Program)(o:Oper)(ε:Operand->Value)(w:World)(v:Value):Prop:=
 match(execOp ε o).run P w with
 |.ok (.value u) w'=>u=v/\w'=w
 |.ok .skip w'=>v=undef/\w'=w
 |_=>False
def jYL{o}{ε:Operand->Value}{w v}{R:Value->World->Prop}(h:qy P o ε w v)(a:R v w):nj P o ε w R:=by
 unfold qy at h;unfold nj;generalize (execOp ε o).run P w=r at *;cases r with
 |ok n w' =>
  cases n<;>simp only at h|-
  case value u=>obtain⟨rfl,rfl⟩:=h;exact a
  case skip=>obtain⟨rfl,rfl⟩:=h;exact a
 |halt x w'=>exact h.elim
def u7(md:Region.Mode)(ops:Array Oper)(i:Nat):Array Bool:=
 (List.range ops.size).foldl (fun l j=>if j !=i&&!l.getD j true&&((ops[j]?).map (·.after.all fun e=>!Region.binds md e ||l.getD e.on false)).getD false then l.setIfInBounds j true else l) (Array.replicate ops.size false)
def sP(md:Region.Mode)(ops:Array Oper)(loud:Nat->Bool)(i:Nat):Bool:=(List.range ops.size).all fun j=>!loud j ||!(u7 md ops i).getD j false
def pE(md:Region.Mode)(P:Program)(ops:Array Oper)(C:World->Prop)(loud free:Nat->Bool)(i:Nat)(K:Act->World->Prop)(a:Act)(w:World):Prop:=
 match ops[i]? with
 |none=>K a w
 |some o =>
  if Region.wanted o (yielded ops a.tmps)then
   (if loud i then nj P o a.eval w fun v w'=>(free i=true\/C w')/\K (a.put o.dst v) w'
   else ∃v,((sP md ops loud i=true/\qy P o a.eval w v)\/∀w',C w'->qy P o a.eval w' v)/\K (a.put o.dst v) w)
  else K (a.put o.dst undef) w
def Ti{loud free:Nat->Bool}{i a w}{K c:Act->World->Prop}(h:∀a w,C w\/(loud i=true/\free i=true)->K a w->c a w)(l:loud i=false->C w)(g:C w\/(loud i=true/\free i=true))(hh:pE md P ops C loud free i K a w):pE md P ops C loud free i c a w:=by
 unfold pE at *;split;grind;rename_i o f;simp only[f]at hh;split;rename_i b;simp only[b,if_true]at hh;split;rename_i d;simp only[d,if_true]at hh;exact tP hh fun v w' ⟨e,k⟩=>⟨e,h _ _ (e.elim (fun j=>.inr ⟨d,j⟩) .inl) k⟩;grind;rename_i b;simp only[b]at hh;exact h _ _ g hh
def yh(P:Program)(md:Region.Mode)(ops:Array Oper)(C:World->Prop)(loud free:Nat->Bool)(Q:Act->World->Prop):Nat->Array Bool->Act->World->Prop
 |0,b,a,w=>Region.ready md ops b=[]/\Q a w
 |fuel+1,b,a,w =>
  (Region.ready md ops b=[]->Q a w) /\
  ∀i∈Region.ready md ops b,pE md P ops C loud free i (yh P md ops C loud free Q fuel<|b.setIfInBounds i true) a w
def xZ(loud:Nat->Bool)(n:Nat)(a:Array Bool):Prop:=∀i,i<n->loud i=false->a.getD i true=true
def xZ.set{loud:Nat->Bool}{n}{a:Array Bool}(h:xZ loud n a)(k):xZ loud n (a.setIfInBounds k true):=fun i hi d=>by
 by_cases c:k=i;subst c;rcases Nat.lt_or_ge k a.size with b|b;simp[b];simp[b];rw[getD_set_ne true c];exact h i hi d
structure uc(md:Region.Mode)(ops:Array Oper)(loud free:Nat->Bool)(a:Nat->Array Bool):Prop where
 size:∀i,loud i=false->(a i).size=ops.size
 YN:∀i,loud i=false->∀j∈Region.ready md ops (a i),j=i
 iw:∀i,i<ops.size->loud i=false->∀j,j<ops.size->free j=true->(a i).getD j false=false
def wK(n:Nat)(loud:Nat->Bool)(b:Nat->Array Bool)(a:Array Bool):Prop:=∀i,i<n->loud i=false->a.getD i true=false->∀k,a.getD k false=true->(b i).getD k false=true
def uc.I6{loud free:Nat->Bool}{b:Nat->Array Bool}{a:Array Bool}(l:uc md ops loud free b)(h:wK ops.size loud b a){i j}(hi:i<ops.size)(d:loud i=false)(r:a.getD i true=false)(p:j∈Region.ready md ops a)(g:j≠i):(b i).getD j false=true:=by
 have⟨_,o,k,c⟩:=mem_ready.1 p;have f:j<(b i).size:=l.size i d▸(Array.getElem?_eq_some_iff.1 k).1;cases q:(b i).getD j false with
 |true=>rfl
 |false=>exact absurd (l.YN i d j<|mem_ready.2 ⟨by simpa[f]using q,o,k,fun e m n=>h i hi d r _<|c e m n⟩) g
def uc.step{loud free:Nat->Bool}{b:Nat->Array Bool}{a:Array Bool}(o:uc md ops loud free b)(h:wK ops.size loud b a){j}(n:j∈Region.ready md ops a):wK ops.size loud b (a.setIfInBounds j true):=by
 intro i hi l f k m;have c:j≠i:=fun e=>by
  subst e;rcases Nat.lt_or_ge j a.size with g|g;simp[g]at f;simp[g]at f
 rw[getD_set_ne true c]at f;by_cases d:j=k;subst d;exact o.I6 h hi l f n c;rw[getD_set_ne false d]at m;exact h i hi l f k m
def uc.free{loud free:Nat->Bool}{c:Nat->Array Bool}{a:Array Bool}(g:uc md ops loud free c)(h:wK ops.size loud c a){j}(k:j∈Region.ready md ops a)(b:loud j=true)(m:free j=true):xZ loud ops.size a:=by
 intro i hi d;cases n:a.getD i true with
 |true=>rfl
 |false =>
  have f:j≠i:=fun e=>by subst e;rw[d]at b;cases b
  have h1:=g.I6 h hi d n k f
  have⟨_,o,l,_⟩:=mem_ready.1 k
  rw[g.iw i hi d j (Array.getElem?_eq_some_iff.1 l).1 m]at h1
  cases h1
def NJ{ro:Option Nat}{m}{loud free:Nat->Bool}{e:Nat->Array Bool}{Q:Act->World->Prop}{Q':Exit->Act->World->Prop}(n:uc md ops loud free e)(r:∀a w,Q a w->Q' .normal a w):
  ∀(fuel:Nat) (b:Array Bool) (a:Act) (w:World),(C w\/xZ loud ops.size b)->wK ops.size loud e b->yh P md ops C loud free Q fuel b a w->wpAnyIn (jz ro) m P md ops Q' fuel b a w
 |0,_,_,_,_,_,h=>⟨h.1,r _ _ h.2⟩
 | fuel + 1, b, a, w, j, s, h => ⟨fun y => r _ _<|h.1 y, fun i hi => by
   have hh:=h.2 i hi;have g:∀a w,(C w\/xZ loud ops.size (b.setIfInBounds i true))->yh P md ops C loud free Q fuel (b.setIfInBounds i true) a w->wpAnyIn (jz ro) m P md ops Q' fuel (b.setIfInBounds i true) a w:=fun a w j h=>NJ n r fuel _ a w j (n.step s hi) h;have c:C w\/xZ loud ops.size (b.setIfInBounds i true):=j.imp id fun h=>h.set i;unfold pE at hh;unfold wpOpIn;split;rename_i k;simp only[k]at hh;exact g _ _ c hh;rename_i o k;simp only[k]at hh;split;rename_i d;simp only[d,if_true]at hh;apply My;split at hh;rename_i l;exact tP hh fun v w' ⟨z,x⟩=>g _ _ (z.elim (fun t=>.inr<|(n.free s hi l t).set i) .inl) x;rename_i l;have⟨v,h1,h2⟩:=hh;have q:C w:=by
    rcases j with h|h;exact h;have⟨u,A,p,_⟩:=mem_ready.1 hi;have:=h i (Array.getElem?_eq_some_iff.1 p).1 (by simpa using l);rw[u]at this;cases this
   exact jYL (h1.elim (·.2) fun h=>h w q) (g _ _ c h2);rename_i d;simp only[d]at hh;exact⟨fun f _=>Ce ro f,g _ _ c hh⟩⟩
def xL(P:Program)(ops:Array Oper)(C:World->Prop)(e:Bool)(w:World)(o:Oper)(v:Value)(a:Act):Prop:=
 (Region.wanted o (yielded ops a.tmps)=true/\((e=true/\qy P o a.eval w v)\/∀w',C w'->qy P o a.eval w' v)) \/
 (Region.wanted o (yielded ops a.tmps)=false/\v=undef)
def xL.Vs{e w o v a a'}(c:xL P ops C e w o v a)(b:execOp a'.eval o=execOp a.eval o)(d:Region.wanted o (yielded ops a'.tmps)=Region.wanted o (yielded ops a.tmps)):xL P ops C e w o v a':=by
 unfold xL qy at *;rw[b,d];exact c
def xL.at{e w w' o v a}(b:xL P ops C e w o v a)(h:e=true->w'=w):xL P ops C e w' o v a:=by
 rcases b with⟨h1,⟨h2,h3⟩|h2⟩|h1;exact .inl ⟨h1,.inl ⟨h2,by rw[h h2];exact h3⟩⟩;exact .inl ⟨h1,.inr h2⟩;exact .inr h1
def xL.op{loud free:Nat->Bool}{i o v a w}(hi:ops[i]?=some o)(d:loud i=false)(c:xL P ops C (sP md ops loud i) w o v a){K:Act->World->Prop}(h:K (a.put o.dst v) w):pE md P ops C loud free i K a w:=by
 unfold pE;simp only[hi,d];rcases c with⟨b,e⟩|⟨b,rfl⟩;grind;grind
def Ug{loud free:Nat->Bool}{i o a w}{K:Act->World->Prop}(hi:ops[i]?=some o)(c:loud i=false)(h:pE md P ops C loud free i K a w):∃v,xL P ops C (sP md ops loud i) w o v a/\K (a.put o.dst v) w:=by
 unfold pE at h;simp only[hi,c]at h;by_cases b:Region.wanted o (yielded ops a.tmps)=true;simp only[b,if_true]at h;have⟨v,h1,h2⟩:=h;exact⟨v,.inl ⟨b,h1⟩,h2⟩;simp only[b]at h;exact⟨undef,.inr ⟨by simpa using b,rfl⟩,h⟩
def Wa{loud free:Nat->Bool}{j oi oj v}(t:ops[j]?=some oj)(o:oi.apart ops oj=true)(p:∀cs b,oi.op≠.select cs b)(k:∀cs b,oj.op≠.select cs b){K:Act->World->Prop}{a w}{e}(c:loud j=true->e=false)(y:xL P ops C e w oi v a)(h:pE md P ops C loud free j K (a.put oi.dst v) w):
  pE md P ops C loud free j (fun s w'=>xL P ops C e w' oi v s/\K (s.put oi.dst v) w') a w:=by
 have⟨h1,h2,h3⟩:=Oper.apart_spec o
 have gq:∀u,xL P ops C e w oi v<|a.put oj.dst u:=fun u =>
  y.Vs (execOp_put oi p a oj.dst u h3)<|wanted_put oi a oj.dst u h3
 unfold pE at *
 simp only[t]at *
 rw[wanted_put oj a oi.dst v h1]at h
 split
 .rename_i q
  simp only[q,if_true]at h
  split
  .rename_i d
   simp only[d,if_true]at h
   unfold nj at *
   rw[execOp_put oj k a oi.dst v h1]at h
   generalize (execOp a.eval oj).run P w=r at *
   cases r with
   |ok n w' =>
    cases n<;>simp only at h|-
    case value u=>exact⟨h.1,(gq u).at Gd,by rw[<-Act.put_comm a v u h2];exact h.2⟩
    case skip=>exact⟨h.1,(gq _).at (fun h=>by rw[c d]at h;cases h),by rw[<-Act.put_comm a v undef h2];exact h.2⟩
    case enter f args=>exact h.mono fun e i ⟨u,m,g,l⟩=>⟨u,m,g,(gq u).at (fun h=>by rw[c d]at h;cases h),by rw[<-Act.put_comm a v u h2];exact l⟩
    case row f args=>exact h.mono fun u i ⟨g,l⟩=>⟨g,(gq u).at (fun h=>by rw[c d]at h;cases h),by rw[<-Act.put_comm a v u h2];exact l⟩
    case round=>exact RoundIn.mono h fun e i ⟨u,m,g,l⟩=>⟨u,m,g,(gq u).at (fun h=>by rw[c d]at h;cases h),by rw[<-Act.put_comm a v u h2];exact l⟩
   |halt x w'=>exact h.elim
  .rename_i d
   simp only[d]at h
   have⟨u,A,z⟩:=h
   refine⟨u,?_,gq u,by rw[<-Act.put_comm a v u h2];exact z⟩
   unfold qy at *
   rwa [execOp_put oj k a oi.dst v h1]at A
 .rename_i q
  simp only[q]at h
  exact⟨gq _,by rw[<-Act.put_comm a v undef h2];exact h⟩
def YD{i:Nat}{f:Oper}{a:Array Bool}(hr:i∈Region.ready md ops a)(b:∀e∈f.after,Region.binds md e=true->a.getD e.on false=true):
  ∀e∈f.after,Region.binds md e=true->e.on≠i:=fun e g h c=>by
 have h1:=b e g h
 have j:=(mem_ready.1 hr).1
 rw[c]at h1
 rcases Nat.lt_or_ge i a.size with d|d
 grind
 simp[Array.getElem?_eq_none d]at h1
def SV{loud free:Nat->Bool}{p:Nat->Array Bool}{Q:Act->World->Prop}(E:uc md ops loud free p)(A:∀i,i<ops.size->p i=u7 md ops i){i oi v}(hi:ops[i]?=some oi)(m:loud i=false)(z:∀(j:Nat) (o:Oper) cs b,ops[j]?=some o->o.op≠.select cs b):
  ∀(f:Nat) (c:Array Bool) (a:Act) (w:World),C w->wK ops.size loud p c ->
   (∀j t,ops[j]?=some t->j≠i->c.getD j true=false->(∀e∈t.after,Region.binds md e=true->e.on≠i)->oi.apart ops t=true) ->
   i∈Region.ready md ops c->xL P ops C (sP md ops loud i) w oi v a ->
   yh P md ops C loud free Q f (c.setIfInBounds i true) (a.put oi.dst v) w->yh P md ops C loud free Q (f+1) c a w:=by
 intro f
 induction f with
 |zero =>
  intro c a w _ _ _ hr B H
  refine⟨fun h=>(by rw[h]at hr;cases hr),fun j q=>?_⟩
  by_cases d:j=i
  subst d;exact B.op hi m H
  have:=ready_mono q d
  rw[H.1]at this
  cases this
 |succ f S =>
  intro c a w N I g hr B H
  refine⟨fun h=>(by rw[h]at hr;cases hr),fun j q=>?_⟩
  by_cases d:j=i
  subst d;exact B.op hi m H
  have h1:=H.2 j<|ready_mono q d
  have⟨n,t,r,s⟩:=mem_ready.1 q
  have F:loud j=true->sP md ops loud i=false:=fun K=>by
   cases O:sP md ops loud i with
   |false=>rfl
   |true =>
    have u:=(Array.getElem?_eq_some_iff.1 hi).1
    have D:=(Array.getElem?_eq_some_iff.1 r).1
    have h1:=E.I6 I u m (mem_ready.1 hr).1 q d
    have h2:=List.all_eq_true.1 O j<|List.mem_range.2 D
    rw[K]at h2
    have h3:(u7 md ops i).getD j false=true:=A i u▸h1
    rw[h3]at h2;cases h2
  have h2:=Wa (e:=sP md ops loud i) r (g j t r d n<|YD hr s) (fun cs b=>z i oi cs b hi) Gd F B h1
  have l : ∀ k ok, ops[k]? = some ok -> k ≠ i -> (c.setIfInBounds j true).getD k true = false ->
    (∀e∈ok.after,Region.binds md e=true->e.on≠i)->oi.apart ops ok=true:=fun k ok R G y M=>by
   refine g k ok R G ?_ M
   by_cases x:j=k
   subst x;exact n
   rw[getD_set_ne true x]at y;exact y
  have J:¬(loud j=true/\free j=true):=fun⟨h1,h2⟩=>by
   have:=E.free I q h1 h2 i (Array.getElem?_eq_some_iff.1 hi).1 m;rw[(mem_ready.1 hr).1]at this;cases this
  refine Ti (fun T w' L h3=>S (c.setIfInBounds j true) T w' (L.resolve_right J) (E.step I q) l (ready_mono hr<|Ne.symm d) h3.1 ?_) (fun _=>N) (.inl N) h2
  rw[Array.setIfInBounds_comm _ _ d]
  exact h3.2
def wY(md:Region.Mode)(ops:Array Oper)(loud free:Nat->Bool):Bool:=
 (List.range ops.size).all fun i=>loud i ||(let f:=u7 md ops i
  f.size==ops.size&&(Region.ready md ops f).all (·==i)&&(List.range ops.size).all fun j=>!free j ||!f.getD j false)
def Dl(md:Region.Mode)(ops:Array Oper)(i:Nat):Array Bool:=if i<ops.size then u7 md ops i else Array.replicate ops.size true
def Kh{loud free:Nat->Bool}(h:wY md ops loud free=true):uc md ops loud free (Dl md ops):=by
 have e:∀i,i<ops.size->loud i=false->(u7 md ops i).size=ops.size/\(∀j∈Region.ready md ops (u7 md ops i),j=i)/\∀j,j<ops.size->free j=true->(u7 md ops i).getD j false=false:=fun i hi b=>by
  have:=List.all_eq_true.1 h i<|List.mem_range.2 hi;simp only[b,Bool.false_or,Bool.and_eq_true,beq_iff_eq,List.all_eq_true,List.mem_range,Bool.or_eq_true,Bool.not_eq_true']at this;exact⟨this.1.1,this.1.2,fun j a c=>by rcases this.2 j a with h|h;rw[c]at h;cases h;exact h⟩
 refine⟨fun i b=>?_,fun i b j a=>?_,fun i hi b j a c=>?_⟩;unfold Dl;split;grind;simp;unfold Dl at a;split at a;grind;have⟨f,o,d,_⟩:=mem_ready.1 a;have:=(Array.getElem?_eq_some_iff.1 d).1;simp[this]at f;unfold Dl;rw[if_pos hi];exact(e i hi b).2.2 j a c
def Nc{n m}{loud:Nat->Bool}{a:Nat->Array Bool}:wK n loud a (Array.replicate m false):=fun i _ _ _ k c=>by
 exfalso;rcases Nat.lt_or_ge k m with b|b;simp[b]at c;simp[b]at c
def za(P:Program)(md:Region.Mode)(ops:Array Oper)(C:World->Prop)(loud free:Nat->Bool)(Q:Act->World->Prop):Nat->Array Bool->Act->World->Prop
 |0,b,a,w=>Region.ready md ops b=[]/\Q a w
 |fuel+1,b,a,w =>
  (∃i,i∈Region.ready md ops b/\loud i=false/\Region.free md ops b i=true/\pE md P ops C loud free i (za P md ops C loud free Q fuel<|b.setIfInBounds i true) a w) \/
  ((Region.ready md ops b=[]->Q a w)/\∀i∈Region.ready md ops b,pE md P ops C loud free i (za P md ops C loud free Q fuel<|b.setIfInBounds i true) a w)
def GA{loud free:Nat->Bool}{g:Nat->Array Bool}{Q:Act->World->Prop}(k:uc md ops loud free g)(c:∀i,i<ops.size->g i=u7 md ops i)(hs:Region.noSelect ops=true):∀(fuel:Nat) (b:Array Bool) (a:Act) (w:World),(C w\/xZ loud ops.size b)->wK ops.size loud g b ->
  za P md ops C loud free Q fuel b a w->yh P md ops C loud free Q fuel b a w
 |0,_,_,_,_,_,h=>h
 |fuel+1,b,a,w,r,n,h=>by
  rcases h with⟨i,hr,j,p,h⟩|⟨u,h⟩;have⟨y,o,d,_⟩:=mem_ready.1 hr;have l:C w:=by
   rcases r with h|h;exact h;have:=h i (Array.getElem?_eq_some_iff.1 d).1 j;rw[y]at this;cases this
  have⟨v,x,s⟩:=Ug d j h;exact SV k c d j (Region.noSelect_spec hs) fuel b a w l n (Region.free_spec d p) hr x<|GA k c hs fuel _ _ _ (.inl l) (k.step n hr) s;refine⟨u,fun i hi=>?_⟩;have hh:=h i hi;have e:∀a w,(C w\/xZ loud ops.size (b.setIfInBounds i true))->za P md ops C loud free Q fuel (b.setIfInBounds i true) a w->yh P md ops C loud free Q fuel (b.setIfInBounds i true) a w:=fun a w m h=>GA k c hs fuel _ a w m (k.step n hi) h;have f:C w\/xZ loud ops.size (b.setIfInBounds i true):=r.imp id fun h=>h.set i;unfold pE at hh|-;split;rename_i d;simp only[d]at hh;exact e _ _ f hh;rename_i o d;simp only[d]at hh;split;rename_i q;simp only[q,if_true]at hh;split;rename_i j;simp only[j,if_true]at hh;exact tP hh fun v w' ⟨m,t⟩=>⟨m,e _ _ (m.elim (fun p=>.inr<|(k.free n hi j p).set i) .inl) t⟩;grind;grind
def Re{ro:Option Nat}{m id}{Q:Exit->Act->World->Prop}{a w}(C)(loud free:Nat->Bool)(hm:P.follows .mixedOrders=true)(hs:Region.noSelect ops=true)(d:wY .any ops loud free=true)(c:C { w with drawn:=w.drawn+1 })(h:za P .any ops C loud free (fun b w'=>Q .normal b w') ops.size (Array.replicate ops.size false) a { w with drawn:=w.drawn+1 }):(Code.region id ops true).wpIn (jz ro) m P Q a w:=
 wpIn_region_any hm<|NJ (Q':=Q) (Kh d) (fun _ _ h=>h) _ _ _ _ (.inl c) Nc<|GA (md:=.any) (Q:=fun b w'=>Q .normal b w') (Kh d) (fun i hi=>if_pos hi) hs _ _ _ _ (.inl c) Nc h
end
abbrev bh:=Nat->Value
def rK(ρ:bh)(d:Nat)(v:Value):bh:=fun i=>if i=d then v else ρ i
def put(ρ:bh)(d:Option Nat)(v:Value):bh:=match d with|some d=>rK ρ d v|none=>ρ
def bw(ρ:bh):Operand->Value
 |.tmp t=>ρ t
 |.const v=>v
 |.global g=>.pointer<|some ⟨g,0,none⟩
 |.func f=>.func (.func f) #[] #[]
def xD(l:List Value):bh:=fun i=>l.getD i undef
structure gn(ds:List Deferred)(n:Nat)(ρ:bh)(a:Act):Prop where
 defers:a.defers=ds
 size:a.tmps.size=n
 get:∀t,a.tmps.getD t undef=ρ t
def gn.eval{ds:List Deferred}{n ρ a}(h:gn ds n ρ a):a.eval=bw ρ:=by
 funext x;cases x with
 |tmp t=>exact h.get t
 |_=>rfl
def gn.put{ds:List Deferred}{n ρ a}(h:gn ds n ρ a){d:Option Nat}(b:∀k,d=some k->k<n)(v):gn ds n (SE.put ρ d v) (a.put d v):=by
 cases d with
 |none=>exact h
 |some k =>
  refine⟨h.defers,by simp[Act.put,h.size],fun t=>?_⟩
  have c:=b k rfl
  simp only[Act.put,SE.put,rK]
  by_cases ht:t=k
  subst ht;simp[h.size,c]
  rw[if_neg ht,<-h.get t];simp[Array.getElem?_setIfInBounds_ne<|Ne.symm ht]
def zJ(ops:Array Oper)(ρ:bh)(j:Nat):Option Bool:=
 match(ops[j]?).bind (·.dst)with
 |some d=>match ρ d with|.bool b=>some b|_=>none
 |none=>none
def gn.yielded{ds:List Deferred}{n ρ a}(h:gn ds n ρ a)(ops):yielded ops a.tmps=zJ ops ρ:=by
 funext j;unfold Go.yielded zJ;cases(ops[j]?).bind (·.dst)with
 |none=>rfl
 |some d =>
  simp only[Option.bind_some]
  have:=h.get d
  rw[Array.getD_eq_getD_getElem?]at this
  cases b:a.tmps[d]? with
  |none=>rw[b]at this;simp only[Option.getD_none]at this;rw[<-this];rfl
  |some v=>rw[b]at this;simp only[Option.getD_some]at this;rw[<-this];cases v<;>rfl
def mark(D:Nat):Deferred:={ target:=.collected D,args:=#[] }
structure Cx where
 ro:Option Nat
 ds:List Deferred
def rM(x:Cx)(n:Nat)(Q:Exit->bh->World->Prop):Exit->Act->World->Prop:=fun e a w =>
 ∃ρ,(gn x.ds n ρ a/\Q e ρ w)\/(e=.ret/\x.ro=none/\x.ds=[]/\∃D,gn [mark D] n ρ a/\w.heap[D]?=some (.deferred<|some [])/\Q .ret ρ (w.putObj D<|.deferred none))
def dv{x:Cx}(P:Program)(n:Nat)(c:Code)(Q:Exit->bh->World->Prop)(ρ:bh)(w:World):Prop:=∀a,gn x.ds n ρ a->c.wpIn (jz x.ro) 0 P (rM x n Q) a w
def pM(next:bh->World->Prop)(Q:Exit->bh->World->Prop):Exit->bh->World->Prop
 |.normal,ρ,w=>next ρ w
 |e,ρ,w=>Q e ρ w
def tc(id:Nat)(Q:Exit->bh->World->Prop):Exit->bh->World->Prop
 |.exit a,ρ,w=>if a=id then Q .normal ρ w else Q (.exit a) ρ w
 |e,ρ,w=>Q e ρ w
section
variable {x:Cx} {P:Program} {n:Nat} {Q:Exit->bh->World->Prop} {ρ:bh} {w:World}
def zAH{Q'}(b:∀e ρ w,Q e ρ w->Q' e ρ w){e a}(h:rM x n Q e a w):rM x n Q' e a w:=by
 obtain⟨ρ,⟨h1,h2⟩|⟨h1,h2,h3,D,f,c,d⟩⟩:=h;exact⟨ρ,.inl ⟨h1,b _ _ _ h2⟩⟩;exact⟨ρ,.inr ⟨h1,h2,h3,D,f,c,b _ _ _ d⟩⟩
def HX{a}(h:rM x n Q .normal a w):∃ρ,gn x.ds n ρ a/\Q .normal ρ w:=by
 obtain⟨ρ,h|⟨h,_⟩⟩:=h;exact⟨ρ,h⟩;cases h
def Aq{c Q'}(b:∀e ρ w,Q e ρ w->Q' e ρ w)(h:dv (x:=x) P n c Q ρ w):dv (x:=x) P n c Q' ρ w:=
 fun a d=>wpIn_mono (h a d) fun _ _ _ h=>zAH b h
def zY(h:Q .normal ρ w):dv (x:=x) P n .skip Q ρ w:=fun _ a=>wpIn_skip ⟨ρ,.inl ⟨a,h⟩⟩
def Fv(h:Q .ret ρ w):dv (x:=x) P n .ret Q ρ w:=fun _ a=>wpIn_ret ⟨ρ,.inl ⟨a,h⟩⟩
def tQ{id}(h:Q (.exit id) ρ w):dv (x:=x) P n (.exit id) Q ρ w:=fun _ a=>wpIn_exit ⟨ρ,.inl ⟨a,h⟩⟩
def Gx{l}(h:Q .normal ρ w):dv (x:=x) P n (.label l) Q ρ w:=fun _ a=>wpIn_label ⟨ρ,.inl ⟨a,h⟩⟩
def zK{c y}(h:dv (x:=x) P n c (pM (fun ρ w=>dv (x:=x) P n y Q ρ w) Q) ρ w):dv (x:=x) P n (.seq c y) Q ρ w:=fun a f =>
 wpIn_seq (wpIn_mono (h a f) (fun e a w b=>by
  cases e with
  |normal=>have⟨g,hr,d⟩:=HX b;exact d a hr
  |_=>exact b))
def HU{c y}(J)(b:∀ρ w,J ρ w->dv (x:=x) P n y Q ρ w)(h:dv (x:=x) P n c (pM J Q) ρ w):dv (x:=x) P n (.seq c y) Q ρ w:=
 zK<|Aq (fun e ρ w a=>by cases e<;>first|exact b _ _ a|exact a) h
def Ak{c y z t}(e:bw ρ c=.bool t)(ht:t=true->dv (x:=x) P n y Q ρ w)(d:t=false->dv (x:=x) P n z Q ρ w):dv (x:=x) P n (.cond c y z) Q ρ w:=
 fun a b=>wpIn_cond_split (by rw[b.eval];exact e) (fun h=>ht h a b) fun h=>d h a b
def Zn{c y z}(d:bw ρ c=.bool true)(h:dv (x:=x) P n y Q ρ w):dv (x:=x) P n (.cond c y z) Q ρ w:=
 fun a b=>wpIn_cond_true (by rw[b.eval];exact d) (h a b)
def Vx{c y z}(d:bw ρ c=.bool false)(h:dv (x:=x) P n z Q ρ w):dv (x:=x) P n (.cond c y z) Q ρ w:=
 fun a b=>wpIn_cond_false (by rw[b.eval];exact d) (h a b)
def vN{id c}(h:dv (x:=x) P n c (tc id Q) ρ w):dv (x:=x) P n (.block id c) Q ρ w:=fun a i =>
 wpIn_block (wpIn_mono (h a i) (fun e a w f=>by
  cases e with
  |exit g =>
   obtain⟨d,⟨hr,b⟩|⟨h,_⟩⟩:=f
   simp only[tc]at b
   simp only[Exit.inBlock]
   split
   rename_i h;rw[if_pos h]at b;exact⟨d,.inl ⟨hr,b⟩⟩
   rename_i h;rw[if_neg h]at b;exact⟨d,.inl ⟨hr,b⟩⟩
   cases h
  |_=>exact f))
def Gc{c}(f:x.ro=none)(j:∀l ρ w,¬Q (.goto l) ρ w)(h:dv (x:=x) P n c Q ρ w):dv (x:=x) P n (.scope c) Q ρ w:=fun a g=>by
 have h:=h a g;rw[f]at h|-;refine wpIn_wide.2<|wp_scope_straight<|Code.wp_mono (fun e a w b=>?_)<|wpIn_wide.1 h;cases e with
 |goto l =>
  obtain⟨d,⟨_,i⟩|⟨h,_⟩⟩:=b
  exact(j l d w i).elim
  cases h
 |_=>exact b
def wN{c}{σ:Type}(I:σ->bh->World->Prop)(μ:σ->Nat)(s0:σ)(B:I s0 ρ w)(h:∀s ρ w,I s ρ w->dv (x:=x) P n c (pM (fun F w'=>∃s',I s' F w'/\μ s'<μ s) Q) ρ w):dv (x:=x) P n (.loop c) Q ρ w:=by
 intro a C b k cs v q f;have key:∀m s ρ a w,μ s=m->gn x.ds n ρ a->I s ρ w->∃e o w',rM x n Q e o w'/\ArrivesIn (Machine.fenced P<|jz x.ro) P (lone (b.atR a (.code c ::.inLoop c ::k)) cs w) b k cs e o w':=by
  intro m;induction m using Nat.strongRecOn with
  |_ m z =>
   intro s ρ a w hm hr D
   have⟨e,a1,j,i,d⟩:=h s ρ w D a hr b (.inLoop c ::k) cs v q f
   cases e with
   |normal =>
    have⟨A,r,s',p,u⟩:=HX i
    have⟨E,a2,G,t,g⟩:=z (μ s') (hm▸u) s' A a1 j rfl r p
    exact⟨E,a2,G,t,.of_steps (StepsIn.trans d<|.one (fenced_calm q f rfl) stepR_inLoop) g⟩
   |exit id=>exact⟨_,a1,j,i,.pass (x:=.inLoop c) rfl (fun _ _=>.inl Sm) d⟩
   |goto l=>exact⟨_,a1,j,i,.pass (x:=.inLoop c) rfl (fun _ _=>.inl Sm) d⟩
   |ret=>exact⟨_,a1,j,i,.pass (x:=.inLoop c) rfl (fun _ _=>.inl Sm) d⟩
   |panic H=>exact⟨_,a1,j,i,.pass (x:=.inLoop c) rfl (fun _ _=>.inl Sm) d⟩
   |outgrown=>exact⟨_,a1,j,i,.pass (x:=.inLoop c) rfl (fun _ _=>.inl Sm) d⟩
 have⟨e,o,w',y,d⟩:=key _ s0 ρ a w rfl C B;exact⟨e,o,w',y,.of_steps (.one (fenced_calm q f rfl) stepR_loop) d⟩
def bu(P:Program)(ops:Array Oper)(Q:bh->World->Prop):List Oper->bh->World->Prop
 |[],ρ,w=>Q ρ w
 |o :: a,ρ,w =>
  if Region.wanted o (zJ ops ρ)then nj P o (bw ρ) w fun v w'=>bu P ops Q a (put ρ o.dst v) w'
  else bu P ops Q a (put ρ o.dst undef) w
def tN(n:Nat)(l:List Oper):Bool:=l.all fun o=>match o.dst with|some d=>d<n|none=>true
def Nh{o l}(h:tN n (o ::l)=true):(∀k,o.dst=some k->k<n)/\tN n l=true:=by
 simp only[tN,List.all_cons,Bool.and_eq_true]at h;refine⟨fun k a=>?_,h.2⟩;have:=h.1;rw[a]at this;simpa using this
def Ij{ops Q'}(c:∀ρ a w,gn x.ds n ρ a->Q' ρ w->rM x n Q .normal a w):∀(l:List Oper) (ρ:bh) (a:Act) (w:World),tN n l=true->gn x.ds n ρ a->bu P ops Q' l ρ w->wpListIn (jz x.ro) 0 P ops (rM x n Q) l a w
 |[],ρ,a,w,_,hr,h=>c _ _ _ hr h
 |o :: l,ρ,a,w,g,hr,h=>by
  have⟨e,b⟩:=Nh g;unfold bu at h;unfold wpListIn;rw[hr.yielded];split;rename_i d;rw[if_pos d]at h;apply My;rw[hr.eval];exact tP h fun v w' hh=>Ij c l _ _ _ b (hr.put e v) hh;rename_i d;rw[if_neg d]at h;exact⟨fun f _=>Ce x.ro f,Ij c l _ _ _ b (hr.put e undef) h⟩
def OE{id l}(c:tN n l=true)(h:bu P l.toArray (fun ρ w=>Q .normal ρ w) l ρ w):dv (x:=x) P n (.region id l.toArray false) Q ρ w:=fun a e =>
 wpIn_region_lit<|Ij (fun b _ _ hr d=>⟨b,.inl ⟨hr,d⟩⟩) l ρ a w c e h
def fg(P:Program)(ops:Array Oper)(C:World->Prop)(loud free:Nat->Bool)(i:Nat)(K:bh->World->Prop)(ρ:bh)(w:World):Prop:=
 match ops[i]? with
 |none=>K ρ w
 |some o =>
  if Region.wanted o (zJ ops ρ)then
   (if loud i then nj P o (bw ρ) w fun v w'=>(free i=true\/C w')/\K (put ρ o.dst v) w'
   else ∃v,((sP .any ops loud i=true/\qy P o (bw ρ) w v)\/∀w',C w'->qy P o (bw ρ) w' v)/\K (put ρ o.dst v) w)
  else K (put ρ o.dst undef) w
def fw(P:Program)(ops:Array Oper)(C:World->Prop)(loud free:Nat->Bool)(Q:bh->World->Prop):Nat->Array Bool->bh->World->Prop
 |0,a,ρ,w=>Region.ready .any ops a=[]/\Q ρ w
 |fuel+1,a,ρ,w =>
  (∃i,i∈Region.ready .any ops a/\loud i=false/\Region.free .any ops a i=true/\fg P ops C loud free i (fw P ops C loud free Q fuel<|a.setIfInBounds i true) ρ w) \/
  ((Region.ready .any ops a=[]->Q ρ w)/\∀i∈Region.ready .any ops a,fg P ops C loud free i (fw P ops C loud free Q fuel<|a.setIfInBounds i true) ρ w)
def Kd{ds:List Deferred}{ops:Array Oper}{C:World->Prop}{loud free:Nat->Bool}{i:Nat}{K:bh->World->Prop}{g:Act->World->Prop}(b:∀ρ a w,gn ds n ρ a->K ρ w->g a w)(j:∀o,ops[i]?=some o->∀k,o.dst=some k->k<n){a:Act}(hr:gn ds n ρ a)(h:fg P ops C loud free i K ρ w):pE .any P ops C loud free i g a w:=by
 unfold fg at h;unfold pE;cases c:ops[i]? with
 |none=>rw[c]at h;exact b _ _ _ hr h
 |some o =>
  rw[c]at h
  have e:=j o c
  simp only at h|-
  rw[hr.yielded]
  split
  rename_i f
  rw[if_pos f]at h
  rw[hr.eval]
  split
  rename_i d
  rw[if_pos d]at h
  exact tP h fun v w' ⟨l,hh⟩=>⟨l,b _ _ _ (hr.put e v) hh⟩
  rename_i d
  rw[if_neg d]at h
  have⟨v,h1,h2⟩:=h
  exact⟨v,h1,b _ _ _ (hr.put e v) h2⟩
  rename_i f
  rw[if_neg f]at h
  exact b _ _ _ (hr.put e undef) h
def G0{ds:List Deferred}{ops C}{loud free:Nat->Bool}{Q'}{c:Act->World->Prop}(f:∀ρ a w,gn ds n ρ a->Q' ρ w->c a w)(d:∀(i:Nat) (o:Oper),ops[i]?=some o->∀k,o.dst=some k->k<n):∀(fuel:Nat) (b:Array Bool) (ρ:bh) (a:Act) (w:World),gn ds n ρ a->fw P ops C loud free Q' fuel b ρ w->za P .any ops C loud free c fuel b a w
 |0,_,_,_,_,hr,h=>⟨h.1,f _ _ _ hr h.2⟩
 |fuel+1,b,ρ,a,w,hr,h=>by
  rcases h with⟨i,h1,h2,h3,j⟩|⟨g,h⟩;exact .inl ⟨i,h1,h2,h3,Kd (fun ρ a w hr h=>G0 f d fuel _ ρ a w hr h) (d i) hr j⟩;exact .inr ⟨fun e=>f _ _ _ hr<|g e,fun i hi=>Kd (fun ρ a w hr h=>G0 f d fuel _ ρ a w hr h) (d i) hr<|h i hi⟩
def vX(l:List Nat)(k:Nat):Bool:=l.contains k
def QH{l}(h:tN n l=true)(i:Nat)(o)(b:l.toArray[i]?=some o)(k:Nat)(a:o.dst=some k):k<n:=by
 have hm:o∈l:=Gd;have:=(List.all_eq_true.1 h) o hm;rw[a]at this;simpa using this
def HG{id l}(C loud free)(hm:P.follows .mixedOrders=true)(c:tN n l=true)(hB:Region.noSelect l.toArray=true)(e:wY .any l.toArray (vX loud) (vX free)=true)(d:C { w with drawn:=w.drawn+1 })(h:fw P l.toArray C (vX loud) (vX free) (fun ρ w=>Q .normal ρ w) l.toArray.size (Array.replicate l.toArray.size false) ρ { w with drawn:=w.drawn+1 }):dv (x:=x) P n (.region id l.toArray true) Q ρ w:=fun a f =>
 Re C (vX loud) (vX free) hm hB e d<|G0 (fun b _ _ hr g=>⟨b,.inl ⟨hr,g⟩⟩) (QH c) _ _ ρ a _ f h
def re(P:Program)(fn:Func)(n:Nat)(R:Ending->World->Prop):Exit->bh->World->Prop
 |.normal,ρ,w|.ret,ρ,w=>∃v,(∀ds a,gn ds n ρ a->(results fn a.tmps).run P w=.ok v w)/\R (.returned v) w
 |_,_,_=>False
def Eo{n}(args)(a:args.length<=n):gn [] n (xD args) { tmps:=args.toArray++Array.replicate (n-args.toArray.size) undef,defers:=[] }:=by
 refine⟨rfl,So,fun t=>?_⟩;simp only[xD,Array.getD_eq_getD_getElem?,List.getD_eq_getElem?_getD];by_cases h:t<args.length;rw[Array.getElem?_append_left<|by simpa using h];simp;rw[Array.getElem?_append_right<|by simpa using h];simp only[Array.getElem?_replicate];have:args[t]?=none:=by simpa using h
 rw[this];split<;>simp
def tW{fn tmps R v}(a:(results fn tmps).run P w=.ok v w)(b:R (.returned v) w):LeavesInM Fence.wide 0 P fn tmps R [] .returning w:=by
 exact⟨_,a,b⟩
def H0{f fn c args R}(m:P.funcs[f]?=some fn)(k:fn.body=some c)(l:fn.ntmps=n)(j:args.length<=n)(h:dv (x:=⟨none,[]⟩) P n c (re P fn n R) (xD args) w):Calls P f args.toArray w R:=by
 subst l;refine callsIn_wide.1<|callsIn_of_wp_marks (n:=0) m k trivial ?_;refine wpIn_mono (h _<|Eo args j) ?_;rintro e a w' ⟨p,⟨hr,b⟩|⟨rfl,_,_,D,hr,o,b⟩⟩;have i:a.defers=[]:=hr.defers;cases e with
 |normal=>have⟨v,g,d⟩:=b;simp only[bodyPostM,i];exact tW (g _ a hr) d
 |ret=>have⟨v,g,d⟩:=b;simp only[bodyPostM,i];exact tW (g _ a hr) d
 |exit _=>exact b.elim
 |goto _=>exact b.elim
 |panic _=>exact b.elim
 |outgrown=>exact b.elim
 have⟨v,g,d⟩:=b;have i:a.defers=[mark D]:=hr.defers;simp only[bodyPostM,i];exact⟨Sm,.inl ⟨D,_,rfl,run_takeDeferred o,tW (g _ a hr) d⟩⟩
def QI{fn t v R e}(b:e=.ret\/e=.normal)(hr:fn.results=#[.tmp t])(c:ρ t=v)(h:R (.returned v) w):re P fn n R e ρ w:=by
 rcases b with rfl|rfl<;>exact⟨v,fun _ a d=>by rw[results_tmp hr,d.get,c],h⟩
def wo{fn R e}(b:e=.ret\/e=.normal)(hr:fn.results=#[])(h:R (.returned<|.tuple #[]) w):re P fn n R e ρ w:=by
 rcases b with rfl|rfl<;>exact⟨_,fun _ a _=>by rw[results_none hr],h⟩
def HT{fn t u v v' R e}(d:e=.ret\/e=.normal)(hr:fn.results=#[.tmp t,.tmp u])(f:ρ t=v)(b:ρ u=v')(h:R (.returned<|.tuple #[v,v']) w):re P fn n R e ρ w:=by
 rcases d with rfl|rfl<;>exact⟨_,fun _ a c=>by rw[results_tmp2 hr,c.get,c.get,f,b],h⟩
def jOV{fn}{ts:List Nat}(hr:fn.results=(ts.map ResultVar.tmp).toArray)(tmps)(a:ts.length≠1):(results fn tmps).run P w=.ok (.tuple (ts.map fun t=>tmps.getD t undef).toArray) w:=by
 have key:∀(f:ResultVar->Sem Value),(∀t,f (.tmp t)=pure (tmps.getD t undef))->∀(l:List Nat) (w:World),((l.map ResultVar.tmp).mapM f).run P w=.ok (l.map fun t=>tmps.getD t undef) w:=by
  intro f c l;induction l with
  |nil=>intro w;rfl
  |cons t l b=>intro w;rw[List.map_cons,List.mapM_cons,c];simp only[Sem.run_bind,Sem.run_pure,Result.andThen,b w,List.map_cons]
 unfold results;rw[hr,List.mapM_toArray];rw[Sem.run_bind,Sem.run_map,key _ fun _=>rfl];simp only[Result.andThen,Sem.run_pure];simp[a]
def Cr{fn}{t u s:Nat}{v v' v'' R e}(d:e=.ret\/e=.normal)(hr:fn.results=#[.tmp t,.tmp u,.tmp s])(g:ρ t=v)(c:ρ u=v')(b:ρ s=v'')(h:R (.returned<|.tuple #[v,v',v'']) w):re P fn n R e ρ w:=by
 rcases d with rfl|rfl<;>exact⟨_,fun _ a f=>by rw[jOV (ts:=[t,u,s]) hr _ Sm];simp only[List.map_cons,List.map_nil,f.get,g,c,b],h⟩
end
end Go.SE
end
section
namespace Go.SE
structure Sl where
 a:Option Addr
 len:Nat
 cap:Nat
def Sl.v(s:Sl):Value:=.slice s.a s.len s.cap
def Sl.nil:Sl:=⟨none,0,0⟩
def Br(c:Bool)(A B:Prop):Prop:=(c=true->A)/\(c=false->B)
def Row(w:World)(a:Addr)(vs:List Value):Prop:=∀i,i<vs.length->w.cell? (a.add i)=vs[i]?
def zL(w:World)(a:Addr):Prop:=(∃u,w.cell? a=some u)/\w.frozen? a=false
def pO(w:World)(a:Addr):Nat->List Value->World
 |_,[]=>w
 |i,v :: vs=>pO (w.setCell (a.add i) v) a (i+1) vs
def bd(w:World)(a:Addr)(vs:List Value):World:=pO w a 0 vs
def vJ:Value->Bool
 |.agg _|.tuple _=>false
 |_=>true
section layers
variable {next:bh->World->Prop} {Q:Exit->bh->World->Prop} {ρ:bh} {w:World} {id id':Nat}
def uH(h:next ρ w):pM next Q .normal ρ w:=h
def ry(h:Q (.exit id) ρ w):pM next Q (.exit id) ρ w:=h
def l0(h:Q .ret ρ w):pM next Q .ret ρ w:=h
def pQ(h:Q .normal ρ w):tc id Q .normal ρ w:=h
def rF(h:Q .ret ρ w):tc id Q .ret ρ w:=h
def vn(h:Q .normal ρ w):tc id Q (.exit id) ρ w:=by simpa[tc]using h
def PQ(a:(id'==id)=false)(h:Q (.exit id') ρ w):tc id Q (.exit id') ρ w:=by
 have:¬id'=id:=by simpa using a
 simpa[tc,this]using h
end layers
section
variable {P:Program} {ops:Array Oper} {Q:bh->World->Prop} {ρ:bh} {w w':World} {rest:List Oper} {o:Oper} {v:Value}
def vI(h:Q ρ w):bu P ops Q [] ρ w:=h
def yE{j d:Nat}{c t:Bool}(b:(ops[j]?).bind (·.dst)=some d)(a:ρ d=.bool c)(e:c=t):zJ ops ρ j=some t:=by
 unfold zJ;rw[b];simp only[a,e]
def qE{y:Nat->Option Bool}(a:o.guard=none):Region.wanted o y=true:=by simp[Region.wanted,a]
def ID{y:Nat->Option Bool}{j t}(a:o.guard=some (j,t))(b:y j=some t):Region.wanted o y=true:=by simp[Region.wanted,a,b]
def Jw{y:Nat->Option Bool}{j t u}(b:o.guard=some (j,t))(c:y j=some u)(a:(u==t)=false):Region.wanted o y=false:=by
 have:¬u=t:=by simpa using a
 simp[Region.wanted,b,c,this]
def st(a:Region.wanted o (zJ ops ρ)=true)(hr:(execOp (bw ρ) o).run P w=.ok (.value v) w')(h:bu P ops Q rest (put ρ o.dst v) w'):bu P ops Q (o ::rest) ρ w:=by
 unfold bu;rw[if_pos a];unfold nj;rw[hr];exact h
def ff(a:Region.wanted o (zJ ops ρ)=true)(hr:(execOp (bw ρ) o).run P w=.ok (.value v) w)(h:bu P ops Q rest (put ρ o.dst v) w):bu P ops Q (o ::rest) ρ w:=st a hr h
def wj(a:Region.wanted o (zJ ops ρ)=true)(hr:(execOp (bw ρ) o).run P w=.ok .skip w')(h:bu P ops Q rest (put ρ o.dst undef) w'):bu P ops Q (o ::rest) ρ w:=by
 unfold bu;rw[if_pos a];unfold nj;rw[hr];exact h
def Em(a:Region.wanted o (zJ ops ρ)=false)(h:bu P ops Q rest (put ρ o.dst undef) w):bu P ops Q (o ::rest) ρ w:=by
 unfold bu;rw[if_neg (by rw[a];simp)];exact h
def G2{f args}(b:Region.wanted o (zJ ops ρ)=true)(hr:(execOp (bw ρ) o).run P w=.ok (.enter f args) w')(h:Calls P f args w' fun e a=>∃v,e=.returned v/\bu P ops Q rest (put ρ o.dst v) a):bu P ops Q (o ::rest) ρ w:=by
 unfold bu;rw[if_pos b];unfold nj;rw[hr];exact h
variable {C:World->Prop} {loud free:Nat->Bool} {k fuel:Nat} {listed:Array Bool}
def PT(a:Region.ready .any ops listed=[])(h:Q ρ w):fw P ops C loud free Q 0 listed ρ w:=⟨a,h⟩
def zu(ops:Array Oper)(listed:Array Bool)(loud:Nat->Bool)(k:Nat):Bool:=(Region.ready .any ops listed).contains k&&!loud k&&Region.free .any ops listed k
def Fi(a:zu ops listed loud k=true)(h:fg P ops C loud free k (fw P ops C loud free Q fuel<|listed.setIfInBounds k true) ρ w):fw P ops C loud free Q (fuel+1) listed ρ w:=by
 simp only[zu,Bool.and_eq_true,Bool.not_eq_true']at a;exact .inl ⟨k,by simpa using a.1.1,a.1.2,a.2,h⟩
def PC(hr:Region.ready .any ops listed=[k])(h:fg P ops C loud free k (fw P ops C loud free Q fuel<|listed.setIfInBounds k true) ρ w):fw P ops C loud free Q (fuel+1) listed ρ w:=
 .inr ⟨Gd,fun i hi=>by rw[hr]at hi;simp at hi;subst hi;exact h⟩
variable {K:bh->World->Prop}
def sx(c:ops[k]?=some o)(a:Region.wanted o (zJ ops ρ)=true)(d:loud k=false)(hr:∀w',C w'->(execOp (bw ρ) o).run P w'=.ok (.value v) w')(h:K (put ρ o.dst v) w):fg P ops C loud free k K ρ w:=by
 unfold fg;rw[c];simp only;rw[if_pos a,if_neg (by rw[d];simp)];exact⟨v,.inr fun w' b=>by unfold qy;rw[hr w' b];exact⟨rfl,rfl⟩,h⟩
def P7(c:ops[k]?=some o)(b:Region.wanted o (zJ ops ρ)=true)(d:loud k=false)(a:sP .any ops loud k=true)(hr:(execOp (bw ρ) o).run P w=.ok (.value v) w)(h:K (put ρ o.dst v) w):fg P ops C loud free k K ρ w:=by
 unfold fg;rw[c];simp only;rw[if_pos b,if_neg (by rw[d];simp)];exact⟨v,.inl ⟨a,by unfold qy;rw[hr];exact⟨rfl,rfl⟩⟩,h⟩
def jao(a:ops[k]?=some o)(b:Region.wanted o (zJ ops ρ)=false)(h:K (put ρ o.dst undef) w):fg P ops C loud free k K ρ w:=by
 unfold fg;rw[a];simp only;rw[if_neg (by rw[b];simp)];exact h
def sl(c:ops[k]?=some o)(a:Region.wanted o (zJ ops ρ)=true)(d:loud k=true)(hr:(execOp (bw ρ) o).run P w=.ok (.value v) w')(b:free k=true\/C w')(h:K (put ρ o.dst v) w'):fg P ops C loud free k K ρ w:=by
 unfold fg;rw[c];simp only;rw[if_pos a,if_pos d];unfold nj;rw[hr];exact⟨b,h⟩
def Oy(c:ops[k]?=some o)(a:Region.wanted o (zJ ops ρ)=true)(d:loud k=true)(hr:(execOp (bw ρ) o).run P w=.ok .skip w')(b:free k=true\/C w')(h:K (put ρ o.dst undef) w'):fg P ops C loud free k K ρ w:=by
 unfold fg;rw[c];simp only;rw[if_pos a,if_pos d];unfold nj;rw[hr];exact⟨b,h⟩
def zHQ{f args}(c:ops[k]?=some o)(b:Region.wanted o (zJ ops ρ)=true)(d:loud k=true)(hr:(execOp (bw ρ) o).run P w=.ok (.enter f args) w')(h:Calls P f args w' fun e a=>∃v,e=.returned v/\(free k=true\/C a)/\K (put ρ o.dst v) a):fg P ops C loud free k K ρ w:=by
 unfold fg;rw[c];simp only;rw[if_pos b,if_pos d];unfold nj;rw[hr];exact h
end
section
variable {P:Program} {ε:Operand->Value} {w w':World} {d:Option Tmp} {ty:TypeId} {pos:String} {aft:Array Edge} {g:Option (Nat×Bool)}
def OJ{o}{s:Sem Value}{v}(a:execOp ε o=(do pure (.value (<-s))))(hs:s.run P w=.ok v w'):(execOp ε o).run P w=.ok (.value v) w':=by
 rw[a];simp[hs]
def WW{o}{s:Sem Unit}(a:execOp ε o=(do s;pure .skip))(hs:s.run P w=.ok () w'):(execOp ε o).run P w=.ok .skip w':=by
 rw[a];simp[hs]
def tA{T x a v}(c:ε x=.pointer (some a))(b:(isAgg T).run P w=.ok false w)(e:w.cell? a=some v):
  (execOp ε ⟨d,.load T x,ty,pos,aft,g⟩).run P w=.ok (.value v) w:=by
 simp[execOp,Instr.loadAt,Instr.sureAddr,c,loadVar,b,e]
def JD(a:Addr)(vs:List Value):∀(n i:Nat) (b:Array Value),i+n=vs.length->(∀j,i<=j->j<vs.length->w.cell? (a.add j)=vs[j]?)->(loadCellsFrom a i n b).run P w=.ok (b++(vs.drop i).toArray) w:=by
 intro n;induction n with
 | zero => intro i b hi _; have : vs.drop i = []:=by simp; omega
           simp[loadCellsFrom,this]
 |succ n e =>
  intro i b hi h
  have c:i<vs.length:=Om
  have d:=h i (Nat.le_refl _) c
  rw[List.getElem?_eq_getElem c]at d
  have:=e (i+1) (b.push vs[i]) Om Gd
  simp only[loadCellsFrom,Sem.run_bind,run_load,d,Result.andThen_ok,this]
  rw[List.drop_eq_getElem_cons c]
  congr 1
  apply Array.ext'
  simp
def IK{T x a}{n:Nat}{vs}(c:ε x=.pointer (some a))(f:(isAgg T).run P w=.ok true w)(hs:(sizeOf T).run P w=.ok n w)(h:vs.length=n)(b:Row w a vs):
  (execOp ε ⟨d,.load T x,ty,pos,aft,g⟩).run P w=.ok (.value<|.agg vs.toArray) w:=by
 have:=JD (P:=P) (w:=w) a vs n 0 #[] Om fun j _ e=>b j e
 simp[execOp,Instr.loadAt,Instr.sureAddr,c,loadVar,f,hs,loadCells,this]
def PV{a v}(h1:vJ v=true)(d:zL w a):(store a v).run P w=.ok () (w.setCell a v):=by
 have⟨⟨u,c⟩,b⟩:=d;cases v<;>simp[vJ]at h1<;>simp[store,Sem.run,c,b]
def uf{T x y a v}(f:ε x=.pointer (some a))(h:ε y=v)(h1:vJ v=true)(hs:(sizeOf T).run P w=.ok 1 w)(e:zL w a):
  (execOp ε ⟨d,.store T x y,ty,pos,aft,g⟩).run P w=.ok .skip (w.setCell a v):=by
 have b:v.cells=#[v]:=by cases v<;>simp[vJ]at h1<;>rfl
 have c:a.add 0=a:=by simp[Addr.add]
 simp[execOp,Instr.storeAt,Instr.sureAddr,f,h,storeVar,hs,b,storeCells,c,PV h1 e]
def cell?Vt{w:World}{p q:Addr}{x v:Value}(h:w.cell? q=some v):∃v',(w.setCell p x).cell? q=some v':=by
 unfold World.cell? at h|-;unfold World.setCell;simp only[Array.getElem?_modify];by_cases b:p.block=q.block;rw[if_pos b];split at h;rename_i c e f g;rw[g];by_cases hs:q.spot.isSome;simp[hs]at h;simp only[hs,Bool.false_eq_true,if_false]at h;simp only[Option.map_some,hs,Bool.false_eq_true,if_false];by_cases a:p.spot.isSome;grind;simp only[a,Bool.false_eq_true,if_false,Array.getElem?_setIfInBounds];have d:=(Array.getElem?_eq_some_iff.1 h).1;split;grind;exact⟨v,h⟩;cases h;grind
def zL.setCell{w a b u}(h:zL w a):zL (w.setCell b u) a:=
 ⟨let ⟨_,hx⟩:=h.1;cell?Vt hx,by rw[World.frozen?_setCell];exact h.2⟩
def Mw(a):∀(vs:List Value) (i:Nat) (w:World),(∀v∈vs,vJ v=true)->(∀j,j<vs.length->zL w (a.add<|i+j))->(storeCells a vs i).run P w=.ok () (pO w a i vs):=by
 intro vs;induction vs with
 |nil=>intro i w _ _;rfl
 |cons v vs d =>
  intro i w h1 c
  have e:zL w (a.add i):=by simpa using c 0 Sm
  have hr:=PV (P:=P) (h1 v Sm) e
  have:=d (i+1) (w.setCell (a.add i) v) Gd (fun j f=>by
   have:=(c (j+1)<|by simpa using f).setCell (b:=a.add i) (u:=v);rwa [show i+(j+1)=i+1+j by omega]at this)
  simp[storeCells,hr,this,pO]
def BC{T x y a n vs}(c:ε x=.pointer (some a))(e:ε y=.agg vs.toArray)(h1:vs.all vJ=true)(hs:(sizeOf T).run P w=.ok n w)(b:vs.length=n)(f:∀j,j<vs.length->zL w (a.add j)):
  (execOp ε ⟨d,.store T x y,ty,pos,aft,g⟩).run P w=.ok .skip (bd w a vs):=by
 have:=Mw (P:=P) a vs 0 w (by simpa using h1) (by simpa using f)
 simp[execOp,Instr.storeAt,Instr.sureAddr,c,e,storeVar,hs,Value.cells,b,this,bd]
def uI{T z cs}(a:(zeroValue T).run P w=.ok z w)(b:z.cells=cs):
  (execOp ε ⟨d,.alloc T,ty,pos,aft,g⟩).run P w=.ok (.value<|.pointer<|some ⟨w.heap.size,0,none⟩) (w.alloc<|.cells cs T):=by
 subst b
 simp[execOp,Instr.alloc,a,newVar,newRow]
def IT{T x cs}(a:(ε x).cells=cs):
  (execOp ε ⟨d,.box T x,ty,pos,aft,g⟩).run P w=.ok (.value<|.pointer<|some ⟨w.heap.size,0,none⟩) (w.alloc<|.cells cs T):=by
 subst a
 simp[execOp,Instr.box,newVar,newRow]
def Qs{c x y b v}(f:ε c=.bool b)(a:b=true)(e:ε x=v):(execOp ε ⟨d,.pick c x y,ty,pos,aft,g⟩).run P w=.ok (.value v) w:=by
 simp[execOp,f,a,e,asBool]
def KG{c x y b v}(f:ε c=.bool b)(a:b=false)(e:ε y=v):(execOp ε ⟨d,.pick c x y,ty,pos,aft,g⟩).run P w=.ok (.value v) w:=by
 simp[execOp,f,a,e,asBool]
def F7{x p a}(c:ε x=.pointer p)(b:p=some a):(execOp ε ⟨d,.nilCheck x,ty,pos,aft,g⟩).run P w=.ok (.value<|.pointer<|some a) w:=by
 simp[execOp,c,b]
structure At(s:Sl)(i:Int)(size:Nat)(a:Addr):Prop where
 lo:0<=i
 hi:i<s.len
 at_:∃b,s.a=some b/\a=b.add (i.toNat*size)
def IP{T E x ix s k i n a}(e:ε x=s.v)(hi:ε ix=.int k i)(j:(underlying T).run P w=.ok (.slice E) w)(hs:(sizeOf E).run P w=.ok n w)(h:At s i n a):
  (execOp ε ⟨d,.indexAddr T x ix,ty,pos,aft,g⟩).run P w=.ok (.value<|.pointer<|some a) w:=by
 obtain⟨c,h1,b,f,rfl⟩:=h
 simp[execOp,Instr.indexAt,e,hi,Sl.v,asIntOf,j,f,c,h1,hs]
def toList_inj{x y:ByteArray}(h:x.toList=y.toList):x=y:=by
 have e:∀z:ByteArray,z.toList=z.data.toList:=fun z=>ByteArray.toList_eq z;rw[e,e]at h;cases x;cases y;simpa using h
def zp(x y:ByteArray):(x.toList==y.toList)=decide (x=y):=by
 by_cases h:x=y;simp[h];have:¬x.toList=y.toList:=fun e=>h<|toList_inj e;simp[h,this]
def VY{T c:TypeId}{a b:Operand}{x y:ByteArray}(e:ε a=.string x)(f:ε b=.string y):(execOp ε ⟨d,.binOp .eql T a b c,ty,pos,aft,g⟩).run P w=.ok (.value<|.bool<|decide (x=y)) w:=by
 simp[execOp,e,f,eqGuard,zp,go_sem]
def JI{T c:TypeId}{a b:Operand}{x y:ByteArray}(e:ε a=.string x)(f:ε b=.string y):(execOp ε ⟨d,.binOp .neq T a b c,ty,pos,aft,g⟩).run P w=.ok (.value<|.bool<|!decide (x=y)) w:=by
 simp[execOp,e,f,eqGuard,zp,go_sem]
def EU{T T' E a b x}(f:ε a=.pointer x)(h:ε b=.pointer none)(c:P.underlying T=some (.pointer E)):(execOp ε ⟨d,.binOp .eql T a b T',ty,pos,aft,g⟩).run P w=.ok (.value<|.bool x.isNone) w:=by
 have e:P.pointee T=E:=by simp[Program.pointee,c]
 have:=run_eql_pointer_nil (P:=P) w T x (by rw[e];exact c);simp[execOp,f,h,eqGuard,this]
def VO{T T' E a b x}(f:ε a=.pointer x)(h:ε b=.pointer none)(c:P.underlying T=some (.pointer E)):(execOp ε ⟨d,.binOp .neq T a b T',ty,pos,aft,g⟩).run P w=.ok (.value<|.bool<|!x.isNone) w:=by
 have e:P.pointee T=E:=by simp[Program.pointee,c]
 have:=run_neq_pointer_nil (P:=P) w T x (by rw[e];exact c);simp[execOp,f,h,eqGuard,this]
def QR{op:BinOp}{T T' a b xs ys r}(c:ε a=.agg xs)(e:ε b=.agg ys)(hm:P.eqGuardType P.depth T=false)(hr:(Go.binOp op T (.agg xs)<|.agg ys).run P w=.ok (.bool r) w):
  (execOp ε ⟨d,.binOp op T a b T',ty,pos,aft,g⟩).run P w=.ok (.value<|.bool r) w:=by
 have:=run_eqGuard_agg (P:=P) w op T a b xs ys hm
 simp[execOp,c,e,this,hr]
def DS{op:BinOp}{T T' a b x y v}(c:ε a=x)(f:ε b=y)(e:(eqGuard op T a b x y).run P w=.ok () w)(hr:(Go.binOp op T x y).run P w=.ok v w):
  (execOp ε ⟨d,.binOp op T a b T',ty,pos,aft,g⟩).run P w=.ok (.value v) w:=by
 simp[execOp,c,f,e,hr]
def Pn{f x}{c:List Operand}{ts:Array TypeId}{caps args args'}(b:ε x=.func (.func f) #[] caps)(a:∀args w,(callFunc f args).run P w=.ok (.enter f args) w)(e:(c.map ε).toArray=args)(h:args++caps=args'):
  (execOp ε ⟨d,.call ⟨.value x,c.toArray,ts⟩,ty,pos,aft,g⟩).run P w=.ok (.enter f args') w:=by
 subst h;subst e
 simp[execOp,resolve,b,Deferred.ofValue,invoke,a]
def Vm{f}{c:List Operand}{ts:Array TypeId}{args}(a:∀args w,(callFunc f args).run P w=.ok (.enter f args) w)(b:(c.map ε).toArray=args):
  (execOp ε ⟨d,.call ⟨.value<|.func f,c.toArray,ts⟩,ty,pos,aft,g⟩).run P w=.ok (.enter f args) w\/ε (.func f)≠.func (.func f) #[] #[]:=by
 by_cases h:ε (.func f)=.func (.func f) #[] #[]
 exact .inl<|Pn (caps:=#[]) h a b Sm
 exact .inr h
def LK{ρ f}{c:List Operand}{ts:Array TypeId}{args}(a:∀args w,(callFunc f args).run P w=.ok (.enter f args) w)(b:(c.map<|bw ρ).toArray=args):
  (execOp (bw ρ) ⟨d,.call ⟨.value<|.func f,c.toArray,ts⟩,ty,pos,aft,g⟩).run P w=.ok (.enter f args) w:=
 (Vm a b).resolve_right fun h=>h rfl
def Bq{b:Builtin}{c:List Operand}{ts:Array TypeId}{args}{s:Sem Value}{v}(f:(c.map ε).toArray=args)(e:∀a,builtin b ts ty a args=(do pure (.value (<-s))))(hr:s.run P w=.ok v w'):
  (execOp ε ⟨d,.call ⟨.builtin b,c.toArray,ts⟩,ty,pos,aft,g⟩).run P w=.ok (.value v) w':=by
 subst f
 simp only[execOp,resolve,pure_bind,invoke,List.map_toArray,e]
 simp[hr]
def Fg{T x i ok m k v}(a:ε x=m)(hi:ε i=k)(hr:(Instr.lookup T m k ok).run P w=.ok v w):(execOp ε ⟨d,.lookup T x i ok,ty,pos,aft,g⟩).run P w=.ok (.value v) w:=by
 simp[execOp,a,hi,hr]
def MS{T x i y m k v}(a:ε x=m)(hi:ε i=k)(b:ε y=v)(hr:(Instr.mapUpdate T m k v).run P w=.ok () w'):(execOp ε ⟨d,.mapUpdate T x i y,ty,pos,aft,g⟩).run P w=.ok .skip w':=by
 simp[execOp,a,hi,b,hr]
def Ob{T x y l c v}(a:ε x=l)(b:ε y=c)(hr:(Instr.makeSlice T l c).run P w=.ok v w'):(execOp ε ⟨d,.makeSlice T x y,ty,pos,aft,g⟩).run P w=.ok (.value v) w':=by
 simp[execOp,a,b,hr]
def Rk{T x}{lo hi a:Option Operand}{s v}{l h m:Option Value}(b:ε x=s)(c:lo.map ε=l)(hh:hi.map ε=h)(hm:a.map ε=m)(hr:(Instr.sliceAt T s l h m).run P w=.ok v w):(execOp ε ⟨d,.slice T x lo hi a,ty,pos,aft,g⟩).run P w=.ok (.value v) w:=by
 simp only[execOp,b,c,hh,hm];simp[hr]
def Xo{S T x s v}(a:ε x=s)(hr:(convert S T s).run P w=.ok v w'):(execOp ε ⟨d,.convert S T x,ty,pos,aft,g⟩).run P w=.ok (.value v) w':=by
 simp[execOp,a,hr]
def Of{T n}{a:List (Nat×Operand)}{vs:Array (Nat×Value)}{v}(b:(a.map fun p=>(p.1,ε p.2)).toArray=vs)(hr:(Instr.buildSlice T n vs).run P w=.ok v w'):(execOp ε ⟨d,.buildSlice T n a.toArray,ty,pos,aft,g⟩).run P w=.ok (.value v) w':=by
 subst b;simp only[execOp,List.map_toArray];simp[hr]
end
end Go.SE
namespace Go.SE
def ek(ρ:bh)(l:List (Nat×Value)):Prop:=l.map (fun p=>ρ p.1)=l.map (·.2)
def ek.mk{ρ}{l:List (Nat×Value)}(h:l.map (fun p=>ρ p.1)=l.map (·.2)):ek ρ l:=h
def yC(ρ:bh):List (Nat×Value)->bh
 |[]=>ρ
 |(d,v) :: l=>rK (yC ρ l) d v
def uP{ρ}:∀{l:List (Nat×Value)},ek ρ l->yC ρ l=ρ
 |[],_=>rfl
 |(d,v) :: l,h=>by
  have a:ρ d=v/\l.map (fun p=>ρ p.1)=l.map (·.2):=by simpa[ek]using h
  have:=uP (ρ:=ρ) (l:=l) a.2;simp only[yC,this];funext i;simp only[rK];split;rename_i e;rw[e,a.1];rfl
section
variable {P:Program} {n:Nat} {Q:Exit->bh->World->Prop} {ρ:bh} {w w':World}
def qW{cx c}{l:List (Nat×Value)}(h:ek ρ l)(a:dv (x:=cx) P n c Q (yC ρ l) w):dv (x:=cx) P n c Q ρ w:=by rwa [uP h]at a
structure av(w:World)(o:Obj)(p:Addr)(w':World):Prop where
 at_:p=⟨w.heap.size,0,none⟩
 to:w'=w.alloc o
def xP{ops Q rest o O}(v:Addr->Value)(a:Region.wanted o (zJ ops ρ)=true)(hr:(execOp (bw ρ) o).run P w=.ok (.value<|v ⟨w.heap.size,0,none⟩) (w.alloc O))(h:∀p w',av w O p w'->bu P ops Q rest (put ρ o.dst<|v p) w'):bu P ops Q (o ::rest) ρ w:=
 st a hr<|h _ _ ⟨rfl,rfl⟩
def yg{ops Q rest o W}(a:Region.wanted o (zJ ops ρ)=true)(hr:(execOp (bw ρ) o).run P w=.ok .skip W)(h:∀w',w'=W->bu P ops Q rest (put ρ o.dst undef) w'):bu P ops Q (o ::rest) ρ w:=
 wj a hr<|h _ rfl
section
variable {ops:Array Oper} {C:World->Prop} {loud free:Nat->Bool} {k:Nat} {o:Oper} {K:bh->World->Prop}
def N3{O}(v:Addr->Value)(b:ops[k]?=some o)(a:Region.wanted o (zJ ops ρ)=true)(c:loud k=true)(hr:(execOp (bw ρ) o).run P w=.ok (.value<|v ⟨w.heap.size,0,none⟩) (w.alloc O))(h:∀p w',av w O p w'->(free k=true\/C w')/\K (put ρ o.dst<|v p) w'):fg P ops C loud free k K ρ w:=
 let hh:=h _ _ ⟨rfl,rfl⟩;sl b a c hr hh.1 hh.2
def FC{W}(b:ops[k]?=some o)(a:Region.wanted o (zJ ops ρ)=true)(c:loud k=true)(hr:(execOp (bw ρ) o).run P w=.ok .skip W)(h:∀w',w'=W->(free k=true\/C w')/\K (put ρ o.dst undef) w'):fg P ops C loud free k K ρ w:=
 let hh:=h _ rfl;Oy b a c hr hh.1 hh.2
def oz{W v}(b:ops[k]?=some o)(a:Region.wanted o (zJ ops ρ)=true)(c:loud k=false)(hr:(execOp (bw ρ) o).run P W=.ok (.value v) W)(h:K (put ρ o.dst v) w):fg P ops (fun x=>x=W) loud free k K ρ w:=
 sx b a c Gd h
end
def DX{cx id l}(hm:P.follows .mixedOrders=true)(a:tN n l=true)(hB:Region.noSelect l.toArray=true)(b:wY .any l.toArray (vX []) (vX [])=true)(h:∀w',w'=w.drew->fw P l.toArray (fun x=>x=w') (vX []) (vX []) (fun ρ w=>Q .normal ρ w) l.length (Array.replicate l.length false) ρ w'):dv (x:=cx) P n (.region id l.toArray true) Q ρ w:=
 HG (fun x=>x=w.drew) [] [] hm a hB b rfl (by simpa using h _ rfl)
def Iu{cx id l}(C loud free)(hm:P.follows .mixedOrders=true)(a:tN n l=true)(hB:Region.noSelect l.toArray=true)(b:wY .any l.toArray (vX loud) (vX free)=true)(c:C w.drew)(h:∀w',w'=w.drew->fw P l.toArray C (vX loud) (vX free) (fun ρ w=>Q .normal ρ w) l.length (Array.replicate l.length false) ρ w'):dv (x:=cx) P n (.region id l.toArray true) Q ρ w:=
 HG C loud free hm a hB b c (by simpa using h _ rfl)
end
end Go.SE
namespace Go.SE
section
variable {P:Program} {n:Nat} {ρ:bh} {w:World}
def RV(P:Program)(ρ:bh)(w:World):ResultVar->Value->Prop
 |.tmp t,v=>ρ t=v
 |.cell a t,v=>∃A,ρ a=.pointer (some A)/\(loadVar t A).run P w=.ok v w
def wO(P:Program)(ρ:bh)(w:World):List ResultVar->List Value->Prop
 |[],[]=>True
 |r :: rs,v :: vs=>RV P ρ w r v/\wO P ρ w rs vs
 |_,_=>False
def jOS{T a}{n:Nat}{vs}(b:(isAgg T).run P w=.ok true w)(hs:(sizeOf T).run P w=.ok n w)(e:vs.length=n)(d:Row w a vs):(loadVar T a).run P w=.ok (.agg vs.toArray) w:=by
 have:=JD (P:=P) (w:=w) a vs n 0 #[] Om fun j _ c=>d j c;simp[loadVar,b,hs,loadCells,this]
def QE{T a v}(b:(isAgg T).run P w=.ok false w)(c:w.cell? a=some v):(loadVar T a).run P w=.ok v w:=by
 simp[loadVar,b,c]
def RV.MW{a A T vs k}(d:ρ a=.pointer (some A))(b:(isAgg T).run P w=.ok true w)(hs:(sizeOf T).run P w=.ok k w)(c:vs.length=k)(e:Row w A vs):RV P ρ w (.cell a T) (.agg vs.toArray):=⟨A,d,jOS b hs c e⟩
def RV.vj{a A T v}(c:ρ a=.pointer (some A))(b:(isAgg T).run P w=.ok false w)(d:w.cell? A=some v):RV P ρ w (.cell a T) v:=⟨A,c,QE b d⟩
def Yt{fn}{rs:List ResultVar}{vs}(hr:fn.results=rs.toArray)(h:wO P ρ w rs vs){ds:List Deferred}{a}(c:gn ds n ρ a){v}(g:(if h:vs.toArray.size=1 then vs.toArray[0]else .tuple vs.toArray)=v):(results fn a.tmps).run P w=.ok v w:=by
 have key:∀(f:ResultVar->Sem Value),(∀t,f (.tmp t)=pure (a.tmps.getD t undef))->(∀x t,f (.cell x t)=(do loadVar t (<-asAddr (a.tmps.getD x undef))))->∀(rs:List ResultVar) (vs:List Value),wO P ρ w rs vs->(rs.mapM f).run P w=.ok vs w:=by
  intro f i b rs;induction rs with
  |nil=>intro vs h;cases vs<;>simp only[wO]at h;rfl
  |cons r rs e =>
   intro vs h
   cases vs with
   |nil=>simp only[wO]at h
   |cons v vs =>
    have⟨h1,h2⟩:=h
    have:(f r).run P w=.ok v w:=by
     cases r with
     |tmp t=>rw[i,c.get];simp only[RV]at h1;rw[h1];rfl
     |cell x t =>
      have⟨A,j,d⟩:=h1
      rw[b,c.get,j]
      simp only[Sem.run_bind,asAddr,Sem.run_pure,Result.andThen]
      exact d
    rw[List.mapM_cons]
    simp only[Sem.run_bind,Sem.run_pure,Result.andThen,this,e vs h2]
 unfold results;rw[hr,List.mapM_toArray,Sem.run_bind,Sem.run_map,key _ (fun _=>rfl) (fun _ _=>rfl) rs vs h];simp only[Result.andThen,Sem.run_pure];rw[<-g]
def Hw{fn}{rs:List ResultVar}{vs v R e}(b:e=.ret\/e=.normal)(hr:fn.results=rs.toArray)(h:wO P ρ w rs vs)(d:(if h:vs.toArray.size=1 then vs.toArray[0]else .tuple vs.toArray)=v)(f:R (.returned v) w):re P fn n R e ρ w:=by
 rcases b with rfl|rfl<;>exact⟨v,fun _ a c=>Yt hr h c d,f⟩
end
section
variable {P:Program} {ε:Operand->Value} {w w':World} {d:Option Tmp} {ty:TypeId} {pos:String} {aft:Array Edge} {g:Option (Nat×Bool)}
def Mk{f x}{c:List Operand}{ts:Array TypeId}{fs caps args args'}(b:ε x=.func (.func f) fs caps)(a:∀args w,(callFunc f args).run P w=.ok (.enter f args) w)(e:(c.map ε).toArray=args)(h:(fs++args)++caps=args'):
  (execOp ε ⟨d,.call ⟨.value x,c.toArray,ts⟩,ty,pos,aft,g⟩).run P w=.ok (.enter f args') w:=by
 subst h;subst e
 simp[execOp,resolve,b,Deferred.ofValue,invoke,a]
end
end Go.SE
namespace Go.SE
end Go.SE
namespace Go.SE
def oh{o:Oper}{l:List Oper}:(o ::l)[0]?=some o:=rfl
def uB{a o:Oper}{l:List Oper}{k:Nat}(h:l[k]?=some o):(a ::l)[k+1]?=some o:=by simpa using h
def oy{o:Oper}{l:List Oper}{k:Nat}(h:l[k]?=some o):l.toArray[k]?=some o:=by simpa using h
end Go.SE
namespace Go.SE
def IF{P:Program}{ops:Array Oper}{Q:bh->World->Prop}{ρ:bh}{w:World}:∀(k:Nat) {l:List Oper} {ρ:bh} {w:World},bu P ops (fun ρ w=>bu P ops Q (l.drop k) ρ w) (l.take k) ρ w->bu P ops Q l ρ w
 |0,l,ρ,w,h=>by simpa[bu]using h
 |k+1,[],ρ,w,h=>by simpa[bu]using h
 |k+1,o :: l,ρ,w,h=>by
  simp only[List.take_succ_cons,List.drop_succ_cons]at h;unfold bu at h|-;split;rename_i a;rw[if_pos a]at h;exact tP h fun v w' hh=>IF (ρ:=ρ) (w:=w) k hh;rename_i a;rw[if_neg a]at h;exact IF (ρ:=ρ) (w:=w) k h
def Cb{P ops Q Q'}(a:∀ρ w,Q ρ w->Q' ρ w):∀{l:List Oper} {ρ:bh} {w:World},bu P ops Q l ρ w->bu P ops Q' l ρ w
 |[],ρ,w,h=>by unfold bu at h|-;exact a _ _ h
 |o :: l,ρ,w,h=>by
  unfold bu at h|-;split;rename_i b;rw[if_pos b]at h;exact tP h fun v w' hh=>Cb a hh;rename_i b;rw[if_neg b]at h;exact Cb a h
end Go.SE
namespace Go.SE
section
variable {P:Program} {ε:Operand->Value} {w w':World} {d:Option Tmp} {ty:TypeId} {pos:String} {aft:Array Edge} {g:Option (Nat×Bool)}
def ZR{f x}{c:List Operand}{ts:Array TypeId}{v fs caps args args'}(b:ε x=v)(h:v=.func (.func f) fs caps)(i:∀args w,(callFunc f args).run P w=.ok (.enter f args) w)(e:(c.map ε).toArray=args)(a:(fs++args)++caps=args'):
  (execOp ε ⟨d,.call ⟨.value x,c.toArray,ts⟩,ty,pos,aft,g⟩).run P w=.ok (.enter f args') w:=
 Mk (b.trans h) i e a
end
end Go.SE
namespace Go.SE
section
variable {P:Program} {ε:Operand->Value} {w w':World} {d:Option Tmp} {ty:TypeId} {pos:String} {aft:Array Edge} {g:Option (Nat×Bool)}
end
end Go.SE
end
section
namespace Go.SE
def Cd(w:World)(o:Obj)(i:Nat)(h:i<w.heap.size):(w.alloc o).heap[i]?=w.heap[i]?:=by
 show(w.heap.push o)[i]?=w.heap[i]?;rw[Array.getElem?_push,if_neg<|Nat.ne_of_lt h]
structure ab(F:Nat->Prop)(w w':World):Prop where
 os:w'.os=w.os
 tape:w'.tape=w.tape
 output:w'.output=w.output
 drawn:w.drawn<=w'.drawn
 size:w.heap.size<=w'.heap.size
 gq:∀b,b<w.heap.size->¬F b->w'.heap[b]?=w.heap[b]?
def ar(_:Nat):Prop:=False
abbrev Pure(w w':World):Prop:=ab ar w w'
def ab.refl{F}(w):ab F w w:=⟨rfl,rfl,rfl,Gd,Nat.le_refl _,fun _ _ _=>rfl⟩
def ab.cg{F G a b c}(h:ab F a b)(k:ab G b c)(e:∀i,i<a.heap.size->G i->F i):ab F a c:=
 ⟨k.os.trans h.os,k.tape.trans h.tape,k.output.trans h.output,(by first|exact Nat.le_trans h.drawn k.drawn|exact Nat.le_refl _),Nat.le_trans h.size k.size,fun i hi d=>(k.gq i (Nat.lt_of_lt_of_le hi h.size) fun f=>d<|e i hi f).trans (h.gq i hi d)⟩
def ab.trans{F a b c}(h:ab F a b)(k:ab F b c):ab F a c:=h.cg k fun _ _ h=>h
def ab.mono{F G a b}(h:ab F a b)(d:∀i,i<a.heap.size->F i->G i):ab G a b:=
 ⟨h.os,h.tape,h.output,h.drawn,h.size,fun i hi c=>h.gq i hi fun e=>c<|d i hi e⟩
def ab.pure{F a b}(h:Pure a b):ab F a b:=h.mono fun _ _ h=>h.elim
def ab.fb{F a b c}(h:ab F a b)(k:Pure b c):ab F a c:=h.trans k.pure
def ab.below{w w'}(h:Pure w w'):RowKit.Below w.heap.size w w':=⟨h.os,h.tape,h.output,h.size,fun k a=>h.gq k a id⟩
def ab.drew(w){F}:ab F w w.drew:=⟨rfl,rfl,rfl,Fe,Nat.le_refl _,fun _ _ _=>rfl⟩
def xA{w:World}{b:Nat}{o:Obj}(h:w.heap[b]?=some o):b<w.heap.size:=(Array.getElem?_eq_some_iff.1 h).1
def ab.heap{F:Nat->Prop}{w w':World}(h:ab F w w'){b:Nat}{o:Obj}(a:w.heap[b]?=some o)(c:¬F b):w'.heap[b]?=some o:=by
 rw[h.gq b (xA a) c];exact a
def ab.cell{F w w'}(h:ab F w w'){a v}(c:w.cell? a=some v)(d:¬F a.block):w'.cell? a=some v:=by
 have b:a.block<w.heap.size:=World.block_lt_of_cell? w a c;unfold World.cell? at *;rw[h.gq _ b d];exact c
def ab.row{F w w'}(h:ab F w w'){a vs}(c:Row w a vs)(b:¬F a.block):Row w' a vs:=by
 intro i hi;have:=c i hi;rw[List.getElem?_eq_getElem hi]at this|-;refine h.cell this ?_;have:(a.add i).block=a.block:=by unfold Addr.add;split<;>rfl
 rw[this];exact b
def ab.ax{F w w' o p}(h:av w o p w'):ab F w w':=by
 obtain⟨_,rfl⟩:=h;exact⟨rfl,rfl,rfl,Fe,Sm,fun b a _=>Cd w o b a⟩
def ab.setCell{w}(a v):ab (·=a.block) w (w.setCell a v):=
 ⟨rfl,rfl,rfl,Fe,by simp[World.setCell],fun b _ c=>heap_setCell_other w a b v c⟩
def zC(a:Addr)(i:Nat):(a.add i).block=a.block:=by unfold Addr.add;split<;>rfl
def ab.pO(a:Addr):∀(vs:List Value) (i:Nat) (w:World),ab (·=a.block) w (pO w a i vs)
 |[],_,w=>ab.refl w
 |v :: vs,i,w=>by
  have h1:ab (·=a.block) w (w.setCell (a.add i) v):=(ab.setCell (a.add i) v).mono (fun _ _ h=>by rw[zC]at h;exact h);exact h1.trans<|ab.pO a vs (i+1) _
def ab.bd(w a vs):ab (·=a.block) w (SE.bd w a vs):=ab.pO a vs 0 w
structure ai(w:World)(p:Addr)(c:List Value)(T:TypeId):Prop where
 CJ:p=⟨p.block,0,none⟩
 aq:w.heap[p.block]?=some (.cells c.toArray T (0,0))
def ai.bj{w w' c T p}(h:av w (.cells c.toArray T) p w'):ai w' p c T:=by
 obtain⟨rfl,rfl⟩:=h;exact⟨rfl,heap_alloc_new w _⟩
def av.cu{w w' o p}(h:av w o p w'):p.block=w.heap.size:=by rw[h.at_]
def av.Iy{w w' o p}(h:av w o p w'):w'.heap[p.block]?=some o:=by
 obtain⟨rfl,rfl⟩:=h;exact heap_alloc_new w _
def av.ne{w w' o o' p}(h:av w o p w'){b}(a:w.heap[b]?=some o'):b≠p.block:=by
 rw[h.cu];exact Nat.ne_of_lt<|xA a
def ai.lt{w p c T}(h:ai w p c T):p.block<w.heap.size:=xA h.aq
def ai.ext{F w w' p c T}(h:ai w p c T)(b:ab F w w')(a:¬F p.block):ai w' p c T:=⟨h.CJ,b.heap h.aq a⟩
def ai.pure{w w' p c T}(h:ai w p c T)(a:Pure w w'):ai w' p c T:=h.ext a id
def ai.add{w p c T}(h:ai w p c T)(i):p.add i=⟨p.block,i,none⟩:=by
 rw[h.CJ];unfold Addr.add;split<;>simp_all
def ai.cell{w p c T}(h:ai w p c T){i v}(a:c[i]?=some v):w.cell? (p.add i)=some v:=by
 rw[h.add,cell_of_row w _ _ _ _ _ h.aq];simpa using a
def ai.bf{w p v c T}(h:ai w p (v ::c) T):w.cell? p=some v:=by
 have:=h.cell (i:=0) (v:=v) rfl;simpa[Addr.add]using this
def ai.row{w p c T}(h:ai w p c T):Row w p c:=fun i hi=>by
 rw[List.getElem?_eq_getElem hi];exact h.cell<|List.getElem?_eq_getElem hi
def ai.eh{w p c T}(h:ai w p c T){i}(hi:i<c.length):zL w (p.add i):=
 ⟨⟨c[i],h.cell<|List.getElem?_eq_getElem hi⟩,by rw[h.add];exact frozen_of_row w _ _ _ _ h.aq⟩
def ai.gx{w p c T}(h:ai w p c T)(hi:0<c.length):zL w p:=by
 have:=h.eh hi;simpa[Addr.add]using this
def ai.uo{w p c T}(h:ai w p c T){n}(a:n<=c.length):∀j,j<n->zL w (p.add j):=fun _ b=>h.eh Om
def ai.set{w p c T}(h:ai w p c T)(i v):ai (w.setCell (p.add i) v) p (c.set i v) T:=by
 refine⟨h.CJ,?_⟩;rw[h.add];have:=heap_setCell_same w p.block i c.toArray T v h.aq;rw[this];simp
def ai.jh{w p u v c T}(h:ai w p (u ::c) T):ai (w.setCell p v) p (v ::c) T:=by
 have:=h.set 0 v;simpa[Addr.add]using this
def ai.Lz{p T}:∀(vs:List Value) (i:Nat) (w:World) (c:List Value),ai w p c T->i+vs.length=c.length->ai (pO w p i vs) p (c.take i++vs) T
 |[],i,w,c,h,a=>by
  have:c.take i=c:=List.take_of_length_le (by simp at a;omega);simpa[pO,this]using h
 |v :: vs,i,w,c,h,a=>by
  simp only[List.length_cons]at a;have:=ai.Lz vs (i+1) _ _ (h.set i v) So;simp only[pO];have e:(c.set i v).take (i+1)++vs=c.take i++v ::vs:=by
   rw[List.take_succ_eq_append_getElem So,List.take_set_of_le<|Nat.le_refl i];simp
  rwa [e]at this
def ai.store{w p c vs T}(h:ai w p c T)(a:vs.length=c.length):ai (bd w p vs) p vs T:=by
 have:=ai.Lz vs 0 w c h Om;simpa[bd]using this
def Br.t{c}{A B:Prop}(a:c=true)(h:A):Br c A B:=⟨fun _=>h,fun e=>(by rw[a]at e;cases e)⟩
def Br.f{c}{A B:Prop}(a:c=false)(h:B):Br c A B:=⟨fun e=>(by rw[a]at e;cases e),fun _=>h⟩
end Go.SE
namespace Go.SE
def bx(n:Nat){w:World}{p:Addr}{c vs:List Value}{T:TypeId}(h:ai w p c T)(a:c.length=n)(b:vs.length=n){A:World->Prop}(k:∀w',ai w' p vs T->ab (·=p.block) w w'->A w'):(∀j,j<n->zL w (p.add j))/\∀w',w'=bd w p vs->A w':=
 ⟨h.uo Om,fun w' e=>by subst e;exact k _ (h.store Om)<|ab.bd _ _ _⟩
def ab.ak{a w w':World}{p:Addr}(h:Pure a w)(b:a.heap.size<=p.block)(k:ab (·=p.block) w w'):Pure a w':=
 h.cg k Gd
def av.ak{w0 w w' o p}(h:Pure w0 w)(a:av w o p w'):w0.heap.size<=p.block:=by rw[a.cu];exact h.size
end Go.SE
namespace Go.SE
def ai.fp{w w' c T p}(h:av w (.cells c T) p w'):ai w' p c.toList T:=by
 obtain⟨rfl,rfl⟩:=h;exact⟨rfl,by simpa using heap_alloc_new w (.cells c T)⟩
def ai.L4{w p c vs T}(h:ai w p c T)(e:c=vs):Row w p vs:=e▸h.row
end Go.SE
end
section
namespace Go.SE
structure bg(w:World)(e:TypeId)(sz:Nat)(s:Sl)(rs:List (List Value)):Prop where
 mx:∀r∈rs,r.length=sz
 len:s.len=rs.length
 ak:(s=Sl.nil/\rs=[])\/∃g cur,s.a=some ⟨g,0,none⟩/\w.heap[g]?=some (.cells cur e (0,0))/\rs.length<=s.cap/\s.cap<=maxLen/\cur.size=s.cap*sz/\cur.toList.take (rs.length*sz)=rs.flatten
def Sl.aq(s:Sl)(b:Nat):Prop:=∃a,s.a=some a/\a.block=b
def bg.nil(w e sz):bg w e sz Sl.nil []:=⟨Sm,rfl,.inl ⟨rfl,rfl⟩⟩
def vL{rs:List (List Value)}{sz:Nat}(h:∀r∈rs,r.length=sz):rs.flatten.length=rs.length*sz:=by
 induction rs with
 |nil=>simp
 |cons r rs a =>
  have h1:=h r Sm
  have h2:=a Gd
  simp only[List.flatten_cons,List.length_append,h1,h2,List.length_cons,Nat.add_mul,Nat.one_mul]
  omega
def DW{rs:List (List Value)}{sz:Nat}(h:∀r∈rs,r.length=sz){i:Nat}(hi:i<rs.length){j:Nat}(b:j<sz):rs.flatten[i*sz+j]?=rs[i][j]?:=by
 induction rs generalizing i with
 |nil=>simp at hi
 |cons r rs a =>
  have h1:=h r Sm
  cases i with
  |zero=>simp[List.getElem?_append_left<|show j<r.length by omega]
  |succ i =>
   simp only[List.flatten_cons,List.getElem_cons_succ]
   rw[List.getElem?_append_right Gd]
   have:=a Gd (i:=i) (by simpa using hi)
   rw[<-this]
   congr 1
   rw[h1,Nat.succ_mul];omega
def bg.ext{F w w' e sz s rs}(h:bg w e sz s rs)(f:ab F w w')(d:∀b,s.aq b->¬F b):bg w' e sz s rs:=by
 refine⟨h.mx,h.len,?_⟩;rcases h.ak with i|⟨g,cur,a,c,r⟩;exact .inl i;exact .inr ⟨g,cur,a,f.heap c<|d g ⟨_,a,rfl⟩,r⟩
def bg.pure{w w' e sz s rs}(h:bg w e sz s rs)(a:Pure w w'):bg w' e sz s rs:=h.ext a fun _ _ h=>h
def bg.lt{w e sz s rs}(h:bg w e sz s rs){b}(f:s.aq b):b<w.heap.size:=by
 rcases h.ak with⟨rfl,_⟩|⟨g,cur,d,i,_⟩;have⟨a,d,_⟩:=f;cases d;obtain⟨a,c,rfl⟩:=f;rw[d]at c;cases c;exact xA i
def bg.at{w e sz s rs}(h:bg w e sz s rs){i}(f:0<=i)(hi:i.toNat<rs.length):∃a,At s i sz a/\Row w a rs[i.toNat]/\s.aq a.block:=by
 rcases h.ak with⟨_,rfl⟩|⟨g,cur,d,k,m,_,hs,ht⟩;simp at hi;refine⟨(⟨g,0,none⟩:Addr).add<|i.toNat*sz,⟨f,by rw[h.len];omega,⟨_,d,rfl⟩⟩,?_,⟨_,d,by rw[zC]⟩⟩;intro j n;have l:=h.mx _<|List.getElem_mem hi;have b:((⟨g,0,none⟩:Addr).add<|i.toNat*sz).add j=⟨g,i.toNat*sz+j,none⟩:=by
  unfold Addr.add;split<;>split<;>simp_all
 rw[b,cell_of_row w g _ cur e (0,0) k,<-DW h.mx hi Om,<-ht,List.getElem?_take];have c:i.toNat*sz+j<rs.length*sz:=by
  have:(i.toNat+1)*sz<=rs.length*sz:=Nat.mul_le_mul_right _ hi;rw[Nat.succ_mul]at this;omega
 rw[if_pos c];simp
def TW{v}(h:vJ v=true):v.oneCell'=true:=by cases v<;>simp_all[vJ,Value.oneCell']
structure km(P:Program)(t e:TypeId)(sz bytes:Nat):Prop where
 ht:P.underlying t=some (.slice e)
 hi:∃i z,P.info? e=some i/\i.zero=some z/\i.size=sz/\i.bytes=bytes/\z.cells.size=sz
 pos:0<sz
def He{w p r}(hr:Row w p r):∀j u,r[j]?=some u->w.cell? (p.add j)=some u:=fun j u a=>by
 rw[hr j (List.getElem?_eq_some_iff.1 a).1,a]
def bg.qp{w:World}{e:TypeId}{sz:Nat}{rs:List (List Value)}(a:∀q∈rs,q.length=sz){cur:Array Value}{z:Value}(c:z.cells.size=sz)(b:cur.toList=rs.flatten){cap:Nat}(d:rs.length<=cap)(hm:cap<=maxLen):
  bg (w.drew.alloc<|.cells (cur++Builtin.zeroCells z.cells (cap-rs.length)) e) e sz ⟨some ⟨w.heap.size,0,none⟩,rs.length,cap⟩ rs:=by
 refine⟨a,rfl,.inr ⟨w.heap.size,_,rfl,heap_alloc_new w.drew _,d,hm,?_,?_⟩⟩
 have:cur.size=rs.length*sz:=by rw[<-Array.length_toList,b,vL a]
 rw[Array.size_append,size_zeroCells,c,this,<-Nat.add_mul]
 congr 1
 show rs.length+(cap-rs.length)=cap
 omega
 rw[Array.toList_append,b]
 have:=vL a
 rw[<-this]
 exact List.take_left
def bg.Jm{P:Program}{w:World}{t ty e:TypeId}{sz bytes:Nat}(T:km P t e sz bytes){s:Sl}{rs qs:List (List Value)}(h:bg w e sz s rs){p:Addr}{c:Nat}(hr:Row w p qs.flatten)(H:∀q∈qs,q.length=sz)(h1:∀q∈qs,q.all vJ=true)(y:qs≠[])(k:(rs.length+qs.length)*bytes<=140737488355328)(hm:rs.length+qs.length<=maxLen):
  ∃s' w',(Builtin.append_ #[t,t] ty #[s.v,(Sl.mk (some p) qs.length c).v]).run P w=.ok s'.v w'/\bg w' e sz s' (rs++qs)/\ab s.aq w w'/\(∀b,s'.aq b->s.aq b\/w.heap.size<=b):=by
 have⟨i,z,hi,Q,O,K,E⟩:=T.hi
 subst O;subst K
 have I:∀u∈qs.flatten,u.oneCell'=true:=fun u o=>by
  have⟨q,y,o⟩:=List.mem_flatten.1 o;exact TW<|List.all_eq_true.1 (h1 q y) u o
 have L:rs.length+qs.length<=9223372036854775807:=by simp only[maxLen]at hm;omega
 have m:=vL H
 have F:0<qs.length:=List.length_pos_iff.2 y
 have l:∀q∈rs++qs,q.length=i.size:=fun q y=>(List.mem_append.1 y).elim (h.mx q)<|H q
 have G:=vL h.mx
 rcases h.ak with⟨rfl,rfl⟩|⟨g,cur,r,D,R,J,ez,n⟩
 .simp only[List.length_nil,Nat.zero_add]at k L hm
  have d:=run_append_nil (P:=P) w t ty e i z T.ht hi Q p qs.length c qs.flatten m (He hr) F Om Om
  have D:=bg.qp (w:=w) (e:=e) (rs:=qs) H (cur:=qs.flatten.toArray) E Sm (grownCap_ge w qs.length 0 e)<|grownCap_le_maxLen w _ 0 e hm
  refine⟨⟨some ⟨w.heap.size,0,none⟩,qs.length,grownCap w qs.length 0 e⟩,(w.drew.alloc<|.cells (qs.flatten.toArray++Builtin.zeroCells z.cells (grownCap w qs.length 0 e-qs.length)) e),d,?_,?_,?_⟩
  .simpa using D
  .exact⟨rfl,rfl,rfl,Fe,Sm,fun b k _=>Cd w.drew _ b k⟩
  .intro b k;obtain⟨a,r,rfl⟩:=k;cases r;right;exact Nat.le_refl _
 .have C:s.v=.slice (some ⟨g,0,none⟩) rs.length s.cap:=by unfold Sl.v;rw[r,h.len]
  by_cases f:rs.length+qs.length<=s.cap
  .have A:rs.length*i.size+qs.flatten.length<=cur.size:=by rw[m,ez,<-Nat.add_mul];exact Nat.mul_le_mul_right _ f
   have d:=run_append_room (P:=P) w t ty e i T.ht hi g rs.length s.cap cur D p qs.length c qs.flatten m (He hr) I f A
   refine⟨⟨some ⟨g,0,none⟩,rs.length+qs.length,s.cap⟩,_,by rw[C];exact d,⟨l,Sm,.inr ⟨g,_,rfl,setRow_heap w g cur _ e _ D,by simpa using f,J,?_,?_⟩⟩,⟨rfl,rfl,rfl,Fe,Sm,fun b k S=>setRow_other w g b _ fun e=>S ⟨_,r,e.symm⟩⟩,fun b k=>by obtain⟨a,M,rfl⟩:=k;cases M;exact .inl ⟨_,r,rfl⟩⟩
   .grind
   .rw[n,List.flatten_append,List.length_append,Nat.add_mul,<-G,<-m,<-List.length_append]
    exact List.take_left
  .have x : ∀ j u, rs.flatten[j]? = some u -> w.cell? ((⟨g, 0, none⟩ : Addr).add j) = some u:=fun j u o => by
    have B:(⟨g,0,none⟩:Addr).add j=⟨g,j,none⟩:=by unfold Addr.add;split<;>simp_all
    rw[B,cell_of_row w g j cur e (0,0) D];rw[<-n,List.getElem?_take]at o;split at o
    .simpa using o
    .cases o
   have d:=run_append_grow (P:=P) w t ty e i z T.ht hi Q ⟨g,0,none⟩ rs.length s.cap rs.flatten G x p qs.length c qs.flatten m (He hr) Om Om<|growslice_fits Om k
   have N:=bg.qp (w:=w) (e:=e) (rs:=rs++qs) l (cur:=rs.flatten.toArray++qs.flatten.toArray) E Sm (cap:=grownCap w (rs.length+qs.length) s.cap e) (by simpa using grownCap_ge w (rs.length+qs.length) s.cap e)<|grownCap_le_maxLen w _ _ e hm
   refine⟨⟨some ⟨w.heap.size,0,none⟩,rs.length+qs.length,grownCap w (rs.length+qs.length) s.cap e⟩,(w.drew.alloc<|.cells (rs.flatten.toArray++qs.flatten.toArray++Builtin.zeroCells z.cells (grownCap w (rs.length+qs.length) s.cap e-(rs.length+qs.length))) e),?_,?_,?_,?_⟩
   .rw[C];exact d
   .simpa using N
   .exact⟨rfl,rfl,rfl,Fe,Sm,fun b k _=>Cd w.drew _ b k⟩
   .intro b k;obtain⟨a,r,rfl⟩:=k;cases r;right;exact Nat.le_refl _
def bg.append{P w t ty e sz bytes}(T:km P t e sz bytes){s rs}(h:bg w e sz s rs){p c r}(hr:Row w p r)(d:r.length=sz)(h1:r.all vJ=true)(a:(rs.length+1)*bytes<=140737488355328)(hm:rs.length+1<=maxLen):
  ∃s' w',(Builtin.append_ #[t,t] ty #[s.v,(Sl.mk (some p) 1 c).v]).run P w=.ok s'.v w'/\bg w' e sz s' (rs++[r])/\ab s.aq w w'/\(∀b,s'.aq b->s.aq b\/w.heap.size<=b):=
 bg.Jm T h (qs:=[r]) (by simpa using hr) (by simpa using d) (by simpa using h1) Sm a hm
end Go.SE
end
section
namespace Go.SE
open Go.Instr
def G1(k:Value)(es:List MapEntry)(r:Option (Nat×Value)):Prop:=
 (r=.none/\∀e∈es,e.key≠k)\/∃i e,es[i]?=some e/\e.key=k/\r=some (i,e.val)
structure rz(P:Program)(K:TypeId)(S:Value->Prop):Prop where
 ej:∀k,S k->∀a w,(checkKey a 10000 K k).run P w=.ok () w
 find:∀k (es:List MapEntry) w,S k->(∀e∈es,S e.key)->∃r,(findKey K k es).run P w=.ok r w/\G1 k es r
 bits:∀k,S k->sameBits 10000 k k=true
structure jt(w:World)(m:Nat)(es:List (Value×Value)):Prop where
 ex:∃d c,w.heap[m]?=some (.map d c)/\d.toList.map (fun e=>(e.key,e.val))=es/\d.toList.Pairwise (fun a b=>a.born<b.born)/\∀e∈d.toList,e.born<c
def jt.ext{F w w' m}{es:List (Value×Value)}(h:jt w m es)(c:ab F w w')(d:¬F m):jt w' m es:=by
 have⟨b,a,hm,r⟩:=h.ex;exact⟨b,a,c.heap hm d,r⟩
def jt.lt{w m}{es:List (Value×Value)}(h:jt w m es):m<w.heap.size:=by
 have⟨b,a,hm,r⟩:=h.ex;exact xA hm
def jt.bj{w w' p}(h:av w (.map #[] 0) p w'):jt w' p.block []:=⟨#[],0,h.Iy,rfl,Sm,Sm⟩
def K5{P K k w}:∀(es:List MapEntry) (i:Nat),(∀e∈es,∃b,(Op.equal K k e.key).run P w=.ok b w/\(b=true↔e.key=k)) ->
  ∃r,(findAsking K k es i).run P w=.ok r w/\((r=.none/\∀e∈es,e.key≠k)\/∃j e,es[j]?=some e/\e.key=k/\r=some (i+j,e.val))
 |[],i,_=>⟨.none,rfl,.inl ⟨rfl,Sm⟩⟩
 |e :: es,i,h=>by
  have⟨b,f,d⟩:=h e Sm;cases b with
  |true =>
   refine⟨some (i,e.val),?_,.inr ⟨0,e,rfl,d.1 rfl,rfl⟩⟩
   simp[findAsking,f]
  |false =>
   have⟨r,hr,l⟩:=K5 es (i+1) fun e g=>h e (by simp[g])
   refine⟨r,?_,?_⟩
   simp[findAsking,f,hr]
   rcases l with⟨h1,h2⟩|⟨j,c,h1,h2,h3⟩
   left
   refine⟨h1,fun c a=>?_⟩
   rcases List.mem_cons.1 a with rfl|a
   grind
   exact h2 c a
   exact .inr ⟨j+1,c,by simpa using h1,h2,by rw[h3,Nat.add_assoc,Nat.add_comm 1 j]⟩
def jLD{fs:Array Field}{k}:∀(es:List MapEntry) (i:Nat),es≠[]->findNow (.struct fs) k es i=.none
 |[],_,h=>absurd rfl h
 |e :: es,i,_=>by simp[findNow,sameNow]
def rz.jaF{P K}{S:Value->Prop}{fs:Array Field}(g:P.underlying K=some (.struct fs))(h:∀k,S k->∀j w,(checkKey j 10000 K k).run P w=.ok () w)(f:∀k k' w,S k->S k'->∃b,(Op.equal K k k').run P w=.ok b w/\(b=true↔k'=k))(i:∀k,S k->sameBits 10000 k k=true):rz P K S:=by
 refine⟨h,fun k es w m a=>?_,i⟩;unfold findKey;simp only[Sem.run_bind,run_underlying g,Result.andThen_ok];by_cases d:es=[];subst d;exact⟨.none,by simp[findNow],.inl ⟨rfl,Sm⟩⟩;rw[jLD es 0 d];have⟨r,hr,l⟩:=K5 (P:=P) (K:=K) (k:=k) (w:=w) es 0 fun e c=>f k e.key w m<|a e c;exact⟨r,hr,by simpa[G1]using l⟩
def LA{q k}:∀(es:List MapEntry) (i:Nat),(∀e∈es,∃n,e.key=.int q n)->∃r,findNow (.int q) (.int q k) es i=some r/\((r=.none/\∀e∈es,e.key≠.int q k)\/∃j e,es[j]?=some e/\e.key=.int q k/\r=some (i+j,e.val))
 |[],i,_=>⟨.none,rfl,.inl ⟨rfl,Sm⟩⟩
 |e :: es,i,h=>by
  have⟨n,d⟩:=h e Sm;by_cases f:k=n;subst f;exact⟨some (i,e.val),by simp[findNow,sameNow,d],.inr ⟨0,e,rfl,d,rfl⟩⟩;have⟨r,hr,g⟩:=LA (q:=q) (k:=k) es (i+1) Gd;have c:(k==n)=false:=by simpa using f
  refine⟨r,by simp[findNow,sameNow,d,c,hr],?_⟩;rcases g with⟨h1,h2⟩|⟨j,b,h1,h2,h3⟩;left;refine⟨h1,fun b a=>?_⟩;rcases List.mem_cons.1 a with rfl|a;grind;exact h2 b a;exact .inr ⟨j+1,b,by simpa using h1,h2,by rw[h3,Nat.add_assoc,Nat.add_comm 1 j]⟩
def QT{P K q}(a:P.underlying K=some (.int q))(n em w d):(checkKey em (d+1) K<|.int q n).run P w=.ok () w:=by
 simp[checkKey,run_underlying a]
def jOR(q n d):sameBits d (.int q n) (.int q n)=true:=by
 cases d<;>simp[sameBits]
def rz.Gh{P K q}(b:P.underlying K=some (.int q)):rz P K (fun k=>∃n,k=.int q n):=by
 refine⟨?_,?_,?_⟩;rintro _ ⟨n,rfl⟩ c w;exact QT b n c w 9999;rintro _ es w ⟨n,rfl⟩ a;have⟨r,hr,d⟩:=LA (q:=q) (k:=n) es 0 a;exact⟨r,by simp[findKey,run_underlying b,hr],by simpa[G1]using d⟩;rintro _ ⟨n,rfl⟩;exact jOR q n 10000
section
variable {P:Program} {T K E:TypeId} {S:Value->Prop} {w:World} {m:Nat} {es:List (Value×Value)}
def jt.lookup(h:jt w m es)(g:P.underlying T=some (.map K E))(c:rz P K S)(hS:∀p∈es,S p.1){k z}(j:S k)(n:(zeroValue E).run P w=.ok z w)(ok):
  ((∀p∈es,p.1≠k)/\(Instr.lookup T (.map<|some m) k ok).run P w=.ok (if ok then .tuple #[z,.bool false]else z) w) \/
  ∃(i:Nat) (v:Value),es[i]?=some (k,v)/\(Instr.lookup T (.map<|some m) k ok).run P w=.ok (if ok then .tuple #[v,.bool true]else v) w:=by
 obtain⟨a,b,hm,rfl,_,_⟩:=h.ex
 have⟨r,hr,o⟩:=c.find k a.toList w j fun e l=>hS _<|List.mem_map.2 ⟨e,l,rfl⟩
 have d:=c.ej k j a.isEmpty w
 have f:(getObj m).run P w=.ok (.map a b) w:=by simp[getObj,Sem.run,hm]
 rcases o with⟨rfl,s⟩|⟨i,e,hi,rfl,rfl⟩
 left
 refine⟨fun p q=>?_,?_⟩
 grind
 cases ok<;>simp[Instr.lookup,run_underlying g,f,d,hr,n]
 right
 refine⟨i,e.val,by simp[hi],?_⟩
 cases ok<;>simp[Instr.lookup,run_underlying g,f,d,hr]
def jt.insert(h:jt w m es)(q:P.underlying T=some (.map K E))(g:rz P K S)(hS:∀p∈es,S p.1){k v}(j:S k)(s:∀p∈es,p.1≠k):
  ∃w',(Instr.mapUpdate T (.map<|some m) k v).run P w=.ok () w'/\jt w' m (es++[(k,v)])/\ab (·=m) w w':=by
 obtain⟨c,a,hm,rfl,t,u⟩:=h.ex
 have⟨r,hr,f⟩:=g.find k c.toList w j fun e l=>hS _<|List.mem_map.2 ⟨e,l,rfl⟩
 have n:=g.ej k j false w
 have o:(getObj m).run P w=.ok (.map c a) w:=by simp[getObj,Sem.run,hm]
 have d:=xA hm
 rcases f with⟨rfl,_⟩|⟨i,e,hi,rfl,rfl⟩
 refine⟨{ w with heap:=w.heap.setIfInBounds m (.map (c.push { key:=k,val:=v,born:=a })<|a+1) },?_,⟨c.push { key:=k,val:=v,born:=a },a+1,by simp[d],Sm,?_,?_⟩,⟨rfl,rfl,rfl,Gd,Sm,fun b _ f=>by simp[Array.getElem?_setIfInBounds_ne<|Ne.symm f]⟩⟩
 simp[Instr.mapUpdate,run_underlying q,o,n,hr,setObj,Sem.run,hm]
 grind
 grind
 exact absurd rfl (s _<|List.mem_map.2 ⟨e,List.mem_of_getElem? hi,rfl⟩)
def Jt{α β:Type}(f:α->β):∀(l:List α) (i:Nat),(l.eraseIdx i).map f=(l.map f).eraseIdx i
 |[],i=>Sm
 |a :: l,0=>Sm
 |a :: l,i+1=>by simp[Jt f l i]
def jt.RD(h:jt w m es)(A:P.underlying T=some (.map K E))(n:rz P K S)(hS:∀p∈es,S p.1){k v}(q:S k){i}(hi:es[i]?=some (k,v))(B:∀j u,es[j]?=some (k,u)->j=i){Q z}:
  ∃w',(Builtin.delete_ #[T,Q] z #[.map<|some m,k]).run P w=.ok (.tuple #[]) w'/\jt w' m (es.eraseIdx i)/\ab (·=m) w w':=by
 obtain⟨a,c,hm,rfl,C,D⟩:=h.ex
 have⟨r,hr,l⟩:=n.find k a.toList w q fun e s=>hS _<|List.mem_map.2 ⟨e,s,rfl⟩
 have x:=n.ej k q a.isEmpty w
 have y:(getObj m).run P w=.ok (.map a c) w:=by simp[getObj,Sem.run,hm]
 have g:=xA hm
 rcases l with⟨rfl,F⟩|⟨j,e,o,rfl,rfl⟩
 grind
 have f:j=i:=B j e.val (by simp[o])
 subst f
 have d:j<a.size:=by
  have:=List.getElem?_eq_some_iff.1 o;have⟨h,_⟩:=this;simpa using h
 have t:(a.eraseIdxIfInBounds j).toList=a.toList.eraseIdx j:=by
  simp[Array.eraseIdxIfInBounds,d,Array.toList_eraseIdx]
 refine⟨{ w with heap:=w.heap.setIfInBounds m (.map (a.eraseIdxIfInBounds j) c) },?_,⟨a.eraseIdxIfInBounds j,c,by simp[g],?_,?_,?_⟩,⟨rfl,rfl,rfl,Gd,Sm,fun b _ l=>by simp[Array.getElem?_setIfInBounds_ne<|Ne.symm l]⟩⟩
 simp[Builtin.delete_,run_underlying A,y,x,hr,setObj,Sem.run,hm]
 rw[t];exact Jt _ _ _
 grind
 grind
def jt.jcI(h:jt w m es)(M:P.underlying T=some (.map K E))(x:rz P K S)(hS:∀p∈es,S p.1){k v v'}(A:S k){i}(hi:es[i]?=some (k,v))(N:∀j u,es[j]?=some (k,u)->j=i):
  ∃w',(Instr.mapUpdate T (.map<|some m) k v').run P w=.ok () w'/\jt w' m (es.set i (k,v'))/\ab (·=m) w w':=by
 obtain⟨a,c,hm,rfl,I,O⟩:=h.ex
 have⟨r,hr,y⟩:=x.find k a.toList w A fun e F=>hS _<|List.mem_map.2 ⟨e,F,rfl⟩
 have L:=x.ej k A false w
 have J:(getObj m).run P w=.ok (.map a c) w:=by simp[getObj,Sem.run,hm]
 have D:=xA hm
 rcases y with⟨rfl,o⟩|⟨j,e,C,l,rfl⟩
 grind
 have t:j=i:=N j e.val (by simp[C,l])
 subst t
 have⟨s,B⟩:=List.getElem?_eq_some_iff.1 C
 have q:j<a.size:=by simpa using s
 have d:a[j]?=some e:=by simpa using C
 have g:a[j]=e:=by simpa using B
 have G:(a.modify j fun e=>{ e with key:=k,val:=v' }).toList=a.toList.set j { e with key:=k,val:=v' }:=by
  rw[Array.toList_modify];apply List.ext_getElem?;intro n;rw[List.getElem?_modify,List.getElem?_set];by_cases o:j=n;grind;simp[o]
 have H:(a.toList.map (·.born)).Pairwise (·<·):=List.pairwise_map.2 I
 have z:(a.toList.set j { e with key:=k,val:=v' }).map (·.born)=a.toList.map (·.born):=by
  rw[List.map_set];apply List.ext_getElem?;intro n;rw[List.getElem?_set];by_cases o:j=n;subst o;simp[q,d,g];simp[o]
 have f:=x.bits k A
 refine⟨{ w with heap:=w.heap.setIfInBounds m (.map (a.modify j fun e=>{ e with key:=k,val:=v' }) c) },?_,⟨a.modify j fun e=>{ e with key:=k,val:=v' },c,by simp[D],?_,?_,?_⟩,⟨rfl,rfl,rfl,Gd,Sm,fun b _ y=>by simp[Array.getElem?_setIfInBounds_ne<|Ne.symm y]⟩⟩
 simp[Instr.mapUpdate,run_underlying M,J,L,hr,setObj,Sem.run,hm,keyThatStays,d,l,f]
 rw[G,List.map_set]
 grind
 grind
end
end Go.SE
end
section
namespace Go.SE
structure dr(S:Nat->Prop)(w:World)(sz:Nat)(s:Sl)(rs:List (List Value)):Prop where
 len:s.len=rs.length
 at_:∀i (h:i<rs.length),∃a,At s i sz a/\S a.block/\Row w a rs[i]
def dr.ext{S F w w' sz s rs}(h:dr S w sz s rs)(d:ab F w w')(c:∀b,S b->¬F b):dr S w' sz s rs:=
 ⟨h.len,fun i hi=>let ⟨a,h1,h2,h3⟩:=h.at_ i hi;⟨a,h1,h2,d.row h3<|c _ h2⟩⟩
def dr.pure{S w w' sz s rs}(h:dr S w sz s rs)(a:Pure w w'):dr S w' sz s rs:=h.ext a fun _ _ h=>h
def bg.el{w e sz s rs}(h:bg w e sz s rs):dr s.aq w sz s rs:=
 ⟨h.len,fun i hi=>let ⟨a,h1,h2,h3⟩:=h.at (i:=i) Om (by simpa using hi);⟨a,h1,h3,h2⟩⟩
def yO(a:Addr)(i j:Nat):(a.add i).add j=a.add (i+j):=by
 unfold Addr.add;repeat' split
 all_goals simp_all
 all_goals omega
section
variable {P:Program} {t e:TypeId} {sz bytes:Nat}
def km.sizeOf(T:km P t e sz bytes)(w):(Go.sizeOf e).run P w=.ok sz w:=by
 have⟨i,z,hi,_,hs,_⟩:=T.hi;simp[Go.sizeOf,Go.typeInfo,Sem.run,program,hi,hs,bind,pure,Sem.bind,Sem.pure]
def bg.hi(T:km P t e sz bytes){w s rs}(h:bg w e sz s rs){k}{n:Int}(i:0<=n)(m:n<=rs.length):
  ∃s':Sl,(Instr.sliceAt t s.v none (some<|.int k n) none).run P w=.ok s'.v w/\bg w e sz s' (rs.take n.toNat)/\∀b,s'.aq b↔s.aq b:=by
 rcases h.ak with⟨rfl,rfl⟩|⟨g,cur,c,j,p,hm,hs,ht⟩
 have:n=0:=by simpa using(show n=0 by simp at m;omega)
 subst this
 refine⟨Sl.nil,?_,by simpa using bg.nil w e sz,fun _=>Iff.rfl⟩
 simp[Instr.sliceAt,Instr.slice,Sl.v,Sl.nil,run_underlying T.ht,Instr.sliceBounds,Instr.sliceBound,asIntOf,T.sizeOf]
 refine⟨⟨some ⟨g,0,none⟩,n.toNat,s.cap⟩,?_,⟨fun r hr=>h.mx r<|List.mem_of_mem_take hr,So,.inr ⟨g,cur,rfl,j,So,hm,hs,?_⟩⟩,fun b=>?_⟩
 have a:n<=(s.cap:Int):=Om
 by_cases f:s.cap=0
 have:n=0:=Om
 subst this
 simp[Instr.sliceAt,Instr.slice,Sl.v,run_underlying T.ht,Instr.sliceBounds,Instr.sliceBound,asIntOf,T.sizeOf,c,f]
 simp[Instr.sliceAt,Instr.slice,Sl.v,run_underlying T.ht,Instr.sliceBounds,Instr.sliceBound,asIntOf,T.sizeOf,i,a,c,f,Addr.add]
 have d:(rs.take n.toNat).length=n.toNat:=So
 have l:rs=rs.take n.toNat++rs.drop n.toNat:=(List.take_append_drop _ _).symm
 have o:((rs.take n.toNat).flatten).length=n.toNat*sz:=by rw[vL fun r hr=>h.mx r<|List.mem_of_mem_take hr,d]
 have h3:n.toNat*sz<=rs.length*sz:=Nat.mul_le_mul_right _ Om
 calc cur.toList.take ((rs.take n.toNat).length*sz)=(cur.toList.take<|rs.length*sz).take (n.toNat*sz):=by rw[d,List.take_take,Nat.min_eq_left h3]
  _=((rs.take n.toNat).flatten++(rs.drop n.toNat).flatten).take (n.toNat*sz):=by rw[ht,<-List.flatten_append,<-l]
  _=(rs.take n.toNat).flatten:=by rw[<-o,List.take_left]
 simp[Sl.aq,c]
def dr.lo{S}(T:km P t e sz bytes){w s rs}(h:dr S w sz s rs)(d:s.len<=s.cap){k}{n:Int}(f:0<=n)(j:n<=rs.length):
  ∃s':Sl,(Instr.sliceAt t s.v (some<|.int k n) none none).run P w=.ok s'.v w/\dr S w sz s' (rs.drop n.toNat):=by
 have b:n<=(s.len:Int):=by rw[h.len];exact j
 refine⟨⟨if s.cap=n.toNat then s.a else s.a.map (·.add<|n.toNat*sz),s.len-n.toNat,s.cap-n.toNat⟩,?_,⟨by simp[h.len],fun i hi=>?_⟩⟩
 simp[Instr.sliceAt,Instr.slice,Sl.v,run_underlying T.ht,Instr.sliceBounds,Instr.sliceBound,asIntOf,T.sizeOf,f,b]
 have c:n.toNat+i<rs.length:=by simp at hi;omega
 obtain⟨a,⟨_,g,p,l,rfl⟩,hS,hr⟩:=h.at_ (n.toNat+i) c
 refine⟨_,⟨Om,by simp only[h.len];omega,p.add<|n.toNat*sz,?_,rfl⟩,?_,?_⟩
 grind
 simpa[zC]using hS
 have:(p.add<|n.toNat*sz).add ((i:Int).toNat*sz)=p.add (((n.toNat+i:Nat):Int).toNat*sz):=by
  rw[yO,Int.toNat_natCast,Int.toNat_natCast,Nat.add_mul]
 rw[this,List.getElem_drop];exact hr
end
def ai.storeAt{p T}:∀(vs:List Value) (i a:Nat) (w:World) (c:List Value),ai w p c T->a+i+vs.length<=c.length ->
  ai (pO w (p.add a) i vs) p (c.take (a+i)++vs++c.drop (a+i+vs.length)) T
 |[],i,a,w,c,h,b=>by simpa[pO]using h
 |v :: vs,i,a,w,c,h,b=>by
  simp only[pO];have h1:=h.set (a+i) v;rw[<-yO]at h1;have h2:=ai.storeAt vs (i+1) a _ _ h1 (by simp at b|-;omega);have e:(c.set (a+i) v).take (a+(i+1))++vs++(c.set (a+i) v).drop (a+(i+1)+vs.length)=c.take (a+i)++(v ::vs)++c.drop (a+i+(v ::vs).length):=by
   have d:a+i<c.length:=by simp at b;omega
   rw[List.drop_set_of_lt Om,<-Nat.add_assoc,List.take_succ_eq_append_getElem So,List.getElem_set_self,List.take_set_of_le<|Nat.le_refl _];simp only[List.length_cons,List.append_assoc,List.cons_append,List.nil_append];congr 4;omega
  rw[e]at h2;exact h2
def bg.set{w e}{sz:Nat}{s rs}(h:bg w e sz s rs){i:Nat}(hi:i<rs.length){r}(hr:r.length=sz){k:Int}(C:k=i):
  ∃a,At s k sz a/\(∀j,j<sz->zL w (a.add j))/\∀w',w'=bd w a r->bg w' e sz s (rs.set i r)/\ab s.aq w w':=by
 subst C
 rcases h.ak with⟨_,rfl⟩|⟨g,cur,n,E,z,hm,hs,ht⟩
 simp at hi
 have B:ai w ⟨g,0,none⟩ cur.toList e:=⟨rfl,by simpa using E⟩
 have m:(i+1)*sz<=rs.length*sz:=Nat.mul_le_mul_right _ hi
 have x:rs.length*sz<=s.cap*sz:=Nat.mul_le_mul_right _ z
 have y:cur.toList.length=s.cap*sz:=by simpa using hs
 rw[Nat.succ_mul]at m
 refine⟨(⟨g,0,none⟩:Addr).add<|i*sz,⟨Om,by rw[h.len];omega,⟨_,n,Sm⟩⟩,fun j N=>?_,?_⟩
 rw[yO];exact B.eh Om
 intro w' d
 have v:=ai.storeAt r 0 (i*sz) w _ B (by rw[hr];omega)
 have G:ab (·=g) w w':=by
  rw[d];have:=ab.bd w ((⟨g,0,none⟩:Addr).add<|i*sz) r;rw[zC]at this;exact this
 have t:pO w ((⟨g,0,none⟩:Addr).add<|i*sz) 0 r=w':=d.symm
 rw[t]at v
 refine⟨⟨?_,by rw[List.length_set];exact h.len,.inr ⟨g,_,n,v.aq,by rw[List.length_set];exact z,hm,?_,?_⟩⟩,G.mono fun b _ D=>⟨_,n,D.symm⟩⟩
 intro q f
 rcases List.mem_or_eq_of_mem_set f with l|rfl
 exact h.mx q l
 exact hr
 grind
 have o:∀ q∈rs.set i r,q.length=sz:=by
  intro q f;rcases List.mem_or_eq_of_mem_set f with l|rfl;exact h.mx q l;exact hr
 have O:rs=rs.take i++rs[i] ::rs.drop (i+1):=by rw[<-List.drop_eq_getElem_cons hi,List.take_append_drop]
 have I:rs.set i r=rs.take i++r ::rs.drop (i+1):=Gd
 have A:(rs.take i).flatten.length=i*sz:=by rw[vL fun r hr=>h.mx r<|List.mem_of_mem_take hr,List.length_take,Nat.min_eq_left Om]
 have H:rs[i].length=sz:=h.mx _<|List.getElem_mem hi
 have M:(rs.drop<|i+1).flatten.length=(rs.length-(i+1))*sz:=by rw[vL fun r hr=>h.mx r<|List.mem_of_mem_drop hr,List.length_drop]
 have c:cur.toList=rs.flatten++cur.toList.drop (rs.length*sz):=by rw[<-ht,List.take_append_drop]
 have u:rs.flatten=(rs.take i).flatten++(rs[i]++(rs.drop<|i+1).flatten):=Gd
 have F:cur.toList.take (i*sz)=(rs.take i).flatten:=Gd
 have J:cur.toList.drop (i*sz+sz)=(rs.drop<|i+1).flatten++cur.toList.drop (rs.length*sz):=by
  conv=>lhs;rw[c,u]
  have:i*sz+sz=((rs.take i).flatten++rs[i]).length:=by rw[List.length_append,A,H]
  rw[<-List.append_assoc,List.append_assoc,this,List.drop_left]
 have p:((rs.set i r).flatten).length=(rs.set i r).length*sz:=vL o
 have L:(rs.set i r).flatten=(rs.take i).flatten++(r++(rs.drop<|i+1).flatten):=by rw[I,List.flatten_append,List.flatten_cons]
 have K:(rs.take i).flatten++r++((rs.drop<|i+1).flatten++cur.toList.drop (rs.length*sz))=(rs.set i r).flatten++cur.toList.drop (rs.length*sz):=Gd
 rw[<-p,Nat.add_zero,hr,F,J,K]
 exact List.take_left
section
variable {P:Program} {t e:TypeId} {sz bytes:Nat}
def bg.ay(T:km P t e sz bytes){zr}(q:∀i z,P.info? e=some i->i.zero=some z->z.cells=zr.toArray){k k' n}(B:bytes*n<=281474976710656)(hm:n<=maxLen)(w):
  ∃w',(Instr.makeSlice t (.int k (n:Int))<|.int k' (n:Int)).run P w=.ok (Sl.mk (some ⟨w.heap.size,0,none⟩) n n).v w'/\bg w' e sz ⟨some ⟨w.heap.size,0,none⟩,n,n⟩ (List.replicate n zr)/\Pure w w':=by
 have⟨i,z,hi,o,hs,u,f⟩:=T.hi
 have d:=q i z hi o
 have a:zr.length=sz:=by rw[<-f,d];simp
 have h:(n:Int)<=9223372036854775807:=by simp only[maxLen]at hm;omega
 have g:(i.bytes:Int)*(n:Int)<=281474976710656:=Gd
 have hr:=run_make (P:=P) w t e i z T.ht hi o k k' n n Om (Int.le_refl _) g h
 simp only[Int.toNat_natCast,hs]at hr
 have m:av w (.cells (madeCells z.cells<|n*sz) e) ⟨w.heap.size,0,none⟩ (w.alloc<|.cells (madeCells z.cells<|n*sz) e):=⟨rfl,rfl⟩
 refine⟨_,hr,⟨fun r hr=>by rw[(List.mem_replicate.1 hr).2,a],Sm,.inr ⟨w.heap.size,_,rfl,m.Iy,Sm,hm,by simp[size_madeCells],?_⟩⟩,ab.ax m⟩
 have c:=T.pos
 have l:∀r∈List.replicate n zr,r.length=sz:=fun r hr=>by rw[(List.mem_replicate.1 hr).2,a]
 rw[List.take_of_length_le<|by simp[size_madeCells]]
 apply List.ext_getElem?
 intro j
 by_cases s:j<n*sz
 have y:j/sz<n:=Nat.div_lt_of_lt_mul Gd
 have b:j%sz<sz:=Nat.mod_lt _ c
 have p:=DW l (i:=j/sz) (by simpa using y) (j:=j%sz) b
 have A:j/sz*sz+j%sz=j:=by rw[Nat.mul_comm];exact Nat.div_add_mod j sz
 rw[A]at p
 rw[p]
 have x:z.cells.size=sz:=f
 simp only[madeCells,d,Array.getElem?_toList,Array.getElem?_map,Array.getElem?_range,s,List.size_toArray,a,List.getElem_replicate,if_true,Option.map_some]
 rw[List.getElem?_eq_getElem Om]
 simp[a,b]
 rw[List.getElem?_eq_none (by simp[size_madeCells];omega),List.getElem?_eq_none (by rw[vL l];simp;omega)]
end
end Go.SE
end
section
namespace Go.SE
open Go.Instr
structure AH(w:World)(m:Nat)(z:Int)(i:Nat)(es:List (Value×Value)):Prop where
 ex:∃d c,w.heap[m]?=some (.map d c)/\d.toList.map (fun e=>(e.key,e.val))=es/\d.toList.Pairwise (fun a b=>a.born<b.born)/\(∀e∈d.toList,e.born<c)/\∃e,d.toList[i]?=some e/\(e.born:Int)=z
def AH.ext{F w w' m z i}{es:List (Value×Value)}(h:AH w m z i es)(c:ab F w w')(d:¬F m):AH w' m z i es:=by
 have⟨b,a,hm,r⟩:=h.ex;exact⟨b,a,c.heap hm d,r⟩
section
variable {P:Program} {T K E:TypeId} {S:Value->Prop} {w:World} {m:Nat} {es:List (Value×Value)}
def AH.store{z i}(h:AH w m z i es){k v0 v}(hi:es[i]?=some (k,v0)):
  ∃w',(Instr.entryStore T (.map<|some m) (.int .i64 z) v).run P w=.ok () w'/\jt w' m (es.set i (k,v))/\ab (·=m) w w':=by
 obtain⟨a,c,hm,rfl,u,F,e,l,rfl⟩:=h.ex
 have C:(getObj m).run P w=.ok (.map a c) w:=by simp[getObj,Sem.run,hm]
 have s:=xA hm
 have⟨o,r⟩:=List.getElem?_eq_some_iff.1 l
 have f:i<a.size:=by simpa using o
 have x:a[i]?=some e:=by simpa using l
 have d:a[i]=e:=by simpa using r
 have q:e.key=k:=by
  rw[List.getElem?_map,l]at hi;have:=Option.some.inj hi;exact congrArg Prod.fst this
 have t:a.findIdx? (fun D=>(D.born:Int)==(e.born:Int))=some i:=by
  rw[Array.findIdx?_eq_some_iff_getElem];refine⟨f,by simp[d],fun j E=>?_⟩;have:=List.pairwise_iff_getElem.1 u j i So (by simpa using f) E;simp only[Array.getElem_toList,d]at this;simp only[beq_iff_eq];omega
 have y:(a.modify i fun e=>{ e with val:=v }).toList=a.toList.set i { e with val:=v }:=by
  rw[Array.toList_modify];apply List.ext_getElem?;intro n;rw[List.getElem?_modify,List.getElem?_set];by_cases g:i=n;grind;simp[g]
 have B:(a.toList.map (·.born)).Pairwise (·<·):=List.pairwise_map.2 u
 have p:(a.toList.set i { e with val:=v }).map (·.born)=a.toList.map (·.born):=by
  rw[List.map_set];apply List.ext_getElem?;intro n;rw[List.getElem?_set];by_cases g:i=n;subst g;simp[f,d];simp[g]
 refine⟨{ w with heap:=w.heap.setIfInBounds m (.map (a.modify i fun e=>{ e with val:=v }) c) },?_,⟨a.modify i fun e=>{ e with val:=v },c,by simp[s],?_,?_,?_⟩,⟨rfl,rfl,rfl,Gd,Sm,fun b _ A=>by simp[Array.getElem?_setIfInBounds_ne<|Ne.symm A]⟩⟩
 simp[Instr.entryStore,C,asInt,asIntOf,t,setObj,Sem.run,hm]
 rw[y,List.map_set,q]
 grind
 grind
end
end Go.SE
end
section
namespace Go.SE
abbrev gh:=Addr×List Value×TypeId
def Vw:Obj->Bool
 |.cells ..=>true
 |_=>false
structure de(Z:List (Nat×Obj))(H:Nat->Prop)(w:World)(l:List gh):Prop where
 box:∀x∈l,ai w x.1 x.2.1 x.2.2
 uh:∀x∈l,H x.1.block
 ne:l.Pairwise fun x y=>x.1.block≠y.1.block
 fz:∀x∈Z,H x.1/\w.heap[x.1]?=some x.2/\Vw x.2=false
abbrev HB(H:Nat->Prop)(w:World)(l:List gh):Prop:=de [] H w l
structure af(w0:World)(H:Nat->Prop)(w:World)(a:Nat->Prop)(w':World):Prop where
 ext:ab a w w'
 sub:∀b,H b->a b
 ax:∀b,a b->H b\/w.heap.size<=b
 old:∀b,a b->w0.heap.size<=b
 lt:∀b,a b->b<w'.heap.size
 ev:w0.heap.size<=w'.heap.size
structure aj(H:Nat->Prop)(w w':World):Prop where
 size:w.heap.size<=w'.heap.size
 gq:∀b,b<w.heap.size->H b->w'.heap[b]?=w.heap[b]?
def ab.bk{F H w w'}(h:ab F w w')(a:∀b,H b->¬F b):aj H w w':=⟨h.size,fun b d c=>h.gq b d<|a b c⟩
def ab.bz{H w w'}(h:Pure w w'):aj H w w':=h.bk fun _ _ h=>h
def aj.refl{H}(w):aj H w w:=⟨Nat.le_refl _,fun _ _ _=>rfl⟩
section
variable {w0 w w1 w2 wv:World} {H H1 H2 Hv:Nat->Prop} {Z:List (Nat×Obj)} {l l':List gh}
def af.start(w0):af w0 ar w0 ar w0:=⟨ab.refl _,fun _ h=>h,fun _ h=>.inl h,fun _ h=>h.elim,fun _ h=>h.elim,Nat.le_refl _⟩
def HB.nil(H w):HB H w []:=⟨fun _ h=>(by cases h),fun _ h=>(by cases h),List.Pairwise.nil,fun _ h=>(by cases h)⟩
def af.fm(h:af w0 Hv wv H w):af w0 H w H w:=⟨ab.refl _,fun _ h=>h,fun _ h=>.inl h,h.old,h.lt,h.ev⟩
def af.ib(h:af w0 Hv wv H w)(a:aj H w w1):af w0 H w1 H w1:=
 ⟨ab.refl _,fun _ h=>h,fun _ h=>.inl h,h.old,fun b c=>Nat.lt_of_lt_of_le (h.lt b c) a.size,Nat.le_trans h.ev a.size⟩
def af.trans(h:af w0 Hv wv H w)(k:af w0 H w H1 w1):af w0 Hv wv H1 w1:=
 ⟨(h.ext.mono fun b _ a=>k.sub b a).trans k.ext,fun b a=>k.sub b<|h.sub b a,fun b a=>(k.ax b a).elim (fun a=>h.ax b a) fun a=>.inr<|Nat.le_trans h.ext.size a,k.old,k.lt,k.ev⟩
def af.pure(h:af w0 Hv wv H w)(E:Pure w w1):af w0 Hv wv H w1:=
 ⟨h.ext.fb E,h.sub,h.ax,h.old,fun b a=>Nat.lt_of_lt_of_le (h.lt b a) E.size,Nat.le_trans h.ev E.size⟩
def af.drew(h:af w0 Hv wv H w):af w0 Hv wv H w.drew:=h.pure<|ab.drew w
def de.bk(a:de Z H w l)(c:aj H w w1):de Z H w1 l:=
 ⟨fun x b=>⟨(a.box x b).CJ,by rw[c.gq _ (a.box x b).lt<|a.uh x b];exact(a.box x b).aq⟩,a.uh,a.ne,fun x b=>⟨(a.fz x b).1,by rw[c.gq _ (xA (a.fz x b).2.1) (a.fz x b).1];exact(a.fz x b).2.1,(a.fz x b).2.2⟩⟩
def de.pure(a:de Z H w l)(E:Pure w w1):de Z H w1 l:=a.bk E.bz
def de.drew(a:de Z H w l):de Z H w.drew l:=a.pure<|ab.drew w
def de.sub(a:de Z H w l)(c:l'.Sublist l):de Z H w l':=⟨fun x b=>a.box x<|c.subset b,fun x b=>a.uh x<|c.subset b,a.ne.sublist c,a.fz⟩
def af.alloc{c T p}(h:af w0 Hv wv H w)(d:de Z H w l)(f:av w (.cells c.toArray T) p w1):∃H1,af w0 Hv wv H1 w1/\de Z H1 w1 ((p,c,T) ::l):=by
 have E:Pure w w1:=ab.ax f;have g:p.block=w.heap.size:=f.cu;have B:=ai.bj f;refine⟨fun b=>H b\/b=p.block,⟨(h.ext.fb E).mono fun b _ d=>.inl d,fun b d=>.inl<|h.sub b d,?_,?_,?_,Nat.le_trans h.ev E.size⟩,?_⟩;rintro b (d|rfl);exact h.ax b d;right;rw[g];exact h.ext.size;rintro b (d|rfl);exact h.old b d;rw[g];exact h.ev;rintro b (d|rfl);exact Nat.lt_of_lt_of_le (h.lt b d) E.size;exact B.lt;have e:=d.pure E;refine⟨?_,?_,?_,fun x a=>⟨.inl (e.fz x a).1,(e.fz x a).2⟩⟩;intro x a;rcases List.mem_cons.1 a with rfl|a;exact B;exact e.box x a;intro x a;rcases List.mem_cons.1 a with rfl|a;exact .inr rfl;exact .inl<|e.uh x a;refine List.pairwise_cons.2 ⟨fun x a=>?_,e.ne⟩;have:=(d.box x a).lt;show p.block≠x.1.block;omega
def de.at(a:de Z H w l){i:Nat}{p c T}(hi:l[i]?=some (p,c,T)):ai w p c T:=a.box _<|List.mem_of_getElem? hi
def de.cell(b:de Z H w l)(i j:Nat){p c T v}(hi:l[i]?=some (p,c,T))(a:c[j]?=some v):w.cell? (p.add j)=some v:=(b.at hi).cell a
def de.bf(b:de Z H w l)(i:Nat){p c T v}(hi:l[i]?=some (p,c,T))(a:c[0]?=some v):w.cell? p=some v:=by
 have:=b.cell i 0 hi a;simpa[Addr.add]using this
def de.row(d:de Z H w l)(i j n:Nat){p c vs T}(hi:l[i]?=some (p,c,T))(b:(c.drop j).take n=vs):Row w (p.add j) vs:=by
 intro k e;subst b;have a:k<n/\j+k<c.length:=by simp at e;omega
 rw[yO,List.getElem?_take,if_pos a.1,List.getElem?_drop,List.getElem?_eq_getElem a.2];exact(d.at hi).cell<|List.getElem?_eq_getElem a.2
def de.jcu(d:de Z H w l)(i n:Nat){p c vs T}(hi:l[i]?=some (p,c,T))(b:c.take n=vs):Row w p vs:=by
 intro k e;subst b;have a:k<n/\k<c.length:=by simp at e;omega
 rw[List.getElem?_take,if_pos a.1,List.getElem?_eq_getElem a.2];exact(d.at hi).cell<|List.getElem?_eq_getElem a.2
def de.eh(a:de Z H w l)(i j:Nat){p c T}(hi:l[i]?=some (p,c,T))(b:decide (j<c.length)=true):zL w (p.add j):=(a.at hi).eh<|of_decide_eq_true b
def de.uo(a:de Z H w l)(i j n:Nat){p c T}(hi:l[i]?=some (p,c,T))(b:decide (j+n<=c.length)=true):∀k,k<n->zL w ((p.add j).add k):=fun k d=>by
 rw[yO];exact(a.at hi).eh Gd
def de.NC(a:de Z H w l)(i n:Nat){p c T}(hi:l[i]?=some (p,c,T))(b:decide (n<=c.length)=true):∀k,k<n->zL w (p.add k):=fun k d=>(a.at hi).eh Gd
def de.put{i:Nat}{p:Addr}{c n:List Value}{T:TypeId}(a:de Z H w l)(h:af w0 Hv wv H w)(hi:l[i]?=some (p,c,T))(hB:ai w1 p n T)(q:ab (·=p.block) w w1)(u:l.set i (p,n,T)=l'):af w0 Hv wv H w1/\de Z H w1 l':=by
 have f:=List.mem_of_getElem? hi;refine⟨⟨h.ext.cg q fun b _ e=>by subst e;exact a.uh _ f,h.sub,h.ax,h.old,fun b a=>Nat.lt_of_lt_of_le (h.lt b a) q.size,Nat.le_trans h.ev q.size⟩,?_⟩;subst u;have⟨s,o⟩:=List.getElem?_eq_some_iff.1 hi;have m:∀k x,(l.set i (p,n,T))[k]?=some x->(k=i/\x=(p,n,T))\/(k≠i/\l[k]?=some x):=by
  intro k x d;rw[List.getElem?_set]at d;by_cases j:i=k;grind;grind
 have t:∀k x,k≠i->l[k]?=some x->x.1.block≠p.block:=by
  intro k x j d;have⟨v,y⟩:=List.getElem?_eq_some_iff.1 d;have A:=List.pairwise_iff_getElem.1 a.ne;rcases Nat.lt_or_gt_of_ne j with z|z;grind;grind
 refine⟨?_,?_,?_,fun x d=>⟨(a.fz x d).1,q.heap (a.fz x d).2.1 fun e=>?_,(a.fz x d).2.2⟩⟩;intro x d;have⟨k,j⟩:=List.getElem?_of_mem d;rcases m k x j with⟨_,rfl⟩|⟨r,g⟩;exact hB;exact(a.box x<|List.mem_of_getElem? g).ext q<|t k x r g;intro x d;have⟨k,j⟩:=List.getElem?_of_mem d;rcases m k x j with⟨_,rfl⟩|⟨r,g⟩;have:=a.uh _ f;exact this;exact a.uh x<|List.mem_of_getElem? g;have e:(l.set i (p,n,T)).map (fun x=>x.1.block)=l.map (fun x=>x.1.block):=by
  rw[List.map_set];apply List.ext_getElem?;intro k;rw[List.getElem?_set];by_cases j:i=k;subst j;simp[s,o];simp[j]
 have:=List.pairwise_map.2 a.ne;exact List.pairwise_map.1<|e▸this;have h1:=(a.box _ f).aq;have h2:=(a.fz x d).2;simp only at h1;rw[e,h1]at h2;have h3:=Option.some.inj h2.1;rw[<-h3]at h2;cases h2.2
def de.set{i:Nat}(j:Nat){p c v T}(a:de Z H w l)(h:af w0 Hv wv H w)(hi:l[i]?=some (p,c,T))(b:l.set i (p,c.set j v,T)=l'):af w0 Hv wv H (w.setCell (p.add j) v)/\de Z H (w.setCell (p.add j) v) l':=
 a.put h hi ((a.at hi).set j v) (by have:=ab.setCell (w:=w) (p.add j) v;rw[zC]at this;exact this) b
def de.store{i:Nat}(j:Nat){p c vs T}(a:de Z H w l)(h:af w0 Hv wv H w)(hi:l[i]?=some (p,c,T))(d:decide (j+vs.length<=c.length)=true)(b:l.set i (p,c.take j++vs++c.drop (j+vs.length),T)=l'):af w0 Hv wv H (bd w (p.add j) vs)/\de Z H (bd w (p.add j) vs) l':=
 a.put h hi (by have:=ai.storeAt vs 0 j w c (a.at hi) Gd;simpa[bd]using this) (by have:=ab.bd w (p.add j) vs;rw[zC]at this;exact this) b
def de.GC{i:Nat}{p:Addr}{c vs:List Value}{T:TypeId}(a:de Z H w l)(h:af w0 Hv wv H w)(hi:l[i]?=some (p,c,T))(b:decide (vs.length<=c.length)=true)(d:l.set i (p,vs++c.drop vs.length,T)=l'):af w0 Hv wv H (bd w p vs)/\de Z H (bd w p vs) l':=by
 have:=a.store 0 (vs:=vs) h hi (by simpa using b) (by simpa using d);simpa[Addr.add]using this
def ab.au{F}(E:ab F w0 w)(h:af w0 H w H1 w1):ab F w0 w1:=E.cg h.ext fun b c a=>absurd (h.old b a) Om
def af.ji(h:af w0 H w H1 w1){G:Nat->Prop}(a:∀b,G b->b<w.heap.size/\¬H b):∀b,G b->¬H1 b:=fun b c h1=>(h.ax b h1).elim (a b c).2 Gd
def af.PL(h:af w0 H w H1 w1){G:Nat->Prop}(a:∀b,G b->b<w0.heap.size):∀b,G b->¬H1 b:=fun b c h1=>Oi (a b c)<|h.old b h1
end
end Go.SE
namespace Go.SE
section
variable {H:Nat->Prop} {w:World} {a:Addr}
def aj.setCell{v}(h:¬H a.block):aj H w (w.setCell a v):=(ab.setCell a v).bk fun b c e=>h<|e▸c
def aj.bd{vs}(h:¬H a.block):aj H w (SE.bd w a vs):=(ab.bd w a vs).bk fun b c e=>h<|e▸c
def de.drop{Z:List (Nat×Obj)}{l}(a:de Z H w l)(n):de Z H w (l.drop n):=a.sub<|List.drop_sublist n l
def G6{cx P n c Q ρ}(J)(h:dv (x:=cx) P n c (pM J fun _ _ _=>False) ρ w)(b:∀ρ w,J ρ w->Q .normal ρ w):dv (x:=cx) P n c Q ρ w:=
 Aq (fun e ρ w a=>by cases e<;>first|exact b _ _ a|exact a.elim) h
def Ft{Q:Exit->bh->World->Prop}{ρ:bh}{l:List (Nat×Value)}(h:ek ρ l)(a:Q .normal (yC ρ l) w):Q .normal ρ w:=by rwa [uP h]at a
end
end Go.SE
namespace Go.SE
def gZ{α:Type}{o:α}{l:List α}:(o ::l)[0]?=some o:=rfl
def gS{α:Type}{a o:α}{l:List α}{k}(h:l[k]?=some o):(a ::l)[k+1]?=some o:=by simpa using h
end Go.SE
end
section
namespace Go.SE
structure jw(H:Nat->Prop)(w:World)(e:TypeId)(sz:Nat)(s:Sl)(rs:List (List Value)):Prop where
 cm:bg w e sz s rs
 jd:∀b,s.aq b->¬H b
section
variable {w0 w w1 w2 wv:World} {H H1 Hv:Nat->Prop} {e:TypeId} {sz:Nat} {s:Sl} {rs:List (List Value)}
def jw.au(h:jw H w e sz s rs)(hs:af w0 H w H1 w1):jw H1 w1 e sz s rs:=
 have a:∀b,s.aq b->¬H1 b:=hs.ji fun b c=>⟨h.cm.lt c,h.jd b c⟩
 ⟨h.cm.ext hs.ext a,a⟩
def jw.pure(h:jw H w e sz s rs)(E:Pure w w1):jw H w1 e sz s rs:=⟨h.cm.pure E,h.jd⟩
def jw.ext{F}(h:jw H w e sz s rs)(E:ab F w w1)(a:∀b,s.aq b->¬F b):jw H w1 e sz s rs:=⟨h.cm.ext E a,h.jd⟩
def jw.nil(H w):jw H w e sz Sl.nil []:=⟨bg.nil _ _ _,fun b h=>by have⟨a,h,_⟩:=h;cases h⟩
def bg.kg{α:Type}{f:α->List Value}{xs:List α}(h:bg w e sz s (xs.map f)){j}(b:j<xs.length):∃a,At s j sz a/\Row w a (f xs[j]):=by
 have⟨a,h1,h2,_⟩:=h.at (i:=j) Om (by simpa using b);exact⟨a,h1,by simpa using h2⟩
def jw.kg{α:Type}{f:α->List Value}{xs:List α}(h:jw H w e sz s (xs.map f)){j}(b:j<xs.length):∃a,At s j sz a/\Row w a (f xs[j]):=h.cm.kg b
def dr.kg{S}{α:Type}{f:α->List Value}{xs:List α}(h:dr S w sz s (xs.map f)){j}(b:j<xs.length):∃a,At s j sz a/\S a.block/\Row w a (f xs[j]):=by
 have⟨a,h1,h2,h3⟩:=h.at_ j (by simpa using b);exact⟨a,h1,h2,by simpa using h3⟩
def zi{a v}(h:Row w a [v]):w.cell? a=some v:=by
 have:=h 0 Sm;simpa[Addr.add]using this
def dr.au{S}(h:dr S w sz s rs)(hs:af w0 H w H1 w1)(a:∀b,S b->b<w0.heap.size):dr S w1 sz s rs:=h.ext hs.ext fun b c h1=>Oi (a b c)<|hs.old b h1
def af.first(h:af w0 ar w0 H1 w1):Pure w0 w1:=(ab.refl w0).au h
def jw.append{P t ty bytes}(T:km P t e sz bytes)(h:jw H w e sz s rs)(hs:af w0 Hv wv H w){p c r}(hr:Row w p r)(j:r.length=sz)(h1:r.all vJ=true)(f:(rs.length+1)*bytes<=140737488355328)(hm:rs.length+1<=maxLen):
  ∃s' w',(Builtin.append_ #[t,t] ty #[s.v,(Sl.mk (some p) 1 c).v]).run P w=.ok s'.v w'/\jw H w' e sz s' (rs++[r])/\ab s.aq w w'/\aj H w w'/\(∀b,s'.aq b->s.aq b\/w.heap.size<=b):=by
 have⟨s',w',g,k,i,a⟩:=h.cm.append T (ty:=ty) (c:=c) hr j h1 f hm
 exact⟨s',w',g,⟨k,fun b f=>(a b f).elim (h.jd b) fun l d=>Oh<|hs.lt b d⟩,i,i.bk fun b d hS=>h.jd b hS d,a⟩
def Pf(h:jw H w e sz s rs){w'}(E:Pure w0 w)(c:ab s.aq w w')(a:∀b,s.aq b->w0.heap.size<=b):Pure w0 w':=E.cg c Gd
end
def zM{j n:Nat}(h:j<n)(a:n<=9223372036854775807):IntKind.i64.wrap ((j:Int)+1)=((j+1:Nat):Int):=by
 rw[IntWalk.i64_in _ Om];omega
def yQ{j n:Nat}(h:j<n):((n:Int)-((j+1:Nat):Int)).toNat<((n:Int)-(j:Int)).toNat:=Om
def vQ{j n m:Nat}(hm:m=n)(h:decide ((j:Int)<(m:Int))=true):j<n:=by have h:=of_decide_eq_true h;omega
def qU{j n m:Nat}(hm:m=n)(a:j<=n)(h:decide ((j:Int)<(m:Int))=false):j=n:=by have h:=of_decide_eq_false h;omega
end Go.SE
namespace Go.SE
def yV{cx P n c Q ρ w N}(J)(b:∀ρ w,J ρ w->N ρ w)(h:dv (x:=cx) P n c (pM J Q) ρ w):dv (x:=cx) P n c (pM N Q) ρ w:=
 Aq (fun e ρ w a=>by cases e<;>first|exact b _ _ a|exact a) h
end Go.SE
namespace Go.SE
section
variable {w0 w w1:World} {H H1:Nat->Prop}
def Cj{a v}(h:w.cell? a=some v)(b:¬H a.block)(hs:af w0 H w H1 w1):w1.cell? a=some v:=
 hs.ext.cell h fun h1=>(hs.ax _ h1).elim b fun h2=>Oh<|World.block_lt_of_cell? w a h
def IE{a v vs}(h:Row w a (v ::vs))(b:¬H a.block)(hs:af w0 H w H1 w1):Row w1 a (v ::vs):=
 hs.ext.row h (fun h1=>(hs.ax _ h1).elim b (fun h2=>by
  have c:=h 0 Sm;have:=World.block_lt_of_cell? w (a.add 0) c;rw[zC]at this;omega))
def xu{P ops C}{loud free:Nat->Bool}{Q Q'}(b:∀ρ w,Q ρ w->Q' ρ w):∀{fuel:Nat} {a:Array Bool} {ρ:bh} {w:World},fw P ops C loud free Q fuel a ρ w->fw P ops C loud free Q' fuel a ρ w
 |0,_,_,_,h=>⟨h.1,b _ _ h.2⟩
 |fuel+1,a,ρ,w,h=>by
  have key:∀i ρ w,fg P ops C loud free i (fw P ops C loud free Q fuel<|a.setIfInBounds i true) ρ w->fg P ops C loud free i (fw P ops C loud free Q' fuel<|a.setIfInBounds i true) ρ w:=by
   intro i ρ w h;unfold fg at h|-;split;rename_i c;simp only[c]at h;exact xu b h;rename_i o c;simp only[c]at h;split;rename_i f;rw[if_pos f]at h;split;rename_i d;rw[if_pos d]at h;exact tP h fun v w' ⟨k,l⟩=>⟨k,xu b l⟩;rename_i d;rw[if_neg d]at h;have⟨v,h1,h2⟩:=h;exact⟨v,h1,xu b h2⟩;rename_i f;rw[if_neg f]at h;exact xu b h
  rcases h with⟨i,h1,h2,h3,g⟩|⟨j,h⟩;exact .inl ⟨i,h1,h2,h3,key _ _ _ g⟩;exact .inr ⟨fun e=>b _ _<|j e,fun i hi=>key _ _ _<|h i hi⟩
def Kb{P ops C}{loud free:Nat->Bool}{Q ρ fuel}{a:Array Bool}(J)(h:fw P ops C loud free J fuel a ρ w)(b:∀ρ w,J ρ w->Q ρ w):fw P ops C loud free Q fuel a ρ w:=xu b h
def JH{Q:bh->World->Prop}{ρ:bh}{l:List (Nat×Value)}(h:ek ρ l)(a:Q (yC ρ l) w):Q ρ w:=by rwa [uP h]at a
end
end Go.SE
namespace Go.SE
section
variable {P:Program} {t e:TypeId} {sz bytes:Nat}
def bg.ZQ(T:km P t e sz bytes){w s rs}(h:bg w e sz s rs){k}{n:Int}(i:0<=n)(m:n<=rs.length):
  ∃s':Sl,(∀w:World,(Instr.sliceAt t s.v none (some<|.int k n) none).run P w=.ok s'.v w)/\bg w e sz s' (rs.take n.toNat)/\∀b,s'.aq b↔s.aq b:=by
 rcases h.ak with⟨rfl,rfl⟩|⟨g,cur,c,j,p,hm,hs,ht⟩
 have:n=0:=by simpa using(show n=0 by simp at m;omega)
 subst this
 refine⟨Sl.nil,fun w=>?_,by simpa using bg.nil w e sz,fun _=>Iff.rfl⟩
 simp[Instr.sliceAt,Instr.slice,Sl.v,Sl.nil,run_underlying T.ht,Instr.sliceBounds,Instr.sliceBound,asIntOf,T.sizeOf]
 refine⟨⟨some ⟨g,0,none⟩,n.toNat,s.cap⟩,fun w=>?_,⟨fun r hr=>h.mx r<|List.mem_of_mem_take hr,So,.inr ⟨g,cur,rfl,j,So,hm,hs,?_⟩⟩,fun b=>?_⟩
 have a:n<=(s.cap:Int):=Om
 by_cases f:s.cap=0
 have:n=0:=Om
 subst this
 simp[Instr.sliceAt,Instr.slice,Sl.v,run_underlying T.ht,Instr.sliceBounds,Instr.sliceBound,asIntOf,T.sizeOf,c,f]
 simp[Instr.sliceAt,Instr.slice,Sl.v,run_underlying T.ht,Instr.sliceBounds,Instr.sliceBound,asIntOf,T.sizeOf,i,a,c,f,Addr.add]
 have d:(rs.take n.toNat).length=n.toNat:=So
 have l:rs=rs.take n.toNat++rs.drop n.toNat:=(List.take_append_drop _ _).symm
 have o:((rs.take n.toNat).flatten).length=n.toNat*sz:=by rw[vL fun r hr=>h.mx r<|List.mem_of_mem_take hr,d]
 have h3:n.toNat*sz<=rs.length*sz:=Nat.mul_le_mul_right _ Om
 calc cur.toList.take ((rs.take n.toNat).length*sz)=(cur.toList.take<|rs.length*sz).take (n.toNat*sz):=by rw[d,List.take_take,Nat.min_eq_left h3]
  _=((rs.take n.toNat).flatten++(rs.drop n.toNat).flatten).take (n.toNat*sz):=by rw[ht,<-List.flatten_append,<-l]
  _=(rs.take n.toNat).flatten:=by rw[<-o,List.take_left]
 simp[Sl.aq,c]
end
end Go.SE
end
section
namespace Go.SE
open Go.Instr
section
variable {P:Program} {T K E:TypeId} {S:Value->Prop} {w:World} {m:Nat} {es:List (Value×Value)}
structure rQ(w:World)(m:Nat)(a:List Value)(B:Int):Prop where
 ex:∃es,jt w m es/\es.map Prod.fst=a/\∀p∈es,∃n,p.2=.int .i64 n/\1<=n/\n<=B
 oE:a.Nodup
def rQ.ext{F w w' m ks B}(h:rQ w m ks B)(b:ab F w w')(a:¬F m):rQ w' m ks B:=
 ⟨let ⟨es,h1,h2⟩:=h.ex;⟨es,h1.ext b a,h2⟩,h.oE⟩
def rQ.lt{w m ks B}(h:rQ w m ks B):m<w.heap.size:=let ⟨_,h1,_⟩:=h.ex;h1.lt
def rQ.bj{w w' p}(h:av w (.map #[] 0) p w')(B):rQ w' p.block [] B:=⟨⟨[],jt.bj h,rfl,Sm⟩,List.nodup_nil⟩
def rQ.mono{w m ks B B'}(h:rQ w m ks B)(hB:B<=B'):rQ w m ks B':=
 ⟨let ⟨es,h1,h2,h3⟩:=h.ex;⟨es,h1,h2,fun p a=>let ⟨n,h4,h5,h6⟩:=h3 p a;⟨n,h4,h5,Om⟩⟩,h.oE⟩
def rQ.eu{ks B}(h:rQ w m ks B)(f:P.underlying T=some (.map K E))(b:rz P K S)(hS:∀k∈ks,S k){k}(j:S k)(d:∀w,(zeroValue E).run P w=.ok (.int .i64 0) w):
  ∃v,(Instr.lookup T (.map<|some m) k false).run P w=.ok (.int .i64 v) w/\((k∈ks/\1<=v/\v<=B)\/(k∉ks/\v=0)):=by
 obtain⟨es,a,rfl,c⟩:=h.ex
 rcases a.lookup f b Gd j (d w) false with⟨g,hr⟩|⟨i,v,hi,hr⟩
 refine⟨0,hr,.inr ⟨fun hm=>?_,rfl⟩⟩
 obtain⟨p,e,rfl⟩:=List.mem_map.1 hm
 exact g p e rfl
 obtain⟨n,rfl,h1,h2⟩:=c _<|List.mem_of_getElem? hi
 exact⟨n,hr,.inl ⟨List.mem_map.2 ⟨_,List.mem_of_getElem? hi,rfl⟩,h1,h2⟩⟩
end
end Go.SE
end
section
namespace Go.SE
abbrev cl:=Calls Go.Proofs.Tryz.prog
abbrev li (w:World)(a:Addr)(Q:Int→Prop):Prop:=∃v,w.cell? a=some (.int .i64 v)∧Q v
abbrev lu (w:World)(a:Addr)(Q:Int→Prop):Prop:=∃v,w.cell? a=some (.int .u64 v)∧Q v
abbrev lp (w:World)(a:Addr)(Q:Option Addr→Prop):Prop:=∃v,w.cell? a=some (.pointer v)∧Q v
abbrev ls (w:World)(a:Addr)(Q:ByteArray→Prop):Prop:=∃v,w.cell? a=some (.string v)∧Q v
abbrev lb (w:World)(a:Addr)(Q:Bool→Prop):Prop:=∃v,w.cell? a=some (.bool v)∧Q v
abbrev lx (w:World)(a:Addr)(Q:Sl→Prop):Prop:=∃v,w.cell? a=some (Sl.v v)∧Q v
abbrev XA (Q:Sl→World→Prop):Ending→World→Prop:=fun e w=>∃a0,e=.returned (a0.v)∧Q a0 w
abbrev XB (Q:Int→World→Prop):Ending→World→Prop:=fun e w=>∃a0,e=.returned (.int .i64 a0)∧Q a0 w
abbrev XC (Q:Bool→World→Prop):Ending→World→Prop:=fun e w=>∃a0,e=.returned (.bool a0)∧Q a0 w
abbrev XD (Q:(Option Addr)→World→Prop):Ending→World→Prop:=fun e w=>∃a0,e=.returned (.pointer a0)∧Q a0 w
abbrev XE (Q:Int→Bool→World→Prop):Ending→World→Prop:=fun e w=>∃a0 a1,e=.returned (.tuple #[.int .i64 a0,.bool a1])∧Q a0 a1 w
abbrev XF (Q:Sl→Bool→World→Prop):Ending→World→Prop:=fun e w=>∃a0 a1,e=.returned (.tuple #[a0.v,.bool a1])∧Q a0 a1 w
abbrev XG (Q:Int→Int→Bool→Bool→World→Prop):Ending→World→Prop:=fun e w=>∃a0 a1 a2 a3,e=.returned (.tuple #[.int .i64 a0,.int .i64 a1,.bool a2,.bool a3])∧Q a0 a1 a2 a3 w
abbrev XH (Q:Int→Int→World→Prop):Ending→World→Prop:=fun e w=>∃a0 a1,e=.returned (.tuple #[.int .i64 a0,.int .i64 a1])∧Q a0 a1 w
abbrev XI (Q:Bool→Bool→Bool→Bool→Int→Int→World→Prop):Ending→World→Prop:=fun e w=>∃a0 a1 a2 a3 a4 a5,e=.returned (.tuple #[.agg #[.bool a0,.bool a1,.bool a2,.bool a3,.int .i64 a4],.int .i64 a5])∧Q a0 a1 a2 a3 a4 a5 w
abbrev XJ (Q:Int→Int→Int→World→Prop):Ending→World→Prop:=fun e w=>∃a0 a1 a2,e=.returned (.tuple #[.int .i64 a0,.int .i64 a1,.int .i64 a2])∧Q a0 a1 a2 w
abbrev XK (Q:Bool→Bool→Bool→Bool→Int→Bool→World→Prop):Ending→World→Prop:=fun e w=>∃a0 a1 a2 a3 a4 a5,e=.returned (.tuple #[.agg #[.bool a0,.bool a1,.bool a2,.bool a3,.int .i64 a4],.bool a5])∧Q a0 a1 a2 a3 a4 a5 w
abbrev XL (Q:Int→Int→Int→Int→ByteArray→Int→Int→Bool→World→Prop):Ending→World→Prop:=fun e w=>∃a0 a1 a2 a3 a4 a5 a6 a7,e=.returned (.tuple #[.agg #[.int .i64 a0,.int .i64 a1,.int .i64 a2,.int .u64 a3,.string a4,.int .i64 a5,.int .i64 a6],.bool a7])∧Q a0 a1 a2 a3 a4 a5 a6 a7 w
abbrev XM (Q:Sl→Int→World→Prop):Ending→World→Prop:=fun e w=>∃a0 a1,e=.returned (.tuple #[a0.v,.int .i64 a1])∧Q a0 a1 w
abbrev XN (Q:Int→Int→Int→Int→ByteArray→Int→Int→World→Prop):Ending→World→Prop:=fun e w=>∃a0 a1 a2 a3 a4 a5 a6,e=.returned (.agg #[.int .i64 a0,.int .i64 a1,.int .i64 a2,.int .u64 a3,.string a4,.int .i64 a5,.int .i64 a6])∧Q a0 a1 a2 a3 a4 a5 a6 w
abbrev XO (Q:ByteArray→Int→World→Prop):Ending→World→Prop:=fun e w=>∃a0 a1,e=.returned (.tuple #[.string a0,.int .i64 a1])∧Q a0 a1 w
abbrev XP (Q:Int→ByteArray→World→Prop):Ending→World→Prop:=fun e w=>∃a0 a1,e=.returned (.tuple #[.int .u64 a0,.string a1])∧Q a0 a1 w
abbrev XQ (Q:Int→Int→Int→ByteArray→Bool→World→Prop):Ending→World→Prop:=fun e w=>∃a0 a1 a2 a3 a4,e=.returned (.agg #[.int .i64 a0,.int .i64 a1,.int .u64 a2,.string a3,.bool a4])∧Q a0 a1 a2 a3 a4 w
abbrev XR (Q:Int→Int→Int→ByteArray→Bool→Bool→World→Prop):Ending→World→Prop:=fun e w=>∃a0 a1 a2 a3 a4 a5,e=.returned (.tuple #[.agg #[.int .i64 a0,.int .i64 a1,.int .u64 a2,.string a3,.bool a4],.bool a5])∧Q a0 a1 a2 a3 a4 a5 w
abbrev XS (Q:ByteArray→World→Prop):Ending→World→Prop:=fun e w=>∃a0,e=.returned (.string a0)∧Q a0 w
abbrev XT (Q:(Option Addr)→Bool→World→Prop):Ending→World→Prop:=fun e w=>∃a0 a1,e=.returned (.tuple #[.pointer a0,.bool a1])∧Q a0 a1 w
abbrev XU (Q:ByteArray→Int→Int→World→Prop):Ending→World→Prop:=fun e w=>∃a0 a1 a2,e=.returned (.tuple #[.string a0,.int .i64 a1,.int .i64 a2])∧Q a0 a1 a2 w
abbrev XV (Q:Int→World→Prop):Ending→World→Prop:=fun e w=>∃a0,e=.returned (.int .u8 a0)∧Q a0 w
abbrev XW (Q:Int→World→Prop):Ending→World→Prop:=fun e w=>∃a0,e=.returned (.int .u64 a0)∧Q a0 w
abbrev XY (Q:(Option Addr)→Int→Int→World→Prop):Ending→World→Prop:=fun e w=>∃a0 a1 a2,e=.returned (.tuple #[.pointer a0,.int .i64 a1,.int .i64 a2])∧Q a0 a1 a2 w
section
variable {P:Program} {ops:Array Oper} {Q:bh->World->Prop} {ρ:bh} {w:World} {rest:List Oper} {o:Oper}
def q0(v)(h:bu P ops Q rest (put ρ o.dst v) w)(a:Region.wanted o (zJ ops ρ)=true:=by kernel_rfl)(hr:(execOp (bw ρ) o).run P w=.ok (.value v) w:=by kernel_rfl):bu P ops Q (o ::rest) ρ w:=ff a hr h
def q1(v)(a:Region.wanted o (zJ ops ρ)=true)(h:bu P ops Q rest (put ρ o.dst v) w)(hr:(execOp (bw ρ) o).run P w=.ok (.value v) w:=by kernel_rfl):bu P ops Q (o ::rest) ρ w:=ff a hr h
def q2(v)(hr:(execOp (bw ρ) o).run P w=.ok (.value v) w)(h:bu P ops Q rest (put ρ o.dst v) w)(a:Region.wanted o (zJ ops ρ)=true:=by kernel_rfl):bu P ops Q (o ::rest) ρ w:=ff a hr h
variable {C:World->Prop} {loud free:Nat->Bool} {fuel:Nat} {listed:Array Bool}
def qx(k v)(b:ops[k]?=some o)(h:fw P ops C loud free Q fuel (listed.setIfInBounds k true) (put ρ o.dst v) w)(c:zu ops listed loud k=true:=by kernel_rfl)(a:Region.wanted o (zJ ops ρ)=true:=by kernel_rfl)(d:loud k=false:=by kernel_rfl)(hr:∀w',(execOp (bw ρ) o).run P w'=.ok (.value v) w':=by intro _;kernel_rfl):fw P ops C loud free Q (fuel+1) listed ρ w:=
 Fi c<|sx b a d (fun w' _=>hr w') h
def qq{W}(k v)(b:ops[k]?=some o)(h:fw P ops (fun x=>x=W) loud free Q fuel (listed.setIfInBounds k true) (put ρ o.dst v) w)(c:zu ops listed loud k=true:=by kernel_rfl)(a:Region.wanted o (zJ ops ρ)=true:=by kernel_rfl)(d:loud k=false:=by kernel_rfl)(hr:(execOp (bw ρ) o).run P W=.ok (.value v) W:=by kernel_rfl):fw P ops (fun x=>x=W) loud free Q (fuel+1) listed ρ w:=
 Fi c<|oz b a d hr h
end
section
variable {P:Program} {n:Nat} {Q:Exit->bh->World->Prop} {ρ:bh} {w:World}
def rg{cx id l}(h:bu P l.toArray (fun ρ w=>Q .normal ρ w) l ρ w)(a:tN n l=true:=by kernel_rfl):dv (x:=cx) P n (.region id l.toArray false) Q ρ w:=OE a h
end
section
variable {α:Type} {x0 x1 x2 x3 x4 x5 x6 x7 x8 x9 o:α} {l:List α}
def vt:(o ::l).toArray[0]?=some o:=rfl
def wi:(x0 ::o ::l).toArray[1]?=some o:=rfl
def wg:(x0 ::x1 ::o ::l).toArray[2]?=some o:=rfl
def wV:(x0 ::x1 ::x2 ::o ::l).toArray[3]?=some o:=rfl
def vz:(x0 ::x1 ::x2 ::x3 ::o ::l).toArray[4]?=some o:=rfl
def wq:(x0 ::x1 ::x2 ::x3 ::x4 ::o ::l).toArray[5]?=some o:=rfl
def vw:(x0 ::x1 ::x2 ::x3 ::x4 ::x5 ::o ::l).toArray[6]?=some o:=rfl
def xq:(x0 ::x1 ::x2 ::x3 ::x4 ::x5 ::x6 ::o ::l).toArray[7]?=some o:=rfl
def yj:(x0 ::x1 ::x2 ::x3 ::x4 ::x5 ::x6 ::x7 ::o ::l).toArray[8]?=some o:=rfl
def ye:(x0 ::x1 ::x2 ::x3 ::x4 ::x5 ::x6 ::x7 ::x8 ::o ::l).toArray[9]?=some o:=rfl
end
end Go.SE
end
section
namespace Go.SE
section
variable {α:Type} {a b c d e f g h o:α} {l:List α} {k:Nat}
def S4(x:l[k]?=some o):(a ::b ::c ::d ::l)[k+4]?=some o:=by simpa using x
def S8(x:l[k]?=some o):(a ::b ::c ::d ::e ::f ::g ::h ::l)[k+8]?=some o:=by simpa using x
end
section
variable {P:Program} {ε:Operand->Value} {w w':World} {d:Option Tmp} {ty:TypeId} {pos:String} {aft:Array Edge} {g:Option (Nat×Bool)}
def xl{T:TypeId}{x:Operand}{a:Addr}{v:Value}(b:(isAgg T).run P w=.ok false w)(e:w.cell? a=some v)(c:ε x=.pointer (some a):=by kernel_rfl):(execOp ε ⟨d,.load T x,ty,pos,aft,g⟩).run P w=.ok (.value v) w:=tA c b e
def xT{c x y:Operand}{b:Bool}{v:Value}(e:b=true)(f:ε c=.bool b:=by kernel_rfl)(a:ε x=v:=by kernel_rfl):(execOp ε ⟨d,.pick c x y,ty,pos,aft,g⟩).run P w=.ok (.value v) w:=Qs f e a
def xF{c x y:Operand}{b:Bool}{v:Value}(a:b=false)(f:ε c=.bool b:=by kernel_rfl)(e:ε y=v:=by kernel_rfl):(execOp ε ⟨d,.pick c x y,ty,pos,aft,g⟩).run P w=.ok (.value v) w:=KG f a e
def xb{T:TypeId}{x:Operand}{cs:Array Value}(a:(ε x).cells=cs:=by kernel_rfl):(execOp ε ⟨d,.box T x,ty,pos,aft,g⟩).run P w=.ok (.value<|.pointer<|some ⟨w.heap.size,0,none⟩) (w.alloc<|.cells cs T):=IT a
def xs{T:TypeId}{x y:Operand}{a:Addr}{v:Value}(hs:(sizeOf T).run P w=.ok 1 w)(e:zL w a)(b:ε x=.pointer (some a):=by kernel_rfl)(c:ε y=v:=by kernel_rfl)(h1:vJ v=true:=by rfl):(execOp ε ⟨d,.store T x y,ty,pos,aft,g⟩).run P w=.ok .skip (w.setCell a v):=uf b c h1 hs e
end
section
variable {P:Program} {ρ:bh} {w w':World} {ty:TypeId} {pos:String} {aft:Array Edge} {g:Option (Nat×Bool)} {d:Option Tmp}
def xc{f:FuncId}{c:List Operand}{ts:Array TypeId}{args:Array Value}(a:∀args w,(callFunc f args).run P w=.ok (.enter f args) w)(b:(c.map<|bw ρ).toArray=args:=by kernel_rfl):
  (execOp (bw ρ) ⟨d,.call ⟨.value<|.func f,c.toArray,ts⟩,ty,pos,aft,g⟩).run P w=.ok (.enter f args) w:=LK a b
end
section
variable {P:Program} {ops:Array Oper} {Q:bh->World->Prop} {ρ:bh} {w w':World} {rest:List Oper} {o:Oper} {v:Value}
def sn{O:Obj}(hr:(execOp (bw ρ) o).run P w=.ok (.value<|.pointer<|some ⟨w.heap.size,0,none⟩) (w.alloc O))(h:∀p w',av w O p w'->bu P ops Q rest (put ρ o.dst<|.pointer<|some p) w')(a:Region.wanted o (zJ ops ρ)=true:=by kernel_rfl):bu P ops Q (o ::rest) ρ w:=xP (fun p=>.pointer<|some p) a hr h
def sk{j:Nat}{t u:Bool}(c:zJ ops ρ j=some u)(h:bu P ops Q rest (put ρ o.dst undef) w)(b:o.guard=some (j,t):=by rfl)(a:(u==t)=false:=by rfl):bu P ops Q (o ::rest) ρ w:=Em (Jw b c a) h
end
section
variable {H:Nat->Prop} {w:World} {l:List gh}
def de.c{Z:List (Nat×Obj)}(b:de Z H w l)(i j:Nat){p:Addr}{c:List Value}{T:TypeId}{v:Value}(hi:l[i]?=some (p,c,T))(a:c[j]?=some v:=by kernel_rfl):w.cell? (p.add j)=some v:=b.cell i j hi a
def de.c0{Z:List (Nat×Obj)}(b:de Z H w l)(i:Nat){p:Addr}{c:List Value}{T:TypeId}{v:Value}(hi:l[i]?=some (p,c,T))(a:c[0]?=some v:=by kernel_rfl):w.cell? p=some v:=b.bf i hi a
end
abbrev vi(n:Int):Value:=.int .i64 n
abbrev vu(n:Int):Value:=.int .u64 n
abbrev vs(n:ByteArray):Value:=.string n
abbrev vb(n:Bool):Value:=.bool n
abbrev vp(n:Option Addr):Value:=.pointer n
end Go.SE
namespace Go.SE
def aj.hh{w0 wv w a:World}{Hv H:Nat->Prop}{Z:List (Nat×Obj)}{l:List gh}(b:aj H w a)(hs:af w0 Hv wv H w)(c:de Z H w l):af w0 H a H a/\de Z H a l:=⟨hs.ib b,c.bk b⟩
end Go.SE
namespace Go.SE
section
variable {P:Program} {ops:Array Oper} {C:World->Prop} {loud free:Nat->Bool} {K:bh->World->Prop} {ρ:bh} {w w' W:World} {o:Oper} {v:Value} {k:Nat}
def sy(b:ops[k]?=some o)(hr:∀w',C w'->(execOp (bw ρ) o).run P w'=.ok (.value v) w')(h:K (put ρ o.dst v) w)(a:Region.wanted o (zJ ops ρ)=true:=by kernel_rfl)(c:loud k=false:=by kernel_rfl):fg P ops C loud free k K ρ w:=sx b a c hr h
def sz(b:ops[k]?=some o)(a:Region.wanted o (zJ ops ρ)=true)(hr:∀w',C w'->(execOp (bw ρ) o).run P w'=.ok (.value v) w')(h:K (put ρ o.dst v) w)(c:loud k=false:=by kernel_rfl):fg P ops C loud free k K ρ w:=sx b a c hr h
def rO(c:ops[k]?=some o)(hr:(execOp (bw ρ) o).run P w=.ok (.value v) w)(h:K (put ρ o.dst v) w)(b:Region.wanted o (zJ ops ρ)=true:=by kernel_rfl)(d:loud k=false:=by kernel_rfl)(a:sP .any ops loud k=true:=by kernel_rfl):fg P ops C loud free k K ρ w:=P7 c b d a hr h
def I7(b:ops[k]?=some o)(hr:(execOp (bw ρ) o).run P w=.ok .skip W)(h:∀w',w'=W->(free k=true\/C w')/\K (put ρ o.dst undef) w')(a:Region.wanted o (zJ ops ρ)=true:=by kernel_rfl)(c:loud k=true:=by kernel_rfl):fg P ops C loud free k K ρ w:=FC b a c hr h
variable {Q:bh->World->Prop} {fuel:Nat} {listed:Array Bool}
def qg(k:Nat)(h:fg P ops C loud free k (fw P ops C loud free Q fuel<|listed.setIfInBounds k true) ρ w)(a:zu ops listed loud k=true:=by kernel_rfl):fw P ops C loud free Q (fuel+1) listed ρ w:=Fi a h
def lg(k:Nat)(h:fg P ops C loud free k (fw P ops C loud free Q fuel<|listed.setIfInBounds k true) ρ w)(hr:Region.ready .any ops listed=[k]:=by kernel_rfl):fw P ops C loud free Q (fuel+1) listed ρ w:=PC hr h
variable {ε:Operand->Value} {d:Option Tmp} {ty:TypeId} {pos:String} {aft:Array Edge} {g:Option (Nat×Bool)}
def xi{T E:TypeId}{x ix:Operand}{s:Sl}{i:Int}{n:Nat}{a:Addr}(b:(underlying T).run P w=.ok (.slice E) w)(hs:(sizeOf E).run P w=.ok n w)(e:At s i n a)(c:ε x=s.v:=by kernel_rfl)(hi:ε ix=.int .i64 i:=by kernel_rfl):(execOp ε ⟨d,.indexAddr T x ix,ty,pos,aft,g⟩).run P w=.ok (.value<|.pointer<|some a) w:=IP c hi b hs e
def hm{l:List (Nat×Value)}(h:l.map (fun p=>ρ p.1)=l.map (·.2):=by kernel_rfl):ek ρ l:=ek.mk h
def wn{Q:bh->World->Prop}{listed:Array Bool}(h:Q ρ w)(a:Region.ready .any ops listed=[]:=by kernel_rfl):fw P ops C loud free Q 0 listed ρ w:=PT a h
def sm{rest:List Oper}(h:bu P ops Q rest (put ρ o.dst undef) w)(a:Region.wanted o (zJ ops ρ)=false:=by kernel_rfl):bu P ops Q (o ::rest) ρ w:=Em a h
def sc{rest:List Oper}{f:FuncId}{c:List Operand}{ts:Array TypeId}{args:Array Value}(b:∀args w,(callFunc f args).run P w=.ok (.enter f args) w)(h:Calls P f args w fun e a=>∃v,e=.returned v/\bu P ops Q rest (put ρ d v) a)(j:Region.wanted ⟨d,.call ⟨.value<|.func f,c.toArray,ts⟩,ty,pos,aft,g⟩ (zJ ops ρ)=true:=by kernel_rfl)(i:(c.map<|bw ρ).toArray=args:=by kernel_rfl):
  bu P ops Q (⟨d,.call ⟨.value<|.func f,c.toArray,ts⟩,ty,pos,aft,g⟩ ::rest) ρ w:=G2 j (LK b i) h
def cw{n:Nat}{f:FuncId}{a:Func}{c:Code}{args:List Value}{R:Ending->World->Prop}(g:P.funcs[f]?=some a)(e:a.ntmps=n)(h:dv (x:=⟨none,[]⟩) P n c (re P a n R) (xD args) w)(d:a.body=some c:=by exact rfl)(b:args.length<=n:=by exact Nat.le_of_ble_eq_true rfl):Calls P f args.toArray w R:=H0 g d e b h
def Bw{n:Nat}{a:Func}{t:Nat}{v:Value}{R:Ending->World->Prop}{e:Exit}(hr:a.results=#[.tmp t])(h:R (.returned v) w)(c:ρ t=v:=by kernel_rfl)(b:e=.ret\/e=.normal:=by exact .inl rfl):re P a n R e ρ w:=QI b hr c h
end
end Go.SE
namespace Go.SE
def aj.sc{H:Nat->Prop}{w w':World}{a:Addr}{v:Value}(h:¬H a.block)(e:w'=w.setCell a v):aj H w w':=by rw[e];exact aj.setCell h
end Go.SE
namespace Go.SE
section
variable {P:Program} {n:Nat} {Q:Exit->bh->World->Prop} {ρ:bh} {w:World}
def ln{ops:Array Oper}{next:bh->World->Prop}(h:next ρ w):bu P ops (fun ρ w=>pM next Q .normal ρ w) [] ρ w:=h
def eg{a:Cx}{id:Nat}{l:List Oper}{y:Code}(h:bu P l.toArray (fun ρ w=>pM (fun ρ w=>dv (x:=a) P n y Q ρ w) Q .normal ρ w) l ρ w)(b:tN n l=true:=by kernel_rfl):dv (x:=a) P n (.seq (.region id l.toArray false) y) Q ρ w:=zK<|rg h b
def er{x:Cx}(h:Q .ret ρ w):dv (x:=x) P n .ret Q ρ w:=Fv h
def wy{ops:Array Oper}{o:Oper}(d:Nat){j:Nat}{c t:Bool}(f:c=t)(e:o.guard=some (j,t):=by rfl)(b:(ops[j]?).bind (·.dst)=some d:=by kernel_rfl)(a:ρ d=.bool c:=by kernel_rfl):Region.wanted o (zJ ops ρ)=true:=ID e<|yE b a f
variable {ε:Operand->Value} {w':World} {d:Option Tmp} {ty:TypeId} {pos:String} {aft:Array Edge} {g:Option (Nat×Bool)}
def xo{T:TypeId}{x y:Operand}{n:Nat}(a:Addr)(vs:List Value)(hs:(sizeOf T).run P w=.ok n w)(f:∀j,j<vs.length->zL w (a.add j))(c:ε x=.pointer (some a):=by kernel_rfl)(e:ε y=.agg vs.toArray:=by kernel_rfl)(h1:vs.all vJ=true:=by rfl)(b:vs.length=n:=by rfl):
  (execOp ε ⟨d,.store T x y,ty,pos,aft,g⟩).run P w=.ok .skip (bd w a vs):=BC c e h1 hs b f
def xa{T:TypeId}{x:Operand}{n:Nat}(a:Addr)(vs:List Value)(b:(isAgg T).run P w=.ok true w)(hs:(sizeOf T).run P w=.ok n w)(f:Row w a vs)(e:ε x=.pointer (some a):=by kernel_rfl)(c:vs.length=n:=by rfl):
  (execOp ε ⟨d,.load T x,ty,pos,aft,g⟩).run P w=.ok (.value<|.agg vs.toArray) w:=IK e b hs c f
def wX{a:Nat}{A:Addr}{T:TypeId}{vs:List Value}{k:Nat}(b:(isAgg T).run P w=.ok true w)(hs:(sizeOf T).run P w=.ok k w)(e:Row w A vs)(d:ρ a=.pointer (some A):=by kernel_rfl)(c:vs.length=k:=by rfl):RV P ρ w (.cell a T) (.agg vs.toArray):=RV.MW d b hs c e
end
section
variable {H Hv:Nat->Prop} {w0 wv w w':World} {l l':List gh} {Z:List (Nat×Obj)} {p:Addr} {c vs:List Value} {T:TypeId}
def de.r0(b:de Z H w l)(i n:Nat)(hi:l[i]?=some (p,c,T))(a:c.take n=vs:=by kernel_rfl):Row w p vs:=b.jcu i n hi a
def de.k0(a:de Z H w l)(i n:Nat)(hi:l[i]?=some (p,c,T))(b:decide (n<=c.length)=true:=by kernel_rfl):∀k,k<n->zL w (p.add k):=a.NC i n hi b
def de.s0(b:de Z H w l)(i:Nat)(vs:List Value)(h:af w0 Hv wv H w)(a:w'=bd w p vs)(hi:l[i]?=some (p,c,T))(d:decide (vs.length<=c.length)=true:=by kernel_rfl)(e:l.set i (p,vs++c.drop vs.length,T)=l':=by kernel_rfl):af w0 Hv wv H w'/\de Z H w' l':=by
 subst a;exact b.GC h hi d e
end
end Go.SE
namespace Go.SE
abbrev ve:Value:=.string ⟨#[]⟩
def Ho(b:Bool):b=true\/b=false:=Bool.eq_false_or_eq_true b
section
variable {P:Program} {ops:Array Oper} {Q:bh->World->Prop} {C:World->Prop} {loud free:Nat->Bool} {K:bh->World->Prop} {ρ:bh} {w:World} {k:Nat} {d:Option Tmp} {ty:TypeId} {pos:String} {aft:Array Edge} {g:Option (Nat×Bool)}
def ss{rest:List Oper}{o:Oper}{W:World}(hr:(execOp (bw ρ) o).run P w=.ok .skip W)(h:∀w',w'=W->bu P ops Q rest (put ρ o.dst undef) w')(a:o.guard=none:=by rfl):bu P ops Q (o ::rest) ρ w:=yg (qE a) hr h
variable {ε:Operand->Value}
def xn{x:Operand}{p:Option Addr}{a:Addr}(b:p=some a)(c:ε x=.pointer p:=by kernel_rfl):(execOp ε ⟨d,.nilCheck x,ty,pos,aft,g⟩).run P w=.ok (.value<|.pointer<|some a) w:=F7 c b
end
end Go.SE
namespace Go.SE
def rv:Result Next->Value
 |.ok (.value v) _=>v
 |_=>undef
def sv(P:Program)(o:Oper)(ρ:bh)(w:World):bh:=put ρ o.dst<|rv<|(execOp (bw ρ) o).run P w
def Cm:Result Next->Bool
 |.ok (.value _) _=>true
 |_=>false
def Cw(w:World):Result Next->World
 |.ok _ w'=>w'
 |_=>w
def N7{r:Result Next}{w w0:World}(h:Cm r=true)(b:Cw w0 r=w):r=.ok (.value<|rv r) w:=by
 cases r with
 |ok a w' =>
  cases a with
  |value v=>simp[rv,Cw]at b|-;exact b
  |_=>simp[Cm]at h
 |_=>simp[Cm]at h
def si(P:Program)(ops:Array Oper)(o:Oper)(ρ:bh)(w:World):Bool×World:=(Region.wanted o (zJ ops ρ)&&Cm ((execOp (bw ρ) o).run P w),Cw w<|(execOp (bw ρ) o).run P w)
def Mj{P:Program}{ops:Array Oper}{o:Oper}{ρ:bh}{w:World}(h:si P ops o ρ w=(true,w)):Region.wanted o (zJ ops ρ)=true/\(execOp (bw ρ) o).run P w=.ok (.value<|rv<|(execOp (bw ρ) o).run P w) w:=by
 have h1:=congrArg Prod.fst h;have h2:=congrArg Prod.snd h;simp only[si,Bool.and_eq_true]at h1 h2;exact⟨h1.1,N7 h1.2 h2⟩
def K0(P:Program)(o:Oper)(ρ:bh)(w:World):Bool×World:=(Cm<|(execOp (bw ρ) o).run P w,Cw w<|(execOp (bw ρ) o).run P w)
def SZ{P:Program}{o:Oper}{ρ:bh}{w:World}(h:K0 P o ρ w=(true,w)):(execOp (bw ρ) o).run P w=.ok (.value<|rv<|(execOp (bw ρ) o).run P w) w:=N7 (congrArg Prod.fst h)<|congrArg Prod.snd h
section
variable {P:Program} {ops:Array Oper} {Q:bh->World->Prop} {ρ:bh} {w:World} {rest:List Oper} {o o1 o2 o3 o4 o5:Oper}
def q(h:bu P ops Q rest (sv P o ρ w) w)(a:si P ops o ρ w=(true,w):=by kernel_rfl):bu P ops Q (o ::rest) ρ w:=ff (Mj a).1 (Mj a).2 h
def qb(h:bu P ops Q rest (sv P o1 (sv P o ρ w) w) w)(a:si P ops o ρ w=(true,w):=by kernel_rfl)(h1:si P ops o1 (sv P o ρ w) w=(true,w):=by kernel_rfl):bu P ops Q (o ::o1 ::rest) ρ w:=q (q h h1) a
def qc(h:bu P ops Q rest (sv P o2 (sv P o1 (sv P o ρ w) w) w) w)(a:si P ops o ρ w=(true,w):=by kernel_rfl)(h1:si P ops o1 (sv P o ρ w) w=(true,w):=by kernel_rfl)(h2:si P ops o2 (sv P o1 (sv P o ρ w) w) w=(true,w):=by kernel_rfl):bu P ops Q (o ::o1 ::o2 ::rest) ρ w:=q (q (q h h2) h1) a
def qd(h:bu P ops Q rest (sv P o3 (sv P o2 (sv P o1 (sv P o ρ w) w) w) w) w)(a:si P ops o ρ w=(true,w):=by kernel_rfl)(h1:si P ops o1 (sv P o ρ w) w=(true,w):=by kernel_rfl)(h2:si P ops o2 (sv P o1 (sv P o ρ w) w) w=(true,w):=by kernel_rfl)(h3:si P ops o3 (sv P o2 (sv P o1 (sv P o ρ w) w) w) w=(true,w):=by kernel_rfl):bu P ops Q (o ::o1 ::o2 ::o3 ::rest) ρ w:=qb (qb h h2 h3) a h1
def qk(d:Nat){j:Nat}{c t:Bool}(f:c=t)(h:bu P ops Q rest (sv P o ρ w) w)(e:o.guard=some (j,t):=by rfl)(b:(ops[j]?).bind (·.dst)=some d:=by kernel_rfl)(a:ρ d=.bool c:=by kernel_rfl)(hr:K0 P o ρ w=(true,w):=by kernel_rfl):bu P ops Q (o ::rest) ρ w:=ff (ID e<|yE b a f) (SZ hr) h
def Zk{v:Value}(a:Region.wanted o (zJ ops ρ)=true)(hr:(execOp (bw ρ) o).run P w=.ok (.value v) w)(h:bu P ops Q rest (put ρ o.dst v) w):bu P ops Q (o ::rest) ρ w:=Go.SE.ff a hr h
def q3{v:Value}(hr:(execOp (bw ρ) o).run P w=.ok (.value v) w)(h:bu P ops Q rest (put ρ o.dst v) w)(a:Region.wanted o (zJ ops ρ)=true:=by kernel_rfl):bu P ops Q (o ::rest) ρ w:=ff a hr h
def q4{v:Value}(d:Nat){j:Nat}{c t:Bool}(f:c=t)(hr:(execOp (bw ρ) o).run P w=.ok (.value v) w)(h:bu P ops Q rest (put ρ o.dst v) w)(e:o.guard=some (j,t):=by rfl)(b:(ops[j]?).bind (·.dst)=some d:=by kernel_rfl)(a:ρ d=.bool c:=by kernel_rfl):bu P ops Q (o ::rest) ρ w:=ff (ID e<|yE b a f) hr h
def sj(d:Nat){j:Nat}{c t u:Bool}(e:c=u)(h:bu P ops Q rest (put ρ o.dst undef) w)(f:o.guard=some (j,t):=by rfl)(a:(u==t)=false:=by rfl)(b:(ops[j]?).bind (·.dst)=some d:=by kernel_rfl)(g:ρ d=.bool c:=by kernel_rfl):bu P ops Q (o ::rest) ρ w:=Em (Jw f (yE b g e) a) h
def HR(d:Nat){b g:Nat}{c u a f:Bool}(e:c=u)(h:bu P ops Q rest (put (put ρ o.dst undef) o1.dst undef) w)(k:o.guard=some (b,a):=by rfl)(i:(u==a)=false:=by rfl)(d0:(ops[b]?).bind (·.dst)=some d:=by kernel_rfl)(j:ρ d=.bool c:=by kernel_rfl)(m:o1.guard=some (g,f):=by rfl)(n1:(u==f)=false:=by rfl)(d1:(ops[g]?).bind (·.dst)=some d:=by kernel_rfl)(l:(put ρ o.dst undef) d=.bool c:=by kernel_rfl):bu P ops Q (o ::o1 ::rest) ρ w:=sj d e (sj d e (h) m n1 d1 l) k i d0 j
def Xf(d:Nat){f i e:Nat}{c u b g j:Bool}(a:c=u)(h:bu P ops Q rest (put (put (put ρ o.dst undef) o1.dst undef) o2.dst undef) w)(n:o.guard=some (f,b):=by rfl)(k:(u==b)=false:=by rfl)(d0:(ops[f]?).bind (·.dst)=some d:=by kernel_rfl)(m:ρ d=.bool c:=by kernel_rfl)(r:o1.guard=some (i,g):=by rfl)(n1:(u==g)=false:=by rfl)(d1:(ops[i]?).bind (·.dst)=some d:=by kernel_rfl)(q:(put ρ o.dst undef) d=.bool c:=by kernel_rfl)(p:o2.guard=some (e,j):=by rfl)(n2:(u==j)=false:=by rfl)(d2:(ops[e]?).bind (·.dst)=some d:=by kernel_rfl)(l:(put (put ρ o.dst undef) o1.dst undef) d=.bool c:=by kernel_rfl):bu P ops Q (o ::o1 ::o2 ::rest) ρ w:=sj d a (sj d a (sj d a (h) p n2 d2 l) r n1 d1 q) n k d0 m
def Sa(d:Nat){f j e i:Nat}{c u b g l k:Bool}(a:c=u)(h:bu P ops Q rest (put (put (put (put ρ o.dst undef) o1.dst undef) o2.dst undef) o3.dst undef) w)(s:o.guard=some (f,b):=by rfl)(p:(u==b)=false:=by rfl)(d0:(ops[f]?).bind (·.dst)=some d:=by kernel_rfl)(r:ρ d=.bool c:=by kernel_rfl)(x:o1.guard=some (j,g):=by rfl)(n1:(u==g)=false:=by rfl)(d1:(ops[j]?).bind (·.dst)=some d:=by kernel_rfl)(v:(put ρ o.dst undef) d=.bool c:=by kernel_rfl)(n:o2.guard=some (e,l):=by rfl)(n2:(u==l)=false:=by rfl)(d2:(ops[e]?).bind (·.dst)=some d:=by kernel_rfl)(q:(put (put ρ o.dst undef) o1.dst undef) d=.bool c:=by kernel_rfl)(t:o3.guard=some (i,k):=by rfl)(n3:(u==k)=false:=by rfl)(d3:(ops[i]?).bind (·.dst)=some d:=by kernel_rfl)(m:(put (put (put ρ o.dst undef) o1.dst undef) o2.dst undef) d=.bool c:=by kernel_rfl):bu P ops Q (o ::o1 ::o2 ::o3 ::rest) ρ w:=sj d a (sj d a (sj d a (sj d a (h) t n3 d3 m) n n2 d2 q) x n1 d1 v) s p d0 r
variable {d:Option Tmp} {ty:TypeId} {pos:String} {aft:Array Edge} {g:Option (Nat×Bool)}
def ql{τ:Type}{F:τ->Value}{R:τ->Prop}{T:TypeId}{x:Operand}{a:Addr}(b:(isAgg T).run P w=.ok false w)(h:∃v,w.cell? a=some (F v)/\R v)(k:∀v,R v->bu P ops Q rest (put ρ d<|F v) w)(c:bw ρ x=.pointer (some a):=by kernel_rfl)(f:Region.wanted ⟨d,.load T x,ty,pos,aft,g⟩ (zJ ops ρ)=true:=by kernel_rfl):bu P ops Q (⟨d,.load T x,ty,pos,aft,g⟩ ::rest) ρ w:=by
 have⟨v,e,h⟩:=h;exact q2 _ (tA c b e) (k v h) f
def qm{R:Addr->Prop}{x:Operand}{p:Option Addr}(h:∃a,p=some a/\R a)(k:∀a,R a->bu P ops Q rest (put ρ d<|.pointer<|some a) w)(b:bw ρ x=.pointer p:=by kernel_rfl)(e:Region.wanted ⟨d,.nilCheck x,ty,pos,aft,g⟩ (zJ ops ρ)=true:=by kernel_rfl):bu P ops Q (⟨d,.nilCheck x,ty,pos,aft,g⟩ ::rest) ρ w:=by
 have⟨a,c,h⟩:=h;exact q2 _ (F7 b c) (k a h) e
def qi{R:Addr->Prop}{T E:TypeId}{x ix:Operand}{s:Sl}{i:Int}{n:Nat}(b:(underlying T).run P w=.ok (.slice E) w)(hs:(sizeOf E).run P w=.ok n w)(h:∃a,At s i n a/\R a)(k:∀a,R a->bu P ops Q rest (put ρ d<|.pointer<|some a) w)(c:bw ρ x=s.v:=by kernel_rfl)(hi:bw ρ ix=.int .i64 i:=by kernel_rfl)(f:Region.wanted ⟨d,.indexAddr T x ix,ty,pos,aft,g⟩ (zJ ops ρ)=true:=by kernel_rfl):bu P ops Q (⟨d,.indexAddr T x ix,ty,pos,aft,g⟩ ::rest) ρ w:=by
 have⟨a,e,h⟩:=h;exact q2 _ (IP c hi b hs e) (k a h) f
def qa{T:TypeId}{x:Operand}{n:Nat}{a:Addr}{vs:List Value}(e:(isAgg T).run P w=.ok true w)(hs:(sizeOf T).run P w=.ok n w)(b:Row w a vs)(h:bu P ops Q rest (put ρ d<|.agg vs.toArray) w)(c:bw ρ x=.pointer (some a):=by kernel_rfl)(f:vs.length=n:=by rfl)(i:Region.wanted ⟨d,.load T x,ty,pos,aft,g⟩ (zJ ops ρ)=true:=by kernel_rfl):bu P ops Q (⟨d,.load T x,ty,pos,aft,g⟩ ::rest) ρ w:=q2 _ (IK c e hs f b) h i
def rT{R:World->Prop}{T:TypeId}{x y:Operand}{n m:Nat}{a:Addr}{vs:List Value}(hs:(sizeOf T).run P w=.ok n w)(h:(∀j,j<m->zL w (a.add j))/\∀w',w'=bd w a vs->R w')(k:∀w',R w'->bu P ops Q rest (put ρ d undef) w')(c:bw ρ x=.pointer (some a):=by kernel_rfl)(e:bw ρ y=.agg vs.toArray:=by kernel_rfl)(h1:vs.all vJ=true:=by rfl)(b:vs.length=n:=by rfl)(hm:vs.length=m:=by rfl)(f:Region.wanted ⟨d,.store T x y,ty,pos,aft,g⟩ (zJ ops ρ)=true:=by kernel_rfl):bu P ops Q (⟨d,.store T x y,ty,pos,aft,g⟩ ::rest) ρ w:=by
 subst hm;exact wj f (BC c e h1 hs b h.1)<|k _<|h.2 _ rfl
def qh{R:World->Prop}{T:TypeId}{x y:Operand}{a:Addr}{v:Value}(hs:(sizeOf T).run P w=.ok 1 w)(h:zL w a/\∀w',w'=w.setCell a v->R w')(k:∀w',R w'->bu P ops Q rest (put ρ d undef) w')(b:bw ρ x=.pointer (some a):=by kernel_rfl)(c:bw ρ y=v:=by kernel_rfl)(h1:vJ v=true:=by rfl)(e:Region.wanted ⟨d,.store T x y,ty,pos,aft,g⟩ (zJ ops ρ)=true:=by kernel_rfl):bu P ops Q (⟨d,.store T x y,ty,pos,aft,g⟩ ::rest) ρ w:=
 wj e (uf b c h1 hs h.1)<|k _<|h.2 _ rfl
variable {H Hv:Nat->Prop} {w0 wv:World} {l:List gh} {Z:List (Nat×Obj)}
def j6{R:World->Prop}{T:TypeId}{x y:Operand}{a:Addr}{v:Value}(hs:(sizeOf T).run P w=.ok 1 w)(au:af w0 Hv wv H w)(b:de Z H w l)(h:zL w a/\¬H a.block/\∀w',w'=w.setCell a v->R w')(k:∀w',af w0 H w' H w'->de Z H w' l->R w'->bu P ops Q rest (put ρ d undef) w')(c:bw ρ x=.pointer (some a):=by kernel_rfl)(e:bw ρ y=v:=by kernel_rfl)(h1:vJ v=true:=by rfl)(f:Region.wanted ⟨d,.store T x y,ty,pos,aft,g⟩ (zJ ops ρ)=true:=by kernel_rfl):bu P ops Q (⟨d,.store T x y,ty,pos,aft,g⟩ ::rest) ρ w:=
 wj f (uf c e h1 hs h.1) (by obtain⟨au,b⟩:=(aj.setCell h.2.1).hh au b;exact k _ au b<|h.2.2 _ rfl)
def Jk{R:Addr->World->Prop}{O:Obj}(h:∀p w',av w O p w'->R p w')(hr:(execOp (bw ρ) o).run P w=.ok (.value<|.pointer<|some ⟨w.heap.size,0,none⟩) (w.alloc O))(k:∀p w',R p w'->bu P ops Q rest (put ρ o.dst<|.pointer<|some p) w')(b:Region.wanted o (zJ ops ρ)=true:=by kernel_rfl):bu P ops Q (o ::rest) ρ w:=sn hr (fun p w' a=>k p w'<|h p w' a) b
def sq{R:Addr->World->Prop}{O:Obj}(au:af w0 Hv wv H w)(a:de Z H w l)(h:∀p w',av w O p w'->R p w')(hr:(execOp (bw ρ) o).run P w=.ok (.value<|.pointer<|some ⟨w.heap.size,0,none⟩) (w.alloc O))(k:∀p w',af w0 H w' H w'->de Z H w' l->R p w'->bu P ops Q rest (put ρ o.dst<|.pointer<|some p) w')(c:Region.wanted o (zJ ops ρ)=true:=by kernel_rfl):bu P ops Q (o ::rest) ρ w:=sn hr (fun p w' b=>by
 have⟨au,a⟩:=(ab.ax (F:=ar) b).bz.hh au a;exact k p w' au a<|h p w' b) c
def UP(c:List Value)(T:TypeId)(au:af w0 Hv wv H w)(a:de Z H w l)(hr:(execOp (bw ρ) o).run P w=.ok (.value<|.pointer<|some ⟨w.heap.size,0,none⟩) (w.alloc<|.cells c.toArray T))(k:∀p w' b,af w0 Hv wv b w'->de Z b w' ((p,c,T) ::l)->bu P ops Q rest (put ρ o.dst<|.pointer<|some p) w')(f:Region.wanted o (zJ ops ρ)=true:=by kernel_rfl):bu P ops Q (o ::rest) ρ w:=sn hr (fun p w' e=>by
 have⟨d,au,a⟩:=au.alloc a e;exact k p w' d au a) f
def Sr(i:Nat)(vs:List Value){p:Addr}{c:List Value}{T U:TypeId}{x y:Operand}{n:Nat}(hs:(sizeOf T).run P w=.ok n w)(au:af w0 Hv wv H w)(f:de Z H w l)(hi:l[i]?=some (p,c,U))(k:∀w',af w0 Hv wv H w'->de Z H w' (l.set i (p,vs++c.drop vs.length,U))->bu P ops Q rest (put ρ d undef) w')(h:bw ρ x=.pointer (some p):=by kernel_rfl)(j:bw ρ y=.agg vs.toArray:=by kernel_rfl)(h1:vs.all vJ=true:=by rfl)(m:vs.length=n:=by rfl)(e:decide (vs.length<=c.length)=true:=by kernel_rfl)(o:Region.wanted ⟨d,.store T x y,ty,pos,aft,g⟩ (zJ ops ρ)=true:=by kernel_rfl):bu P ops Q (⟨d,.store T x y,ty,pos,aft,g⟩ ::rest) ρ w:=
 wj o (BC h j h1 hs m<|f.NC i _ hi e) (by have⟨a,b⟩:=f.GC (vs:=vs) au hi e rfl;exact k _ a b)
end
section
variable {H Hv:Nat->Prop} {w0 wv w w':World} {l l':List gh} {Z:List (Nat×Obj)} {p:Addr} {c vs:List Value} {T:TypeId}
def de.qh(a:de Z H w l)(i:Nat)(h:af w0 Hv wv H w)(d:w'=bd w p vs)(hi:l[i]?=some (p,c,T))(b:decide (vs.length<=c.length)=true:=by kernel_rfl):af w0 Hv wv H w'/\de Z H w' (l.set i (p,vs++c.drop vs.length,T)):=by
 subst d;exact a.GC h hi b rfl
def de.d(b:de Z H w l)(i j:Nat){p:Addr}{c:List Value}{T:TypeId}(hi:l[i]?=some (p,c,T))(a:c[j]?=some (c.getD j undef):=by kernel_rfl):w.cell? (p.add j)=some (c.getD j undef):=b.cell i j hi a
def de.d0(b:de Z H w l)(i:Nat){p:Addr}{c:List Value}{T:TypeId}(hi:l[i]?=some (p,c,T))(a:c[0]?=some (c.getD 0 undef):=by kernel_rfl):w.cell? p=some (c.getD 0 undef):=b.bf i hi a
def af.nw{O:Obj}{p:Addr}(h:af w0 Hv wv H w)(b:de Z H w l)(a:av w O p w'):af w0 H w' H w'/\de Z H w' l:=(ab.ax (F:=ar) a).bz.hh h b
def af.pp(h:af w0 Hv wv H w)(a:de Z H w l)(E:Pure w w'):af w0 Hv wv H w'/\de Z H w' l:=⟨h.pure E,a.pure E⟩
def af.hr{R:Prop}(hs:af w0 Hv wv H w)(h:af w0 Hv wv H w->R):R/\af w0 H w H w:=⟨h hs,hs.fm⟩
def su(w0:World):af w0 ar w0 ar w0/\HB ar w0 []:=⟨af.start w0,HB.nil ar w0⟩
end
def Br.br{c:Bool}{A B:Prop}(h:Br c A B):(c=true/\A)\/(c=false/\B):=by
 cases c;exact .inr ⟨rfl,h.2 rfl⟩;exact .inl ⟨rfl,h.1 rfl⟩
section
variable {P:Program} {n:Nat} {Q:Exit->bh->World->Prop} {ρ:bh} {w:World}
def gw{a:Cx}{c:Operand}{y z:Code}{t:Bool}{A B:Prop}(h:Br t A B)(ht:A->dv (x:=a) P n y Q ρ w)(b:B->dv (x:=a) P n z Q ρ w)(d:bw ρ c=.bool t:=by kernel_rfl):dv (x:=a) P n (.cond c y z) Q ρ w:=Ak d (fun e=>ht<|h.1 e) fun e=>b<|h.2 e
def rZ{a:Func}{r s:ResultVar}{v u:Value}{R:Ending->World->Prop}{e:Exit}(hr:a.results=#[r,s])(h:RV P ρ w r v)(d:RV P ρ w s u)(c:R (.returned<|.tuple #[v,u]) w)(b:e=.ret\/e=.normal:=by exact .inl rfl):re P a n R e ρ w:=Hw b (rs:=[r,s]) (vs:=[v,u]) hr ⟨h,d,trivial⟩ rfl c
def wD{t:Nat}(v:Value)(h:ρ t=v:=by kernel_rfl):RV P ρ w (.tmp t) v:=h
end
end Go.SE
namespace Go.SE
section
variable {P:Program} {ops:Array Oper} {Q:bh->World->Prop} {ρ:bh} {w:World} {rest:List Oper} {o:Oper}
variable {H Hv:Nat->Prop} {w0 wv:World} {l:List gh} {Z:List (Nat×Obj)}
def EJ{R:Addr->World->Prop}{O:Obj}(v:Addr->Value)(au:af w0 Hv wv H w)(a:de Z H w l)(h:∀p w',av w O p w'->R p w')(k:∀p w',af w0 H w' H w'->de Z H w' l->R p w'->bu P ops Q rest (put ρ o.dst<|v p) w')(hr:(execOp (bw ρ) o).run P w=.ok (.value<|v ⟨w.heap.size,0,none⟩) (w.alloc O):=by kernel_rfl)(c:Region.wanted o (zJ ops ρ)=true:=by kernel_rfl):bu P ops Q (o ::rest) ρ w:=xP v c hr (fun p w' b=>by
 have⟨au,a⟩:=au.nw a b;exact k p w' au a<|h p w' b)
end
section
variable {P:Program} {ops:Array Oper} {C:World->Prop} {loud free:Nat->Bool} {K:bh->World->Prop} {ρ:bh} {w:World} {k:Nat}
variable {d:Option Tmp} {ty:TypeId} {pos:String} {aft:Array Edge} {g:Option (Nat×Bool)}
end
section
variable {P:Program} {n:Nat} {Q:Exit->bh->World->Prop} {ρ:bh} {w:World}
variable {H Hv:Nat->Prop} {w0 wv:World} {l':List gh} {Z:List (Nat×Obj)}
def Pb{R:World->Prop}{f:Cx}{id:Nat}{l:List Oper}(C:World->Prop)(loud free:List Nat)(b:C w.drew)(h:∀w',w'=w.drew->R w')(hs:af w0 Hv wv H w)(c:de Z H w l')(k:∀w',af w0 Hv wv H w'->de Z H w' l'->R w'->fw P l.toArray C (vX loud) (vX free) (fun ρ w=>Q .normal ρ w) l.length (Array.replicate l.length false) ρ w')(hm:P.follows .mixedOrders=true:=by kernel_rfl)(a:tN n l=true:=by kernel_rfl)(hB:Region.noSelect l.toArray=true:=by kernel_rfl)(d:wY .any l.toArray (vX loud) (vX free)=true:=by kernel_rfl):dv (x:=f) P n (.region id l.toArray true) Q ρ w:=Iu C loud free hm a hB d b fun w' e=>k w' (e▸hs.drew) (e▸c.drew)<|h w' e
end
end Go.SE
namespace Go.SE
abbrev Aa(b:Int)(c:Int)(a:Int)(f:Int)(e:ByteArray)(d:Sl):Value:=.agg #[vi b,vi c,vi a,vu f,vs e,d.v]
abbrev Ab(b:Int)(c:Int)(a:Int)(g:Int)(f:ByteArray)(e:Int)(d:Int):List Value:=[vi b,vi c,vi a,vu g,vs f,vi e,vi d]
abbrev Ac(b:Int)(c:Int)(a:Int)(g:Int)(f:ByteArray)(e:Int)(d:Int):Value:=.agg #[vi b,vi c,vi a,vu g,vs f,vi e,vi d]
abbrev Ae(b:Int)(c:Int)(a:Int)(e:ByteArray)(d:Bool):List Value:=[vi b,vi c,vu a,vs e,vb d]
abbrev Af(b:Int)(c:Int)(a:Int)(f:Int)(e:ByteArray)(d:Sl):List Value:=[vi b,vi c,vi a,vu f,vs e,d.v]
abbrev Ag(b:Int)(c:Int)(a:Int)(e:ByteArray)(d:Bool):Value:=.agg #[vi b,vi c,vu a,vs e,vb d]
abbrev Ah(b:Bool)(c:Bool)(a:Bool)(e:Bool)(d:Int):List Value:=[vb b,vb c,vb a,vb e,vi d]
abbrev Ai(V:Bool)(W:Bool)(O:Bool)(U:Bool)(T:Int)(X:Bool)(S:Bool)(R:Bool)(P:Bool)(Q:Int)(z:Bool)(q:Bool)(g:Bool)(u:Bool)(b:Int)(p:Bool)(c:Bool)(d:Bool)(k:Bool)(L:Int)(K:Bool)(E:Bool)(F:Bool)(r:Bool)(s:Int)(H:Bool)(A:Bool)(I:Bool)(h:Bool)(l:Int)(o:Bool)(D:Bool)(G:Bool)(M:Bool)(t:Int)(m:Bool)(B:Bool)(J:Bool)(C:Bool)(N:Int)(i:Bool)(n:Bool)(a:Bool)(j:Bool)(y:Int)(e:Bool)(w:Bool)(v:Bool)(f:Bool)(x:Int):List Value:=[vb V,vb W,vb O,vb U,vi T,vb X,vb S,vb R,vb P,vi Q,vb z,vb q,vb g,vb u,vi b,vb p,vb c,vb d,vb k,vi L,vb K,vb E,vb F,vb r,vi s,vb H,vb A,vb I,vb h,vi l,vb o,vb D,vb G,vb M,vi t,vb m,vb B,vb J,vb C,vi N,vb i,vb n,vb a,vb j,vi y,vb e,vb w,vb v,vb f,vi x]
abbrev Aj(b:Int)(d:Int)(a:Int)(c:Bool):List Value:=[vi b,vi d,vu a,ve,vb c]
end Go.SE
end
section
namespace Go.SE
inductive Fr where
 |t (c:Code)
 |b (id:Nat)
 |r (ops:Array Oper) (l:List Oper)
 |j (J:bh->World->Prop)
inductive EX where
 |c (c:Code)
 |r (ops:Array Oper) (l:List Oper)
 |d (ops:Array Oper) (q:Option World) (C:World->Prop) (H:Nat->Prop) (l:List gh) (ld fr:List Nat) (b:Nat) (a:Array Bool) (s:Option Nat)
 |x (e:Exit)
structure Cf where
 pos:EX
 fr:List Fr
 ρ:bh
 w:World
 kn:List (Nat×Bool)
def kl:List (Nat×Bool)->Nat->Option Bool
 |[],_=>none
 |(t,b) :: l,d=>cond (Nat.beq t d) (some b)<|kl l d
def AD:List (Nat×Bool)->Nat->List (Nat×Bool)
 |[],_=>[]
 |(t,b) :: l,d=>cond (Nat.beq t d) (AD l d) ((t,b) :: AD l d)
def kd(l:List (Nat×Bool)):Option Nat->List (Nat×Bool)
 |none=>l
 |some d=>AD l d
def Kn(c:Cf):Prop:=∀d b,kl c.kn d=some b->c.ρ d=.bool b
def EO:Value->Option Bool
 |.bool b=>some b
 |_=>none
def bK(kn:List (Nat×Bool))(ρ:bh):Operand->Option Bool
 |.tmp d=>match kl kn d with
  |some b=>some b
  |none=>EO<|ρ d
 |x=>EO<|bw ρ x
def yK(ops:Array Oper)(kn:List (Nat×Bool))(ρ:bh)(j:Nat):Option Bool:=
 match(ops[j]?).bind (·.dst)with
 |some d=>bK kn ρ<|.tmp d
 |none=>none
abbrev EH:Cx:=⟨none,[]⟩
def Cl(q:Option World)(C:World->Prop)(H:Nat->Prop)(l:List gh)(x:World):Prop:=match q with
 |some w=>x=w
 |none=>C x/\HB H x l
section
variable (P:Program) (n:Nat) (Q:Exit->bh->World->Prop)
def Qf:List Fr->Exit->bh->World->Prop
 |[]=>Q
 |.t c :: fs=>pM (fun ρ w=>dv (x:=EH) P n c (Qf fs) ρ w)<|Qf fs
 |.b id :: fs=>tc id<|Qf fs
 |.r ops l :: fs=>pM (fun ρ w=>bu P ops (fun ρ w=>Qf fs .normal ρ w) l ρ w)<|Qf fs
 |.j J :: fs=>pM J<|Qf fs
def Wq(c:Cf):Prop:=match c.pos with
 |.c k=>dv (x:=EH) P n k (Qf P n Q c.fr) c.ρ c.w
 |.r ops l=>bu P ops (fun ρ w=>Qf P n Q c.fr .normal ρ w) l c.ρ c.w
 |.d ops q C H l ld fr b a none=>fw P ops (Cl q C H l) (vX ld) (vX fr) (fun ρ w=>Qf P n Q c.fr .normal ρ w) b a c.ρ c.w
 |.d ops q C H l ld fr b a (some k)=>fg P ops (Cl q C H l) (vX ld) (vX fr) k (fw P ops (Cl q C H l) (vX ld) (vX fr) (fun ρ w=>Qf P n Q c.fr .normal ρ w) b<|a.setIfInBounds k true) c.ρ c.w
 |.x e=>Qf P n Q c.fr e c.ρ c.w
def Wk(c:Cf):Prop:=Kn c->Wq P n Q c
end
def W(P:Program)(a:Func)(R:Ending->World->Prop)(c:Cf):Prop:=Wk P a.ntmps (re P a a.ntmps R) c
def Ot(ops:Array Oper)(ld:List Nat)(a:Array Bool):Option Nat:=
 match(Region.ready .any ops a).find? (fun k=>!vX ld k)with
 |some k=>if zu ops a (vX ld) k then some k else none
 |none=>match Region.ready .any ops a with
  |[k]=>some k
  |_=>none
def s1(n:Nat)(c:Cf):Option (EX×List Fr):=match c.pos with
 |.c k=>match k with
  |.seq a b=>some (.c a,.t b :: c.fr)
  |.block id a=>some (.c a,.b id :: c.fr)
  |.skip=>some (.x .normal,c.fr)
  |.label _=>some (.x .normal,c.fr)
  |.ret=>some (.x .ret,c.fr)
  |.exit id=>some (.x<|.exit id,c.fr)
  |.scope a=>some (.c a,c.fr)
  |.region _ ops false=>if tN n ops.toList then some (.r ops ops.toList,c.fr)else none
  |_=>none
 |.r _ []=>some (.x .normal,c.fr)
 |.d ops _ _ _ _ ld _ 0 f none=>if(Region.ready .any ops f).isEmpty then some (.x .normal,c.fr)else none
 |.d ops q C H l ld fr (g+1) f none=>match Ot ops ld f with
  |some k=>some (.d ops q C H l ld fr g f<|some k,c.fr)
  |none=>none
 |.x e=>match c.fr,e with
  |.t k :: fs,.normal=>some (.c k,fs)
  |.r ops l :: fs,.normal=>some (.r ops l,fs)
  |.b _ :: fs,.normal=>some (.x .normal,fs)
  |.b id :: fs,.exit i=>if i=id then some (.x .normal,fs)else some (.x<|.exit i,fs)
  |.t _ :: fs,.exit i=>some (.x<|.exit i,fs)
  |.r _ _ :: fs,.exit i=>some (.x<|.exit i,fs)
  |.j _ :: fs,.exit i=>some (.x<|.exit i,fs)
  |_ :: fs,.ret=>some (.x .ret,fs)
  |_,_=>none
 |_=>none
def AF(n:Nat):Nat->Cf->Cf
 |0,c=>c
 |f+1,c=>match s1 n c with
  |some (p,fs)=>AF n f ⟨p,fs,c.ρ,c.w,c.kn⟩
  |none=>c
def rW(c:Cf):Option Oper:=match c.pos with
 |.r _ (o :: _)=>some o
 |.d ops _ _ _ _ _ _ _ _ (some k)=>ops[k]?
 |_=>none
def zx(c:Cf):Array Oper:=match c.pos with
 |.r ops _=>ops
 |.d ops _ _ _ _ _ _ _ _ _=>ops
 |_=>#[]
def rI(c:Cf)(o:Oper):Bool:=Region.wanted o<|yK (zx c) c.kn c.ρ
def cur(c:Cf):Option Oper:=match rW c with
 |some o=>cond (rI c o) (some o) none
 |none=>none
def uC(v:Value)(w':World)(c:Cf):Cf:=match c.pos with
 |.r ops (o :: l)=>⟨.r ops l,c.fr,put c.ρ o.dst v,w',kd c.kn o.dst⟩
 |.d ops q C H l ld fr b a (some k)=>match ops[k]? with
  |some o=>⟨.d ops q C H l ld fr b (a.setIfInBounds k true) none,c.fr,put c.ρ o.dst v,w',kd c.kn o.dst⟩
  |none=>c
 |_=>c
def pN(c:Cf):Bool:=match c.pos with
 |.d ..=>true
 |_=>false
def pg(c:Cf):Bool:=match c.pos with
 |.d _ _ _ _ _ ld _ _ _ (some k)=>vX ld k
 |_=>false
def Ii(P:Program)(c:Cf)(o:Oper):Option (Option Value):=match o.op with
 |.pick x a b=>some (match bK c.kn c.ρ x with
  |some true=>some<|bw c.ρ a
  |some false=>some<|bw c.ρ b
  |none=>none)
 |.binOp .eql T x y _=>match bw c.ρ x,bw c.ρ y with
  |.string s,.string t=>some<|some<|.bool<|decide (s=t)
  |.pointer p,.pointer none=>match P.underlying T with
   |some (.pointer _)=>some<|some<|.bool p.isNone
   |_=>none
  |_,_=>none
 |.binOp .neq T x y _=>match bw c.ρ x,bw c.ρ y with
  |.string s,.string t=>some<|some<|.bool<|!decide (s=t)
  |.pointer p,.pointer none=>match P.underlying T with
   |some (.pointer _)=>some<|some<|.bool<|!p.isNone
   |_=>none
  |_,_=>none
 |_=>none
def o1(P:Program)(c:Cf):Option (Cf×List ((World->Result Next)×Value)):=
 match c.pos with
 |.c (.cond x a b)=>match bK c.kn c.ρ x with
  |some true=>some (⟨.c a,c.fr,c.ρ,c.w,c.kn⟩,[])
  |some false=>some (⟨.c b,c.fr,c.ρ,c.w,c.kn⟩,[])
  |none=>none
 |_=>match rW c with
  |none=>none
  |some o=>cond (rI c o) (match Ii P c o with
   |some (some v)=>cond (pg c) none<|some (uC v c.w c,[])
   |some none=>none
   |none=>match(execOp (bw c.ρ) o).run P c.w with
    |.ok (.value v) w'=>cond (pN c) (cond (pg c) none<|some (uC v c.w c,[(fun x=>(execOp (bw c.ρ) o).run P x,v)]))<|some (uC v w' c,[])
    |.ok .skip w'=>cond (pN c) none<|some (uC undef w' c,[])
    |_=>none) (some (uC undef c.w c,[]))
structure Ad where
 c:Cf
 ok:Bool
 ds:List ((World->Result Next)×Value)
def jq(P:Program)(n:Nat):Nat->Cf->Ad
 |0,c=>⟨AF n 99 c,true,[]⟩
 |k+1,c=>match o1 P (AF n 99 c)with
  |some (c',d)=>match jq P n k c' with
   |⟨a,ok,ds⟩=>⟨a,ok,d++ds⟩
  |none=>⟨c,false,[]⟩
def Ad.cr(a:Ad):Bool×List (World->Result Next):=(a.ok,a.ds.map (·.1))
def Ad.so(a:Ad):Bool×List (World->Result Next):=(true,a.ds.map fun p w=>.ok (.value p.2) w)
def Dg{d t b}:∀{l:List (Nat×Bool)},kl (AD l t) d=some b->d≠t/\kl l d=some b
 |[],h=>by cases h
 |(s,c) :: l,h=>by
  simp only[AD]at h;cases hs:Nat.beq s t with
  |true =>
   rw[hs]at h
   have:=Dg (l:=l) h
   refine⟨this.1,?_⟩
   have h2:=Nat.eq_of_beq_eq_true hs
   subst h2
   have:Nat.beq s d=false:=by cases e:Nat.beq s d with
    |true=>exact absurd (Nat.eq_of_beq_eq_true e).symm this.1
    |false=>rfl
   simp only[kl,this,cond_false];exact(Dg (l:=l) h).2
  |false =>
   rw[hs]at h
   simp only[cond_false,kl]at h|-
   cases e:Nat.beq s d with
   |true =>
    rw[e]at h
    refine⟨fun h2=>?_,h⟩
    subst h2;rw[hs]at e;cases e
   |false=>rw[e]at h;exact Dg (l:=l) h
def Ke{d b}{l:List (Nat×Bool)}{o:Option Nat}(h:kl (kd l o) d=some b):o≠some d/\kl l d=some b:=by
 cases o with
 |none=>exact⟨nofun,h⟩
 |some t=>have:=Dg h;exact⟨fun e=>this.1 (Option.some.inj e).symm,this.2⟩
def Mn{ρ}{o:Option Nat}{d v}(h:o≠some d):put ρ o v d=ρ d:=by
 cases o with
 |none=>rfl
 |some t=>simp only[put,rK];rw[if_neg fun e=>h<|by rw[e]]
def DV{c}(a:Kn c){x b}(h:bK c.kn c.ρ x=some b):bw c.ρ x=.bool b:=by
 cases x with
 |tmp d =>
  simp only[bK]at h
  split at h
  .rename_i e;cases h;exact a _ _ e
  .simp only[bw];generalize c.ρ d=v at h;cases v<;>simp only[EO]at h<;>first|(cases h;done)|(cases h;rfl)
 |_=>simp only[bK]at h;generalize bw c.ρ _=v at h;cases v<;>simp only[EO]at h<;>first|(cases h;done)|(cases h;rfl)
def wL{c}(a:Kn c)(ops):yK ops c.kn c.ρ=zJ ops c.ρ:=by
 funext j;unfold yK zJ;cases(ops[j]?).bind (·.dst)with
 |none=>rfl
 |some d =>
  simp only[bK]
  cases e:kl c.kn d with
  |some b=>rw[a _ _ e]
  |none=>simp only;generalize c.ρ d=v;cases v<;>rfl
section
variable {P:Program} {n:Nat} {Q:Exit->bh->World->Prop} {c c':Cf}
def Ng(Q:Exit->bh->World->Prop):Prop:=∀l ρ w,¬Q (.goto l) ρ w
def Bl(h:Ng Q):∀fs,Ng (Qf P n Q fs)
 |[]=>h
 |.t _ :: fs=>fun l ρ w=>Bl h fs l ρ w
 |.b _ :: fs=>fun l ρ w=>Bl h fs l ρ w
 |.r _ _ :: fs=>fun l ρ w=>Bl h fs l ρ w
 |.j _ :: fs=>fun l ρ w=>Bl h fs l ρ w
def Sh{ρ w}(f:Fr)(fs:List Fr):Qf P n Q (f ::fs) .ret ρ w=Qf P n Q fs .ret ρ w:=by cases f<;>rfl
def jbg(g:Ng Q){p:EX}{fs:List Fr}(h:s1 n c=some (p,fs))(k:Wq P n Q ⟨p,fs,c.ρ,c.w,c.kn⟩):Wq P n Q c:=by
 have⟨pos,fr,ρ,w,kn⟩:=c;unfold s1 at h;simp only at h;split at h;split at h;cases h;exact zK k;cases h;exact vN k;cases h;exact zY k;cases h;exact Gx k;cases h;exact Fv k;cases h;exact tQ k;cases h;exact Gc rfl (Bl g _) k;rename_i ops;split at h;rename_i e;cases h;have:=fun id=>OE (x:=EH) (id:=id) (Q:=Qf P n Q _) e (by rw[Array.toArray_toList];exact k);simp only[Array.toArray_toList]at this;exact this _;cases h;cases h;rename_i ops;cases h;exact vI (P:=P) (ops:=ops) k;split at h;rename_i ops q C H l ld d i b;cases h;exact PT (P:=P) (C:=Cl q C H l) (loud:=vX ld) (free:=vX d) (by simpa using b) k;cases h;split at h;rename_i k' a;cases h;unfold Ot at a;split at a;split at a;rename_i f;cases a;exact Fi f k;cases a;split at a;rename_i hr;cases a;exact PC hr k;cases a;cases h;split at h;cases h;exact k;cases h;exact k;cases h;exact k;split at h;rename_i b;cases h;subst b;exact vn k;rename_i b;cases h;exact PQ (by simpa using b) k;cases h;exact k;cases h;exact k;cases h;exact k;cases h;exact Eq.mpr (Sh _ _) k;cases h;cases h
def GR(a:Ng Q):∀(f:Nat) {c:Cf},Wk P n Q (AF n f c)->Wk P n Q c
 |0,_,k=>k
 |f+1,c,k=>by
  unfold AF at k;split at k;rename_i p fs h;exact fun b=>jbg a h<|GR a f k b;exact k
def need(c:Cf):World->Prop:=match c.pos with
 |.d _ q C H l _ _ _ _ _=>Cl q C H l
 |_=>fun x=>x=c.w
def vc(a:Kn c)(v w'):Kn (uC v w' c):=by
 unfold uC;split;intro d b h;have:=Ke h;exact(Mn this.1).trans<|a _ _ this.2;split;intro d b h;have:=Ke h;exact(Mn this.1).trans<|a _ _ this.2;exact a;exact a
def yu{o v w'}(hh:rW c=some o)(a:pN c=false):∃ops l,c.pos=.r ops (o ::l)/\zx c=ops/\uC v w' c=⟨.r ops l,c.fr,put c.ρ o.dst v,w',kd c.kn o.dst⟩:=by
 unfold rW at hh;split at hh;rename_i h1;cases hh;exact⟨_,_,h1,by unfold zx;rw[h1],by unfold uC;rw[h1]⟩;rename_i h1;simp[pN,h1]at a;cases hh
def yq{o v w'}(hh:rW c=some o)(a:pN c=true):∃ops q C H l ld fr e b k,c.pos=.d ops q C H l ld fr e b (some k)/\zx c=ops/\ops[k]?=some o/\pg c=vX ld k/\uC v w' c=⟨.d ops q C H l ld fr e (b.setIfInBounds k true) none,c.fr,put c.ρ o.dst v,w',kd c.kn o.dst⟩:=by
 unfold rW at hh;split at hh;rename_i h1;simp[pN,h1]at a;rename_i h1;exact⟨_,_,_,_,_,_,_,_,_,_,h1,by unfold zx;rw[h1],hh,by unfold pg;rw[h1],by unfold uC;simp[h1,hh]⟩;cases hh
def yi{o}(a:cur c=some o):rW c=some o/\rI c o=true:=by
 unfold cur at a;split at a;grind;cases a
def AI{ops l}(h:c.pos=.r ops l):Wq P n Q c=bu P ops (fun ρ w=>Qf P n Q c.fr .normal ρ w) l c.ρ c.w:=by unfold Wq;rw[h]
def An{ops}{q:Option World}{C H l ld fr fu}{a:Array Bool}{k}(h:c.pos=.d ops q C H l ld fr fu a (some k)):Wq P n Q c=fg P ops (Cl q C H l) (vX ld) (vX fr) k (fw P ops (Cl q C H l) (vX ld) (vX fr) (fun ρ w=>Qf P n Q c.fr .normal ρ w) fu<|a.setIfInBounds k true) c.ρ c.w:=by unfold Wq;rw[h]
def FA{o v}(g:cur c=some o)(e:pg c=false)(hr:Kn c->∀x,need c x->(execOp (bw c.ρ) o).run P x=.ok (.value v) x)(k:Wk P n Q (uC v c.w c)):Wk P n Q c:=by
 intro d;have⟨hh,a⟩:=yi g;unfold rI at a;rw[wL d]at a;replace k:=k<|vc d _ _;cases b:pN c with
 |false =>
  have⟨ops,l,h1,h2,h3⟩:=yu (v:=v) (w':=c.w) hh b
  rw[h2]at a;rw[h3]at k;rw[AI h1]
  exact ff a (hr d _ (by unfold need;rw[h1])) k
 |true =>
  have⟨ops,q,C,H,l,ld,fr,p,m,j,h1,h2,f,i,h3⟩:=yq (v:=v) (w':=c.w) hh b
  rw[h2]at a;rw[h3]at k;rw[An h1];rw[i]at e
  exact sx f a e (fun x h=>hr d x (by unfold need;rw[h1];exact h)) k
def UY{o}(hh:rW c=some o)(a:rI c o=false)(k:Wk P n Q (uC undef c.w c)):Wk P n Q c:=by
 intro d;unfold rI at a;rw[wL d]at a;replace k:=k<|vc d _ _;cases b:pN c with
 |false =>
  have⟨ops,l,h1,h2,h3⟩:=yu (v:=undef) (w':=c.w) hh b
  rw[h2]at a;rw[h3]at k;rw[AI h1]
  exact Em a k
 |true =>
  have⟨ops,q,C,H,l,ld,fr,g,f,j,h1,h2,e,h,h3⟩:=yq (v:=undef) (w':=c.w) hh b
  rw[h2]at a;rw[h3]at k;rw[An h1]
  exact jao e a k
def NG{o v w'}(e:cur c=some o)(b:pN c=false)(hr:(execOp (bw c.ρ) o).run P c.w=.ok (.value v) w')(k:Wk P n Q (uC v w' c)):Wk P n Q c:=by
 intro d;have⟨hh,a⟩:=yi e;unfold rI at a;rw[wL d]at a;replace k:=k<|vc d _ _;have⟨ops,l,h1,h2,h3⟩:=yu (v:=v) (w':=w') hh b;rw[h2]at a;rw[h3]at k;rw[AI h1];exact st a hr k
def Qu{o w'}(e:cur c=some o)(b:pN c=false)(hr:(execOp (bw c.ρ) o).run P c.w=.ok .skip w')(k:Wk P n Q (uC undef w' c)):Wk P n Q c:=by
 intro d;have⟨hh,a⟩:=yi e;unfold rI at a;rw[wL d]at a;replace k:=k<|vc d _ _;have⟨ops,l,h1,h2,h3⟩:=yu (v:=undef) (w':=w') hh b;rw[h2]at a;rw[h3]at k;rw[AI h1];exact wj a hr k
def Ub(b:Kn c){o v}(h:Ii P c o=some (some v))(y):(execOp (bw c.ρ) o).run P y=.ok (.value v) y:=by
 have⟨dst,op,ty,pos,aft,g⟩:=o;unfold Ii at h;simp only at h;split at h;split at h;rename_i a;cases h;exact Qs (DV b a) rfl rfl;rename_i a;cases h;exact KG (DV b a) rfl rfl;cases h;split at h;rename_i h1 h2;cases h;exact VY h1 h2;rename_i h1 h2;split at h;rename_i h3;cases h;exact EU h1 h2 h3;cases h;cases h;split at h;rename_i h1 h2;cases h;exact JI h1 h2;rename_i h1 h2;split at h;rename_i h3;cases h;exact VO h1 h2 h3;cases h;cases h;cases h
def Ut{d:List ((World->Result Next)×Value)}(h:o1 P c=some (c',d))(hs:d.map (·.1)=d.map fun p w=>.ok (.value p.2) w)(k:Wk P n Q c'):Wk P n Q c:=by
 unfold o1 at h;split at h;rename_i x a b q;intro g;have⟨pos,fs,ρ,w,kn⟩:=c;simp only at q;subst q;split at h;rename_i l;cases h;exact Zn (DV g l)<|k g;rename_i l;cases h;exact Vx (DV g l)<|k g;cases h;split at h;cases h;rename_i o hh;cases j:rI c o with
 |false=>rw[j]at h;cases h;exact UY hh j k
 |true =>
  have i:cur c=some o:=by unfold cur;rw[hh];simp only[j,cond_true]
  rw[j]at h
  simp only[cond_true]at h
  split at h
  rename_i v m
  cases f:pg c with
  |true=>rw[f]at h;cases h
  |false=>rw[f]at h;cases h;exact FA i f (fun g y _=>Ub g m y) k
  cases h
  split at h
  rename_i v w' hr
  cases e:pN c with
  |true =>
   rw[e]at h
   cases f:pg c with
   |true=>rw[f]at h;cases h
   |false =>
    rw[f]at h
    cases h
    simp only[List.map_cons,List.map_nil,List.cons.injEq,and_true]at hs
    exact FA i f (fun _ x _=>congrFun hs x) k
  |false =>
   rw[e]at h
   cases h
   exact NG i e hr k
  rename_i w' hr
  cases e:pN c with
  |true=>rw[e]at h;cases h
  |false=>rw[e]at h;cases h;exact Qu i e hr k
  cases h
def Jv(a:Ng Q):∀(m:Nat) {c:Cf},(jq P n m c).cr=(jq P n m c).so->Wk P n Q (jq P n m c).c->Wk P n Q c
 |0,c,_,k=>GR a 99 k
 |m+1,c,hs,k=>by
  unfold jq at hs k;split at hs;rename_i c' d h1;rw[h1]at k;simp only at hs k;have b:(jq P n m c').cr=(jq P n m c').so/\d.map (·.1)=d.map fun p w=>.ok (.value p.2) w:=by
   simp only[Ad.cr,Ad.so,List.map_append,Prod.mk.injEq]at hs|-;have⟨e,h2⟩:=hs;have:=List.append_inj h2 Sm;exact⟨⟨e,this.2⟩,this.1⟩
  exact GR a 99<|Ut h1 b.2<|Jv a m b.1 k;simp[Ad.cr,Ad.so]at hs
end
def Rg(P fn n R):Ng (re P fn n R):=fun _ _ _ h=>h
def W.on{P fn R c}(m)(hs:(jq P fn.ntmps m c).cr=(jq P fn.ntmps m c).so)(k:W P fn R (jq P fn.ntmps m c).c):W P fn R c:=Jv (Rg P fn _ R) m hs k
end Go.SE
end
section
open Go Go.SE List
namespace Go.SE
section
variable {P:Program} {t e:TypeId} {sz bytes:Nat}
def Um(T:km P t e sz bytes)(w:World)(ty:TypeId)(s x:Sl)(g:s.len<=s.cap)(f:x.len=0):(Builtin.append_ #[t,t] ty #[s.v,x.v]).run P w=.ok s.v w:=by
 have⟨a,n,c⟩:=s;have⟨b,m,d⟩:=x;simp only at g f;subst f;cases b<;>cases a<;>simp[Builtin.append_,Sl.v,run_underlying T.ht,T.sizeOf,Builtin.lenOf,Builtin.firstCells,loadCells,loadCellsFrom,storeCells,g]
end
def Pr{w sz}:∀{rs:List (List Value)} {p:Addr},(∀r∈rs,r.length=sz)->(∀i (h:i<rs.length),Row w (p.add<|i*sz) rs[i])->Row w p rs.flatten
 |[],p,_,_=>fun i h=>by simp at h
 |r :: rs,p,b,h=>by
  have hr:Row w p r:=by have:=h 0 Sm;simpa[Addr.add]using this
  have e:=b r Sm;have c:=Pr (rs:=rs) (p:=p.add sz) (fun q d=>b q<|mem_cons_of_mem _ d) (fun i hi=>by
   have:=h (i+1) (by simpa using hi);rw[yO,show sz+i*sz=(i+1)*sz by rw[Nat.succ_mul];omega];simpa using this)
  intro i hi;rw[flatten_cons]at hi|-;by_cases a:i<r.length;rw[hr i a,getElem?_append_left a];have:=c (i-r.length) Gd;rw[yO,show sz+(i-r.length)=i by omega]at this;rw[this,getElem?_append_right Om]
section
variable {P:Program} {t e:TypeId} {sz bytes:Nat}
def bg.empty{w w' p}(b:av w (.cells #[] e) p w'):bg w' e sz ⟨some p,0,0⟩ []:=by
 have⟨a,c⟩:=b;refine⟨Sm,rfl,.inr ⟨w.heap.size,#[],by rw[a],?_,Sm,Sm,Sm,Sm⟩⟩;rw[c];exact heap_alloc_new w<|.cells #[] e
def bg.AM(T:km P t e sz bytes){w ty s x rs qs}(h:bg w e sz s rs){S}(k:dr S w sz x qs)(r:∀q∈qs,q.length=sz)(h1:∀q∈qs,q.all vJ=true)(m:(rs.length+qs.length)*bytes<=140737488355328)(hm:rs.length+qs.length<=maxLen):
  ∃s' w',(Builtin.append_ #[t,t] ty #[s.v,x.v]).run P w=.ok s'.v w'/\bg w' e sz s' (rs++qs)/\ab s.aq w w'/\(∀b,s'.aq b->s.aq b\/w.heap.size<=b):=by
 cases n:qs with
 |nil =>
  subst n
  have l:s.len<=s.cap:=by
   rcases h.ak with⟨rfl,_⟩|⟨g,cur,_,_,l,_⟩;exact Nat.le_refl _;rw[h.len];exact l
  exact⟨s,w,Um T w ty s x l k.len,by simpa using h,ab.refl w,fun b m=>.inl m⟩
 |cons q0 u =>
  rw[<-n]
  have j:qs≠[]:=by rw[n];simp
  have c:=length_pos_iff.2 j
  have⟨_,⟨_,_,p,y,_⟩,_,_⟩:=k.at_ 0 c
  have d:Row w p qs.flatten:=Pr r (fun i hi=>by
   obtain⟨a,⟨_,_,b,f,rfl⟩,_,hr⟩:=k.at_ i hi;rw[y]at f;cases f;simpa using hr)
  have o:x.v=(Sl.mk (some p) qs.length x.cap).v:=by unfold Sl.v;rw[y,k.len]
  rw[o]
  exact h.Jm T d r h1 j m hm
end
def eu{α:Type}:List (Int×α)->Int->Option α
 |[],_=>none
 |p :: M,k=>if p.1=k then some p.2 else eu M k
def uV{α:Type}{M:List (Int×α)}{k}:eu M k=none↔k∉M.map Prod.fst:=by
 induction M with
 |nil=>simp[eu]
 |cons p M a =>
  rw[eu]
  split
  rename_i h;simp[h]
  grind
def tT{α:Type}{M:List (Int×α)}{k}{v:α}(h:eu M k=some v):(k,v)∈M:=by
 induction M with
 |nil=>cases h
 |cons p M a =>
  rw[eu]at h
  split at h
  grind
  grind
def Jg{α:Type}{M:List (Int×α)}(b:(M.map Prod.fst).Nodup){i:Nat}{k:Int}{v:α}(h:M[i]?=some (k,v)):eu M k=some v:=by
 induction M generalizing i with
 |nil=>simp at h
 |cons p M c =>
  rw[map_cons,nodup_cons]at b
  rw[eu]
  cases i with
  |zero=>simp at h;subst h;simp
  |succ i =>
   have d:M[i]?=some (k,v):=by simpa using h
   have a:p.1≠k:=fun e=>b.1 Gd
   rw[if_neg a]
   exact c b.2 d
def VC{α:Type}{M:List (Int×α)}(a:(M.map Prod.fst).Nodup){k}{v:α}(h:(k,v)∈M):eu M k=some v:=by
 have⟨i,hi,e⟩:=getElem_of_mem h;exact Jg a (by rw[getElem?_eq_getElem hi,e])
def Po{α:Type}{M:List (Int×α)}{k x}{v:α}(h:k∉M.map Prod.fst):eu (M++[(k,v)]) x=if k=x then some v else eu M x:=by
 induction M with
 |nil=>simp[eu]
 |cons p M a =>
  simp only[map_cons,mem_cons,not_or]at h
  rw[cons_append,eu,eu,a h.2]
  by_cases e:p.1=x
  grind
  rw[if_neg e,if_neg e]
def pL(k:Int):Value:=.int .i64 k
structure fc{α:Type}(f:α->Value)(w:World)(m:Nat)(M:List (Int×α)):Prop where
 map:jt w m (M.map fun p=>(pL p.1,f p.2))
 nd:(M.map Prod.fst).Nodup
section
variable {α:Type} {f:α->Value} {w w':World} {m:Nat} {M:List (Int×α)} {P:Program} {T K E:TypeId}
def fc.ext{F}(h:fc f w m M)(b:ab F w w')(a:¬F m):fc f w' m M:=⟨h.map.ext b a,h.nd⟩
def fc.pure(h:fc f w m M)(a:Pure w w'):fc f w' m M:=h.ext a id
def fc.lt(h:fc f w m M):m<w.heap.size:=h.map.lt
def fc.bj{p}(h:av w (.map #[] 0) p w'):fc f w' p.block []:=⟨jt.bj h,nodup_nil⟩
def fc.HH(M:List (Int×α)):∀p∈M.map fun p=>(pL p.1,f p.2),∃n,p.1=.int .i64 n:=by
 intro p a;obtain⟨q,_,rfl⟩:=mem_map.1 a;exact⟨_,rfl⟩
def fc.get(h:fc f w m M)(d:P.underlying T=some (.map K E))(e:P.underlying K=some (.int .i64)){z}(c:(zeroValue E).run P w=.ok z w)(k ok):
  (eu M k=none/\(Instr.lookup T (.map<|some m) (.int .i64 k) ok).run P w=.ok (if ok then .tuple #[z,.bool false]else z) w)\/∃v,eu M k=some v/\(Instr.lookup T (.map<|some m) (.int .i64 k) ok).run P w=.ok (if ok then .tuple #[f v,.bool true]else f v) w:=by
 rcases h.map.lookup d (rz.Gh e) (fc.HH M) (k:=pL k) ⟨k,rfl⟩ c ok with⟨h1,h2⟩|⟨i,v,h1,h2⟩
 refine .inl ⟨uV.2 fun hm=>?_,h2⟩
 obtain⟨q,g,rfl⟩:=mem_map.1 hm
 exact h1 _ (mem_map.2 ⟨q,g,rfl⟩) rfl
 rw[getElem?_map]at h1
 cases hi:M[i]? with
 |none=>rw[hi]at h1;cases h1
 |some q =>
  rw[hi]at h1
  have⟨a,b⟩:=q
  simp[pL]at h1
  obtain⟨rfl,rfl⟩:=h1
  exact .inr ⟨b,Jg h.nd hi,h2⟩
def fc.put(h:fc f w m M)(i:P.underlying T=some (.map K E))(c:P.underlying K=some (.int .i64)){k}(j:eu M k=none)(v:α):
  ∃w',(Instr.mapUpdate T (.map<|some m) (.int .i64 k)<|f v).run P w=.ok () w'/\fc f w' m (M++[(k,v)])/\ab (·=m) w w':=by
 have a:=uV.1 j
 have⟨w',h1,h2,h3⟩:=h.map.insert i (rz.Gh c) (fc.HH M) (k:=pL k) (v:=f v) ⟨k,rfl⟩ (fun p d e=>by
  obtain⟨q,l,rfl⟩:=mem_map.1 d;simp only[pL,Value.int.injEq,true_and]at e;exact a<|mem_map.2 ⟨q,l,e⟩)
 refine⟨w',h1,⟨by simpa using h2,?_⟩,h3⟩
 rw[map_append,nodup_append]
 exact⟨h.nd,Sm,fun x g y b e=>by simp at b;subst b;exact a<|e▸g⟩
def fc.ib(h:fc f w m M)(s:P.underlying T=some (.map K E))(o:P.underlying K=some (.int .i64)){k}{v:α}(r:eu M k=some v):
  ∃w',(Instr.mapUpdate T (.map<|some m) (.int .i64 k)<|f v).run P w=.ok () w'/\fc f w' m M/\ab (·=m) w w':=by
 have⟨i,hi,e⟩:=List.getElem_of_mem<|tT r
 have g:(M.map fun p=>(pL p.1,f p.2))[i]?=some (pL k,f v):=by simp[hi,e]
 have⟨w',h1,h2,h3⟩:=h.map.jcI s (rz.Gh o) (fc.HH M) (k:=pL k) (v:=f v) (v':=f v) ⟨k,rfl⟩ g (fun j u a=>by
  rw[List.getElem?_map]at a;cases l:M[j]? with
  |none=>rw[l]at a;cases a
  |some q =>
   rw[l]at a
   simp[pL]at a
   have⟨d,c⟩:=List.getElem?_eq_some_iff.1 l
   have x:(M.map Prod.fst)[j]'(by simpa using d)=(M.map Prod.fst)[i]'(by simpa using hi):=by simp[c,e,a.1]
   exact(List.getElem_inj h.nd).1 x)
 have b:(M.map fun p=>(pL p.1,f p.2)).set i (pL k,f v)=M.map fun p=>(pL p.1,f p.2):=by
  apply List.ext_getElem?;intro n;rw[List.getElem?_set];by_cases t:i=n;grind;rw[if_neg t]
 rw[b]at h2
 exact⟨w',h1,⟨h2,h.nd⟩,h3⟩
end
end Go.SE
end
section
open Go Go.SE List
namespace Go.SE
def ab.putObj(w r o):ab (·=r) w (w.putObj r o):=⟨rfl,rfl,rfl,Fe,Sm,fun b _ a=>World.putObj_heap_other a⟩
abbrev yr(P:Program)(l:Nat)(args:Array Value)(w:World)(R:Ending->WP):Prop:=YieldAt Fence.wide 0 P l args w R
def sK(P:Program)(d:FuncId)(lb:Array Value){α:Type}(encs:α->Array Value)(xs:List α)(Rd:WP)(w:World):Prop:=
 ∀(l:Nat) (J c:List α->NP->WP) (W:World),Pure w W ->
  (∀ba X A,J ba X A->Rd A) ->
  (∀ba X A a A',J ba X A->af W X A a A'->J ba a A') ->
  (∀ba X A a A',c ba X A->af W X A a A'->c ba a A') ->
  (∀ba y X A,J ba X A->af W X A X A->(∃b,xs=ba++y ::b)->yr P l (encs y) A fun e A'=>(e=.returned (.bool true)/\aj X A A'/\J (ba++[y]) X A')\/(e=.returned (.bool false)/\aj X A A'/\c (ba++[y]) X A')) ->
  J [] ar W ->
  Calls P d (#[.func (.yield l) #[] #[]]++lb) W fun e A=>(∃v,e=.returned v)/\∃X,af W X A X A/\(J xs X A\/∃ba,c ba X A)
def DP:List Nat->List Value->bh->bh
 |p :: a,v :: vs,ρ=>DP a vs<|rK ρ p v
 |_,_,ρ=>ρ
def PU{n}:∀(a:List Nat) (vs:List Value) (ρ:bh) (t:Array Value),(∀p∈a,p<n)->gn [] n ρ { tmps:=t,defers:=[] } ->
  gn [] n (DP a vs ρ) { tmps:=(a.zip vs).foldl (fun t (x:Nat×Value)=>t.setIfInBounds x.1 x.2) t,defers:=[] }
 |[],vs,ρ,t,_,h=>by cases vs<;>exact h
 |p :: a,[],ρ,t,_,h=>h
 |p :: a,v :: vs,ρ,t,b,h=>by
  rw[zip_cons_cons,foldl_cons];exact PU a vs _ _ Gd<|h.put (d:=some p) (fun k c=>by cases c;exact b p Sm) v
def EC(id:Nat)(Y:NP)(A:World)(I b c:NP->WP):Exit->bh->WP
 |.normal,_,A'=>aj Y A A'/\I Y A'
 |.exit a,_,A'=>a=id/\aj Y A A'/\b Y A'
 |.ret,_,A'=>aj Y A A'/\c Y A'
 |_,_,_=>False
def Np(D:Nat)(Q:Exit->bh->WP):Exit->bh->WP
 |.ret,ρ,w=>w.heap[D]?=some (.deferred<|some [])/\Q .ret ρ (w.putObj D<|.deferred none)
 |_,_,_=>False
def aj.trans{H a b c}(h:aj H a b)(k:aj H b c):aj H a c:=⟨Nat.le_trans h.size k.size,fun i hi d=>(k.gq i (Nat.lt_of_lt_of_le hi h.size) d).trans<|h.gq i hi d⟩
def aj.mono{H H' a b}(h:aj H a b)(hs:∀b,H' b->H b):aj H' a b:=⟨h.size,fun i hi c=>h.gq i hi<|hs i c⟩
structure AA{α:Type}(w0:World)(Rd:WP)(I c b:List α->NP->WP):Prop where
 rd:∀ba Y A,I ba Y A->Rd A
 i:∀ba Y A a A',I ba Y A->af w0 Y A a A'->I ba a A'
 x:∀ba Y A a A',c ba Y A->af w0 Y A a A'->c ba a A'
 r:∀ba Y A a A',b ba Y A->af w0 Y A a A'->b ba a A'
def JA(P:Program)(n:Nat)(c y:Code)(Q:Exit->bh->WP)(ρ:bh)(w:World):Prop:=∀a,gn [] n ρ a->c.wpIn (jz none) 0 P (Exit.then (fun a w=>y.wpIn (jz none) 0 P (rM ⟨none,[]⟩ n Q) a w) (rM ⟨none,[]⟩ n Q)) a w
def Fa{P n Q ρ w a c y}(h:dv (x:=⟨none,[]⟩) P n a (pM (fun ρ w=>JA P n c y Q ρ w) Q) ρ w):dv (x:=⟨none,[]⟩) P n (.seq (.seq a c) y) Q ρ w:=fun a f =>
 wpIn_seq (wpIn_seq (wpIn_mono (h a f) (fun e a w b=>by
  cases e with
  |normal=>have⟨g,hr,d⟩:=HX b;exact d a hr
  |_=>exact b)))
def AO{D Q ρ w}(h1:w.heap[D]?=some (.deferred<|some []))(h:∀a,a=w.putObj D (.deferred none)->Q .ret ρ a):Np D Q .ret ρ w:=⟨h1,h _ rfl⟩
def EV{id Y A A'}{I b a:NP->WP}{ρ}(h:aj Y A A'/\I Y A'):EC id Y A I b a .normal ρ A':=h
def W4{id Y A A'}{I a b:NP->WP}{ρ}(h:aj Y A A'/\a Y A'):EC id Y A I a b (.exit id) ρ A':=⟨rfl,h⟩
def jau{id Y A A'}{I b a:NP->WP}{ρ}(h:aj Y A A'/\a Y A'):EC id Y A I b a .ret ρ A':=h
def de.tk{H Y w A l D}(a:HB H w l)(g:aj H w A)(e:∀b,H b->Y b)(f:Y D)(d:A.heap[D]?=some (.deferred<|some [])):de [(D,.deferred<|some [])] Y A l:=
 ⟨(a.bk g).box,fun x c=>e _<|a.uh x c,a.ne,fun x c=>by
  cases mem_singleton.1 c;exact⟨f,d,rfl⟩⟩
def de.AJ{w0 wv Hv H w l D}(a:de [(D,.deferred<|some [])] H w l)(hs:af w0 Hv wv H w){w1}(h1:w1=w.putObj D (.deferred none)):af w0 Hv wv H w1/\HB H w1 l:=by
 have d:=a.fz _<|mem_singleton.2 rfl;have E:ab (·=D) w w1:=by rw[h1];exact ab.putObj w D _
 refine⟨⟨h1▸hs.ext.cg (ab.putObj w D _) Gd,hs.sub,hs.ax,hs.old,fun b a=>Nat.lt_of_lt_of_le (hs.lt b a) E.size,Nat.le_trans hs.ev E.size⟩,?_⟩;refine⟨fun x c=>(a.box x c).ext E fun e=>?_,a.uh,a.ne,fun x c=>by cases c⟩;have h2:=(a.box x c).aq;rw[e,d.2.1]at h2;cases h2
def de.Bg{H w l D}(a:de [(D,.deferred<|some [])] H w l):w.heap[D]?=some (.deferred<|some []):=(a.fz _<|mem_singleton.2 rfl).2.1
def Tt{P}{ε:Operand->Value}{w w'}{d:Option Tmp}{ty}{pos:String}{aft:Array Edge}{g:Option (Nat×Bool)}{l x v}{c:List Operand}{ts:Array TypeId}{args}{r:Next}(b:ε x=v)(a:v=.func (.yield l) #[] #[])(e:(c.map ε).toArray=args)(hr:(Instr.yield l args).run P w=.ok r w'):
  (execOp ε ⟨d,.call ⟨.value x,c.toArray,ts⟩,ty,pos,aft,g⟩).run P w=.ok r w':=by
 subst a;subst e
 simp[execOp,resolve,b,Deferred.ofValue,invoke,hr]
def Kw{P ops Q ρ w rest}{d:Option Tmp}{ty}{pos:String}{aft:Array Edge}{g:Option (Nat×Bool)}{l x v}{c:List Operand}{ts:Array TypeId}{args}(m:Region.wanted ⟨d,.call ⟨.value x,c.toArray,ts⟩,ty,pos,aft,g⟩ (zJ ops ρ)=true)(i:bw ρ x=v)(k:v=.func (.yield l) #[] #[])(j:(c.map<|bw ρ).toArray=args)(h:yr P l args w fun e b=>∃v,e=.returned v/\bu P ops Q rest (put ρ d v) b):bu P ops Q (⟨d,.call ⟨.value x,c.toArray,ts⟩,ty,pos,aft,g⟩ ::rest) ρ w:=by
 have⟨n,tmps,a,body,hr,f⟩:=h;unfold bu;rw[if_pos m];unfold nj;rw[Tt i k j hr];exact f
def yr.mono{P l args w R R'}(h:yr P l args w R)(hr:∀e w,R e w->R' e w):yr P l args w R':=by
 have⟨b,tmps,a,body,h1,h2⟩:=h;exact⟨b,tmps,a,body,h1,RoundIn.mono h2 hr⟩
section
variable {P:Program} {n:Nat} {Q:Exit->bh->WP} {ρ:bh} {w w0:World} {H Hv:NP} {wv:World}
def D3{id g}{W:Array Tmp}{assign body y gf lb}{α:Type}{encs:α->Array Value}{xs:List α}{Rd}(hg:bw ρ g=.func (.func gf) #[] lb)(eg:∀args w,(callFunc gf args).run P w=.ok (.enter gf args) w)(ie:sK P gf lb encs xs Rd w)(hps:∀z,(encs z).size=W.size)(hpn:∀p∈W.toList,p<n)(hs:af w0 Hv wv H w)(I Ix Ir:List α->NP->WP)(hRI:AA w0 Rd I Ix Ir)(h0:I [] H w)(U:∀l z A,dv (x:=⟨some l,[]⟩) P n assign (pM (fun ρ' A'=>A'=A/\∀ba Y A,I ba Y A->af w0 Y A Y A->(∃post,xs=ba++z :: post)->dv (x:=⟨some l,[]⟩) P n body (EC id Y A (I (ba++[z])) (Ix (ba++[z])) (Ir (ba++[z]))) ρ' A) fun _ _ _=>False) (DP W.toList (encs z).toList ρ) A)(hrest:∀D Y A,af w0 Y A Y A->Y D->A.heap[D]?=some (.deferred (some []))->(∀b,H b->Y b)->aj H w A->(I xs Y A\/∃ba,Ix ba Y A)->dv (x:=⟨none,[mark D]⟩) P n y (Np D Q) ρ A)(hret:∀D ba Y A,af w0 Y A Y A->Y D->A.heap[D]?=some (.deferred (some []))->Ir ba Y A->Q .ret ρ (A.putObj D (.deferred none))):
  JA P n (.block id (.rangeFunc g W assign body)) y Q ρ w:=by
 have⟨hRd,hI,hIx,hIr⟩:=hRI
 intro a ha
 refine wpIn_block (wpIn_rangeFunc ?_)
 intro fn _
 obtain⟨i,j⟩:∃i:LoopState->Option Code->Loop,i=fun st pe=>{ state:=st,pending:=pe,fn,tmps:=a.tmps,params:=W,assign,body,defers:=w.heap.size }:=⟨_,rfl⟩
 obtain⟨m,O⟩:∃m,(w.alloc (.deferred (some []))).alloc (.loop (i .ready none))=m:=⟨_,rfl⟩
 have hL1:m.heap[w.heap.size+1]?=some (.loop (i .ready none)):=by
  rw[<-O];have:=World.alloc_heap_new (w.alloc (.deferred (some []))) (.loop (i .ready none));rwa [World.size_alloc]at this
 have hK1:m.heap[w.heap.size]?=some (.deferred (some [])):=by
  rw[<-O];exact(RowKit.Below.heap_alloc _ _ _ Sm).trans (World.alloc_heap_new w _)
 have hsz:m.heap.size=w.heap.size+2:=by rw[<-O];simp
 have E1:Pure w m:=by
  rw[<-O];exact⟨rfl,rfl,rfl,Fe,So,fun b f _=>(RowKit.Below.heap_alloc _ _ _ So).trans (RowKit.Below.heap_alloc _ _ _ f)⟩
 let u:NP->NP:=fun X b=>H b\/b=w.heap.size\/b=w.heap.size+1\/X b
 have hHlt:∀b,H b->b<w.heap.size:=hs.lt
 have fm:∀{X:NP} {A:World},af m X A X A->af w0 (u X) A (u X) A:=fun {X A} h =>
  ⟨ab.refl _,fun _ h=>h,fun _ h=>.inl h,fun b f=>by
   rcases f with f|rfl|rfl|f
   .exact hs.old b f
   .exact hs.ev
   .have:=hs.ev;omega
   .have:=h.old b f;have:=hs.ev;omega,fun b f=>by
   have z:=h.ev;rcases f with f|rfl|rfl|f
   .have:=hHlt b f;omega
   .omega
   .omega
   .exact h.lt b f,Oi h.ev hs.ev⟩
 have up:∀{X X':NP} {A A':World},af m X A X A->af m X A X' A'->af w0 (u X) A (u X') A':=fun {X X' A A'} h k =>
  ⟨k.ext.mono Gd,fun b f=>by
   rcases f with f|f|f|f
   .exact .inl f
   .exact .inr (.inl f)
   .grind
   .exact .inr (.inr (.inr (k.sub b f))),fun b f=>by
   rcases f with f|f|f|f
   .exact .inl (.inl f)
   .grind
   .grind
   .exact(k.ax b f).imp_left fun h=>.inr (.inr (.inr h)),(fm k.fm).old,(fm k.fm).lt,(fm k.fm).ev⟩
 have nX:∀{X:NP} {A:World},af m X A X A->∀b,b<w.heap.size+2->¬X b:=fun h b f hx=>Oh (h.old b hx)
 have K:∀{X X':NP} {A A':World},aj H w A->af m X A X' A'->aj H w A':=fun {X X' A A'} S k =>
  S.trans (k.ext.bk fun b f hx=>nX k.fm b (Oh (hHlt b f)) hx)
 have ti:∀{X:NP} {A:World} (o:Obj),af m X A X A->af w0 (u X) A (u X) (A.putObj (w.heap.size+1) o):=fun {X A} o h =>
  ⟨(ab.putObj A _ o).mono Gd,fun _ h=>h,fun _ h=>.inl h,(fm h).old,fun b f=>by have:=(fm h).lt b f;simpa using this,by simpa using(fm h).ev⟩
 have hstW:∀{X:NP} {A:World} (o:Obj),af m X A X A->af m X (A.putObj (w.heap.size+1) o) X (A.putObj (w.heap.size+1) o):=fun o h =>
  ⟨ab.refl _,fun _ h=>h,fun _ h=>.inl h,h.old,fun b f=>by have:=h.lt b f;simpa using this,by simpa using h.ev⟩
 have C:∀{A:World} (o:Obj),aj H w A->aj H w (A.putObj (w.heap.size+1) o):=fun {A} o S=>S.trans ((ab.putObj A _ o).bk Gd)
 let Jc:Code->List α->NP->WP:=fun c ba Y A=>match c with
  |.ret=>Ir ba Y A
  |.exit L=>L=id/\Ix ba Y A
  |_=>False
 have hJc:∀c ba Y A Y' A',Jc c ba Y A->af w0 Y A Y' A'->Jc c ba Y' A':=Gd
 refine⟨w.heap.size+1,[mark w.heap.size],m,{ target:=.fn (.func gf) lb,args:=#[.func (.yield (w.heap.size+1)) #[] #[]] },m,gf,
  #[.func (.yield (w.heap.size+1)) #[] #[]]++lb,m,?_,?_,fun _ _=>trivial,?_,(fun h=>by cases h),callsIn_wide.2 ?_⟩
 .rw[<-O,j];exact run_enterLoop_outer _ _ _ _ _
 .have hev:a.eval g=.func (.func gf) #[] lb:=by rw[ha.eval];exact hg
  simp only[resolve,hev]
  simp[go_sem]
 .simp[invoke,go_sem,eg]
 have G:af m ar m ar m:=af.start m
 refine(ie (w.heap.size+1)
  (fun ba X A=>af m X A X A/\I ba (u X) A/\A.heap[w.heap.size+1]?=some (.loop (i .ready none))/\A.heap[w.heap.size]?=some (.deferred (some []))/\aj H w A)
  (fun ba X A=>af m X A X A/\∃c,Jc c ba (u X) A/\A.heap[w.heap.size+1]?=some (.loop (i .done (some c)))/\A.heap[w.heap.size]?=some (.deferred (some []))/\aj H w A)
  m E1 Gd
  (fun ba X A X' A' h k=>⟨k.fm,hI _ _ _ _ _ h.2.1 (up h.1 k),k.ext.heap h.2.2.1 (nX k.fm _ Om),k.ext.heap h.2.2.2.1 (nX k.fm _ Om),K h.2.2.2.2 k⟩)
  (fun ba X A X' A' h k=>by
   have⟨h1,c,h2,h3,h4,h5⟩:=h;exact⟨k.fm,c,hJc _ _ _ _ _ _ h2 (up h1 k),k.ext.heap h3 (nX k.fm _ Om),k.ext.heap h4 (nX k.fm _ Om),K h5 k⟩)
  ?_ ⟨G,hI _ _ _ _ _ h0 ⟨E1.pure,fun b f=>.inl f,fun b f=>?_,(fm G).old,(fm G).lt,(fm G).ev⟩,hL1,hK1,E1.bz⟩).mono ?_
 .-- one round
  rintro ba z X A ⟨Z,hi,hl,S,N⟩ _ hpost
  have hlt:w.heap.size+1<A.heap.size:=(Array.getElem?_eq_some_iff.1 hl).1
  have hy:=run_yield (P:=P) (args:=encs z) hl (by rw[j];exact hps z)
  rw[j]at hy
  refine⟨fn,_,assign,body,hy,roundIn_of_wpIn (F:=Fence.wide) trivial ?_⟩
  have hrep:gn [] n (DP W.toList (encs z).toList ρ) { tmps:=(W.zip (encs z)).foldl (fun t (x:Nat×Value)=>t.setIfInBounds x.1 x.2) a.tmps,defers:=[] }:=by
   have:=PU W.toList (encs z).toList ρ a.tmps hpn ⟨rfl,ha.size,ha.get⟩;rw[<-Array.foldl_toList,Array.toList_zip];exact this
  refine wpIn_mono (U (w.heap.size+1) z A _ hrep) ?_
  rintro e a1 A1 ⟨ρ',E⟩
  have E:=E.resolve_right (fun h=>by cases h.2.1)
  have⟨hr1,J⟩:=E
  cases e<;>first|exact J.elim|skip
  obtain⟨rfl,hbody⟩:=J
  refine⟨_,run_beginRound hl (by rw[j]),?_⟩
  have T1:=ti (.loop { i .ready none with state:=.busy }) Z
  have hX1:=hstW (.loop { i .ready none with state:=.busy }) Z
  have hl2:(A1.putObj (w.heap.size+1) (.loop { i .ready none with state:=.busy })).heap[w.heap.size+1]?=some (.loop { i .ready none with state:=.busy }):=World.putObj_heap_same hlt
  have hk2:(A1.putObj (w.heap.size+1) (.loop { i .ready none with state:=.busy })).heap[w.heap.size]?=some (.deferred (some [])):=(World.putObj_heap_other Om).trans S
  have hkH2:=C (.loop { i .ready none with state:=.busy }) N
  have hi2:=hI _ _ _ _ _ hi T1
  refine wpIn_mono (hbody ba (u X) _ hi2 T1.fm hpost a1 hr1) ?_
  have fin : ∀ (d : Option Code) (s : World), aj (u X) (A1.putObj (w.heap.size + 1) (.loop { i .ready none with state:=.busy })) s ->
    (Instr.endRound (w.heap.size+1) d).run P s=.ok (.bool d.isNone) (s.putObj (w.heap.size+1) (.loop (i (if d.isNone then .ready else .done) d))) /\
    af m X (s.putObj (w.heap.size+1) (.loop (i (if d.isNone then .ready else .done) d))) X (s.putObj (w.heap.size+1) (.loop (i (if d.isNone then .ready else .done) d))) /\
    af w0 (u X) s (u X) (s.putObj (w.heap.size+1) (.loop (i (if d.isNone then .ready else .done) d))) /\
    (s.putObj (w.heap.size+1) (.loop (i (if d.isNone then .ready else .done) d))).heap[w.heap.size+1]?=some (.loop (i (if d.isNone then .ready else .done) d)) /\
    (s.putObj (w.heap.size+1) (.loop (i (if d.isNone then .ready else .done) d))).heap[w.heap.size]?=some (.deferred (some [])) /\
    aj H w (s.putObj (w.heap.size+1) (.loop (i (if d.isNone then .ready else .done) d))) /\
    aj X A1 (s.putObj (w.heap.size+1) (.loop (i (if d.isNone then .ready else .done) d))):=fun d s q=>by
   have hl3:s.heap[w.heap.size+1]?=some (.loop { i .ready none with state:=.busy }):=by
    rw[q.gq _ (by simpa using hlt) (.inr (.inr (.inl rfl)))];exact hl2
   have hD3:s.heap[w.heap.size]?=some (.deferred (some [])):=by
    rw[q.gq _ So (.inr (.inl rfl))];exact hk2
   have hX3:af m X s X s:=hX1.ib (q.mono Gd)
   have B:=run_endRound (P:=P) d hl3
   rw[j]at B
   refine⟨by rw[j];exact B,hstW _ hX3,ti _ hX3,World.putObj_heap_same (Array.getElem?_eq_some_iff.1 hl3).1,(World.putObj_heap_other Om).trans hD3,C _ (hkH2.trans (q.mono fun b f=>.inl f)),?_⟩
   have k1:aj X A1 (A1.putObj (w.heap.size+1) (.loop { i .ready none with state:=.busy })):=(ab.putObj A1 _ _).bk fun b f e=>Oh (Z.old b f)
   exact(k1.trans (q.mono fun b f=>.inr (.inr (.inr f)))).trans ((ab.putObj s _ _).bk fun b f e=>Oh (Z.old b f))
  rintro e a3 s ⟨ρ3,E⟩
  have E:=E.resolve_right (fun h=>by cases h.2.1)
  have⟨hr3,J⟩:=E
  cases e with
  |normal =>
   have⟨q,M⟩:=J
   have⟨f1,f2,f3,f4,f5,f6,f7⟩:=fin none s q
   exact⟨_,_,f1,.inl ⟨rfl,f7,f2,hI _ _ _ _ _ M f3,f4,f5,f6⟩⟩
  |ret =>
   have⟨q,M⟩:=J
   have⟨f1,f2,f3,f4,f5,f6,f7⟩:=fin (some .ret) s q
   exact⟨_,_,f1,.inr ⟨rfl,f7,f2,.ret,hIr _ _ _ _ _ M f3,f4,f5,f6⟩⟩
  |exit L =>
   obtain⟨rfl,q,M⟩:=J
   have⟨f1,f2,f3,f4,f5,f6,f7⟩:=fin (some (.exit L)) s q
   exact⟨_,_,f1,.inr ⟨rfl,f7,f2,.exit L,⟨rfl,hIx _ _ _ _ _ M f3⟩,f4,f5,f6⟩⟩
  |goto t=>exact J.elim
  |panic ch=>exact J.elim
  |outgrown=>exact J.elim
 .rcases f with f|rfl|rfl|f
  .exact .inl f
  .exact .inr (Nat.le_refl _)
  .exact .inr Om
  .exact f.elim
 .-- tk the iterator
  have R:gn [mark w.heap.size] n ρ { a with defers:=[mark w.heap.size]++a.defers }:=⟨by rw[show a.defers=[]from ha.defers];rfl,ha.size,ha.get⟩
  have go:∀(A:World),af w0 (u fun b=>H b\/b=w.heap.size\/b=w.heap.size+1) A (u fun b=>H b\/b=w.heap.size\/b=w.heap.size+1) A->True:=fun _ _=>trivial
  have V : ∀ (X : NP) (A : World), af w0 (u X) A (u X) A -> A.heap[w.heap.size]? = some (.deferred (some [])) -> aj H w A -> (I xs (u X) A \/ ∃ ba, Ix ba (u X) A) ->
    y.wpIn (jz none) 0 P (rM ⟨none,[]⟩ n Q) { a with defers:=[mark w.heap.size]++a.defers } A:=by
   intro X A hA hD hkA hIA
   refine wpIn_mono (hrest w.heap.size (u X) A hA (.inr (.inl rfl)) hD (fun b f=>.inl f) hkA hIA _ R) ?_
   rintro e a2 A2 ⟨ρ2,⟨hr2,J⟩|⟨_,_,h,_⟩⟩
   .cases e<;>first|exact J.elim|skip
    exact⟨ρ2,.inr ⟨rfl,rfl,rfl,w.heap.size,hr2,J.1,J.2⟩⟩
   .cases h
  rintro e A ⟨⟨v,rfl⟩,X,_,⟨Z,hi,hl,S,N⟩|⟨ba,Z,c,hc,hl,S,N⟩⟩
  .obtain⟨o, B⟩ : ∃ o, (Instr.endLoop (w.heap.size + 1)).run P A = .ok none (A.putObj (w.heap.size + 1) o):=by
    have:=run_endLoop (P:=P) hl (by rw[j];simp);rw[j]at this;exact⟨_,this⟩
   have T:=ti o Z
   exact⟨none,_,B,V X _ T.fm ((World.putObj_heap_other Om).trans S) (C _ N) (.inl (hI _ _ _ _ _ hi T))⟩
  .obtain⟨o, B⟩ : ∃ o, (Instr.endLoop (w.heap.size + 1)).run P A = .ok (some c) (A.putObj (w.heap.size + 1) o):=by
    have:=run_endLoop (P:=P) hl (by rw[j];simp);rw[j]at this;exact⟨_,this⟩
   have T:=ti o Z
   refine⟨some c,_,B,?_⟩
   have hc':=hJc _ _ _ _ _ _ hc T
   have hD:=(World.putObj_heap_other (w:=A) (r:=w.heap.size+1) (o:=o) (k:=w.heap.size) Om).trans S
   cases c<;>first|exact hc.elim|skip
   case exit L =>
    obtain⟨rfl,hx⟩:=hc'
    refine wpIn_exit ?_
    simp only[Exit.inBlock,if_true]
    exact V X _ T.fm hD (C _ N) (.inr ⟨ba,hx⟩)
   case ret =>
    refine wpIn_ret ?_
    exact⟨ρ,.inr ⟨rfl,rfl,rfl,w.heap.size,R,hD,hret w.heap.size ba (u X) _ T.fm (.inr (.inl rfl)) hD hc'⟩⟩
end
end Go.SE
namespace Go.SE
def af.TZ{w0 w H D o}(hs:af w0 H w H w)(c:H D):af w0 H w H (w.putObj D o):=
 ⟨(ab.putObj w D o).mono Gd,fun _ h=>h,fun _ h=>.inl h,hs.old,fun b a=>by have:=hs.lt b a;simpa using this,by simpa using hs.ev⟩
end Go.SE
end
section
namespace Go.SE
structure DJ(p:Addr)(i:Int)(n size:Nat)(a:Addr):Prop where
 lo:0<=i
 hi:i<n
 at_:a=p.add (i.toNat*size)
section
variable {P:Program} {ε:Operand->Value} {w w':World} {d:Option Tmp} {ty:TypeId} {pos:String} {aft:Array Edge} {g:Option (Nat×Bool)}
def Yx{T E x ix p k i m n a}(e:ε x=.pointer (some p))(hi:ε ix=.int k i)(b:(underlying T).run P w=.ok (.array m E) w)(hs:(sizeOf E).run P w=.ok n w)(f:DJ p i m n a):
  (execOp ε ⟨d,.indexAddr T x ix,ty,pos,aft,g⟩).run P w=.ok (.value<|.pointer<|some a) w:=by
 obtain⟨c,h1,rfl⟩:=f
 simp[execOp,Instr.indexAt,Instr.sureAddr,e,hi,asIntOf,b,c,h1,hs]
end
def GG(π A X:Prop):Prop:=π->A->X
structure HS(w0:World)(Hv:Nat->Prop)(wv:World)(H:Nat->Prop)(w:World)(l:List gh):Prop where
 s:af w0 Hv wv H w
 b:HB H w l
abbrev aa(P:Program)(fn:Func)(m:Nat)(c:Cf):Ad:=jq P fn.ntmps m c
abbrev vv(P:Program)(fn:Func)(m:Nat)(c:Cf):Cf:=(jq P fn.ntmps m c).c
def pv(v:Value)(c:Cf):Cf:=uC v c.w c
def uS(fn:Func):Code:=fn.body.getD .skip
section
variable {π A X:Prop} {α β γ δ ε ζ η θ ι κ:Type}
def xe{p:α->Prop}(k:∀{a},GG π (p a) X):GG π (∃a,p a) X:=fun h ⟨_,q⟩=>k h q
def dt{p:α->β->Prop}(k:∀{a b},GG π (p a b) X):GG π (∃a b,p a b) X:=fun h ⟨_,_,q⟩=>k h q
def uy{p:α->β->γ->Prop}(k:∀{a b c},GG π (p a b c) X):GG π (∃a b c,p a b c) X:=fun h ⟨_,_,_,q⟩=>k h q
def HZ{p:α->β->γ->δ->Prop}(k:∀{a b c d},GG π (p a b c d) X):GG π (∃a b c d,p a b c d) X:=fun h ⟨_,_,_,_,q⟩=>k h q
def gv{p:α->β->γ->δ->ε->Prop}(k:∀{a b c d e},GG π (p a b c d e) X):GG π (∃a b c d e,p a b c d e) X:=fun h ⟨_,_,_,_,_,q⟩=>k h q
def cj{p:α->β->γ->δ->ε->ζ->Prop}(k:∀{a b c d e f},GG π (p a b c d e f) X):GG π (∃a b c d e f,p a b c d e f) X:=fun h ⟨_,_,_,_,_,_,q⟩=>k h q
def yy{p:α->Prop}{e:α}(k:GG π (p e) X):GG π (∀y,y=e->p y) X:=fun h q=>k h<|q e rfl
end
section
variable {w0 wv w:World} {Hv H:Nat->Prop} {l:List gh} {X:Prop}
def an{r:World->Prop}(k:GG (HS w0 H w H w l) (r w) X):GG (HS w0 H wv H w l) (∀w',af w0 H wv H w'->r w') X:=fun h q=>k ⟨h.s.fm,h.b⟩<|q w h.s
def ah{r:(Nat->Prop)->World->Prop}(k:GG (HS w0 H w H w l) (r H w) X):GG (HS w0 Hv wv H w l) (∀a w',af w0 Hv wv a w'->r a w') X:=fun h q=>k ⟨h.s.fm,h.b⟩<|q H w h.s
end
def u6(c:Cf):Option World:=match c.pos with
 |.d _ q _ _ _ _ _ _ _ _=>q
 |_=>some c.w
def ov(c:Cf):Option (World->Prop):=match c.pos with
 |.d _ none C _ _ _ _ _ _ _=>some C
 |_=>none
def qt(c:Cf):Nat->Prop:=match c.pos with
 |.d _ _ _ H _ _ _ _ _ _=>H
 |_=>ar
def oo(c:Cf):List gh:=match c.pos with
 |.d _ _ _ _ l _ _ _ _ _=>l
 |_=>[]
def jm(c:Cf):Bool:=match c.pos with
 |.d _ _ _ _ _ _ fr _ _ (some k)=>vX fr k
 |_=>true
def gg(c:Cf):Bool:=match c.pos with
 |.d _ _ _ _ _ ld _ _ _ (some k)=>vX ld k
 |.d ..=>false
 |_=>true
section
variable {P:Program} {n:Nat} {Q:Exit->bh->World->Prop} {c:Cf}
def Al{w}(h:u6 c=some w)(x)(a:need c x):x=w:=by
 have⟨pos,fr,ρ,w',kn⟩:=c;cases pos with
 |d ops q C H l ld fr e b s=>simp only[u6]at h;subst h;exact a
 |_=>simp only[u6,Option.some.injEq]at h;subst h;exact a
def xU{C}(h:ov c=some C)(x):need c x↔C x/\HB (qt c) x (oo c):=by
 unfold ov at h;unfold need qt oo;split at h;rename_i e;rw[e];cases h;exact Iff.rfl;cases h
def Ju{o v w'}(d:cur c=some o)(i:gg c=true)(hr:(execOp (bw c.ρ) o).run P c.w=.ok (.value v) w')(f:jm c=true\/need c w')(k:Wk P n Q (uC v w' c)):Wk P n Q c:=by
 cases a:pN c with
 |false=>exact NG d a hr k
 |true =>
  intro e
  have⟨hh,b⟩:=yi d
  unfold rI at b
  rw[wL e]at b
  replace k:=k<|vc e _ _
  have⟨ops,q,C,H,l,ld,fr,p,m,j,h1,h2,g,r,h3⟩:=yq (v:=v) (w':=w') hh a
  rw[h2]at b;rw[h3]at k;rw[An h1]
  refine sl g b (by simpa[gg,h1]using i) hr (f.imp (fun h=>by simpa[jm,h1]using h) fun h=>?_) k
  unfold need at h;rw[h1]at h;exact h
def Im{o w'}(d:cur c=some o)(i:gg c=true)(hr:(execOp (bw c.ρ) o).run P c.w=.ok .skip w')(f:jm c=true\/need c w')(k:Wk P n Q (uC undef w' c)):Wk P n Q c:=by
 cases a:pN c with
 |false=>exact Qu d a hr k
 |true =>
  intro e
  have⟨hh,b⟩:=yi d
  unfold rI at b
  rw[wL e]at b
  replace k:=k<|vc e _ _
  have⟨ops,q,C,H,l,ld,fr,p,m,j,h1,h2,g,r,h3⟩:=yq (v:=undef) (w':=w') hh a
  rw[h2]at b;rw[h3]at k;rw[An h1]
  refine Oy g b (by simpa[gg,h1]using i) hr (f.imp (fun h=>by simpa[jm,h1]using h) fun h=>?_) k
  unfold need at h;rw[h1]at h;exact h
def zIE{o f args}(x:cur c=some o)(r:gg c=true)(hr:(execOp (bw c.ρ) o).run P c.w=.ok (.enter f args) c.w)(k:Calls P f args c.w fun e w1=>∃v,e=.returned v/\(jm c=true\/need c w1)/\Wk P n Q (uC v w1 c)):Wk P n Q c:=by
 intro m;have⟨hh,d⟩:=yi x;unfold rI at d;rw[wL m]at d;cases b:pN c with
 |false =>
  have⟨ops,l,h1,h2,_⟩:=yu (v:=undef) (w':=c.w) hh b
  rw[h2]at d;rw[AI h1]
  refine G2 d hr<|k.mono fun e w1 ⟨v,i,_,k⟩=>⟨v,i,?_⟩
  have⟨g,l',a,t,h3⟩:=yu (v:=v) (w':=w1) hh b
  rw[h1]at a;cases a
  replace k:=k<|vc m _ _
  rw[h3]at k;exact k
 |true =>
  have⟨ops,q,C,H,l,ld,fr,J,B,j,h1,h2,p,G,_⟩:=yq (v:=undef) (w':=c.w) hh b
  rw[h2]at d;rw[An h1]
  refine zHQ p d (by simpa[gg,h1]using r) hr (k.mono fun e w1 ⟨v,i,A,k⟩=>⟨v,i,A.imp (fun h=>by simpa[jm,h1]using h) fun h=>?_,?_⟩)
  unfold need at h;rw[h1]at h;exact h
  have⟨g,I,D,F,l',s,u,z,y,E,a,_,_,_,h3⟩:=yq (v:=v) (w':=w1) hh b
  rw[h1]at a;cases a
  replace k:=k<|vc m _ _
  rw[h3]at k;exact k
end
section
variable {P:Program} {fn:Func} {R:Ending->World->Prop} {c:Cf} {π A:Prop}
def du{f args w}(b:P.funcs[f]?=some fn)(h:A)(k:GG (HS w ar w ar w []) A (W P fn R ⟨.c<|uS fn,[],xD args,w,[]⟩))(d:(fn.body.isSome,Nat.ble args.length fn.ntmps)=(true,true):=by kernel_rfl):Calls P f args.toArray w R:=by
 have⟨h1,h2⟩:=Prod.mk.inj d;have⟨e,a⟩:=Option.isSome_iff_exists.1 h1;refine H0 b a rfl (Nat.le_of_ble_eq_true h2) ?_;have:=k ⟨af.start w,HB.nil ar w⟩ h;unfold uS at this;rw[a]at this;exact this (fun _ _ h=>by cases h)
def cy{f args w}(a:P.funcs[f]?=some fn)(h:A)(k:GG True A (W P fn R ⟨.c<|uS fn,[],xD args,w,[]⟩))(b:(fn.body.isSome,Nat.ble args.length fn.ntmps)=(true,true):=by kernel_rfl):Calls P f args.toArray w R:=
 du a h (fun _ h=>k trivial h) b
def wU{o v}(m)(hs:(aa P fn m c).cr=(aa P fn m c).so)(b:cur (vv P fn m c)=some o)(a:pg (vv P fn m c)=false)(hr:∀x,need (vv P fn m c) x->(execOp (bw (vv P fn m c).ρ) o).run P x=.ok (.value v) x)(k:W P fn R (pv v<|vv P fn m c)):W P fn R c:=
 W.on m hs<|FA b a (fun _=>hr) k
def vg(P:Program)(c:Cf):Option (Value×(World->Result Bool)×Bool):=match cur c with
 |some ⟨_,.load T x,_,_,_,_⟩=>some (bw c.ρ x,fun y=>(isAgg T).run P y,pg c)
 |_=>none
def BZ{p v}(m)(hs:(aa P fn m c).cr=(aa P fn m c).so)(h:vg P (vv P fn m c)=some (.pointer<|some p,fun y=>.ok false y,false))(a:∀x,need (vv P fn m c) x->x.cell? p=some v)(k:W P fn R (pv v<|vv P fn m c)):W P fn R c:=by
 unfold vg at h;split at h;rename_i d;simp only[Option.some.injEq,Prod.mk.injEq]at h;exact wU m hs d h.2.2 (fun x b=>tA h.1 (congrFun h.2.1 x)<|a x b) k;cases h
def ld{α:Type}{F:α->Value}{r:α->Prop}{a w}(m)(k:∀{v},GG π (r v)<|W P fn R<|pv (F v)<|vv P fn m c)(h:((aa P fn m c).cr,vg P<|vv P fn m c,u6<|vv P fn m c)=((aa P fn m c).so,some (.pointer<|some a,fun y=>.ok false y,false),some w):=by kernel_rfl):GG π (∃v,w.cell? a=some (F v)/\r v) (W P fn R c):=by
 rintro d ⟨v,b,hr⟩;simp only[Prod.mk.injEq]at h;exact BZ m h.1 h.2.1 (fun x e=>by rw[Al h.2.2 x e];exact b) (k d hr)
def il{α:Type}{F:α->Value}{r:α->Prop}{a C}(m)(k:∀{v},GG π (r v)<|W P fn R<|pv (F v)<|vv P fn m c)(h:((aa P fn m c).cr,vg P<|vv P fn m c,ov<|vv P fn m c)=((aa P fn m c).so,some (.pointer<|some a,fun y=>.ok false y,false),some C):=by kernel_rfl):GG π (∃v,(∀w',C w'->w'.cell? a=some (F v))/\r v) (W P fn R c):=by
 rintro d ⟨v,b,hr⟩;simp only[Prod.mk.injEq]at h;exact BZ m h.1 h.2.1 (fun x e=>b x ((xU h.2.2 x).1 e).1)<|k d hr
def y9(P:Program)(c:Cf):Option (Value×(World->Result Bool)×(World->Result Nat)×Bool):=match cur c with
 |some ⟨_,.load T x,_,_,_,_⟩=>some (bw c.ρ x,fun y=>(isAgg T).run P y,fun y=>(sizeOf T).run P y,pg c)
 |_=>none
def CC{p vs}(m)(hs:(aa P fn m c).cr=(aa P fn m c).so)(h:y9 P (vv P fn m c)=some (.pointer<|some p,fun y=>.ok true y,fun y=>.ok vs.length y,false))(a:∀x,need (vv P fn m c) x->Row x p vs)(k:W P fn R (pv (.agg vs.toArray)<|vv P fn m c)):W P fn R c:=by
 unfold y9 at h;split at h;rename_i d;simp only[Option.some.injEq,Prod.mk.injEq]at h;exact wU m hs d h.2.2.2 (fun x b=>IK h.1 (congrFun h.2.1 x) (congrFun h.2.2.1 x) rfl (a x b)) k;cases h
def lr{r:Prop}{vs a w}(m)(k:GG π r (W P fn R<|pv (.agg vs.toArray)<|vv P fn m c))(h:((aa P fn m c).cr,y9 P<|vv P fn m c,u6<|vv P fn m c)=((aa P fn m c).so,some (.pointer<|some a,fun y=>.ok true y,fun y=>.ok vs.length y,false),some w):=by kernel_rfl):GG π (Row w a vs/\r) (W P fn R c):=by
 rintro d ⟨b,hr⟩;simp only[Prod.mk.injEq]at h;exact CC m h.1 h.2.1 (fun x e=>by rw[Al h.2.2 x e];exact b) (k d hr)
def zs{r:Prop}{vs a C}(m)(k:GG π r (W P fn R<|pv (.agg vs.toArray)<|vv P fn m c))(h:((aa P fn m c).cr,y9 P<|vv P fn m c,ov<|vv P fn m c)=((aa P fn m c).so,some (.pointer<|some a,fun y=>.ok true y,fun y=>.ok vs.length y,false),some C):=by kernel_rfl):GG π ((∀w',C w'->Row w' a vs)/\r) (W P fn R c):=by
 rintro d ⟨b,hr⟩;simp only[Prod.mk.injEq]at h;exact CC m h.1 h.2.1 (fun x e=>b x ((xU h.2.2 x).1 e).1)<|k d hr
def ez(l:List gh)(i:Nat):List Value:=match l[i]? with
 |some (_,cs,_)=>cs
 |none=>[]
def my(l:List gh)(i j:Nat):Value:=(ez l i).getD j undef
def iy(l:List gh)(i:Nat)(a:List Nat):Addr:=match l[i]? with
 |some (p,_,_)=>a.foldl Addr.add p
 |none=>⟨0,0,none⟩
def sum:List Nat->Nat
 |[]=>0
 |j :: a=>j+sum a
def KA(p:Addr):∀(a:List Nat) (k:Nat),a.foldl Addr.add (p.add k)=p.add (k+sum a)
 |[],k=>rfl
 |j :: a,k=>by rw[List.foldl_cons,yO,KA p a,sum,Nat.add_assoc]
def ET(p)(a:List Nat):a.foldl Addr.add p=p.add (sum a):=by
 have:=KA p a 0;rwa [Nat.zero_add]at this
def BT{H x l}(c:HB H x l){i js}(a:Nat.blt (sum js) (ez l i).length=true):x.cell? (iy l i js)=some (my l i<|sum js):=by
 unfold ez at a;unfold iy my ez;split at a;rename_i p cs T e;rw[ET];have b:sum js<cs.length:=of_decide_eq_true (by simpa[Nat.blt_eq]using a);refine c.cell i (sum js) e ?_;rw[List.getD_eq_getElem?_getD,List.getElem?_eq_getElem b];rfl;cases a
def ux{H x l}(b:HB H x l){i n js}(a:Nat.ble (sum js+n) (ez l i).length=true)(c:0<n):Row x (iy l i js) (((ez l i).drop<|sum js).take n):=by
 unfold ez at a|-;unfold iy;split at a;rename_i p cs T e;rw[ET];exact b.row i (sum js) n e rfl;have:=Nat.le_of_ble_eq_true a;simp at this;omega
def lh{w0 wv w Hv H l}(m i js)(k:GG (HS w0 Hv wv H w l) A (W P fn R<|pv (my l i<|sum js)<|vv P fn m c))(h:((aa P fn m c).cr,vg P<|vv P fn m c,u6<|vv P fn m c,Nat.blt (sum js) (ez l i).length)=((aa P fn m c).so,some (.pointer<|some<|iy l i js,fun y=>.ok false y,false),some w,true):=by kernel_rfl):GG (HS w0 Hv wv H w l) A (W P fn R c):=by
 intro a hr;simp only[Prod.mk.injEq]at h;exact BZ m h.1 h.2.1 (fun x d=>by rw[Al h.2.2.1 x d];exact BT a.b h.2.2.2) (k a hr)
def ju(m i js)(k:GG π A (W P fn R<|pv (my (oo<|vv P fn m c) i<|sum js)<|vv P fn m c))(h:((aa P fn m c).cr,vg P<|vv P fn m c,(ov<|vv P fn m c).isSome,Nat.blt (sum js) (ez (oo<|vv P fn m c) i).length)=((aa P fn m c).so,some (.pointer<|some<|iy (oo<|vv P fn m c) i js,fun y=>.ok false y,false),true,true):=by kernel_rfl):GG π A (W P fn R c):=by
 intro a hr;simp only[Prod.mk.injEq]at h;have⟨C,b⟩:=Option.isSome_iff_exists.1 h.2.2.1;exact BZ m h.1 h.2.1 (fun x d=>BT ((xU b x).1 d).2 h.2.2.2)<|k a hr
def iu{w0 wv w Hv H l}(m i js n)(k:GG (HS w0 Hv wv H w l) A (W P fn R<|pv (.agg (((ez l i).drop<|sum js).take n).toArray)<|vv P fn m c))(h:((aa P fn m c).cr,y9 P<|vv P fn m c,u6<|vv P fn m c,Nat.ble (sum js+n) (ez l i).length,Nat.blt 0 n)=((aa P fn m c).so,some (.pointer<|some<|iy l i js,fun y=>.ok true y,fun y=>.ok (((ez l i).drop<|sum js).take n).length y,false),some w,true,true):=by kernel_rfl):GG (HS w0 Hv wv H w l) A (W P fn R c):=by
 intro a hr;simp only[Prod.mk.injEq]at h;exact CC m h.1 h.2.1 (fun x d=>by rw[Al h.2.2.1 x d];exact ux a.b h.2.2.2.1<|by simpa[Nat.blt_eq]using h.2.2.2.2) (k a hr)
def uz(m i js n)(k:GG π A (W P fn R<|pv (.agg (((ez (oo<|vv P fn m c) i).drop<|sum js).take n).toArray)<|vv P fn m c))(h:((aa P fn m c).cr,y9 P<|vv P fn m c,(ov<|vv P fn m c).isSome,Nat.ble (sum js+n) (ez (oo<|vv P fn m c) i).length,Nat.blt 0 n)=((aa P fn m c).so,some (.pointer<|some<|iy (oo<|vv P fn m c) i js,fun y=>.ok true y,fun y=>.ok (((ez (oo<|vv P fn m c) i).drop<|sum js).take n).length y,false),true,true,true):=by kernel_rfl):GG π A (W P fn R c):=by
 intro a hr;simp only[Prod.mk.injEq]at h;have⟨C,b⟩:=Option.isSome_iff_exists.1 h.2.2.1;exact CC m h.1 h.2.1 (fun x d=>ux ((xU b x).1 d).2 h.2.2.2.1<|by simpa[Nat.blt_eq]using h.2.2.2.2) (k a hr)
end
section
variable {P:Program} {fn:Func} {R:Ending->World->Prop} {c:Cf} {π A:Prop}
def L7(c:Cf):Option (Value×Bool):=match cur c with
 |some ⟨_,.nilCheck x,_,_,_,_⟩=>some (bw c.ρ x,pg c)
 |_=>none
def nc{r:Addr->Prop}{p}(m)(k:∀{a},GG π (r a)<|W P fn R<|pv (.pointer<|some a)<|vv P fn m c)(h:((aa P fn m c).cr,L7<|vv P fn m c)=((aa P fn m c).so,some (.pointer p,false)):=by kernel_rfl):GG π (∃a,p=some a/\r a) (W P fn R c):=by
 rintro d ⟨a,b,hr⟩;simp only[Prod.mk.injEq]at h;have⟨e,h⟩:=h;unfold L7 at h;split at h;rename_i f;simp only[Option.some.injEq,Prod.mk.injEq]at h;exact wU m e f h.2 (fun x _=>F7 h.1 b)<|k d hr;cases h
def Dt:Value->Option Int
 |.int _ i=>some i
 |_=>none
def KO{v i}(h:Dt v=some i):∃k,v=.int k i:=by
 cases v<;>simp only[Dt]at h<;>first|(cases h;done)|(cases h;exact⟨_,rfl⟩)
def LD(P:Program)(c:Cf):Option (Value×Option Int×(World->Result Nat)×Bool):=match cur c with
 |some ⟨_,.indexAddr T x i,_,_,_,_⟩=>match P.underlying T with
  |some (.slice e)=>some (bw c.ρ x,Dt<|bw c.ρ i,fun y=>(sizeOf e).run P y,pg c)
  |_=>none
 |_=>none
def ix{r:Addr->Prop}{s i n}(m)(k:∀{a},GG π (r a)<|W P fn R<|pv (.pointer<|some a)<|vv P fn m c)(h:((aa P fn m c).cr,LD P<|vv P fn m c)=((aa P fn m c).so,some (s.v,some i,fun y=>.ok n y,false)):=by kernel_rfl):GG π (∃a,At s i n a/\r a) (W P fn R c):=by
 rintro f ⟨a,g,hr⟩;simp only[Prod.mk.injEq]at h;have⟨d,h⟩:=h;unfold LD at h;split at h;rename_i e;split at h;rename_i j;simp only[Option.some.injEq,Prod.mk.injEq]at h;have⟨h1,h2,h3,b⟩:=h;have⟨l,h2⟩:=KO h2;exact wU m d e b (fun x _=>IP h1 h2 (run_underlying j x) (congrFun h3 x) g)<|k f hr;cases h;cases h
def wQ(c:Cf):Option (Sem Next):=(cur c).map fun o=>execOp (bw c.ρ) o
def JY{s:Sem Value}{v}(m)(hs:(aa P fn m c).cr=(aa P fn m c).so)(h:wQ (vv P fn m c)=some (do pure (.value (<-s))))(d:pg (vv P fn m c)=false)(b:∀x,need (vv P fn m c) x->s.run P x=.ok v x)(k:W P fn R (pv v<|vv P fn m c)):W P fn R c:=by
 unfold wQ at h;cases a:cur (vv P fn m c)with
 |none=>rw[a]at h;cases h
 |some o=>rw[a]at h;exact wU m hs a d (fun x e=>OJ (Option.some.inj h)<|b x e) k
def rn{r:Prop}{s:Sem Value}{v w}(m)(k:GG π r (W P fn R<|pv v<|vv P fn m c))(h:((aa P fn m c).cr,wQ<|vv P fn m c,pg<|vv P fn m c,u6<|vv P fn m c)=((aa P fn m c).so,some<|do pure (.value (<-s)),false,some w):=by kernel_rfl):GG π (s.run P w=.ok v w/\r) (W P fn R c):=by
 rintro b ⟨a,hr⟩;simp only[Prod.mk.injEq]at h;exact JY m h.1 h.2.1 h.2.2.1 (fun x d=>by rw[Al h.2.2.2 x d];exact a) (k b hr)
def Ib{r:Prop}{s:Sem Value}{v C}(m)(k:GG π r (W P fn R<|pv v<|vv P fn m c))(h:((aa P fn m c).cr,wQ<|vv P fn m c,pg<|vv P fn m c,ov<|vv P fn m c)=((aa P fn m c).so,some<|do pure (.value (<-s)),false,some C):=by kernel_rfl):GG π ((∀w',C w'->s.run P w'=.ok v w')/\r) (W P fn R c):=by
 rintro b ⟨a,hr⟩;simp only[Prod.mk.injEq]at h;exact JY m h.1 h.2.1 h.2.2.1 (fun x d=>a x ((xU h.2.2.2 x).1 d).1)<|k b hr
def I8(P:Program)(c:Cf):Option (BinOp×TypeId×Value×Value×(World->Result Unit)×Bool):=match cur c with
 |some ⟨_,.binOp op T a b _,_,_,_,_⟩=>some (op,T,bw c.ρ a,bw c.ρ b,fun y=>(eqGuard op T a b (bw c.ρ a)<|bw c.ρ b).run P y,pg c)
 |_=>none
def Vb{op:BinOp}{T x y v}(m)(hs:(aa P fn m c).cr=(aa P fn m c).so)(h:I8 P (vv P fn m c)=some (op,T,x,y,fun y=>.ok () y,false))(d:∀z,need (vv P fn m c) z->(Go.binOp op T x y).run P z=.ok v z)(k:W P fn R (pv v<|vv P fn m c)):W P fn R c:=by
 unfold I8 at h;split at h;rename_i e;simp only[Option.some.injEq,Prod.mk.injEq]at h;obtain⟨rfl,rfl,h1,h2,h3,b⟩:=h;rw[h1,h2]at h3;exact wU m hs e b (fun z a=>DS h1 h2 (congrFun h3 z)<|d z a) k;cases h
def rb{r:Prop}{op:BinOp}{T x y v w}(m)(k:GG π r (W P fn R<|pv v<|vv P fn m c))(h:((aa P fn m c).cr,I8 P<|vv P fn m c,u6<|vv P fn m c)=((aa P fn m c).so,some (op,T,x,y,fun y=>.ok () y,false),some w):=by kernel_rfl):GG π ((Go.binOp op T x y).run P w=.ok v w/\r) (W P fn R c):=by
 rintro b ⟨a,hr⟩;simp only[Prod.mk.injEq]at h;exact Vb m h.1 h.2.1 (fun x d=>by rw[Al h.2.2 x d];exact a) (k b hr)
def Qj(P:Program)(c:Cf):Option (BinOp×TypeId×Value×Value×Bool×Bool):=match cur c with
 |some ⟨_,.binOp op T a b _,_,_,_,_⟩=>some (op,T,bw c.ρ a,bw c.ρ b,P.eqGuardType P.depth T,pg c)
 |_=>none
def ae{op:BinOp}{T xs ys b}(m)(f:∀z,(Go.binOp op T (.agg xs)<|.agg ys).run P z=.ok (.bool b) z)(k:GG π A (W P fn R<|pv (.bool b)<|vv P fn m c))(h:((aa P fn m c).cr,Qj P<|vv P fn m c)=((aa P fn m c).so,some (op,T,.agg xs,.agg ys,false,false)):=by kernel_rfl):GG π A (W P fn R c):=by
 intro e hr;simp only[Prod.mk.injEq]at h;have⟨a,h⟩:=h;unfold Qj at h;split at h;rename_i d;simp only[Option.some.injEq,Prod.mk.injEq]at h;obtain⟨rfl,rfl,h1,h2,h3,g⟩:=h;exact wU m a d g (fun z _=>QR h1 h2 h3<|f z)<|k e hr;cases h
def WV(P:Program)(fn:Func)(R:Ending->World->Prop)(c:Cf)(v:Value)(w1:World):Prop:=(jm c=true\/need c w1)/\W P fn R (uC v w1 c)
def WR(P:Program)(fn:Func)(R:Ending->World->Prop)(c:Cf)(e:Ending)(w1:World):Prop:=∃v,e=.returned v/\WV P fn R c v w1
def eo{v w1}(k:GG π A (W P fn R<|uC v w1 c))(h:jm c=true:=by kernel_rfl):GG π A (WV P fn R c v w1):=fun a hr=>⟨.inl h,k a hr⟩
def iv{w0 w w1 H l v}{r:Prop}(k:GG (HS w0 H w1 H w1 l) r (W P fn R<|uC v w1 c))(h:jm c=true:=by kernel_rfl):GG (HS w0 H w H w l) (aj H w w1/\r) (WV P fn R c v w1):=fun a hr=>⟨.inl h,k ⟨a.s.ib hr.1,a.b.bk hr.1⟩ hr.2⟩
def sM{w0 w w1 H l v}{r:Prop}{C}(k:GG (HS w0 H w1 H w1 l) r (W P fn R<|uC v w1 c))(h:(ov c,qt c,oo c)=(some C,H,l):=by kernel_rfl):GG (HS w0 H w H w l) (C w1/\aj H w w1/\r) (WV P fn R c v w1):=fun a hr=>by
 simp only[Prod.mk.injEq]at h;refine⟨.inr<|(xU h.1 _).2 ⟨hr.1,?_⟩,k ⟨a.s.ib hr.2.1,a.b.bk hr.2.1⟩ hr.2.2⟩;rw[h.2.1,h.2.2];exact a.b.bk hr.2.1
def ef{r:Prop}{s:Sem Value}{v w w1}(m)(k:GG π r (WV P fn R (vv P fn m c) v w1))(h:((aa P fn m c).cr,wQ<|vv P fn m c,gg<|vv P fn m c,(vv P fn m c).w)=((aa P fn m c).so,some<|do pure (.value (<-s)),true,w):=by kernel_rfl):GG π (s.run P w=.ok v w1/\r) (W P fn R c):=by
 rintro e ⟨g,hr⟩;simp only[Prod.mk.injEq]at h;have⟨b,h1,h2,h3⟩:=h;have⟨f,d⟩:=k e hr;unfold wQ at h1;cases a:cur (vv P fn m c)with
 |none=>rw[a]at h1;cases h1
 |some o=>rw[a]at h1;exact W.on m b<|Ju a h2 (by rw[h3];exact OJ (Option.some.inj h1) g) f d
def es{r:Prop}{s:Sem Unit}{w w1}(m)(k:GG π r (WV P fn R (vv P fn m c) undef w1))(h:((aa P fn m c).cr,wQ<|vv P fn m c,gg<|vv P fn m c,(vv P fn m c).w)=((aa P fn m c).so,some (do s;pure .skip),true,w):=by kernel_rfl):GG π (s.run P w=.ok () w1/\r) (W P fn R c):=by
 rintro e ⟨g,hr⟩;simp only[Prod.mk.injEq]at h;have⟨b,h1,h2,h3⟩:=h;have⟨f,d⟩:=k e hr;unfold wQ at h1;cases a:cur (vv P fn m c)with
 |none=>rw[a]at h1;cases h1
 |some o=>rw[a]at h1;exact W.on m b<|Im a h2 (by rw[h3];exact WW (Option.some.inj h1) g) f d
def mz(c:Cf):Option (FuncId×Array Value):=match cur c with
 |some ⟨_,.call ⟨.value x,a,_⟩,_,_,_,_⟩=>match bw c.ρ x with
  |.func (.func f) fs caps=>some (f,fs++(a.toList.map<|bw c.ρ).toArray++caps)
  |_=>none
 |_=>none
def Fj{f args w}(m)(h:∀args w,(callFunc f args).run P w=.ok (.enter f args) w)(hs:(aa P fn m c).cr=(aa P fn m c).so)(h1:mz (vv P fn m c)=some (f,args))(h2:gg (vv P fn m c)=true)(h3:(vv P fn m c).w=w)(k:Calls P f args w fun e w1=>WR P fn R (vv P fn m c) e w1):W P fn R c:=by
 unfold mz at h1;split at h1;rename_i d x i ts ty pos aft g a;split at h1;rename_i j fs caps b;cases h1;refine W.on m hs<|zIE a h2 ?_ (by rw[h3];exact k);have:=Mk (P:=P) (w:=(vv P fn m c).w) (d:=d) (ty:=ty) (pos:=pos) (aft:=aft) (g:=g) (c:=i.toList) (ts:=ts) b h rfl rfl;rw[Array.toArray_toList]at this;exact this;cases h1;cases h1
def cc{f args w Q}(m)(b:∀args w,(callFunc f args).run P w=.ok (.enter f args) w)(k:∀{e w1},GG π (Q e w1)<|WR P fn R (vv P fn m c) e w1)(h:((aa P fn m c).cr,mz<|vv P fn m c,gg<|vv P fn m c,(vv P fn m c).w)=((aa P fn m c).so,some (f,args),true,w):=by kernel_rfl):GG π (Calls P f args w Q) (W P fn R c):=by
 intro a hr;simp only[Prod.mk.injEq]at h;exact Fj m b h.1 h.2.1 h.2.2.1 h.2.2.2<|hr.mono fun e w1 q=>k a q
def rt{v w1}{r:Prop}{e}(k:GG π r (WV P fn R c v w1)):GG π (e=.returned v/\r) (WR P fn R c e w1):=fun a hr=>⟨v,hr.1,k a hr.2⟩
section
variable {w0 wv w:World} {Hv H:Nat->Prop} {l:List gh}
def cp{f args v}(m)(g:∀args w,(callFunc f args).run P w=.ok (.enter f args) w)(i:∀w,Calls P f args w fun e w'=>e=.returned v/\Pure w w')(k:∀{w1},GG (HS w0 Hv wv H w1 l) A<|W P fn R<|uC v w1<|vv P fn m c)(h:((aa P fn m c).cr,mz<|vv P fn m c,gg<|vv P fn m c,(vv P fn m c).w,jm<|vv P fn m c)=((aa P fn m c).so,some (f,args),true,w,true):=by kernel_rfl):GG (HS w0 Hv wv H w l) A (W P fn R c):=by
 intro a hr;simp only[Prod.mk.injEq]at h;exact Fj m g h.1 h.2.1 h.2.2.1 h.2.2.2.1<|(i w).mono fun e w1 ⟨d,E⟩=>⟨v,d,.inl h.2.2.2.2,k ⟨a.s.pure E,a.b.pure E⟩ hr⟩
end
def Fm(q:Nat)(c:Cf):Option Nat:=match q with
 |0=>match c.pos with
  |.c (.cond (.tmp d) _ _)=>some d
  |_=>none
 |1=>match rW c with
  |some o=>match o.guard with
   |some (j,_)=>((zx c)[j]?).bind (·.dst)
   |none=>none
  |none=>none
 |_=>match rW c with
  |some ⟨_,.pick (.tmp d) _ _,_,_,_,_⟩=>some d
  |_=>none
def Ff(q:Nat)(c:Cf):Option Value:=(Fm q c).map c.ρ
def ka(q:Nat)(b:Bool)(c:Cf):Cf:=⟨c.pos,c.fr,c.ρ,c.w,match Fm q c with|some d=>(d,b) ::c.kn|none=>c.kn⟩
def DA{q b}(h:Ff q c=some (.bool b))(k:W P fn R (ka q b c)):W P fn R c:=by
 intro j;refine k ?_;unfold Ff at h;cases a:Fm q c with
 |none=>rw[a]at h;cases h
 |some d =>
  rw[a]at h
  intro g l f
  simp only[ka,a,kl]at f
  show c.ρ g=_
  cases e:Nat.beq d g with
  |true =>
   rw[e]at f
   have i:=Nat.eq_of_beq_eq_true e
   rw[<-i]
   cases f
   exact Option.some.inj h
  |false=>rw[e]at f;exact j _ _ f
def br{A B:Prop}{e}(q m)(f:GG π A (W P fn R<|ka q true<|vv P fn m c))(d:GG π B (W P fn R<|ka q false<|vv P fn m c))(h:((aa P fn m c).cr,Ff q<|vv P fn m c)=((aa P fn m c).so,some<|.bool e):=by kernel_rfl):GG π (Br e A B) (W P fn R c):=by
 intro b hr;simp only[Prod.mk.injEq]at h;refine W.on m h.1 ?_;cases a:e with
 |true=>exact DA (by rw[<-a];exact h.2) (f b<|hr.1 a)
 |false=>exact DA (by rw[<-a];exact h.2) (d b<|hr.2 a)
def wM(P:Program)(c:Cf):Option (Value×World):=match cur c with
 |some o=>match(execOp (bw c.ρ) o).run P c.w with
  |.ok (.value v) w'=>some (v,w')
  |_=>none
 |none=>none
def ll(P:Program)(c:Cf)(p:Addr):Value:=match wM P c with
 |some (.pointer _,_)=>.pointer<|some p
 |some (.slice _ l k,_)=>.slice (some p) l k
 |some (.map _,_)=>.map<|some p.block
 |_=>undef
def BQ{O w}(m)(v:Addr->Value)(hs:(aa P fn m c).cr=(aa P fn m c).so)(h1:wM P (vv P fn m c)=some (v ⟨w.heap.size,0,none⟩,w.alloc O))(h2:gg (vv P fn m c)=true)(k:∀p w1,av w O p w1->WV P fn R (vv P fn m c) (v p) w1):W P fn R c:=by
 unfold wM at h1;split at h1;rename_i o d;split at h1;rename_i v' w' hr;simp only[Option.some.injEq,Prod.mk.injEq]at h1;obtain⟨rfl,rfl⟩:=h1;have⟨b,a⟩:=k _ _ ⟨rfl,rfl⟩;exact W.on m hs<|Ju d h2 hr b a;cases h1;cases h1
def cf{r:Addr->World->Prop}{O w}(m)(k:∀{p w1},GG π (r p w1)<|W P fn R<|uC (ll P (vv P fn m c) p) w1<|vv P fn m c)(h:((aa P fn m c).cr,wM P<|vv P fn m c,gg<|vv P fn m c,jm<|vv P fn m c)=((aa P fn m c).so,some (ll P (vv P fn m c) ⟨w.heap.size,0,none⟩,w.alloc O),true,true):=by kernel_rfl):GG π (∀p w1,av w O p w1->r p w1) (W P fn R c):=by
 intro a hr;simp only[Prod.mk.injEq]at h;exact BQ m _ h.1 h.2.1 h.2.2.1 fun p w1 b=>⟨.inl h.2.2.2,k a<|hr p w1 b⟩
section
variable {w0 wv w:World} {Hv H:Nat->Prop} {l:List gh}
def ot{r:Addr->World->Prop}{O}(m)(k:∀{p w1},GG (HS w0 H w1 H w1 l) (r p w1)<|W P fn R<|uC (ll P (vv P fn m c) p) w1<|vv P fn m c)(h:((aa P fn m c).cr,wM P<|vv P fn m c,gg<|vv P fn m c,jm<|vv P fn m c)=((aa P fn m c).so,some (ll P (vv P fn m c) ⟨w.heap.size,0,none⟩,w.alloc O),true,true):=by kernel_rfl):GG (HS w0 H w H w l) (∀p w1,av w O p w1->r p w1) (W P fn R c):=by
 intro d hr;simp only[Prod.mk.injEq]at h;exact BQ m _ h.1 h.2.1 h.2.2.1 fun p w1 a=>⟨.inl h.2.2.2,k ⟨d.s.ib (ab.ax (F:=ar) a).bz,d.b.bk (ab.ax (F:=ar) a).bz⟩<|hr p w1 a⟩
def wI{r:Addr->World->Prop}{O C}(m)(k:∀{p w1},GG (HS w0 H w1 H w1 l) (r p w1)<|W P fn R<|uC (ll P (vv P fn m c) p) w1<|vv P fn m c)(h:((aa P fn m c).cr,wM P<|vv P fn m c,gg<|vv P fn m c,ov<|vv P fn m c,qt<|vv P fn m c,oo<|vv P fn m c)=((aa P fn m c).so,some (ll P (vv P fn m c) ⟨w.heap.size,0,none⟩,w.alloc O),true,some C,H,l):=by kernel_rfl):GG (HS w0 H w H w l) (∀p w1,av w O p w1->C w1/\r p w1) (W P fn R c):=by
 intro d hr;simp only[Prod.mk.injEq]at h;refine BQ m _ h.1 h.2.1 h.2.2.1 fun p w1 a=>⟨.inr<|(xU h.2.2.2.1 _).2 ⟨(hr p w1 a).1,?_⟩,k ⟨d.s.ib (ab.ax (F:=ar) a).bz,d.b.bk (ab.ax (F:=ar) a).bz⟩ (hr p w1 a).2⟩;rw[h.2.2.2.2.1,h.2.2.2.2.2];exact d.b.bk (ab.ax (F:=ar) a).bz
def np(P:Program)(c:Cf):List Value×TypeId:=match cur c with
 |some ⟨_,.alloc T,_,_,_,_⟩=>match(zeroValue T).run P c.w with
  |.ok z _=>(z.cells.toList,T)
  |_=>([],T)
 |some ⟨_,.box T x,_,_,_,_⟩=>((bw c.ρ x).cells.toList,T)
 |_=>([],0)
def nh(m)(k:∀{p w1 d},GG (HS w0 Hv wv d w1 ((p,(np P<|vv P fn m c).1,(np P<|vv P fn m c).2) ::l)) A<|W P fn R<|uC (.pointer<|some p) w1<|vv P fn m c)(h:((aa P fn m c).cr,wM P<|vv P fn m c,gg<|vv P fn m c,jm<|vv P fn m c)=((aa P fn m c).so,some (.pointer<|some ⟨w.heap.size,0,none⟩,w.alloc<|.cells (np P<|vv P fn m c).1.toArray (np P<|vv P fn m c).2),true,true):=by kernel_rfl):GG (HS w0 Hv wv H w l) A (W P fn R c):=by
 intro a hr;simp only[Prod.mk.injEq]at h;refine BQ m (fun p=>.pointer<|some p) h.1 h.2.1 h.2.2.1 fun p w1 e=>⟨.inl h.2.2.2,?_⟩;have⟨d,s1,b1⟩:=a.s.alloc a.b e;exact k ⟨s1,b1⟩ hr
end
end
section
variable {P:Program} {fn:Func} {R:Ending->World->Prop} {c:Cf} {π A:Prop}
def qj(P:Program)(c:Cf):Option (Value×Value×(World->Result Nat)):=match cur c with
 |some ⟨_,.store T x y,_,_,_,_⟩=>some (bw c.ρ x,bw c.ρ y,fun w=>(sizeOf T).run P w)
 |_=>none
def CO{a v w}(m)(hs:(aa P fn m c).cr=(aa P fn m c).so)(h1:qj P (vv P fn m c)=some (.pointer<|some a,v,fun y=>.ok 1 y))(d:vJ v=true)(h2:gg (vv P fn m c)=true)(h3:(vv P fn m c).w=w)(f:zL w a)(k:∀w1,w1=w.setCell a v->WV P fn R (vv P fn m c) undef w1):W P fn R c:=by
 unfold qj at h1;split at h1;rename_i b;simp only[Option.some.injEq,Prod.mk.injEq]at h1;have⟨g,e⟩:=k _ rfl;exact W.on m hs<|Im b h2 (by rw[h3];exact uf h1.1 h1.2.1 d (congrFun h1.2.2 w) f) g e;cases h1
def Bm{a vs w}(m)(hs:(aa P fn m c).cr=(aa P fn m c).so)(h1:qj P (vv P fn m c)=some (.pointer<|some a,.agg vs.toArray,fun y=>.ok vs.length y))(d:vs.all vJ=true)(h2:gg (vv P fn m c)=true)(h3:(vv P fn m c).w=w)(f:∀j,j<vs.length->zL w (a.add j))(k:∀w1,w1=bd w a vs->WV P fn R (vv P fn m c) undef w1):W P fn R c:=by
 unfold qj at h1;split at h1;rename_i b;simp only[Option.some.injEq,Prod.mk.injEq]at h1;have⟨g,e⟩:=k _ rfl;exact W.on m hs<|Im b h2 (by rw[h3];exact BC h1.1 h1.2.1 d (congrFun h1.2.2 w) rfl f) g e;cases h1
def gr{r:World->Prop}{a:Addr}{v:Value}{w:World}(m:Nat)(k:∀{w1},GG π (r w1)<|W P fn R<|uC undef w1<|vv P fn m c)(h:((aa P fn m c).cr,qj P<|vv P fn m c,vJ v,gg<|vv P fn m c,(vv P fn m c).w,jm<|vv P fn m c)=((aa P fn m c).so,some (.pointer<|some a,v,fun y=>.ok 1 y),true,true,w,true):=by kernel_rfl):GG π (zL w a/\∀w1,w1=w.setCell a v->r w1) (W P fn R c):=by
 rintro b ⟨d,hr⟩;simp only[Prod.mk.injEq]at h;exact CO m h.1 h.2.1 h.2.2.1 h.2.2.2.1 h.2.2.2.2.1 d fun w1 e=>⟨.inl h.2.2.2.2.2,k b<|hr w1 e⟩
def dh{r:World->Prop}{a:Addr}{vs:List Value}{n:Nat}{w:World}(m:Nat)(k:∀{w1},GG π (r w1)<|W P fn R<|uC undef w1<|vv P fn m c)(h:((aa P fn m c).cr,qj P<|vv P fn m c,vs.all vJ,gg<|vv P fn m c,(vv P fn m c).w,jm<|vv P fn m c,vs.length)=((aa P fn m c).so,some (.pointer<|some a,.agg vs.toArray,fun y=>.ok vs.length y),true,true,w,true,n):=by kernel_rfl):GG π ((∀j,j<n->zL w (a.add j))/\∀w1,w1=bd w a vs->r w1) (W P fn R c):=by
 rintro b ⟨d,hr⟩;simp only[Prod.mk.injEq]at h;exact Bm m h.1 h.2.1 h.2.2.1 h.2.2.2.1 h.2.2.2.2.1 Gd fun w1 e=>⟨.inl h.2.2.2.2.2.1,k b<|hr w1 e⟩
section
variable {w0 wv w:World} {Hv H:Nat->Prop} {l:List gh}
def ow{r:World->Prop}{a:Addr}{v:Value}(m:Nat)(k:∀{w1},GG (HS w0 H w1 H w1 l) (r w1)<|W P fn R<|uC undef w1<|vv P fn m c)(h:((aa P fn m c).cr,qj P<|vv P fn m c,vJ v,gg<|vv P fn m c,(vv P fn m c).w,jm<|vv P fn m c)=((aa P fn m c).so,some (.pointer<|some a,v,fun y=>.ok 1 y),true,true,w,true):=by kernel_rfl):GG (HS w0 H w H w l) (zL w a/\¬H a.block/\∀w1,w1=w.setCell a v->r w1) (W P fn R c):=by
 rintro d ⟨g,f,hr⟩;simp only[Prod.mk.injEq]at h;exact CO m h.1 h.2.1 h.2.2.1 h.2.2.2.1 h.2.2.2.2.1 g fun w1 e=>⟨.inl h.2.2.2.2.2,k (by subst e;exact⟨d.s.ib<|aj.setCell f,d.b.bk<|aj.setCell f⟩)<|hr w1 e⟩
def WA{r:World->Prop}{a:Addr}{v:Value}{C:World->Prop}(m:Nat)(k:∀{w1},GG (HS w0 H w1 H w1 l) (r w1)<|W P fn R<|uC undef w1<|vv P fn m c)(h:((aa P fn m c).cr,qj P<|vv P fn m c,vJ v,gg<|vv P fn m c,(vv P fn m c).w,ov<|vv P fn m c,qt<|vv P fn m c,oo<|vv P fn m c)=((aa P fn m c).so,some (.pointer<|some a,v,fun y=>.ok 1 y),true,true,w,some C,H,l):=by kernel_rfl):GG (HS w0 H w H w l) (zL w a/\¬H a.block/\∀w1,w1=w.setCell a v->C w1/\r w1) (W P fn R c):=by
 rintro d ⟨g,f,hr⟩;simp only[Prod.mk.injEq]at h;refine CO m h.1 h.2.1 h.2.2.1 h.2.2.2.1 h.2.2.2.2.1 g fun w1 e=>⟨.inr<|(xU h.2.2.2.2.2.1 _).2 ⟨(hr w1 e).1,?_⟩,k (by subst e;exact⟨d.s.ib<|aj.setCell f,d.b.bk<|aj.setCell f⟩) (hr w1 e).2⟩;subst e;rw[h.2.2.2.2.2.2.1,h.2.2.2.2.2.2.2];exact d.b.bk<|aj.setCell f
def wP{r:World->Prop}{a:Addr}{vs:List Value}{n:Nat}(m:Nat)(k:∀{w1},GG (HS w0 H w1 H w1 l) (r w1)<|W P fn R<|uC undef w1<|vv P fn m c)(h:((aa P fn m c).cr,qj P<|vv P fn m c,vs.all vJ,gg<|vv P fn m c,(vv P fn m c).w,jm<|vv P fn m c,vs.length)=((aa P fn m c).so,some (.pointer<|some a,.agg vs.toArray,fun y=>.ok vs.length y),true,true,w,true,n):=by kernel_rfl):GG (HS w0 H w H w l) ((∀j,j<n->zL w (a.add j))/\¬H a.block/\∀w1,w1=bd w a vs->r w1) (W P fn R c):=by
 rintro d ⟨g,f,hr⟩;simp only[Prod.mk.injEq]at h;exact Bm m h.1 h.2.1 h.2.2.1 h.2.2.2.1 h.2.2.2.2.1 Gd fun w1 e=>⟨.inl h.2.2.2.2.2.1,k (by subst e;exact⟨d.s.ib<|aj.bd f,d.b.bk<|aj.bd f⟩)<|hr w1 e⟩
def Ge{r:World->Prop}{a:Addr}{vs:List Value}{n:Nat}{C:World->Prop}(m:Nat)(k:∀{w1},GG (HS w0 H w1 H w1 l) (r w1)<|W P fn R<|uC undef w1<|vv P fn m c)(h:((aa P fn m c).cr,qj P<|vv P fn m c,vs.all vJ,gg<|vv P fn m c,(vv P fn m c).w,ov<|vv P fn m c,qt<|vv P fn m c,oo<|vv P fn m c,vs.length)=((aa P fn m c).so,some (.pointer<|some a,.agg vs.toArray,fun y=>.ok vs.length y),true,true,w,some C,H,l,n):=by kernel_rfl):GG (HS w0 H w H w l) ((∀j,j<n->zL w (a.add j))/\¬H a.block/\∀w1,w1=bd w a vs->C w1/\r w1) (W P fn R c):=by
 rintro d ⟨g,f,hr⟩;simp only[Prod.mk.injEq]at h;refine Bm m h.1 h.2.1 h.2.2.1 h.2.2.2.1 h.2.2.2.2.1 Gd fun w1 e=>⟨.inr<|(xU h.2.2.2.2.2.1 _).2 ⟨(hr w1 e).1,?_⟩,k (by subst e;exact⟨d.s.ib<|aj.bd f,d.b.bk<|aj.bd f⟩) (hr w1 e).2⟩;subst e;rw[h.2.2.2.2.2.2.1,h.2.2.2.2.2.2.2.1];exact d.b.bk<|aj.bd f
def ij(l:List gh)(i j:Nat)(vs:List Value):List gh:=match l[i]? with
 |some (p,cs,T)=>l.set i (p,cs.take j++vs++cs.drop (j+vs.length),T)
 |none=>l
def nn(P:Program)(c:Cf):Value:=match qj P c with
 |some (_,v,_)=>v
 |none=>undef
def sh(m i:Nat)(js)(k:∀{w1},GG (HS w0 Hv wv H w1<|ij l i (sum js) [nn P<|vv P fn m c]) A<|W P fn R<|uC undef w1<|vv P fn m c)(h:((aa P fn m c).cr,qj P<|vv P fn m c,vJ<|nn P<|vv P fn m c,gg<|vv P fn m c,(vv P fn m c).w,jm<|vv P fn m c,Nat.ble (sum js+1) (ez l i).length)=((aa P fn m c).so,some (.pointer<|some<|iy l i js,nn P<|vv P fn m c,fun y=>.ok 1 y),true,true,w,true,true):=by kernel_rfl):GG (HS w0 Hv wv H w l) A (W P fn R c):=by
 intro d hr;simp only[Prod.mk.injEq]at h;have⟨j,h1,g,h2,h3,f,o⟩:=h;have a:=Nat.le_of_ble_eq_true o;generalize nn P (vv P fn m c)=v at *;cases e:l[i]? with
 |none=>simp[ez,e]at a
 |some x =>
  have⟨p,cs,T⟩:=x
  simp only[ez,e]at a
  have n:iy l i js=p.add (sum js):=by simp only[iy,e,ET]
  rw[n]at h1
  refine CO m j h1 g h2 h3 (d.b.eh i (sum js) e<|decide_eq_true Om) fun w1 r=>⟨.inl f,?_⟩
  have q:l.set i (p,cs.set (sum js) v,T)=ij l i (sum js) [v]:=by
   simp only[ij,e];congr 3;rw[List.set_eq_take_append_cons_drop,if_pos Om];simp
  have:=d.b.set (sum js) (v:=v) d.s e q
  subst r
  exact k ⟨this.1,this.2⟩ hr
def kz(P:Program)(c:Cf):List Value:=match qj P c with
 |some (_,.agg vs,_)=>vs.toList
 |_=>[]
def sg(m i:Nat)(js)(k:∀{w1},GG (HS w0 Hv wv H w1<|ij l i (sum js)<|kz P<|vv P fn m c) A<|W P fn R<|uC undef w1<|vv P fn m c)(h:((aa P fn m c).cr,qj P<|vv P fn m c,(kz P<|vv P fn m c).all vJ,gg<|vv P fn m c,(vv P fn m c).w,jm<|vv P fn m c,Nat.ble (sum js+(kz P<|vv P fn m c).length) (ez l i).length,Nat.blt 0 (kz P<|vv P fn m c).length)=((aa P fn m c).so,some (.pointer<|some<|iy l i js,.agg (kz P<|vv P fn m c).toArray,fun y=>.ok (kz P<|vv P fn m c).length y),true,true,w,true,true,true):=by kernel_rfl):GG (HS w0 Hv wv H w l) A (W P fn R c):=by
 intro a hr;simp only[Prod.mk.injEq]at h;have⟨o,h1,n,h2,h3,j,r,d⟩:=h;have f:=Nat.le_of_ble_eq_true r;have g:0<(kz P<|vv P fn m c).length:=by simpa[Nat.blt_eq]using d
 generalize kz P (vv P fn m c)=vs at *;cases e:l[i]? with
 | none => have : (ez l i).length = 0:=by simp[ez, e]
           omega
 |some x =>
  have⟨p,cs,T⟩:=x
  simp only[ez,e]at f
  have q:iy l i js=p.add (sum js):=by simp only[iy,e,ET]
  rw[q]at h1
  refine Bm m o h1 n h2 h3 (a.b.uo i (sum js) vs.length e<|decide_eq_true Om) fun w1 u=>⟨.inl j,?_⟩
  have t:l.set i (p,cs.take (sum js)++vs++cs.drop (sum js+vs.length),T)=ij l i (sum js) vs:=by simp only[ij,e]
  have:=a.b.store (sum js) (vs:=vs) a.s e (decide_eq_true Om) t
  subst u
  exact k ⟨this.1,this.2⟩ hr
end
def xp:List ResultVar->Option (List Nat)
 |[]=>some []
 |.tmp t :: l=>match xp l with
  |some ts=>some (t :: ts)
  |none=>none
 |_=>none
def BB(ρ:bh):List Nat->Value
 |[t]=>ρ t
 |ts=>.tuple (ts.map ρ).toArray
def FN(fn:Func)(c:Cf):Option (Value×World):=match c.pos,c.fr with
 |.x .ret,[]=>match xp fn.results.toList with
  |some ts=>some (BB c.ρ ts,c.w)
  |none=>none
 |.x .normal,[]=>match xp fn.results.toList with
  |some ts=>some (BB c.ρ ts,c.w)
  |none=>none
 |_,_=>none
def PF{ρ w}:∀{l:List ResultVar} {ts:List Nat},xp l=some ts->wO P ρ w l (ts.map ρ)
 |[],ts,h=>by cases h;trivial
 |.tmp t :: l,ts,h=>by
  simp only[xp]at h;split at h;rename_i a b;cases h;exact⟨rfl,PF b⟩;cases h
 |.cell _ _ :: l,ts,h=>by simp[xp]at h
def jaL{ρ}(ts):(if h:(ts.map ρ).toArray.size=1 then(ts.map ρ).toArray[0]else .tuple (ts.map ρ).toArray)=BB ρ ts:=by
 match ts with
 |[]=>rfl
 |[t]=>rfl
 |t :: u :: ts=>simp[BB]
def rr{v w}(m)(b:A->R (.returned v) w:=by first|exact fun h=>⟨_,rfl,h⟩|exact fun h=>⟨_,_,rfl,h⟩|exact fun h=>⟨rfl,h⟩|exact fun h=>⟨_,_,_,rfl,h⟩|exact fun h=>⟨_,_,_,_,rfl,h⟩|exact fun h=>⟨_,_,_,_,_,rfl,h⟩|exact fun h=>⟨_,_,_,_,_,_,rfl,h⟩|exact fun h=>⟨_,_,_,_,_,_,_,rfl,h⟩|exact fun h=>⟨_,_,_,_,_,_,_,_,rfl,h⟩|exact fun h=>⟨_,_,_,_,_,_,_,_,_,rfl,h⟩|exact fun h=>⟨_,_,_,_,_,_,_,_,_,_,rfl,h⟩)(h:((aa P fn m c).cr,FN fn<|vv P fn m c)=((aa P fn m c).so,some (v,w)):=by kernel_rfl):GG π A (W P fn R c):=by
 intro f hr;simp only[Prod.mk.injEq]at h;refine W.on m h.1 fun _=>?_;have⟨_,h⟩:=h;have key:∀(ρ:bh) (w':World) (ts:List Nat) (e:Exit),e=.ret\/e=.normal->xp fn.results.toList=some ts->some (BB ρ ts,w')=some (v,w)->re P fn fn.ntmps R e ρ w':=by
  intro ρ w' ts e a ht d;cases d;exact Hw a (by rw[Array.toArray_toList]) (PF ht) (jaL ts)<|b hr
 unfold FN at h;unfold Wq;split at h
 .rename_i h1 h2;split at h
  .rename_i ts ht;rw[h1,h2];exact key _ _ _ _ (.inl rfl) ht h
  .cases h
 .rename_i h1 h2;split at h
  .rename_i ts ht;rw[h1,h2];exact key _ _ _ _ (.inr rfl) ht h
  .cases h
 .cases h
def wW(P:Program)(n:Nat)(ld fr:List Nat)(c:Cf):Option (Bool×Bool×Bool×Bool):=match c.pos with
 |.c (.region _ ops true)=>some (P.follows .mixedOrders,tN n ops.toList,Region.noSelect ops,wY .any ops (vX ld)<|vX fr)
 |_=>none
def mm(q:Option World)(C:World->Prop)(H:Nat->Prop)(l:List gh)(ld fr:List Nat)(w1:World)(c:Cf):Cf:=match c.pos with
 |.c (.region _ ops true)=>⟨.d ops q C H l ld fr ops.size (Array.replicate ops.size false) none,c.fr,c.ρ,w1,c.kn⟩
 |_=>c
def Uu{n Q C H l}{q:Option World}{ld fr}(h:wW P n ld fr c=some (true,true,true,true))(d:Cl q C H l c.w.drew)(k:Wk P n Q (mm q C H l ld fr c.w.drew c)):Wk P n Q c:=by
 intro e;have⟨pos,fs,ρ,w,kn⟩:=c;unfold wW at h;split at h;rename_i id ops a;simp only at a;subst a;simp only[Option.some.injEq,Prod.mk.injEq]at h;have⟨h1,h2,h3,f⟩:=h;have:=k e;have b:=fun id=>HG (x:=EH) (P:=P) (n:=n) (id:=id) (l:=ops.toList) (ρ:=ρ) (w:=w) (Q:=Qf P n Q fs) (Cl q C H l) ld fr h1 h2 (by rw[Array.toArray_toList];exact h3) (by rw[Array.toArray_toList];exact f) d (by rw[Array.toArray_toList];exact this);rw[Array.toArray_toList]at b;exact b _;cases h
def AY{C H l}(q:Option World)(m ld fr)(hs:(aa P fn m c).cr=(aa P fn m c).so)(h:wW P fn.ntmps ld fr (vv P fn m c)=some (true,true,true,true))(a:Cl q C H l (vv P fn m c).w.drew)(k:W P fn R (mm q C H l ld fr (vv P fn m c).w.drew<|vv P fn m c)):W P fn R c:=W.on m hs<|Uu h a k
section
variable {w0 wv w:World} {Hv H:Nat->Prop} {l:List gh}
def dq(m)(k:∀{w1},GG (HS w0 Hv wv H w1 l) A<|W P fn R<|mm (some w1) (fun _=>True) H l [] [] w1<|vv P fn m c)(h:((aa P fn m c).cr,wW P fn.ntmps [] []<|vv P fn m c,(vv P fn m c).w)=((aa P fn m c).so,some (true,true,true,true),w):=by kernel_rfl):GG (HS w0 Hv wv H w l) A (W P fn R c):=by
 intro a hr;simp only[Prod.mk.injEq]at h;exact AY (some (vv P fn m c).w.drew) m [] [] h.1 h.2.1 rfl (k (by rw[h.2.2];exact⟨a.s.drew,a.b.drew⟩) hr)
def dC{r:(World->Prop)->World->Prop}(m ld fr)(k:∀{C w1},GG (HS w0 H w1 H w1 l) (r C w1)<|W P fn R<|mm none C H l ld fr w1<|vv P fn m c)(h:((aa P fn m c).cr,wW P fn.ntmps ld fr<|vv P fn m c,(vv P fn m c).w)=((aa P fn m c).so,some (true,true,true,true),w):=by kernel_rfl):GG (HS w0 H w H w l) (∃C:World->Prop,C w.drew/\∀w1,w1=w.drew->r C w1) (W P fn R c):=by
 rintro a ⟨C,d,hr⟩;simp only[Prod.mk.injEq]at h;refine AY none m ld fr h.1 h.2.1 ?_<|k ?_<|hr _ (by rw[h.2.2]);rw[h.2.2];exact⟨d,a.b.drew⟩;rw[h.2.2];exact⟨a.s.drew.fm,a.b.drew⟩
end
def yd(c:Cf):List Nat:=match c.pos with
 |.d ops _ _ _ _ _ _ (_+1) a none=>Region.ready .any ops a
 |_=>[]
def kq(i:Nat)(c:Cf):Cf:=match c.pos with
 |.d ops q C H l ld fr (b+1) a none=>⟨.d ops q C H l ld fr b a<|(Region.ready .any ops a)[i]?,c.fr,c.ρ,c.w,c.kn⟩
 |_=>c
def dgK{n Q}(a:0<(yd c).length)(k:∀i,i<(yd c).length->Wk P n Q (kq i c)):Wk P n Q c:=by
 intro f;have⟨pos,fs,ρ,w,kn⟩:=c;unfold yd at a k;split at a;rename_i ops q C H l ld fr h g b;simp only at b;subst b;simp only at k a;refine .inr ⟨fun d=>(by rw[d]at a;cases a),fun j e=>?_⟩;obtain⟨i,hi,rfl⟩:=List.getElem_of_mem e;have:=k i hi f;simp only[kq,List.getElem?_eq_getElem hi]at this;exact this;cases a
def JS(m)(hs:(aa P fn m c).cr=(aa P fn m c).so)(a:0<(yd<|vv P fn m c).length)(k:∀i,i<(yd<|vv P fn m c).length->W P fn R (kq i<|vv P fn m c)):W P fn R c:=W.on m hs<|dgK a k
def uu{A B:Prop}(m)(d:GG π A (W P fn R<|kq 0<|vv P fn m c))(b:GG π B (W P fn R<|kq 1<|vv P fn m c))(h:((aa P fn m c).cr,(yd<|vv P fn m c).length)=((aa P fn m c).so,2):=by kernel_rfl):GG π (A/\B) (W P fn R c):=by
 intro a hr;simp only[Prod.mk.injEq]at h;refine JS m h.1 (by rw[h.2];decide) fun i hi=>?_;rw[h.2]at hi;match i,hi with
 |0,_=>exact d a hr.1
 |1,_=>exact b a hr.2
def Oc{A B D:Prop}(m)(d:GG π A (W P fn R<|kq 0<|vv P fn m c))(b:GG π B (W P fn R<|kq 1<|vv P fn m c))(e:GG π D (W P fn R<|kq 2<|vv P fn m c))(h:((aa P fn m c).cr,(yd<|vv P fn m c).length)=((aa P fn m c).so,3):=by kernel_rfl):GG π (A/\B/\D) (W P fn R c):=by
 intro a hr;simp only[Prod.mk.injEq]at h;refine JS m h.1 (by rw[h.2];decide) fun i hi=>?_;rw[h.2]at hi;match i,hi with
 |0,_=>exact d a hr.1
 |1,_=>exact b a hr.2.1
 |2,_=>exact e a hr.2.2
end
section
variable {P:Program} {n:Nat} {Q Q':Exit->bh->World->Prop} {c:Cf}
def tK(h:∀e ρ w,Q e ρ w->Q' e ρ w):∀(fs:List Fr) (e:Exit) (ρ:bh) (w:World),Qf P n Q fs e ρ w->Qf P n Q' fs e ρ w
 |[],e,ρ,w,k=>h e ρ w k
 |.t c :: fs,e,ρ,w,k=>by cases e<;>first|exact Aq (fun e ρ w=>tK h fs e ρ w) k|exact tK h fs _ ρ w k
 |.b id :: fs,e,ρ,w,k=>by
  cases e with
  |exit i=>simp only[Qf,tc]at k|-;split<;>rename_i hi<;>simp only[hi]at k<;>exact tK h fs _ ρ w k
  |_=>exact tK h fs _ ρ w k
 |.r ops l :: fs,e,ρ,w,k=>by cases e<;>first|exact Cb (fun ρ w=>tK h fs _ ρ w) k|exact tK h fs _ ρ w k
 |.j J :: fs,e,ρ,w,k=>by cases e<;>first|exact k|exact tK h fs _ ρ w k
def BW(a:List Fr):∀d,Qf P n Q (d++a)=Qf P n (Qf P n Q a) d
 |[]=>rfl
 |.t c :: fs=>by simp only[List.cons_append,Qf,BW a fs]
 |.b id :: fs=>by simp only[List.cons_append,Qf,BW a fs]
 |.r ops l :: fs=>by simp only[List.cons_append,Qf,BW a fs]
 |.j J :: fs=>by simp only[List.cons_append,Qf,BW a fs]
def Yb{ops C}{loud free:Nat->Bool}{i K K' ρ w}(b:∀ρ w,K ρ w->K' ρ w)(h:fg P ops C loud free i K ρ w):fg P ops C loud free i K' ρ w:=by
 unfold fg at h|-;split;rename_i a;simp only[a]at h;exact b _ _ h;rename_i o a;simp only[a]at h;split;rename_i c;rw[if_pos c]at h;split;rename_i e;rw[if_pos e]at h;exact tP h fun v w' ⟨d,f⟩=>⟨d,b _ _ f⟩;grind;rename_i c;rw[if_neg c]at h;exact b _ _ h
def YO(h:∀e ρ w,Q e ρ w->Q' e ρ w)(k:Wq P n Q c):Wq P n Q' c:=by
 have⟨pos,fs,ρ,w,kn⟩:=c;cases pos with
 |c a=>exact Aq (fun e ρ w=>tK h fs e ρ w) k
 |r ops l=>exact Cb (fun ρ w=>tK h fs _ ρ w) k
 |x e=>exact tK h fs _ ρ w k
 |d ops q C H l ld fr f b s =>
  cases s with
  |none=>exact xu (fun ρ w=>tK h fs _ ρ w) k
  |some j=>exact Yb (fun ρ w=>xu fun ρ w=>tK h fs _ ρ w) k
def Kk{pos:EX}{a b:List Fr}{ρ w}{kn:List (Nat×Bool)}:Wq P n Q ⟨pos,a++b,ρ,w,kn⟩=Wq P n (Qf P n Q b) ⟨pos,a,ρ,w,kn⟩:=by
 unfold Wq;simp only[BW]
def jn(i:Nat)(J:bh->World->Prop)(c:Cf):Cf:=⟨c.pos,c.fr.take i++.j J ::c.fr.drop i,c.ρ,c.w,c.kn⟩
def C9{i J}(a:∀ρ w,J ρ w->Qf P n Q (c.fr.drop i) .normal ρ w)(k:Wk P n Q (jn i J c)):Wk P n Q c:=by
 intro b;replace k:=k b;have⟨pos,fs,ρ,w,kn⟩:=c;unfold jn at k;simp only at k a;rw[Kk]at k;rw[show fs=fs.take i++fs.drop i from(List.take_append_drop i fs).symm,Kk];exact YO (fun e ρ w h=>by cases e<;>first|exact a ρ w h|exact h) k
def oe(k:Nat)(c:Cf):Cf:=match c.pos with
 |.r ops l=>⟨.r ops<|l.take k,.r ops (l.drop k) :: c.fr,c.ρ,c.w,c.kn⟩
 |_=>c
def SA{k}(h:Wk P n Q (oe k c)):Wk P n Q c:=by
 unfold oe at h;split at h;rename_i a;intro b;replace h:=h b;have⟨pos,fs,ρ,w,kn⟩:=c;simp only at a;subst a;exact IF (ρ:=ρ) (w:=w) k h;exact h
end
section
variable {P:Program} {fn:Func} {R:Ending->World->Prop} {c:Cf} {π A:Prop}
def ct(m k)(h:GG π A (W P fn R<|oe k<|vv P fn m c))(hs:(aa P fn m c).cr=(aa P fn m c).so:=by kernel_rfl):GG π A (W P fn R c):=fun a hr=>W.on m hs<|SA<|h a hr
def kp(a:List Nat)(ρ:bh):List (Nat×Value):=a.map fun s=>(s,ρ s)
abbrev pP(i:Nat)(L:List (Nat×Value))(ρ:bh)(w:World)(c:Cf)(kn:List (Nat×Bool)):Cf:=⟨.x .normal,c.fr.drop i,yC ρ L,w,kn⟩
section
variable {w0 wv w:World} {Hv H:Nat->Prop} {l:List gh}
def CA(T:List (Nat×Value)->List gh->(Nat->Prop)->World->Prop)(m i ks)(ka:∀{J:bh->World->Prop},(∀{L l H w},T L l H w->HS w0 H w H w l->∀{ρ},ek ρ (kp ks (vv P fn m c).ρ++L)->J ρ w)->GG π A (W P fn R<|jn i J<|vv P fn m c))(b:∀{L l H w ρ},T L l H w->HS w0 H w H w l->W P fn R (pP i (kp ks (vv P fn m c).ρ++L) ρ w (vv P fn m c) []))(hs:(aa P fn m c).cr=(aa P fn m c).so):GG π A (W P fn R c):=fun a hr=>by
 refine W.on m hs<|C9 (i:=i) (J:=fun ρ w=>∃L l H,T L l H w/\HS w0 H w H w l/\ek ρ (kp ks (vv P fn m c).ρ++L)) ?_<|ka Gd a hr;rintro ρ w ⟨L,l,H,ht,hS,hh⟩;have:=b (ρ:=ρ) ht hS (fun _ _ h=>by cases h);unfold pP at this;rw[uP hh]at this;exact this
def vl(d:Nat)(c:Cf)(L:List (Nat×Value))(l:List gh):Option (Exit×Option Fr×World×List Value×List gh):=match c.pos with
 |.x e=>some (e,c.fr.head?,c.w,L.map fun p=>c.ρ p.1,l.drop d)
 |_=>none
def Et{J}{L:List (Nat×Value)}{l' d}(m)(hs:(aa P fn m c).cr=(aa P fn m c).so)(h:vl d (vv P fn m c) L l=some (.normal,some<|.j J,w,L.map (·.2),l'))(j:∀{ρ},ek ρ L->J ρ w):W P fn R c:=by
 refine W.on m hs fun _=>?_;unfold vl at h;split at h;rename_i e b;simp only[Option.some.injEq,Prod.mk.injEq]at h;obtain⟨rfl,h2,rfl,g,_⟩:=h;unfold Wq;rw[b];simp only;cases a:(vv P fn m c).fr with
 |nil=>rw[a]at h2;cases h2
 |cons f fs=>rw[a]at h2;cases h2;exact j g
 cases h
def Qh{d c}{L:List (Nat×Value)}{x:Exit×Option Fr×World×List Value×List gh}(h:vl d c L l=some x):l.drop d=x.2.2.2.2:=by
 unfold vl at h;split at h;cases h;rfl;cases h
def je{J}{L:List (Nat×Value)}{l'}(m d)(j:HS w0 H w H w l'->A->∀{ρ},ek ρ L->J ρ w)(h:((aa P fn m c).cr,vl d (vv P fn m c) L l)=((aa P fn m c).so,some (.normal,some<|.j J,w,L.map (·.2),l')):=by kernel_rfl):GG (HS w0 H w H w l) A (W P fn R c):=fun a hr=>by
 simp only[Prod.mk.injEq]at h;have e:=Qh h.2;simp only at e;exact Et m h.1 h.2 fun hh=>j ⟨a.s,by rw[<-e];exact a.b.drop d⟩ hr hh
def df{J}{L:List (Nat×Value)}{w}(m)(j:A->∀{ρ},ek ρ L->J ρ w)(h:((aa P fn m c).cr,vl 0 (vv P fn m c) L [])=((aa P fn m c).so,some (.normal,some<|.j J,w,L.map (·.2),[])):=by kernel_rfl):GG π A (W P fn R c):=fun _ hr=>by
 simp only[Prod.mk.injEq]at h;exact Et m h.1 h.2 fun hh=>j hr hh
def bn(cs:List Bool)(i:Nat):Bool:=cs.getD i false
def ub(b:Nat->Bool)(i:Nat)(t:Bool):Nat->Bool:=fun j=>cond (Nat.beq j i) t<|b j
def NO{b:Nat->Bool}{i t}(h:b i=t):ub b i t=b:=by
 funext j;unfold ub;cases e:Nat.beq j i with
 |true=>rw[Nat.eq_of_beq_eq_true e,h];rfl
 |false=>rfl
def PJ(w0:World)(Hv:Nat->Prop)(wv:World)(J:bh->World->Prop)(L:(Nat->Bool)->List (Nat×Value))(hs:(Nat->Bool)->List gh)(b:Nat->Bool):Prop:=∀H w,HS w0 Hv wv H w (hs b)->∀ρ,ek ρ (L b)->J ρ w
def kf(a:List Nat):List (Nat×Bool)->List (Nat×Bool)
 |[]=>[]
 |(d,b) :: kn=>cond (a.any<|Nat.beq d) ((d,b) :: kf a kn)<|kf a kn
def EI{ks d b}:∀{kn:List (Nat×Bool)},kl (kf ks kn) d=some b->d∈ks/\kl kn d=some b
 |[],h=>by cases h
 |(s,t) :: kn,h=>by
  simp only[kf]at h;cases e:ks.any (Nat.beq s)with
  |true =>
   rw[e]at h
   simp only[cond_true,kl]at h|-
   cases a:Nat.beq s d with
   |true =>
    rw[a]at h
    have:=Nat.eq_of_beq_eq_true a
    subst this
    have⟨x,g,c⟩:=List.any_eq_true.1 e
    exact⟨by rw[Nat.eq_of_beq_eq_true c];exact g,h⟩
   |false=>rw[a]at h;exact EI (kn:=kn) h
  |false =>
   rw[e]at h
   have:=EI (kn:=kn) h
   refine⟨this.1,?_⟩
   simp only[kl]
   cases a:Nat.beq s d with
   |true =>
    have f:=Nat.eq_of_beq_eq_true a
    subst f
    have:ks.any (Nat.beq s)=true:=List.any_eq_true.2 ⟨s,this.1,Nat.beq_refl s⟩
    rw[this]at e;cases e
   |false=>exact this.2
def HI{ρ ρ' d}:∀{a:List Nat} {L:List (Nat×Value)},d∈a->yC ρ (kp a ρ'++L) d=ρ' d
 |s :: a,L,h=>by
  show(if d=s then ρ' s else yC ρ (kp a ρ'++L) d)=ρ' d;by_cases e:d=s;rw[if_pos e,e];rw[if_neg e];exact HI<|(List.mem_cons.1 h).resolve_left e
def ph(hs:(Nat->Bool)->List gh->List gh)(m i)(cs:List Bool)(ks)(f:(Nat->Bool)->List (Nat×Value))(ka:∀{J:bh->World->Prop},PJ w0 Hv wv J (fun b=>kp ks (vv P fn m c).ρ++f b) (fun b=>hs b l) (bn cs)->GG (HS w0 Hv wv H w l) A (W P fn R<|jn i J<|vv P fn m c))(g:∀{H w ρ},GG (HS w0 Hv wv H w<|hs (bn cs) l) A<|W P fn R<|pP i (kp ks (vv P fn m c).ρ++f (bn cs)) ρ w (vv P fn m c)<|kf ks (vv P fn m c).kn)(h:(aa P fn m c).cr=(aa P fn m c).so:=by kernel_rfl):GG (HS w0 Hv wv H w l) A (W P fn R c):=fun e hr=>by
 refine W.on m h fun a=>?_;refine C9 (i:=i) (J:=fun ρ w=>∃H,HS w0 Hv wv H w (hs (bn cs) l)/\ek ρ (kp ks (vv P fn m c).ρ++f (bn cs))) ?_ (ka (fun _ _ hS _ hh=>⟨_,hS,hh⟩) e hr) a;rintro ρ w ⟨H,hS,hh⟩;have:=g (ρ:=ρ) hS hr (fun d b h=>by
  have:=EI h;exact(HI this.1).trans<|a _ _ this.2)
 unfold pP at this;rw[uP hh]at this;exact this
def pj(m i)(cs:List Bool)(ks)(f:(Nat->Bool)->List (Nat×Value))(ka:∀{J:bh->World->Prop},PJ w0 Hv wv J (fun b=>kp ks (vv P fn m c).ρ++f b) (fun _=>l) (bn cs)->GG (HS w0 Hv wv H w l) A (W P fn R<|jn i J<|vv P fn m c))(a:∀{H w ρ},GG (HS w0 Hv wv H w l) A<|W P fn R<|pP i (kp ks (vv P fn m c).ρ++f (bn cs)) ρ w (vv P fn m c)<|kf ks (vv P fn m c).kn)(h:(aa P fn m c).cr=(aa P fn m c).so:=by kernel_rfl):GG (HS w0 Hv wv H w l) A (W P fn R c):=ph (fun _ l=>l) m i cs ks f ka a h
def pb{d:(Nat->Bool)->Prop}{b:Nat->Bool}(q m i)(j:d b)(g:d (ub b i true)->GG π A (W P fn R<|ka q true<|vv P fn m c))(f:d (ub b i false)->GG π A (W P fn R<|ka q false<|vv P fn m c))(h:((aa P fn m c).cr,Ff q<|vv P fn m c)=((aa P fn m c).so,some<|.bool<|b i):=by kernel_rfl):GG π A (W P fn R c):=by
 intro e hr;simp only[Prod.mk.injEq]at h;refine W.on m h.1 ?_;cases a:b i with
 |true=>exact DA (by rw[<-a];exact h.2) (g (by rw[NO a];exact j) e hr)
 |false=>exact DA (by rw[<-a];exact h.2) (f (by rw[NO a];exact j) e hr)
def pe{J}{L:(Nat->Bool)->List (Nat×Value)}{hs:(Nat->Bool)->List gh}{b:Nat->Bool}(m d)(j:PJ w0 Hv wv J L hs b)(h:((aa P fn m c).cr,vl d (vv P fn m c) (L b) l)=((aa P fn m c).so,some (.normal,some<|.j J,w,(L b).map (·.2),hs b)):=by kernel_rfl):GG (HS w0 Hv wv H w l) A (W P fn R c):=fun a hr=>by
 simp only[Prod.mk.injEq]at h;have e:=Qh h.2;simp only at e;exact Et m h.1 h.2 fun hh=>j H w ⟨a.s,by rw[<-e];exact a.b.drop d⟩ _ hh
end
def PN(w:World)(J:bh->World->Prop)(L:(Nat->Bool)->List (Nat×Value))(b:Nat->Bool):Prop:=∀ρ,ek ρ (L b)->J ρ w
def pjn(m i)(cs:List Bool)(ks)(f:(Nat->Bool)->List (Nat×Value))(ka:∀{J:bh->World->Prop},PN (vv P fn m c).w J (fun b=>kp ks (vv P fn m c).ρ++f b) (bn cs)->GG π A (W P fn R<|jn i J<|vv P fn m c))(g:∀{ρ},GG π A<|W P fn R<|pP i (kp ks (vv P fn m c).ρ++f (bn cs)) ρ (vv P fn m c).w (vv P fn m c)<|kf ks (vv P fn m c).kn)(h:(aa P fn m c).cr=(aa P fn m c).so:=by kernel_rfl):GG π A (W P fn R c):=fun a hr=>by
 refine W.on m h fun e=>?_;refine C9 (i:=i) (J:=fun ρ w=>w=(vv P fn m c).w/\ek ρ (kp ks (vv P fn m c).ρ++f (bn cs))) ?_ (ka (fun _ hh=>⟨rfl,hh⟩) a hr) e;rintro ρ w ⟨rfl,hh⟩;have:=g (ρ:=ρ) a hr (fun d b h=>by
  have:=EI h;exact(HI this.1).trans<|e _ _ this.2)
 unfold pP at this;rw[uP hh]at this;exact this
def Nr{w J}{L:(Nat->Bool)->List (Nat×Value)}{b:Nat->Bool}(m)(j:PN w J L b)(h:((aa P fn m c).cr,vl 0 (vv P fn m c) (L b) [])=((aa P fn m c).so,some (.normal,some<|.j J,w,(L b).map (·.2),[])):=by kernel_rfl):GG π A (W P fn R c):=fun _ _=>by
 simp only[Prod.mk.injEq]at h;exact Et m h.1 h.2 fun hh=>j _ hh
def wk(c:Cf)(L:List (Nat×Value)):Option (World×List Value):=match c.pos with
 |.c (.loop _)=>some (c.w,L.map fun p=>c.ρ p.1)
 |_=>none
def ku(J:bh->World->Prop)(L:List (Nat×Value))(ρ:bh)(w:World)(c:Cf):Cf:=match c.pos with
 |.c (.loop b)=>⟨.c b,.j J :: c.fr,yC ρ L,w,[]⟩
 |_=>c
def zF{n Q}{σ:Type}(L:σ->List (Nat×Value))(I:σ->World->Prop)(a:σ->World->Nat){s0:σ}{w}(h:wk c (L s0)=some (w,(L s0).map (·.2)))(e:I s0 w)(k:∀{s w1 ρ} {J:bh->World->Prop},(∀{s' w'},I s' w'/\a s' w'<a s w1->∀{ρ},ek ρ (L s')->J ρ w')->I s w1->Wk P n Q (ku J (L s) ρ w1 c)):Wk P n Q c:=by
 intro j;unfold wk at h;have⟨pos,fs,ρ,w',kn⟩:=c;split at h;rename_i b d;simp only at d;subst d;simp only[Option.some.injEq,Prod.mk.injEq]at h;obtain⟨rfl,h2⟩:=h;refine wN (σ:=σ×World) (fun s ρ w=>w=s.2/\ek ρ (L s.1)/\I s.1 w) (fun s=>a s.1 s.2) (s0,w') ⟨rfl,h2,e⟩ ?_;rintro⟨s,w1⟩ g f ⟨rfl,hh,i⟩;have:=k (J:=fun ρ w=>∃s':σ×World,(w=s'.2/\ek ρ (L s'.1)/\I s'.1 w)/\a s'.1 s'.2<a s f) (ρ:=g) (fun {s' w'} h _ hh=>⟨(s',w'),⟨rfl,hh,h.1⟩,h.2⟩) i (fun _ _ h=>by cases h);unfold ku at this;simp only at this;rw[uP hh]at this;exact this;cases h
end
section
variable {P:Program} {fn:Func} {R:Ending->World->Prop} {c:Cf} {π A:Prop}
def CS(ρ:bh):List ResultVar->List Value->List ResultVar×List Value
 |.tmp t :: rs,vs=>CS ρ rs<|vs++[ρ t]
 |rs,vs=>(rs,vs)
def Dd:List Value->Value
 |[v]=>v
 |vs=>.tuple vs.toArray
def WS(P:Program)(R:Ending->World->Prop)(c:Cf)(s:List ResultVar×List Value):Prop:=∃us,wO P c.ρ c.w s.1 us/\R (.returned<|Dd<|s.2++us) c.w
def yv(c:Cf)(s:List ResultVar×List Value)(v:Value):List ResultVar×List Value:=CS c.ρ s.1.tail<|s.2++[v]
def GN:∀{rs:List ResultVar} {vs:List Value},WS P R c (CS c.ρ rs vs)->WS P R c (rs,vs)
 |[],_,h=>h
 |.cell _ _ :: _,_,h=>h
 |.tmp t :: rs,vs,h=>by
  have⟨us,h1,h2⟩:=GN (rs:=rs) (vs:=vs++[c.ρ t]) h;exact⟨c.ρ t ::us,⟨rfl,h1⟩,by simpa using h2⟩
def Qg{s:List ResultVar×List Value}{r:ResultVar}{v}(hs:s.1.head?=some r)(a:RV P c.ρ c.w r v)(k:WS P R c (yv c s v)):WS P R c s:=by
 have⟨rs,vs⟩:=s;cases rs with
 |nil=>cases hs
 |cons b rs =>
  cases hs
  have⟨us,h1,h2⟩:=GN k
  exact⟨v ::us,⟨a,h1⟩,by simpa using h2⟩
def Nv(c:Cf):Bool:=match c.pos,c.fr with
 |.x .ret,[]=>true
 |.x .normal,[]=>true
 |_,_=>false
def dx(m)(k:GG π A (WS P R (vv P fn m c)<|CS (vv P fn m c).ρ fn.results.toList []))(h:((aa P fn m c).cr,Nv<|vv P fn m c)=((aa P fn m c).so,true):=by kernel_rfl):GG π A (W P fn R c):=by
 intro f hr;simp only[Prod.mk.injEq]at h;refine W.on m h.1 fun _=>?_;have⟨us,h1,h2⟩:=GN<|k f hr;have key:∀e:Exit,e=.ret\/e=.normal->re P fn fn.ntmps R e (vv P fn m c).ρ (vv P fn m c).w:=fun e d=>by
  refine Hw d (by rw[Array.toArray_toList]) h1 ?_ h2;rw[List.nil_append];match us with
  |[]=>rfl
  |[v]=>rfl
  |u :: v :: us=>simp[Dd]
 have h3:=h.2;unfold Nv at h3;unfold Wq;split at h3;rename_i b a;rw[b,a];exact key _<|.inl rfl;rename_i b a;rw[b,a];exact key _<|.inr rfl;cases h3
def wh(P:Program)(c:Cf)(s:List ResultVar×List Value):Option (Value×(World->Result Bool)×(World->Result Nat)):=match s.1 with
 |.cell a T :: _=>some (c.ρ a,fun y=>(isAgg T).run P y,fun y=>(sizeOf T).run P y)
 |_=>none
def qG1{s:List ResultVar×List Value}{p v n}(h:wh P c s=some (.pointer<|some p,fun y=>.ok false y,fun y=>.ok n y))(a:c.w.cell? p=some v)(k:WS P R c (yv c s v)):WS P R c s:=by
 unfold wh at h;split at h;rename_i e;simp only[Option.some.injEq,Prod.mk.injEq]at h;exact Qg (by rw[e];rfl) (RV.vj h.1 (congrFun h.2.1 _) a) k;cases h
def Is{s:List ResultVar×List Value}{p us}(h:wh P c s=some (.pointer<|some p,fun y=>.ok true y,fun y=>.ok us.length y))(a:Row c.w p us)(k:WS P R c (yv c s<|.agg us.toArray)):WS P R c s:=by
 unfold wh at h;split at h;rename_i e;simp only[Option.some.injEq,Prod.mk.injEq]at h;exact Qg (by rw[e];rfl) (RV.MW h.1 (congrFun h.2.1 _) (congrFun h.2.2 _) rfl a) k;cases h
def HY{s:List ResultVar×List Value}{α:Type}{F:α->Value}{r:α->Prop}{p w}(k:∀{v},GG π (r v)<|WS P R c<|yv c s<|F v)(h:(wh P c s,c.w)=(some (.pointer<|some p,fun y=>.ok false y,fun y=>.ok 1 y),w):=by kernel_rfl):GG π (∃v,w.cell? p=some (F v)/\r v) (WS P R c s):=by
 rintro b ⟨v,a,hr⟩;simp only[Prod.mk.injEq]at h;exact qG1 h.1 (by rw[h.2];exact a) (k b hr)
def gj{s:List ResultVar×List Value}{r:Prop}{p us w}(k:GG π r (WS P R c<|yv c s<|.agg us.toArray))(h:(wh P c s,c.w)=(some (.pointer<|some p,fun y=>.ok true y,fun y=>.ok us.length y),w):=by kernel_rfl):GG π (Row w p us/\r) (WS P R c s):=by
 rintro b ⟨a,hr⟩;simp only[Prod.mk.injEq]at h;exact Is h.1 (by rw[h.2];exact a) (k b hr)
def Me{s:List ResultVar×List Value}{r:Prop}{p us n w}(k:GG π r (WS P R c<|yv c s<|.agg us))(h:(wh P c s,c.w)=(some (.pointer<|some p,fun y=>.ok true y,fun y=>.ok n y),w):=by kernel_rfl):GG π ((us.size=n/\Row w p us.toList)/\r) (WS P R c s):=by
 rintro b ⟨⟨d,a⟩,hr⟩;simp only[Prod.mk.injEq]at h;have e:us.toList.length=n:=by simpa using d
 refine Is (us:=us.toList) (by rw[e];exact h.1) (by rw[h.2];exact a) ?_;rw[Array.toArray_toList];exact k b hr
section
variable {w0 wv w:World} {Hv H:Nat->Prop} {l:List gh}
def pw{s:List ResultVar×List Value}(i js n)(k:GG (HS w0 Hv wv H w l) A (WS P R c<|yv c s<|.agg (((ez l i).drop<|sum js).take n).toArray))(h:(wh P c s,c.w,Nat.ble (sum js+n) (ez l i).length,Nat.blt 0 n)=(some (.pointer<|some<|iy l i js,fun y=>.ok true y,fun y=>.ok (((ez l i).drop<|sum js).take n).length y),w,true,true):=by kernel_rfl):GG (HS w0 Hv wv H w l) A (WS P R c s):=by
 intro a hr;simp only[Prod.mk.injEq]at h;exact Is h.1 (by rw[h.2.1];exact ux a.b h.2.2.1<|by simpa[Nat.blt_eq]using h.2.2.2) (k a hr)
end
def ee{s:List ResultVar×List Value}{v w}(a:A->R (.returned v) w:=by first|exact fun h=>⟨_,rfl,h⟩|exact fun h=>⟨_,_,rfl,h⟩|exact fun h=>⟨_,_,_,rfl,h⟩|exact fun h=>⟨_,_,_,_,rfl,h⟩|exact fun h=>⟨_,_,_,_,_,rfl,h⟩|exact fun h=>⟨_,_,_,_,_,_,rfl,h⟩|exact fun h=>⟨_,_,_,_,_,_,_,rfl,h⟩|exact fun h=>⟨_,_,_,_,_,_,_,_,rfl,h⟩|exact fun h=>⟨_,_,_,_,_,_,_,_,_,rfl,h⟩|exact fun h=>⟨_,_,_,_,_,_,_,_,_,_,rfl,h⟩|exact fun h=>⟨_,_,_,_,_,_,_,_,_,_,_,rfl,h⟩|exact fun h=>⟨_,_,_,_,_,_,_,_,_,_,_,_,rfl,h⟩)(h:(s.1,Dd s.2,c.w)=([],v,w):=by kernel_rfl):GG π A (WS P R c s):=fun _ hr=>by
 simp only[Prod.mk.injEq]at h;refine⟨[],?_,?_⟩
 .rw[h.1];trivial
 .grind
def Dj(c:Cf):Bool:=match c.pos with
 |.d ops _ _ _ _ ld _ _ _ (some k)=>sP .any ops (vX ld) k
 |_=>false
def SB{n Q o v}(h:cur c=some o)(e:pg c=false)(b:Dj c=true)(hr:(execOp (bw c.ρ) o).run P c.w=.ok (.value v) c.w)(k:Wk P n Q (uC v c.w c)):Wk P n Q c:=by
 intro f;have⟨hh,d⟩:=yi h;unfold rI at d;rw[wL f]at d;replace k:=k<|vc f _ _;cases a:pN c with
 |false =>
  have⟨ops,l,h1,h2,h3⟩:=yu (v:=v) (w':=c.w) hh a
  unfold Dj at b;rw[h1]at b;cases b
 |true =>
  have⟨ops,q,C,H,l,ld,fr,p,m,j,h1,h2,g,i,h3⟩:=yq (v:=v) (w':=c.w) hh a
  rw[h2]at d;rw[h3]at k;rw[An h1];rw[i]at e
  exact P7 g d e (by simpa[Dj,h1]using b) hr k
def sV{α:Type}{F:α->Value}{r:α->Prop}{a w}(m)(k:∀{v},GG π (r v)<|W P fn R<|pv (F v)<|vv P fn m c)(h:((aa P fn m c).cr,vg P<|vv P fn m c,Dj<|vv P fn m c,(vv P fn m c).w)=((aa P fn m c).so,some (.pointer<|some a,fun y=>.ok false y,false),true,w):=by kernel_rfl):GG π (∃v,w.cell? a=some (F v)/\r v) (W P fn R c):=by
 rintro d ⟨v,b,hr⟩;simp only[Prod.mk.injEq]at h;have⟨e,h1,h2,h3⟩:=h;unfold vg at h1;split at h1;rename_i f;simp only[Option.some.injEq,Prod.mk.injEq]at h1;exact W.on m e<|SB f h1.2.2 h2 (by rw[h3];exact tA h1.1 (congrFun h1.2.1 w) b) (k d hr);cases h1
def OX(P:Program)(c:Cf):Option (Value×Option Int×Nat×(World->Result Nat)×Bool):=match cur c with
 |some ⟨_,.indexAddr T x i,_,_,_,_⟩=>match P.underlying T with
  |some (.array k e)=>some (bw c.ρ x,Dt<|bw c.ρ i,k,fun y=>(sizeOf e).run P y,pg c)
  |_=>none
 |_=>none
def OB{r:Addr->Prop}{p i k n}(m)(e:∀{a},GG π (r a)<|W P fn R<|pv (.pointer<|some a)<|vv P fn m c)(h:((aa P fn m c).cr,OX P<|vv P fn m c)=((aa P fn m c).so,some (.pointer<|some p,some i,k,fun y=>.ok n y,false)):=by kernel_rfl):GG π (∃a,DJ p i k n a/\r a) (W P fn R c):=by
 rintro g ⟨a,j,hr⟩;simp only[Prod.mk.injEq]at h;have⟨d,h⟩:=h;unfold OX at h;split at h;rename_i f;split at h;rename_i o;simp only[Option.some.injEq,Prod.mk.injEq]at h;obtain⟨h1,h2,rfl,h3,b⟩:=h;have⟨l,h2⟩:=KO h2;exact wU m d f b (fun x _=>Yx h1 h2 (run_underlying o x) (congrFun h3 x) j)<|e g hr;cases h;cases h
section
variable {w0 w:World} {H:Nat->Prop} {l:List gh}
def vsh{r:World->Prop}{a:Addr}{vs:List Value}{n:Nat}(m:Nat)(k:∀{w1},GG (HS w0 H w1 H w1 l) (r w1)<|W P fn R<|uC undef w1<|vv P fn m c)(h:((aa P fn m c).cr,qj P<|vv P fn m c,gg<|vv P fn m c,(vv P fn m c).w,jm<|vv P fn m c,vs.length)=((aa P fn m c).so,some (.pointer<|some a,.agg vs.toArray,fun y=>.ok vs.length y),true,w,true,n):=by kernel_rfl):GG (HS w0 H w H w l) ((vs.all vJ=true/\∀j,j<n->zL w (a.add j))/\¬H a.block/\∀w1,w1=bd w a vs->r w1) (W P fn R c):=by
 rintro d ⟨⟨g,i⟩,f,hr⟩;simp only[Prod.mk.injEq]at h;exact Bm m h.1 h.2.1 g h.2.2.1 h.2.2.2.1 (by rw[h.2.2.2.2.2];exact i) fun w1 e=>⟨.inl h.2.2.2.2.1,k (by subst e;exact⟨d.s.ib<|aj.bd f,d.b.bk<|aj.bd f⟩)<|hr w1 e⟩
end
def fo{r:FuncId->Array Value->Array Value->Prop}{v:Value}{X:Prop}(k:∀{f fs cs},v=.func (.func f) fs cs->GG π (r f fs cs) X):GG π (∃f fs cs,v=.func (.func f) fs cs/\r f fs cs) X:=fun b ⟨_,_,_,a,hr⟩=>k a b hr
def Ms(c:Cf):Option (Value×List Value):=match cur c with
 |some ⟨_,.call ⟨.value x,a,_⟩,_,_,_,_⟩=>some (bw c.ρ x,a.toList.map<|bw c.ρ)
 |_=>none
def cv{f fs cs ag v w Q}(m)(a:v=.func (.func f) fs cs)(k:∀{e w1},GG π (Q e w1)<|WR P fn R (vv P fn m c) e w1)(h:((aa P fn m c).cr,Ms<|vv P fn m c,gg<|vv P fn m c,(vv P fn m c).w)=((aa P fn m c).so,some (v,ag),true,w):=by kernel_rfl):GG π ((∀args w,(callFunc f args).run P w=.ok (.enter f args) w)/\Calls P f (fs++ag.toArray++cs) w Q) (W P fn R c):=by
 rintro b ⟨d,hr⟩;simp only[Prod.mk.injEq]at h;refine Fj m d h.1 ?_ h.2.2.1 h.2.2.2<|hr.mono fun e w1 q=>k b q;have h2:=h.2.1;unfold Ms at h2;split at h2;rename_i g;cases h2;unfold mz;rw[g];simp only[a];cases h2
end
def Sc(w0:World)(Hv:Nat->Prop)(wv:World)(l:List gh)(x:World):Prop:=∃a,af w0 Hv wv a x/\HB a x l
section
variable {P:Program} {fn:Func} {R:Ending->World->Prop} {c:Cf} {A:Prop} {w0 wv w:World} {Hv H:Nat->Prop} {l:List gh}
def jbH{l'}(h:ov c=some (Sc w0 Hv wv l'))(x)(b:need c x):∃a,af w0 Hv wv a x/\HB a x l':=((xU h x).1 b).1
def WC{l' k}(h:(ov c,qt c,oo c)=(some<|Sc w0 Hv wv l',ar,[]))(d:l.drop k=l')(a:HS w0 Hv wv H w l):need c w:=by
 simp only[Prod.mk.injEq]at h;refine(xU h.1 w).2 ⟨⟨H,a.s,by rw[<-d];exact a.b.drop k⟩,?_⟩;rw[h.2.1,h.2.2];exact HB.nil _ _
def Zi(m ld fr)(k:∀{w1},GG (HS w0 Hv wv H w1 l) A<|W P fn R<|mm none (Sc w0 Hv wv l) ar [] ld fr w1<|vv P fn m c)(h:((aa P fn m c).cr,wW P fn.ntmps ld fr<|vv P fn m c,(vv P fn m c).w)=((aa P fn m c).so,some (true,true,true,true),w):=by kernel_rfl):GG (HS w0 Hv wv H w l) A (W P fn R c):=by
 intro d hr;simp only[Prod.mk.injEq]at h;have e:=h.2.2;have a:HS w0 Hv wv H (vv P fn m c).w.drew l:=by rw[e];exact⟨d.s.drew,d.b.drew⟩
 exact AY none m ld fr h.1 h.2.1 ⟨⟨H,a.s,a.b⟩,HB.nil _ _⟩<|k a hr
def lhs(m k i js)(d:GG (HS w0 Hv wv H w l) A (W P fn R<|pv (my (l.drop k) i<|sum js)<|vv P fn m c))(h:((aa P fn m c).cr,vg P<|vv P fn m c,ov<|vv P fn m c,Nat.blt (sum js) (ez (l.drop k) i).length)=((aa P fn m c).so,some (.pointer<|some<|iy (l.drop k) i js,fun y=>.ok false y,false),some<|Sc w0 Hv wv<|l.drop k,true):=by kernel_rfl):GG (HS w0 Hv wv H w l) A (W P fn R c):=by
 intro a hr;simp only[Prod.mk.injEq]at h;exact BZ m h.1 h.2.1 (fun x b=>by have⟨e,_,h2⟩:=jbH h.2.2.1 x b;exact BT h2 h.2.2.2) (d a hr)
def XX{f args v}(m d)(n:∀args w,(callFunc f args).run P w=.ok (.enter f args) w)(j:∀w,Calls P f args w fun e w'=>e=.returned v/\Pure w w')(k:∀{w1},GG (HS w0 Hv wv H w1 l) A<|W P fn R<|uC v w1<|vv P fn m c)(h:((aa P fn m c).cr,mz<|vv P fn m c,gg<|vv P fn m c,(vv P fn m c).w,ov<|vv P fn m c,qt<|vv P fn m c,oo<|vv P fn m c)=((aa P fn m c).so,some (f,args),true,w,some<|Sc w0 Hv wv<|l.drop d,ar,[]):=by kernel_rfl):GG (HS w0 Hv wv H w l) A (W P fn R c):=by
 intro a hr;simp only[Prod.mk.injEq]at h;refine Fj m n h.1 h.2.1 h.2.2.1 h.2.2.2.1<|(j w).mono fun e w1 ⟨i,E⟩=>?_;have g:HS w0 Hv wv H w1 l:=⟨a.s.pure E,a.b.pure E⟩;exact⟨v,i,.inr<|WC (l':=l.drop d) (k:=d) (by simp only[h.2.2.2.2]) rfl g,k g hr⟩
end
section
variable {P:Program} {fn:Func} {R:Ending->World->Prop} {c:Cf} {π A:Prop}
def Mc{r:World->Prop}{w:World}(m:Nat)(k:∀{w1},GG π (r w1)<|W P fn R<|mm (some w1) (fun _=>True) ar [] [] [] w1<|vv P fn m c)(h:((aa P fn m c).cr,wW P fn.ntmps [] []<|vv P fn m c,(vv P fn m c).w)=((aa P fn m c).so,some (true,true,true,true),w):=by kernel_rfl):GG π (∀w1,w1=w.drew->r w1) (W P fn R c):=by
 intro a hr;simp only[Prod.mk.injEq]at h;exact AY (some (vv P fn m c).w.drew) m [] [] h.1 h.2.1 rfl (k a<|hr _<|by rw[h.2.2])
def sE{r:(World->Prop)->World->Prop}{w}(m ld fr)(k:∀{C w1},GG π (r C w1)<|W P fn R<|mm none C ar [] ld fr w1<|vv P fn m c)(h:((aa P fn m c).cr,wW P fn.ntmps ld fr<|vv P fn m c,(vv P fn m c).w)=((aa P fn m c).so,some (true,true,true,true),w):=by kernel_rfl):GG π (∃C:World->Prop,C w.drew/\∀w1,w1=w.drew->r C w1) (W P fn R c):=by
 rintro a ⟨C,b,hr⟩;simp only[Prod.mk.injEq]at h;exact AY none m ld fr h.1 h.2.1 ⟨by rw[h.2.2];exact b,HB.nil _ _⟩ (k a<|hr _<|by rw[h.2.2])
def j9{v w1}{r:Prop}{C}(k:GG π r (W P fn R<|uC v w1 c))(h:(ov c,qt c,oo c)=(some C,ar,[]):=by kernel_rfl):GG π (C w1/\r) (WV P fn R c v w1):=fun a hr=>by
 simp only[Prod.mk.injEq]at h;refine⟨.inr<|(xU h.1 _).2 ⟨hr.1,?_⟩,k a hr.2⟩;rw[h.2.1,h.2.2];exact HB.nil _ _
def pn{r:Addr->World->Prop}{O C w}(m)(k:∀{p w1},GG π (r p w1)<|W P fn R<|uC (ll P (vv P fn m c) p) w1<|vv P fn m c)(h:((aa P fn m c).cr,wM P<|vv P fn m c,gg<|vv P fn m c,ov<|vv P fn m c,qt<|vv P fn m c,oo<|vv P fn m c)=((aa P fn m c).so,some (ll P (vv P fn m c) ⟨w.heap.size,0,none⟩,w.alloc O),true,some C,ar,[]):=by kernel_rfl):GG π (∀p w1,av w O p w1->C w1/\r p w1) (W P fn R c):=by
 intro b hr;simp only[Prod.mk.injEq]at h;refine BQ m _ h.1 h.2.1 h.2.2.1 fun p w1 a=>⟨.inr<|(xU h.2.2.2.1 _).2 ⟨(hr p w1 a).1,?_⟩,k b (hr p w1 a).2⟩;rw[h.2.2.2.2.1,h.2.2.2.2.2];exact HB.nil _ _
end
section
variable {P:Program} {fn:Func} {R:Ending->World->Prop} {c:Cf} {A:Prop}
def PR(w:World)(R:Ending->World->Prop)(val:(Nat->Bool)->Value)(b:Nat->Bool):Prop:=∀H w1,af w ar w H w1->R (.returned<|val b) w1
def jr{f args w v}(b:P.funcs[f]?=some fn)(cs:List Bool)(val:(Nat->Bool)->Value)(k:PR w (fun e w'=>e=.returned v/\Pure w w') val (bn cs)->GG (HS w ar w ar w []) True (W P fn (fun e w'=>e=.returned v/\Pure w w') ⟨.c<|uS fn,[],xD args,w,[]⟩))(a:(fn.body.isSome,Nat.ble args.length fn.ntmps,val<|bn cs)=(true,true,v):=by kernel_rfl):Calls P f args.toArray w (fun e w'=>e=.returned v/\Pure w w'):=by
 simp only[Prod.mk.injEq]at a;exact du b trivial (k fun H w1 hs=>⟨by rw[a.2.2],(ab.refl (F:=ar) w).au hs⟩) (by rw[a.1,a.2.1])
section
variable {w w1:World} {H:Nat->Prop} {l:List gh} {val:(Nat->Bool)->Value} {b:Nat->Bool}
def fe(m)(j:PR w R val b)(h:((aa P fn m c).cr,FN fn<|vv P fn m c)=((aa P fn m c).so,some (val b,w1)):=by kernel_rfl):GG (HS w ar w H w1 l) A (W P fn R c):=fun a hr=>rr m (fun _=>j H w1 a.s) h a hr
def I4{s:List ResultVar×List Value}(j:PR w R val b)(h:(s.1,Dd s.2,c.w)=([],val b,w1):=by kernel_rfl):GG (HS w ar w H w1 l) A (WS P R c s):=fun a hr=>ee (fun _=>j H w1 a.s) h a hr
end
end
section
variable {P:Program} {fn:Func} {R:Ending->World->Prop} {c:Cf} {π A:Prop}
end
section
variable {P:Program} {fn:Func} {R:Ending->World->Prop} {c:Cf} {π A:Prop}
def Ie(T:List (Nat×Value)->World->Prop)(m i ks)(ka:∀{J:bh->World->Prop},(∀{L w},T L w->∀{ρ},ek ρ (kp ks (vv P fn m c).ρ++L)->J ρ w)->GG π A (W P fn R<|jn i J<|vv P fn m c))(b:∀{L w ρ},T L w->W P fn R (pP i (kp ks (vv P fn m c).ρ++L) ρ w (vv P fn m c) []))(hs:(aa P fn m c).cr=(aa P fn m c).so):GG π A (W P fn R c):=fun a hr=>by
 refine W.on m hs<|C9 (i:=i) (J:=fun ρ w=>∃L,T L w/\ek ρ (kp ks (vv P fn m c).ρ++L)) ?_<|ka (fun ht _ hh=>⟨_,ht,hh⟩) a hr;rintro ρ w ⟨L,ht,hh⟩;have:=b (ρ:=ρ) ht (fun _ _ h=>by cases h);unfold pP at this;rw[uP hh]at this;exact this
def Pd{w0 wv w Hv H l}(m i ks)(f:List (Nat×Value))(B:(Nat->Prop)->World->Prop)(ka:∀{J:bh->World->Prop},(∀{H w},HS w0 H w H w l->B H w->∀{ρ},ek ρ (kp ks (vv P fn m c).ρ++f)->J ρ w)->GG (HS w0 Hv wv H w l) A (W P fn R<|jn i J<|vv P fn m c))(a:∀{H w ρ},GG (HS w0 H w H w l) (B H w)<|W P fn R<|pP i (kp ks (vv P fn m c).ρ++f) ρ w (vv P fn m c) [])(h:(aa P fn m c).cr=(aa P fn m c).so:=by kernel_rfl):GG (HS w0 Hv wv H w l) A (W P fn R c):=
 CA (fun L l' H w=>L=f/\l'=l/\B H w) m i ks (fun j=>ka fun s b _ h=>j ⟨rfl,rfl,b⟩ s h) (fun t s=>by obtain⟨rfl,rfl,b⟩:=t;exact a s b) h
def EL(m i:Nat)(a:List Nat)(f:List (Nat×Value))(B:World->Prop)(ka:∀{J:bh->World->Prop},(∀{w},B w->∀{ρ},ek ρ (kp a (vv P fn m c).ρ++f)->J ρ w)->GG π A (W P fn R<|jn i J<|vv P fn m c))(e:∀{w ρ},GG π (B w)<|W P fn R<|pP i (kp a (vv P fn m c).ρ++f) ρ w (vv P fn m c) [])(h:(aa P fn m c).cr=(aa P fn m c).so:=by kernel_rfl):GG π A (W P fn R c):=fun d hr =>
 Ie (fun L w=>L=f/\B w) m i a (fun j=>ka fun b _ h=>j ⟨rfl,b⟩ h) (fun t=>by obtain⟨rfl,b⟩:=t;exact e d b) h d hr
def ke{d:Type}{w0 wv w Hv H l}(m i ks)(f:d->List (Nat×Value))(B:d->(Nat->Prop)->World->Prop)(ka:∀{J:bh->World->Prop},(∀{a H w},HS w0 H w H w l->B a H w->∀{ρ},ek ρ (kp ks (vv P fn m c).ρ++(f a))->J ρ w)->GG (HS w0 Hv wv H w l) A (W P fn R<|jn i J<|vv P fn m c))(e:∀{a H w ρ},GG (HS w0 H w H w l) (B a H w)<|W P fn R<|pP i (kp ks (vv P fn m c).ρ++(f a)) ρ w (vv P fn m c) [])(h:(aa P fn m c).cr=(aa P fn m c).so:=by kernel_rfl):GG (HS w0 Hv wv H w l) A (W P fn R c):=
 CA (fun L l' H w=>∃a,L=(f a)/\l'=l/\B a H w) m i ks (fun j=>ka fun s b _ h=>j ⟨_,rfl,rfl,b⟩ s h) (fun t s=>by obtain⟨a,rfl,rfl,b⟩:=t;exact e s b) h
def uw{b:Type}{w0 w H l}{o:b}{B:(b->(Nat->Prop)->World->Prop)->(b->World->Nat)->b->(Nat->Prop)->World->Prop}(m ks)(f:b->List (Nat×Value))(k:∀{I e g d a ρ} {J:bh->World->Prop},(∀{i n w'},HS w0 n w' n w' l->(I i n w'/\e i w'<e g a)->∀{ρ},ek ρ (kp ks (vv P fn m c).ρ++(f i))->J ρ w')->GG (HS w0 d a d a l) (B I e g d a) (W P fn R<|ku J (kp ks (vv P fn m c).ρ++(f g)) ρ a<|vv P fn m c))(h:((aa P fn m c).cr,wk (vv P fn m c)<|kp ks (vv P fn m c).ρ++(f o))=((aa P fn m c).so,some (w,(kp ks (vv P fn m c).ρ++(f o)).map (·.2))):=by kernel_rfl):GG (HS w0 H w H w l) (∃(I:b->(Nat->Prop)->World->Prop) (e:b->World->Nat),I o H w/\∀g d a,af w0 d a d a->I g d a->B I e g d a) (W P fn R c):=by
 rintro t ⟨I,e,r,hr⟩;simp only[Prod.mk.injEq]at h;have⟨h1,h2⟩:=h;exact W.on m h1<|zF (σ:=b×(Nat->Prop)) (fun s=>kp ks (vv P fn m c).ρ++(f s.1)) (fun s w=>HS w0 s.2 w s.2 w l/\I s.1 s.2 w) (fun s w=>e s.1 w) (s0:=(o,H)) h2 ⟨t,r⟩ fun {s a ρ J} j p=>k (fun {i n w'} hS q _ hh=>j (s':=(i,n)) ⟨⟨hS,q.1⟩,q.2⟩ hh) p.1<|hr s.1 s.2 a p.1.s p.2
def me{d:Type}(m i ks)(f:d->List (Nat×Value))(B:d->World->Prop)(ka:∀{J:bh->World->Prop},(∀{a w},B a w->∀{ρ},ek ρ (kp ks (vv P fn m c).ρ++(f a))->J ρ w)->GG π A (W P fn R<|jn i J<|vv P fn m c))(g:∀{a w ρ},GG π (B a w)<|W P fn R<|pP i (kp ks (vv P fn m c).ρ++(f a)) ρ w (vv P fn m c) [])(h:(aa P fn m c).cr=(aa P fn m c).so:=by kernel_rfl):GG π A (W P fn R c):=fun e hr =>
 Ie (fun L w=>∃a,L=(f a)/\B a w) m i ks (fun j=>ka fun b _ h=>j ⟨_,rfl,b⟩ h) (fun t=>by obtain⟨a,rfl,b⟩:=t;exact g e b) h e hr
def As{a:Type}{w}{i:a}{B:(a->World->Prop)->(a->World->Nat)->a->World->Prop}(m ks)(f:a->List (Nat×Value))(k:∀{I d e b ρ} {J:bh->World->Prop},(∀{g w'},(I g w'/\d g w'<d e b)->∀{ρ},ek ρ (kp ks (vv P fn m c).ρ++(f g))->J ρ w')->GG π (B I d e b) (W P fn R<|ku J (kp ks (vv P fn m c).ρ++(f e)) ρ b<|vv P fn m c))(h:((aa P fn m c).cr,wk (vv P fn m c)<|kp ks (vv P fn m c).ρ++(f i))=((aa P fn m c).so,some (w,(kp ks (vv P fn m c).ρ++(f i)).map (·.2))):=by kernel_rfl):GG π (∃(I:a->World->Prop) (d:a->World->Nat),I i w/\∀e b,I e b->B I d e b) (W P fn R c):=by
 rintro n ⟨I,d,l,hr⟩;simp only[Prod.mk.injEq]at h;exact W.on m h.1<|zF (σ:=a) (fun s=>kp ks (vv P fn m c).ρ++(f s)) (fun s w=>I s w) (fun s w=>d s w) (s0:=(i)) h.2 l fun {s b ρ J} j p=>k (fun {g w'} o _ hh=>j (s':=(g)) (w':=w') o hh) n<|hr s b p
def vh{b d:Type}{w0 w H l}{r:b}{t:d}{B:(b->d->(Nat->Prop)->World->Prop)->(b->d->World->Nat)->b->d->(Nat->Prop)->World->Prop}(m ks)(f:b->d->List (Nat×Value))(k:∀{I g i n e a ρ} {J:bh->World->Prop},(∀{o q p w'},HS w0 p w' p w' l->(I o q p w'/\g o q w'<g i n a)->∀{ρ},ek ρ (kp ks (vv P fn m c).ρ++(f o q))->J ρ w')->GG (HS w0 e a e a l) (B I g i n e a) (W P fn R<|ku J (kp ks (vv P fn m c).ρ++(f i n)) ρ a<|vv P fn m c))(h:((aa P fn m c).cr,wk (vv P fn m c)<|kp ks (vv P fn m c).ρ++(f r t))=((aa P fn m c).so,some (w,(kp ks (vv P fn m c).ρ++(f r t)).map (·.2))):=by kernel_rfl):GG (HS w0 H w H w l) (∃(I:b->d->(Nat->Prop)->World->Prop) (g:b->d->World->Nat),I r t H w/\∀i n e a,af w0 e a e a->I i n e a->B I g i n e a) (W P fn R c):=by
 rintro y ⟨I,g,x,hr⟩;simp only[Prod.mk.injEq]at h;have⟨h1,h2⟩:=h;exact W.on m h1<|zF (σ:=b×d×(Nat->Prop)) (fun s=>kp ks (vv P fn m c).ρ++(f s.1 s.2.1)) (fun s w=>HS w0 s.2.2 w s.2.2 w l/\I s.1 s.2.1 s.2.2 w) (fun s w=>g s.1 s.2.1 w) (s0:=(r,t,H)) h2 ⟨y,x⟩ fun {s a ρ J} j u=>k (fun {o q p w'} hS v _ hh=>j (s':=(o,q,p)) ⟨⟨hS,v.1⟩,v.2⟩ hh) u.1<|hr s.1 s.2.1 s.2.2 a u.1.s u.2
def jc2{e g:Type}(m i ks)(f:e->g->List (Nat×Value))(B:e->g->World->Prop)(ka:∀{J:bh->World->Prop},(∀{a d w},B a d w->∀{ρ},ek ρ (kp ks (vv P fn m c).ρ++(f a d))->J ρ w)->GG π A (W P fn R<|jn i J<|vv P fn m c))(l:∀{a d w ρ},GG π (B a d w)<|W P fn R<|pP i (kp ks (vv P fn m c).ρ++(f a d)) ρ w (vv P fn m c) [])(h:(aa P fn m c).cr=(aa P fn m c).so:=by kernel_rfl):GG π A (W P fn R c):=fun k hr =>
 Ie (fun L w=>∃a d,L=(f a d)/\B a d w) m i ks (fun j=>ka fun b _ h=>j ⟨_,_,rfl,b⟩ h) (fun t=>by obtain⟨a,d,rfl,b⟩:=t;exact l k b) h k hr
def Dr{a b:Type}{w}{o:a}{p:b}{B:(a->b->World->Prop)->(a->b->World->Nat)->a->b->World->Prop}(m ks)(f:a->b->List (Nat×Value))(k:∀{I e g i d ρ} {J:bh->World->Prop},(∀{l n w'},(I l n w'/\e l n w'<e g i d)->∀{ρ},ek ρ (kp ks (vv P fn m c).ρ++(f l n))->J ρ w')->GG π (B I e g i d) (W P fn R<|ku J (kp ks (vv P fn m c).ρ++(f g i)) ρ d<|vv P fn m c))(h:((aa P fn m c).cr,wk (vv P fn m c)<|kp ks (vv P fn m c).ρ++(f o p))=((aa P fn m c).so,some (w,(kp ks (vv P fn m c).ρ++(f o p)).map (·.2))):=by kernel_rfl):GG π (∃(I:a->b->World->Prop) (e:a->b->World->Nat),I o p w/\∀g i d,I g i d->B I e g i d) (W P fn R c):=by
 rintro r ⟨I,e,q,hr⟩;simp only[Prod.mk.injEq]at h;exact W.on m h.1<|zF (σ:=a×b) (fun s=>kp ks (vv P fn m c).ρ++(f s.1 s.2)) (fun s w=>I s.1 s.2 w) (fun s w=>e s.1 s.2 w) (s0:=(o,p)) h.2 q fun {s d ρ J} j u=>k (fun {l n w'} t _ hh=>j (s':=(l,n)) (w':=w') t hh) r<|hr s.1 s.2 d u
def TG{a b e:Type}{w}{t:a}{u:b}{r:e}{B:(a->b->e->World->Prop)->(a->b->e->World->Nat)->a->b->e->World->Prop}(m ks)(f:a->b->e->List (Nat×Value))(k:∀{I g l n i d ρ} {J:bh->World->Prop},(∀{o q p w'},(I o q p w'/\g o q p w'<g l n i d)->∀{ρ},ek ρ (kp ks (vv P fn m c).ρ++(f o q p))->J ρ w')->GG π (B I g l n i d) (W P fn R<|ku J (kp ks (vv P fn m c).ρ++(f l n i)) ρ d<|vv P fn m c))(h:((aa P fn m c).cr,wk (vv P fn m c)<|kp ks (vv P fn m c).ρ++(f t u r))=((aa P fn m c).so,some (w,(kp ks (vv P fn m c).ρ++(f t u r)).map (·.2))):=by kernel_rfl):GG π (∃(I:a->b->e->World->Prop) (g:a->b->e->World->Nat),I t u r w/\∀l n i d,I l n i d->B I g l n i d) (W P fn R c):=by
 rintro x ⟨I,g,v,hr⟩;simp only[Prod.mk.injEq]at h;exact W.on m h.1<|zF (σ:=a×b×e) (fun s=>kp ks (vv P fn m c).ρ++(f s.1 s.2.1 s.2.2)) (fun s w=>I s.1 s.2.1 s.2.2 w) (fun s w=>g s.1 s.2.1 s.2.2 w) (s0:=(t,u,r)) h.2 v fun {s d ρ J} j z=>k (fun {o q p w'} y _ hh=>j (s':=(o,q,p)) (w':=w') y hh) x<|hr s.1 s.2.1 s.2.2 d z
def N9{n o q p r:Type}{w0 wv w Hv H l}(m i ks)(f:n->o->q->p->r->List (Nat×Value))(hs:n->o->q->p->r->List gh->List gh)(B:n->o->q->p->r->(Nat->Prop)->World->Prop)(ka:∀{J:bh->World->Prop},(∀{d e a k g H w},HS w0 H w H w (hs d e a k g l)->B d e a k g H w->∀{ρ},ek ρ (kp ks (vv P fn m c).ρ++(f d e a k g))->J ρ w)->GG (HS w0 Hv wv H w l) A (W P fn R<|jn i J<|vv P fn m c))(u:∀{d e a k g H w ρ},GG (HS w0 H w H w<|hs d e a k g l) (B d e a k g H w)<|W P fn R<|pP i (kp ks (vv P fn m c).ρ++(f d e a k g)) ρ w (vv P fn m c) [])(h:(aa P fn m c).cr=(aa P fn m c).so:=by kernel_rfl):GG (HS w0 Hv wv H w l) A (W P fn R c):=
 CA (fun L l' H w=>∃d e a k g,L=(f d e a k g)/\l'=(hs d e a k g l)/\B d e a k g H w) m i ks (fun j=>ka fun s b _ h=>j ⟨_,_,_,_,_,rfl,rfl,b⟩ s h) (fun t s=>by obtain⟨d,e,a,k,g,rfl,rfl,b⟩:=t;exact u s b) h
def Bb{p q x u y v r:Type}{w0 wv w Hv H l}(m i ks)(f:p->q->x->u->y->v->r->List (Nat×Value))(hs:p->q->x->u->y->v->r->List gh->List gh)(B:p->q->x->u->y->v->r->(Nat->Prop)->World->Prop)(ka:∀{J:bh->World->Prop},(∀{d e a o n k g H w},HS w0 H w H w (hs d e a o n k g l)->B d e a o n k g H w->∀{ρ},ek ρ (kp ks (vv P fn m c).ρ++(f d e a o n k g))->J ρ w)->GG (HS w0 Hv wv H w l) A (W P fn R<|jn i J<|vv P fn m c))(z:∀{d e a o n k g H w ρ},GG (HS w0 H w H w<|hs d e a o n k g l) (B d e a o n k g H w)<|W P fn R<|pP i (kp ks (vv P fn m c).ρ++(f d e a o n k g)) ρ w (vv P fn m c) [])(h:(aa P fn m c).cr=(aa P fn m c).so:=by kernel_rfl):GG (HS w0 Hv wv H w l) A (W P fn R c):=
 CA (fun L l' H w=>∃d e a o n k g,L=(f d e a o n k g)/\l'=(hs d e a o n k g l)/\B d e a o n k g H w) m i ks (fun j=>ka fun s b _ h=>j ⟨_,_,_,_,_,_,_,rfl,rfl,b⟩ s h) (fun t s=>by obtain⟨d,e,a,o,n,k,g,rfl,rfl,b⟩:=t;exact z s b) h
def wb8{i o d b p e n g:Type}{w0 w H l}{F:i}{V:o}{T:d}{Q:b}{M:p}{G:e}{Y:n}{L:g}{B:(i->o->d->b->p->e->n->g->(Nat->Prop)->World->Prop)->(i->o->d->b->p->e->n->g->World->Nat)->i->o->d->b->p->e->n->g->(Nat->Prop)->World->Prop}(m ks)(f:i->o->d->b->p->e->n->g->List (Nat×Value))(hs:i->o->d->b->p->e->n->g->List gh->List gh)(k:∀{I A y z r x v C u t q a ρ} {J:bh->World->Prop},(∀{D U X S K N O E Z w'},HS w0 Z w' Z w' (hs D U X S K N O E l)->(I D U X S K N O E Z w'/\A D U X S K N O E w'<A y z r x v C u t a)->∀{ρ},ek ρ (kp ks (vv P fn m c).ρ++(f D U X S K N O E))->J ρ w')->GG (HS w0 q a q a<|hs y z r x v C u t l) (B I A y z r x v C u t q a) (W P fn R<|ku J (kp ks (vv P fn m c).ρ++(f y z r x v C u t)) ρ a<|vv P fn m c))(h:((aa P fn m c).cr,wk (vv P fn m c)<|kp ks (vv P fn m c).ρ++(f F V T Q M G Y L),l)=((aa P fn m c).so,some (w,(kp ks (vv P fn m c).ρ++(f F V T Q M G Y L)).map (·.2)),(hs F V T Q M G Y L l)):=by kernel_rfl):GG (HS w0 H w H w l) (∃(I:i->o->d->b->p->e->n->g->(Nat->Prop)->World->Prop) (A:i->o->d->b->p->e->n->g->World->Nat),I F V T Q M G Y L H w/\∀y z r x v C u t q a,af w0 q a q a->I y z r x v C u t q a->B I A y z r x v C u t q a) (W P fn R c):=by
 rintro hp ⟨I,A,h0,hr⟩;simp only[Prod.mk.injEq]at h;have⟨h1,h2,h3⟩:=h;replace hp:HS w0 H w H w (hs F V T Q M G Y L l):=by rw[<-h3];exact hp
 exact W.on m h1<|zF (σ:=i×o×d×b×p×e×n×g×(Nat->Prop)) (fun s=>kp ks (vv P fn m c).ρ++(f s.1 s.2.1 s.2.2.1 s.2.2.2.1 s.2.2.2.2.1 s.2.2.2.2.2.1 s.2.2.2.2.2.2.1 s.2.2.2.2.2.2.2.1)) (fun s w=>HS w0 s.2.2.2.2.2.2.2.2 w s.2.2.2.2.2.2.2.2 w (hs s.1 s.2.1 s.2.2.1 s.2.2.2.1 s.2.2.2.2.1 s.2.2.2.2.2.1 s.2.2.2.2.2.2.1 s.2.2.2.2.2.2.2.1 l)/\I s.1 s.2.1 s.2.2.1 s.2.2.2.1 s.2.2.2.2.1 s.2.2.2.2.2.1 s.2.2.2.2.2.2.1 s.2.2.2.2.2.2.2.1 s.2.2.2.2.2.2.2.2 w) (fun s w=>A s.1 s.2.1 s.2.2.1 s.2.2.2.1 s.2.2.2.2.1 s.2.2.2.2.2.1 s.2.2.2.2.2.2.1 s.2.2.2.2.2.2.2.1 w) (s0:=(F,V,T,Q,M,G,Y,L,H)) h2 ⟨hp,h0⟩ fun {s a ρ J} j hI=>k (fun {D U X S K N O E Z w'} hS hq _ hh=>j (s':=(D,U,X,S,K,N,O,E,Z)) ⟨⟨hS,hq.1⟩,hq.2⟩ hh) hI.1<|hr s.1 s.2.1 s.2.2.1 s.2.2.2.1 s.2.2.2.2.1 s.2.2.2.2.2.1 s.2.2.2.2.2.2.1 s.2.2.2.2.2.2.2.1 s.2.2.2.2.2.2.2.2 a hI.1.s hI.2
def wF{w:World}{f:FuncId}{args:Array Value}{F:Value}{r:World->Prop}(m:Nat)(b:∀args w,(callFunc f args).run P w=.ok (.enter f args) w)(k:∀{a},GG (π) (r a)<|W P fn R<|uC F a<|vv P fn m c)(h1:jm (vv P fn m c)=true:=by kernel_rfl)(h:((aa P fn m c).cr,mz<|vv P fn m c,gg<|vv P fn m c,(vv P fn m c).w)=((aa P fn m c).so,some (f,args),true,w):=by kernel_rfl):GG (π) (Calls P f args w fun e a=>e=.returned F/\r a) (W P fn R c):=cc m b (rt<|eo k h1) h
def ri{b w:World}{H:Nat->Prop}{l:List gh}{f:FuncId}{args:Array Value}{F:Value}{r:World->Prop}(m:Nat)(d:∀args w,(callFunc f args).run P w=.ok (.enter f args) w)(k:∀{a},GG (HS b H a H a l) (r a)<|W P fn R<|uC F a<|vv P fn m c)(h1:jm (vv P fn m c)=true:=by kernel_rfl)(h:((aa P fn m c).cr,mz<|vv P fn m c,gg<|vv P fn m c,(vv P fn m c).w)=((aa P fn m c).so,some (f,args),true,w):=by kernel_rfl):GG (HS b H w H w l) (Calls P f args w fun e a=>e=.returned F/\aj H w a/\r a) (W P fn R c):=cc m d (rt<|iv k h1) h
def gd{d:Type}{w f args}{F:d->Value}{r:d->World->Prop}(m)(g:∀args w,(callFunc f args).run P w=.ok (.enter f args) w)(k:∀{a b},GG (π) (r a b)<|W P fn R<|uC (F a) b<|vv P fn m c)(h1:jm (vv P fn m c)=true:=by kernel_rfl)(h:((aa P fn m c).cr,mz<|vv P fn m c,gg<|vv P fn m c,(vv P fn m c).w)=((aa P fn m c).so,some (f,args),true,w):=by kernel_rfl):GG (π) (Calls P f args w fun e b=>∃a,e=.returned (F a)/\r a b) (W P fn R c):=cc m g (xe<|rt<|eo k h1) h
def dw{d:Type}{w0 w H l f args}{F:d->Value}{r:d->World->Prop}(m)(g:∀args w,(callFunc f args).run P w=.ok (.enter f args) w)(k:∀{b a},GG (HS w0 H a H a l) (r b a)<|W P fn R<|uC (F b) a<|vv P fn m c)(h1:jm (vv P fn m c)=true:=by kernel_rfl)(h:((aa P fn m c).cr,mz<|vv P fn m c,gg<|vv P fn m c,(vv P fn m c).w)=((aa P fn m c).so,some (f,args),true,w):=by kernel_rfl):GG (HS w0 H w H w l) (Calls P f args w fun e a=>∃b,e=.returned (F b)/\aj H w a/\r b a) (W P fn R c):=cc m g (xe<|rt<|iv k h1) h
def mg{d:Type}{w0 w H l C f args}{F:d->Value}{r:d->World->Prop}(m)(g:∀args w,(callFunc f args).run P w=.ok (.enter f args) w)(k:∀{b a},GG (HS w0 H a H a l) (r b a)<|W P fn R<|uC (F b) a<|vv P fn m c)(h1:(ov<|vv P fn m c,qt<|vv P fn m c,oo<|vv P fn m c)=(some C,H,l):=by kernel_rfl)(h:((aa P fn m c).cr,mz<|vv P fn m c,gg<|vv P fn m c,(vv P fn m c).w)=((aa P fn m c).so,some (f,args),true,w):=by kernel_rfl):GG (HS w0 H w H w l) (Calls P f args w fun e a=>∃b,e=.returned (F b)/\C a/\aj H w a/\r b a) (W P fn R c):=cc m g (xe<|rt<|sM k h1) h
def lv{g i:Type}{w f args}{F:g->i->Value}{r:g->i->World->Prop}(m)(j:∀args w,(callFunc f args).run P w=.ok (.enter f args) w)(k:∀{a b d},GG (π) (r a b d)<|W P fn R<|uC (F a b) d<|vv P fn m c)(h1:jm (vv P fn m c)=true:=by kernel_rfl)(h:((aa P fn m c).cr,mz<|vv P fn m c,gg<|vv P fn m c,(vv P fn m c).w)=((aa P fn m c).so,some (f,args),true,w):=by kernel_rfl):GG (π) (Calls P f args w fun e d=>∃a b,e=.returned (F a b)/\r a b d) (W P fn R c):=cc m j (dt<|rt<|eo k h1) h
def im{g i:Type}{w0 w H l f args}{F:g->i->Value}{r:g->i->World->Prop}(m)(j:∀args w,(callFunc f args).run P w=.ok (.enter f args) w)(k:∀{b d a},GG (HS w0 H a H a l) (r b d a)<|W P fn R<|uC (F b d) a<|vv P fn m c)(h1:jm (vv P fn m c)=true:=by kernel_rfl)(h:((aa P fn m c).cr,mz<|vv P fn m c,gg<|vv P fn m c,(vv P fn m c).w)=((aa P fn m c).so,some (f,args),true,w):=by kernel_rfl):GG (HS w0 H w H w l) (Calls P f args w fun e a=>∃b d,e=.returned (F b d)/\aj H w a/\r b d a) (W P fn R c):=cc m j (dt<|rt<|iv k h1) h
def Ax{g i:Type}{w0 w H l C f args}{F:g->i->Value}{r:g->i->World->Prop}(m)(j:∀args w,(callFunc f args).run P w=.ok (.enter f args) w)(k:∀{b d a},GG (HS w0 H a H a l) (r b d a)<|W P fn R<|uC (F b d) a<|vv P fn m c)(h1:(ov<|vv P fn m c,qt<|vv P fn m c,oo<|vv P fn m c)=(some C,H,l):=by kernel_rfl)(h:((aa P fn m c).cr,mz<|vv P fn m c,gg<|vv P fn m c,(vv P fn m c).w)=((aa P fn m c).so,some (f,args),true,w):=by kernel_rfl):GG (HS w0 H w H w l) (Calls P f args w fun e a=>∃b d,e=.returned (F b d)/\C a/\aj H w a/\r b d a) (W P fn R c):=cc m j (dt<|rt<|sM k h1) h
def BR{i j l:Type}{w f args}{F:i->j->l->Value}{r:i->j->l->World->Prop}(m)(n:∀args w,(callFunc f args).run P w=.ok (.enter f args) w)(k:∀{b d a g},GG (π) (r b d a g)<|W P fn R<|uC (F b d a) g<|vv P fn m c)(h1:jm (vv P fn m c)=true:=by kernel_rfl)(h:((aa P fn m c).cr,mz<|vv P fn m c,gg<|vv P fn m c,(vv P fn m c).w)=((aa P fn m c).so,some (f,args),true,w):=by kernel_rfl):GG (π) (Calls P f args w fun e g=>∃b d a,e=.returned (F b d a)/\r b d a g) (W P fn R c):=cc m n (uy<|rt<|eo k h1) h
def NQ{i j n:Type}{w0 w H l f args}{F:i->j->n->Value}{r:i->j->n->World->Prop}(m)(o:∀args w,(callFunc f args).run P w=.ok (.enter f args) w)(k:∀{d g b a},GG (HS w0 H a H a l) (r d g b a)<|W P fn R<|uC (F d g b) a<|vv P fn m c)(h1:jm (vv P fn m c)=true:=by kernel_rfl)(h:((aa P fn m c).cr,mz<|vv P fn m c,gg<|vv P fn m c,(vv P fn m c).w)=((aa P fn m c).so,some (f,args),true,w):=by kernel_rfl):GG (HS w0 H w H w l) (Calls P f args w fun e a=>∃d g b,e=.returned (F d g b)/\aj H w a/\r d g b a) (W P fn R c):=cc m o (uy<|rt<|iv k h1) h
def Ma{i j n:Type}{w0 w H l C f args}{F:i->j->n->Value}{r:i->j->n->World->Prop}(m)(o:∀args w,(callFunc f args).run P w=.ok (.enter f args) w)(k:∀{d g b a},GG (HS w0 H a H a l) (r d g b a)<|W P fn R<|uC (F d g b) a<|vv P fn m c)(h1:(ov<|vv P fn m c,qt<|vv P fn m c,oo<|vv P fn m c)=(some C,H,l):=by kernel_rfl)(h:((aa P fn m c).cr,mz<|vv P fn m c,gg<|vv P fn m c,(vv P fn m c).w)=((aa P fn m c).so,some (f,args),true,w):=by kernel_rfl):GG (HS w0 H w H w l) (Calls P f args w fun e a=>∃d g b,e=.returned (F d g b)/\C a/\aj H w a/\r d g b a) (W P fn R c):=cc m o (uy<|rt<|sM k h1) h
def ca4{j n p o:Type}{w0 w H l f args}{F:j->n->p->o->Value}{r:j->n->p->o->World->Prop}(m)(q:∀args w,(callFunc f args).run P w=.ok (.enter f args) w)(k:∀{d g b i a},GG (HS w0 H a H a l) (r d g b i a)<|W P fn R<|uC (F d g b i) a<|vv P fn m c)(h1:jm (vv P fn m c)=true:=by kernel_rfl)(h:((aa P fn m c).cr,mz<|vv P fn m c,gg<|vv P fn m c,(vv P fn m c).w)=((aa P fn m c).so,some (f,args),true,w):=by kernel_rfl):GG (HS w0 H w H w l) (Calls P f args w fun e a=>∃d g b i,e=.returned (F d g b i)/\aj H w a/\r d g b i a) (W P fn R c):=cc m q (HZ<|rt<|iv k h1) h
def sO{l n p o q:Type}{w f args}{F:l->n->p->o->q->Value}{r:l->n->p->o->q->World->Prop}(m)(s:∀args w,(callFunc f args).run P w=.ok (.enter f args) w)(k:∀{b d a i g j},GG (π) (r b d a i g j)<|W P fn R<|uC (F b d a i g) j<|vv P fn m c)(h1:jm (vv P fn m c)=true:=by kernel_rfl)(h:((aa P fn m c).cr,mz<|vv P fn m c,gg<|vv P fn m c,(vv P fn m c).w)=((aa P fn m c).so,some (f,args),true,w):=by kernel_rfl):GG (π) (Calls P f args w fun e j=>∃b d a i g,e=.returned (F b d a i g)/\r b d a i g j) (W P fn R c):=cc m s (gv<|rt<|eo k h1) h
def lk{n o s p t q:Type}{w f args}{F:n->o->s->p->t->q->Value}{r:n->o->s->p->t->q->World->Prop}(m)(u:∀args w,(callFunc f args).run P w=.ok (.enter f args) w)(k:∀{b d a j i g l},GG (π) (r b d a j i g l)<|W P fn R<|uC (F b d a j i g) l<|vv P fn m c)(h1:jm (vv P fn m c)=true:=by kernel_rfl)(h:((aa P fn m c).cr,mz<|vv P fn m c,gg<|vv P fn m c,(vv P fn m c).w)=((aa P fn m c).so,some (f,args),true,w):=by kernel_rfl):GG (π) (Calls P f args w fun e l=>∃b d a j i g,e=.returned (F b d a j i g)/\r b d a j i g l) (W P fn R c):=cc m u (cj<|rt<|eo k h1) h
def po{o p t q u s:Type}{w0 w H l f args}{F:o->p->t->q->u->s->Value}{r:o->p->t->q->u->s->World->Prop}(m)(v:∀args w,(callFunc f args).run P w=.ok (.enter f args) w)(k:∀{d g b n j i a},GG (HS w0 H a H a l) (r d g b n j i a)<|W P fn R<|uC (F d g b n j i) a<|vv P fn m c)(h1:jm (vv P fn m c)=true:=by kernel_rfl)(h:((aa P fn m c).cr,mz<|vv P fn m c,gg<|vv P fn m c,(vv P fn m c).w)=((aa P fn m c).so,some (f,args),true,w):=by kernel_rfl):GG (HS w0 H w H w l) (Calls P f args w fun e a=>∃d g b n j i,e=.returned (F d g b n j i)/\aj H w a/\r d g b n j i a) (W P fn R c):=cc m v (cj<|rt<|iv k h1) h
def va{o p t q u s:Type}{w0 w H l C f args}{F:o->p->t->q->u->s->Value}{r:o->p->t->q->u->s->World->Prop}(m)(v:∀args w,(callFunc f args).run P w=.ok (.enter f args) w)(k:∀{d g b n j i a},GG (HS w0 H a H a l) (r d g b n j i a)<|W P fn R<|uC (F d g b n j i) a<|vv P fn m c)(h1:(ov<|vv P fn m c,qt<|vv P fn m c,oo<|vv P fn m c)=(some C,H,l):=by kernel_rfl)(h:((aa P fn m c).cr,mz<|vv P fn m c,gg<|vv P fn m c,(vv P fn m c).w)=((aa P fn m c).so,some (f,args),true,w):=by kernel_rfl):GG (HS w0 H w H w l) (Calls P f args w fun e a=>∃d g b n j i,e=.returned (F d g b n j i)/\C a/\aj H w a/\r d g b n j i a) (W P fn R c):=cc m v (cj<|rt<|sM k h1) h
end
end Go.SE
end
section
open Go Go.SE List
open Go.IntKind renaming i64 -> q6
namespace Go.Proofs
open Tryz
set_option maxRecDepth 100000
set_option maxHeartbeats 4000000
attribute [local irreducible] bu fw fg dv Calls
attribute [local irreducible] jq W WV WR uC pv ku jn oe ka mm kq ll np my iy ez ij nn kz kp uS xD yC bn ub
def WU(s1:Sl)(a:World)(K:Sl->WP):Prop:=∃b1,(Go.binOp .eql 46 s1.v Sl.nil.v).run prog a=.ok (vb b1) a/\Br b1 (K Sl.nil a) (∀c d,av a (.cells #[] 73) c d->∃b:Sl,∃e:World,(Builtin.append_ #[46,46] 46 #[(Sl.mk (some c) 0 0).v,s1.v]).run prog d=.ok b.v e/\K b e)
def jcl(s1 w0 K)(h:WU s1 w0 K):
  cl 129 #[s1.v] w0<|XA K:=
 cy func129 h<|xe<|rb 2<|br 0 0 (rr 2)<|cf 1<|dt<|ef 1<|eo<|rr 1
def jaP(s1:Sl)(e b:Int)(a:World)(c:Int->WP)(K:Int->WP):Prop:=Br (decide (b<(s1.len:Int))) (∃a1:Addr,At s1 b 1 a1/\li a a1 fun d=>Br (e==d) (K b a)<|c (q6.wrap<|b+1) a)<|K (-1) a
def Lg(s1:Sl)(g:Int)(f:World)(K:Int->WP):Prop:=∃(e:Int->WP) (c:Int->World->Nat),e 0 f/\∀(d:Int) (a:World),e d a->jaP s1 g d a (fun b w'=>e b w'/\c b w'<c d a) K
def jab(s1 v1 w0 K)(h:Lg s1 v1 w0 K):
  cl 162 #[s1.v,(vi v1)] w0<|XB K:=
 cy func162 h<|As 4 [0,1,7] (fun a=>[(8,(vi a))])<|fun {_ _ a}=>fun b=>br 0 1 (ix 6<|ld 0<|br 0 1 (rr 3)<|df 3 b)<|rr 2
def jbt(s1:Sl)(a:Int)(c:World)(K:Bool->WP):Prop:=cl 162 #[s1.v,(vi a)] c<|XB fun r1 b=>K (decide (r1>=0)) b
def RK(s1 v1 w0 K)(h:jbt s1 v1 w0 K):
  cl 133 #[s1.v,(vi v1)] w0<|XC K:=
 cy func133 h<|gd 3 call162<|rr 2
end Go.Proofs
end
section
open Go Go.SE List
namespace Go.Proofs
open Tryz
attribute [local irreducible] Calls
def cd(ts:List Int):List (List Value):=ts.map fun t=>[vi t]
def vA(ts):(cd ts).length=ts.length:=by simp[cd]
def zHL(ts):∀q∈cd ts,q.all vJ=true:=by intro q a;obtain⟨t,_,rfl⟩:=mem_map.1 a;rfl
def WJ(ts):∀q∈cd ts,q.length=1:=by intro q a;obtain⟨t,_,rfl⟩:=mem_map.1 a;rfl
def sZ:km prog 46 73 1 8:=by
 refine⟨underlying46,⟨t73,_,Kf,(by kernel_rfl:t73.zero=some (vi 0)),Kf,Kf,rfl⟩,Om⟩
structure fv(w:World)(e:TypeId)(sz:Nat)(rs:List (List Value))(s:Sl)(w':World):Prop where
 cm:bg w' e sz s rs
 ak:∀b,s.aq b->w.heap.size<=b
 pure:Pure w w'
def fv.bk{w H e sz rs s w'}(h:fv w e sz rs s w'):aj H w w':=h.pure.bz
def uJ{S w s ts}(h:dr S w 1 s (cd ts)){j}(b:j<ts.length):∃a,At s j 1 a/\S a.block/\w.cell? a=some (vi ts[j]):=by
 have⟨a,h1,h2,h3⟩:=h.at_ j (by simpa[cd]using b);exact⟨a,h1,h2,zi<|by simpa[cd]using h3⟩
def jGO{P}(w d){t e}(a l c)(h:P.underlying t=some (.slice e)):(Op.equalIn (d+1) t (.slice a l c)<|.slice none 0 0).run P w=.ok a.isNone w:=by
 cases a<;>simp[Op.equalIn,run_underlying h]
def KB{P}(w){t e}(a l c)(h:P.underlying t=some (.slice e)):(Go.binOp .eql t (.slice a l c)<|.slice none 0 0).run P w=.ok (vb a.isNone) w:=by
 simp only[Go.binOp];simp[Op.equal,Op.maxDepth,jGO w 9999 a l c h]
def zBI{S}(s ts v w0)(hs:dr S w0 1 s (cd ts))(m:ts.length<=1000000):
  cl 162 #[s.v,vi v] w0<|XB fun r w'=>(decide (r>=0)=decide (v∈ts))/\w'=w0:=by
 refine jab _ _ w0 _ ?_
 unfold Lg
 have g:s.len=ts.length:=by rw[hs.len,vA]
 refine⟨fun i w'=>w'=w0/\∃j:Nat,i=j/\j<=ts.length/\v∉ts.take j,fun i _=>((ts.length:Int)-i).toNat,⟨rfl,0,rfl,Nat.zero_le _,Sm⟩,?_⟩
 rintro _ _ ⟨rfl,j,rfl,l,k⟩
 refine⟨fun h=>?_,fun h=>?_⟩
 have b:=vQ g h
 have⟨a,d,_,f⟩:=uJ hs b
 have c:ts.take (j+1)=ts.take j++[ts[j]]:=take_succ_eq_append_getElem b
 refine⟨a,d,_,f,fun h=>⟨?_,rfl⟩,fun h=>?_⟩
 grind
 rw[zM b Om]
 refine⟨⟨rfl,j+1,rfl,b,?_⟩,yQ b⟩
 rw[c,mem_append,mem_singleton]
 rintro(e|e)
 exact k e
 simp[e]at h
 grind
def V8{S}(s ts v w0)(hs:dr S w0 1 s (cd ts))(a:ts.length<=1000000):
  cl 133 #[s.v,vi v] w0<|XC fun r w'=>r=decide (v∈ts)/\w'=w0:=by
 refine RK _ _ w0 _ ?_
 refine(zBI s ts v w0 hs a).mono ?_
 rintro _ _ ⟨r,rfl,hr,rfl⟩
 exact⟨_,rfl,hr,rfl⟩
def UO{S:NP}(s:Sl)(ts:List Int)(c:World)(hs:dr S c 1 s (cd ts))(l:s.a=none->s=Sl.nil)(u:ts.length<=1000000):
  cl 129 #[s.v] c<|XA fun r w'=>fv c 73 1 (cd ts) r w':=by
 refine jcl _ c _ ?_
 refine⟨s.a.isNone,?_,fun h=>?_,fun h=>?_⟩
 exact KB c s.a s.len s.cap underlying46
 have f:=l<|Option.isNone_iff_eq_none.1 h
 subst f
 have:ts=[]:=by have:=hs.len;rw[vA]at this;exact length_eq_zero_iff.1 this.symm
 subst this
 exact⟨bg.nil _ _ _,fun b d=>(by have⟨a,j,_⟩:=d;cases j),ab.refl _⟩
 intro n o h1
 have i:Pure c o:=ab.ax h1
 have⟨k,q,hr,m,p,d⟩:=(bg.empty (sz:=1) h1).AM (P:=prog) (ty:=46) sZ (hs.pure i) (WJ _) (zHL _) (by rw[vA];simp;omega) (by rw[vA];simp[maxLen];omega)
 have t:=h1.cu
 have g:∀b,(Sl.mk (some n) 0 0).aq b->c.heap.size<=b:=fun b d=>(by have⟨a,j,e⟩:=d;cases j;omega)
 exact⟨k,q,hr,by simpa using m,fun b h=>(d b h).elim (g b) fun h=>Oh i.size,i.cg p Gd⟩
end Go.Proofs
end
