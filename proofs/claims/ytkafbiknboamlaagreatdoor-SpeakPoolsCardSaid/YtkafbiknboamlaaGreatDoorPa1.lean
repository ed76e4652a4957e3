import Derived.Orders
import Derived.OrdersIn
import Derived.Still
import Derived.RangeFuncLeaves
import Derived.Tactics
import Derived.Scope
import Derived.TacticsIn
import Derived.RangeFuncRecord
import Derived.Laws.StructEq
import Derived.Laws.Rows
import Derived.Laws.NewBlocks
import Derived.Laws.Strings
import Derived.Laws.Pointers
import Derived.Below
import Derived.Laws.AppendOwn
import Derived.Laws.MakeOwn
import Derived.IntWalk
import Derived.KernelRfl
import Derived.RangeFuncSeq
import Derived.RangeFuncIn
import Derived.Test.YtkafbiknboamlaaGreatDoorProg
import Derived.Laws.IdiomStrings
import Derived.Test.YtkafbiknboamlaaGreatDoorPa0
import Derived.Laws.DeepStrings4
section
namespace Go.SE
abbrev NP:=Nat→Prop
abbrev WP:=World→Prop
def yld (P:Program) (o:Oper) (ε:Operand→Value) (w:World) (R:Value→World→Prop):Prop :=
 match (execOp ε o).run P w with
 | .ok (.value v) w'=>R v w'
 | .ok .skip w'=>R undef w'
 | .ok (.enter f args) w'=>Calls P f args w' (fun e w''=>∃v,e=.returned v∧R v w'')
 | .ok (.row row args) w'=>Rows P row args w' R
 | .ok (.round l f tmps assign body) w'=>RoundIn Fence.wide 0 P l f tmps assign body w' (fun e w''=>∃v,e=.returned v∧R v w'')
 | _=>False
section
variable {P:Program} {ops:Array Oper} {md:Region.Mode} {C:World→Prop}
theorem qM {o:Oper} {ε:Operand→Value} {w:World} {R R':Value→World→Prop} (h:yld P o ε w R) (hr:∀v w',R v w'→R' v w'):yld P o ε w R':=by
 unfold yld at *;generalize (execOp ε o).run P w=r at *;cases r with
 | ok n w' =>
  cases n <;> simp only at h ⊢ <;> first
   | exact hr _ _ h
   | exact h.mono fun e w'' ⟨v,he,hR⟩=>⟨v,he,hr _ _ hR⟩
   | exact RoundIn.mono h fun e w'' ⟨v,he,hR⟩=>⟨v,he,hr _ _ hR⟩
   | exact h.mono hr
 | halt x w'=>exact h
def fen:Option Nat→Fence
 | none=>Fence.wide
 | some l=>Fence.wide.inRound l
theorem jCD (ro:Option Nat):(fen ro).round=ro:=by cases ro <;> rfl
theorem tI (ro:Option Nat) (f:FuncId):(fen ro).fn f:=by cases ro <;> trivial
theorem jCE (ro:Option Nat):(fen ro).depth=none:=by cases ro <;> rfl
theorem Calls.fen {ro:Option Nat} {m:Nat} {f:FuncId} {args:Array Value} {w:World} {R:Ending→World→Prop} (h:Calls P f args w R):CallsIn (SE.fen ro) m P f args w R:=by
 cases ro with
 | none=>exact callsIn_wide.2 h
 | some l=>exact (callsIn_wide.2 h:CallsIn Fence.wide m P f args w R)
theorem Rows.fen {ro:Option Nat} {m:Nat} {row:String} {args:Array Value} {w:World} {R:Value→World→Prop} (h:Rows P row args w R):RowsIn (SE.fen ro) m P row args w R:=by
 have h':RowsIn Fence.wide m P row args w R:=fun c cs _=>let ⟨v,w',r,s⟩:=h c cs;⟨v,w',r,stepsIn_wide.2 s⟩
 cases ro with
 | none=>exact h'
 | some l=>exact h'
theorem RoundIn.fen {ro:Option Nat} {n m l:Nat} {f:FuncId} {tmps:Array Value} {assign body:Code} {w:World} {R:Ending→World→Prop} (h:RoundIn Fence.wide n P l f tmps assign body w R):RoundIn (SE.fen ro) m P l f tmps assign body w R:=by
 have h':RoundIn Fence.wide m P l f tmps assign body w R:=⟨trivial,fun c cs _=>h.2 c cs (room_wide _)⟩;cases ro with
 | none=>exact h'
 | some l'=>exact h'
theorem jAY {o:Oper} {ε:Operand→Value} {w:World} {R:Value→World→Prop} (h:yld P o ε w R):∀c,o.op≠.defer c:=by
 intro c hc;unfold yld execOp at h;rw [hc] at h;simp only [Sem.run_bind] at h;generalize (resolve ε c o.type).run P w=r at h;cases r with
 | ok d w'=>exact h
 | halt x w'=>exact h
theorem lG {ro:Option Nat} {m:Nat} {o:Oper} {a:Act} {w:World} {K:Act→World→Prop} {Q:Exit→Act→World→Prop} (h:yld P o a.eval w (fun v w'=>K (a.put o.dst v) w')):o.wpIn (fen ro) m P a w K Q:=by
 refine ⟨fun f _=>tI ro f,?_⟩;rw [jCD,Oper.semAt_eq _ _ _ (jAY h)];have hd:(fen ro).depth.isSome=true→1≤m:=fun h=>by rw [jCE] at h;cases h
 unfold yld at h;generalize (execOp a.eval o).run P w=r at *;cases r with
 | ok n w' =>
  cases n <;> simp only at h <;> simp only [Oper.uponIn]
  case value=>exact h
  case skip=>exact h
  case enter=>exact ⟨hd,(Calls.fen h).mono fun e w'' ⟨v,he,hR⟩=>by subst he;exact hR⟩
  case row=>exact ⟨hd,Rows.fen h⟩
  case round=>exact ⟨hd,(RoundIn.fen h).mono fun e w'' ⟨v,he,hR⟩=>by subst he;exact hR⟩
 | halt x w'=>exact h.elim
def qy (P:Program) (o:Oper) (ε:Operand→Value) (w:World) (v:Value):Prop :=
 match (execOp ε o).run P w with
 | .ok (.value u) w'=>u=v∧w'=w
 | .ok .skip w'=>v=undef∧w'=w
 | _=>False
theorem jGI {o:Oper} {ε:Operand→Value} {w:World} {v:Value} {R:Value→World→Prop} (h:qy P o ε w v) (hR:R v w):yld P o ε w R:=by
 unfold qy at h;unfold yld;generalize (execOp ε o).run P w=r at *;cases r with
 | ok n w' =>
  cases n <;> simp only at h ⊢
  case value u=>obtain ⟨rfl,rfl⟩:=h;exact hR
  case skip=>obtain ⟨rfl,rfl⟩:=h;exact hR
 | halt x w'=>exact h.elim
def jAK (md:Region.Mode) (ops:Array Oper) (i:Nat):Array Bool :=
 (List.range ops.size).foldl (fun l j=>if j != i && !l.getD j true && ((ops[j]?).map (·.after.all fun e=>!Region.binds md e || l.getD e.on false)).getD false then l.setIfInBounds j true else l) (Array.replicate ops.size false)
def uN (md:Region.Mode) (ops:Array Oper) (loud:Nat→Bool) (i:Nat):Bool:=(List.range ops.size).all fun j=>!loud j || !(jAK md ops i).getD j false
def opM (md:Region.Mode) (P:Program) (ops:Array Oper) (C:World→Prop) (loud free:Nat→Bool) (i:Nat) (K:Act→World→Prop) (a:Act) (w:World):Prop :=
 match ops[i]? with
 | none=>K a w
 | some o =>
  if Region.wanted o (yielded ops a.tmps) then
   (if loud i then yld P o a.eval w (fun v w'=>(free i=true∨C w')∧K (a.put o.dst v) w')
   else ∃v,((uN md ops loud i=true∧qy P o a.eval w v)∨∀w',C w'→qy P o a.eval w' v)∧K (a.put o.dst v) w)
  else K (a.put o.dst undef) w
theorem jJT {loud free:Nat→Bool} {i:Nat} {a:Act} {w:World} {K K':Act→World→Prop} (h:∀a w,C w∨(loud i=true∧free i=true)→K a w→K' a w) (hw:loud i=false→C w) (hn:C w∨(loud i=true∧free i=true)) (hh:opM md P ops C loud free i K a w):opM md P ops C loud free i K' a w:=by
 unfold opM at *;split
 ·exact h _ _ hn (by simpa [*] using hh)
 ·rename_i o ho;simp only [ho] at hh;split
  ·rename_i hwt;simp only [hwt,if_true] at hh;split
   ·rename_i hl;simp only [hl,if_true] at hh;exact qM hh fun v w' ⟨hc,hk⟩=>⟨hc,h _ _ (hc.elim (fun hf=>.inr ⟨hl,hf⟩) .inl) hk⟩
   ·rename_i hl;simp only [hl] at hh;obtain ⟨v,h1,h2⟩:=hh;exact ⟨v,h1,h _ _ (.inl (hw (by simpa using hl))) h2⟩
  ·rename_i hwt;simp only [hwt] at hh;exact h _ _ hn hh
def lI (P:Program) (md:Region.Mode) (ops:Array Oper) (C:World→Prop) (loud free:Nat→Bool) (Q:Act→World→Prop):Nat→Array Bool→Act→World→Prop
 | 0,listed,a,w=>Region.ready md ops listed=[]∧Q a w
 | fuel+1,listed,a,w =>
  (Region.ready md ops listed=[]→Q a w) ∧
  ∀i∈Region.ready md ops listed,opM md P ops C loud free i (lI P md ops C loud free Q fuel (listed.setIfInBounds i true)) a w
def vK (loud:Nat→Bool) (n:Nat) (listed:Array Bool):Prop:=∀i,i<n→loud i=false→listed.getD i true=true
theorem vK.set {loud:Nat→Bool} {n:Nat} {listed:Array Bool} (h:vK loud n listed) (k:Nat):vK loud n (listed.setIfInBounds k true):=fun i hi hl=>by
 by_cases hk:k=i
 ·subst hk;rcases Nat.lt_or_ge k listed.size with h' | h'
  ·simp [h']
  ·simp [h']
 ·rw [getD_set_ne true hk];exact h i hi hl
structure Good (md:Region.Mode) (ops:Array Oper) (loud free:Nat→Bool) (far:Nat→Array Bool):Prop where
 size:∀i,loud i=false→(far i).size=ops.size
 shut:∀i,loud i=false→∀j∈Region.ready md ops (far i),j=i
 out:∀i,i<ops.size→loud i=false→∀j,j<ops.size→free j=true→(far i).getD j false=false
def xL (n:Nat) (loud:Nat→Bool) (far:Nat→Array Bool) (listed:Array Bool):Prop:=∀i,i<n→loud i=false→listed.getD i true=false→∀k,listed.getD k false=true→(far i).getD k false=true
theorem Good.inFar {loud free:Nat→Bool} {far:Nat→Array Bool} {listed:Array Bool} (hg:Good md ops loud free far) (h:xL ops.size loud far listed) {i j:Nat} (hi:i<ops.size) (hl:loud i=false) (hu:listed.getD i true=false) (hj:j∈Region.ready md ops listed) (hne:j≠i):(far i).getD j false=true:=by
 obtain ⟨_,o,ho,hall⟩:=mem_ready.1 hj;have hlt:j<(far i).size:=hg.size i hl▸(Array.getElem?_eq_some_iff.1 ho).1;cases hf:(far i).getD j false with
 | true=>rfl
 | false=>exact absurd (hg.shut i hl j (mem_ready.2 ⟨by simpa [hlt] using hf,o,ho,fun e he hb=>h i hi hl hu _ (hall e he hb)⟩)) hne
theorem Good.step {loud free:Nat→Bool} {far:Nat→Array Bool} {listed:Array Bool} (hg:Good md ops loud free far) (h:xL ops.size loud far listed) {j:Nat} (hj:j∈Region.ready md ops listed):xL ops.size loud far (listed.setIfInBounds j true):=by
 intro i hi hl hu k hk;have hji:j≠i:=fun e=>by
  subst e;rcases Nat.lt_or_ge j listed.size with h' | h'
  ·simp [h'] at hu
  ·simp [h'] at hu
 rw [getD_set_ne true hji] at hu;by_cases hjk:j=k
 ·subst hjk;exact hg.inFar h hi hl hu hj hji
 ·rw [getD_set_ne false hjk] at hk;exact h i hi hl hu k hk
theorem Good.free {loud free:Nat→Bool} {far:Nat→Array Bool} {listed:Array Bool} (hg:Good md ops loud free far) (h:xL ops.size loud far listed) {j:Nat} (hj:j∈Region.ready md ops listed) (hlj:loud j=true) (hf:free j=true):vK loud ops.size listed:=by
 intro i hi hl;cases hu:listed.getD i true with
 | true=>rfl
 | false =>
  have hne:j≠i:=fun e=>by subst e;rw [hl] at hlj;cases hlj
  have h1:=hg.inFar h hi hl hu hj hne
  obtain ⟨_,o,ho,_⟩:=mem_ready.1 hj
  rw [hg.out i hi hl j (Array.getElem?_eq_some_iff.1 ho).1 hf] at h1
  cases h1
theorem oV {ro:Option Nat} {m:Nat} {loud free:Nat→Bool} {far:Nat→Array Bool} {Q:Act→World→Prop} {Q':Exit→Act→World→Prop} (hg:Good md ops loud free far) (hQ:∀a w,Q a w→Q' .normal a w) :
  ∀(fuel:Nat) (listed:Array Bool) (a:Act) (w:World),(C w∨vK loud ops.size listed)→xL ops.size loud far listed→lI P md ops C loud free Q fuel listed a w→wpAnyIn (fen ro) m P md ops Q' fuel listed a w
 | 0,_,_,_,_,_,h=>⟨h.1,hQ _ _ h.2⟩
 | fuel + 1, listed, a, w, hw, hW, h => ⟨fun h0 => hQ _ _ (h.1 h0), fun i hi => by
   have hh:=h.2 i hi;have ih:∀a w,(C w∨vK loud ops.size (listed.setIfInBounds i true))→lI P md ops C loud free Q fuel (listed.setIfInBounds i true) a w→wpAnyIn (fen ro) m P md ops Q' fuel (listed.setIfInBounds i true) a w:=fun a w hw h=>oV hg hQ fuel _ a w hw (hg.step hW hi) h;have hkeep:C w∨vK loud ops.size (listed.setIfInBounds i true):=hw.imp id (fun h=>h.set i);unfold opM at hh;unfold wpOpIn;split
   ·rename_i ho;simp only [ho] at hh;exact ih _ _ hkeep hh
   ·rename_i o ho;simp only [ho] at hh;split
    ·rename_i hwt;simp only [hwt,if_true] at hh;apply lG;split at hh
     ·rename_i hl;exact qM hh fun v w' ⟨hc,hk⟩=>ih _ _ (hc.elim (fun hf=>.inr ((hg.free hW hi hl hf).set i)) .inl) hk
     ·rename_i hl;obtain ⟨v,h1,h2⟩:=hh;have hCw:C w:=by
       rcases hw with h | h
       ·exact h
       ·obtain ⟨hu,o',ho',_⟩:=mem_ready.1 hi;have:=h i (Array.getElem?_eq_some_iff.1 ho').1 (by simpa using hl);rw [hu] at this;cases this
      exact jGI (h1.elim (·.2) (fun h=>h w hCw)) (ih _ _ hkeep h2)
    ·rename_i hwt;simp only [hwt] at hh;exact ⟨fun f _=>tI ro f,ih _ _ hkeep hh⟩⟩
def vH (P:Program) (ops:Array Oper) (C:World→Prop) (e:Bool) (w:World) (o:Oper) (v:Value) (a:Act):Prop :=
 (Region.wanted o (yielded ops a.tmps)=true∧((e=true∧qy P o a.eval w v)∨∀w',C w'→qy P o a.eval w' v)) ∨
 (Region.wanted o (yielded ops a.tmps)=false∧v=undef)
theorem vH.of_same {e:Bool} {w:World} {o:Oper} {v:Value} {a a':Act} (hy:vH P ops C e w o v a) (he:execOp a'.eval o=execOp a.eval o)
  (hw:Region.wanted o (yielded ops a'.tmps)=Region.wanted o (yielded ops a.tmps)):vH P ops C e w o v a':=by
 unfold vH qy at *
 rw [he,hw]
 exact hy
theorem vH.at {e:Bool} {w w':World} {o:Oper} {v:Value} {a:Act} (hy:vH P ops C e w o v a) (h:e=true→w'=w):vH P ops C e w' o v a:=by
 rcases hy with ⟨h1,⟨h2,h3⟩ | h2⟩ | h1
 ·exact .inl ⟨h1,.inl ⟨h2,by rw [h h2];exact h3⟩⟩
 ·exact .inl ⟨h1,.inr h2⟩
 ·exact .inr h1
theorem vH.op {loud free:Nat→Bool} {i:Nat} {o:Oper} {v:Value} {a:Act} {w:World} (hi:ops[i]?=some o) (hl:loud i=false) (hy:vH P ops C (uN md ops loud i) w o v a) {K:Act→World→Prop} (h:K (a.put o.dst v) w):opM md P ops C loud free i K a w:=by
 unfold opM;simp only [hi,hl];rcases hy with ⟨hw,hv⟩ | ⟨hw,rfl⟩
 ·simp only [hw,if_true];exact ⟨v,hv,h⟩
 ·simp only [hw,Bool.false_eq_true,if_false];exact h
theorem tU {loud free:Nat→Bool} {i:Nat} {o:Oper} {a:Act} {w:World} {K:Act→World→Prop} (hi:ops[i]?=some o) (hl:loud i=false) (h:opM md P ops C loud free i K a w):∃v,vH P ops C (uN md ops loud i) w o v a∧K (a.put o.dst v) w:=by
 unfold opM at h;simp only [hi,hl] at h;by_cases hw:Region.wanted o (yielded ops a.tmps)=true
 ·simp only [hw,if_true] at h;obtain ⟨v,h1,h2⟩:=h;exact ⟨v,.inl ⟨hw,h1⟩,h2⟩
 ·simp only [hw] at h;exact ⟨undef,.inr ⟨by simpa using hw,rfl⟩,h⟩
theorem jLU {loud free:Nat→Bool} {j:Nat} {oi oj:Oper} {v:Value} (hj:ops[j]?=some oj) (hap:oi.apart ops oj=true)
  (hsi:∀cs b,oi.op≠.select cs b) (hsj:∀cs b,oj.op≠.select cs b) {K:Act→World→Prop} {a:Act} {w:World}
  {e:Bool} (hej:loud j=true→e=false) (hy:vH P ops C e w oi v a) (h:opM md P ops C loud free j K (a.put oi.dst v) w) :
  opM md P ops C loud free j (fun a' w'=>vH P ops C e w' oi v a'∧K (a'.put oi.dst v) w') a w:=by
 obtain ⟨h1,h2,h3⟩:=Oper.apart_spec hap
 have keep:∀u,vH P ops C e w oi v (a.put oj.dst u):=fun u =>
  hy.of_same (execOp_put oi hsi a oj.dst u h3) (wanted_put oi a oj.dst u h3)
 unfold opM at *
 simp only [hj] at *
 rw [wanted_put oj a oi.dst v h1] at h
 split
 ·rename_i hw
  simp only [hw,if_true] at h
  split
  ·rename_i hl
   simp only [hl,if_true] at h
   unfold yld at *
   rw [execOp_put oj hsj a oi.dst v h1] at h
   generalize (execOp a.eval oj).run P w=r at *
   cases r with
   | ok n w' =>
    cases n <;> simp only at h ⊢
    case value u=>exact ⟨h.1,(keep u).at (fun h=>by rw [hej hl] at h;cases h),by rw [← Act.put_comm a v u h2];exact h.2⟩
    case skip=>exact ⟨h.1,(keep _).at (fun h=>by rw [hej hl] at h;cases h),by rw [← Act.put_comm a v undef h2];exact h.2⟩
    case enter f args=>exact h.mono fun e w'' ⟨u,he,hc,hk⟩=>⟨u,he,hc,(keep u).at (fun h=>by rw [hej hl] at h;cases h),by rw [← Act.put_comm a v u h2];exact hk⟩
    case row f args=>exact h.mono fun u w'' ⟨hc,hk⟩=>⟨hc,(keep u).at (fun h=>by rw [hej hl] at h;cases h),by rw [← Act.put_comm a v u h2];exact hk⟩
    case round=>exact RoundIn.mono h fun e w'' ⟨u,he,hc,hk⟩=>⟨u,he,hc,(keep u).at (fun h=>by rw [hej hl] at h;cases h),by rw [← Act.put_comm a v u h2];exact hk⟩
   | halt x w'=>exact h.elim
  ·rename_i hl
   simp only [hl] at h
   obtain ⟨u,hu,hn⟩:=h
   refine ⟨u,?_,keep u,by rw [← Act.put_comm a v u h2];exact hn⟩
   unfold qy at *
   rwa [execOp_put oj hsj a oi.dst v h1] at hu
 ·rename_i hw
  simp only [hw] at h
  exact ⟨keep _,by rw [← Act.put_comm a v undef h2];exact h⟩
theorem oB {i:Nat} {oj:Oper} {listed:Array Bool} (hr:i∈Region.ready md ops listed) (hall:∀e∈oj.after,Region.binds md e=true→listed.getD e.on false=true) :
  ∀e∈oj.after,Region.binds md e=true→e.on≠i:=fun e he hb heq=>by
 have h1:=hall e he hb
 have h0:=(mem_ready.1 hr).1
 rw [heq] at h1
 rcases Nat.lt_or_ge i listed.size with h' | h'
 ·simp [h'] at h0 h1;rw [h0] at h1;cases h1
 ·simp [Array.getElem?_eq_none h'] at h1
theorem jBB {loud free:Nat→Bool} {far:Nat→Array Bool} {Q:Act→World→Prop} (hg:Good md ops loud free far) (hfar:∀i,i<ops.size→far i=jAK md ops i) {i:Nat} {oi:Oper} {v:Value} (hi:ops[i]?=some oi) (hli:loud i=false) (hsel:∀(j:Nat) (o:Oper) cs b,ops[j]?=some o→o.op≠.select cs b) :
  ∀(fuel:Nat) (listed:Array Bool) (a:Act) (w:World),C w→xL ops.size loud far listed →
   (∀j oj,ops[j]?=some oj→j≠i→listed.getD j true=false→(∀e∈oj.after,Region.binds md e=true→e.on≠i)→oi.apart ops oj=true) →
   i∈Region.ready md ops listed→vH P ops C (uN md ops loud i) w oi v a →
   lI P md ops C loud free Q fuel (listed.setIfInBounds i true) (a.put oi.dst v) w→lI P md ops C loud free Q (fuel+1) listed a w:=by
 intro fuel
 induction fuel with
 | zero =>
  intro listed a w _ _ _ hr hy H
  refine ⟨fun h=>(by rw [h] at hr;cases hr),fun j hj=>?_⟩
  by_cases hji:j=i
  ·subst hji;exact hy.op hi hli H
  ·have:=ready_mono hj hji
   rw [H.1] at this
   cases this
 | succ fuel ih =>
  intro listed a w hC hW hfree hr hy H
  refine ⟨fun h=>(by rw [h] at hr;cases hr),fun j hj=>?_⟩
  by_cases hji:j=i
  ·subst hji;exact hy.op hi hli H
  ·have h1:=H.2 j (ready_mono hj hji)
   obtain ⟨hjun,oj,hoj,hall⟩:=mem_ready.1 hj
   have hej:loud j=true→uN md ops loud i=false:=fun hlj=>by
    cases he:uN md ops loud i with
    | false=>rfl
    | true =>
     have hil:=(Array.getElem?_eq_some_iff.1 hi).1
     have hjl:=(Array.getElem?_eq_some_iff.1 hoj).1
     have h1:=hg.inFar hW hil hli (mem_ready.1 hr).1 hj hji
     have h2:=List.all_eq_true.1 he j (List.mem_range.2 hjl)
     rw [hlj] at h2
     have h3:(jAK md ops i).getD j false=true:=hfar i hil▸h1
     rw [h3] at h2;cases h2
   have h2:=jLU (e:=uN md ops loud i) hoj (hfree j oj hoj hji hjun (oB hr hall)) (fun cs b=>hsel i oi cs b hi) (fun cs b=>hsel j oj cs b hoj) hej hy h1
   have hfree' : ∀ k ok, ops[k]? = some ok → k ≠ i → (listed.setIfInBounds j true).getD k true = false →
     (∀e∈ok.after,Region.binds md e=true→e.on≠i)→oi.apart ops ok=true:=fun k ok hk hki hun hno=>by
    refine hfree k ok hk hki ?_ hno
    by_cases hjk:j=k
    ·subst hjk;exact hjun
    ·rw [getD_set_ne true hjk] at hun;exact hun
   have hnf:¬ (loud j=true∧free j=true):=fun ⟨h1,h2⟩=>by
    have:=hg.free hW hj h1 h2 i (Array.getElem?_eq_some_iff.1 hi).1 hli;rw [(mem_ready.1 hr).1] at this;cases this
   refine jJT (fun a' w' hC' h3=>ih (listed.setIfInBounds j true) a' w' (hC'.resolve_right hnf) (hg.step hW hj) hfree' (ready_mono hr (Ne.symm hji)) h3.1 ?_) (fun _=>hC) (.inl hC) h2
   rw [Array.setIfInBounds_comm _ _ hji]
   exact h3.2
def jDW (md:Region.Mode) (ops:Array Oper) (loud free:Nat→Bool):Bool :=
 (List.range ops.size).all fun i=>loud i || (let f:=jAK md ops i
  f.size == ops.size && (Region.ready md ops f).all (· == i) && (List.range ops.size).all (fun j=>!free j || !f.getD j false))
def jER (md:Region.Mode) (ops:Array Oper) (i:Nat):Array Bool:=if i<ops.size then jAK md ops i else Array.replicate ops.size true
theorem jBZ {loud free:Nat→Bool} (h:jDW md ops loud free=true):Good md ops loud free (jER md ops):=by
 have h':∀i,i<ops.size→loud i=false→(jAK md ops i).size=ops.size∧(∀j∈Region.ready md ops (jAK md ops i),j=i)∧∀j,j<ops.size→free j=true→(jAK md ops i).getD j false=false:=fun i hi hl=>by
  have:=List.all_eq_true.1 h i (List.mem_range.2 hi);simp only [hl,Bool.false_or,Bool.and_eq_true,beq_iff_eq,List.all_eq_true,List.mem_range,Bool.or_eq_true,Bool.not_eq_true'] at this;exact ⟨this.1.1,this.1.2,fun j hj hf=>by rcases this.2 j hj with h | h;rw [hf] at h;cases h;exact h⟩
 refine ⟨fun i hl=>?_,fun i hl j hj=>?_,fun i hi hl j hj hf=>?_⟩
 ·unfold jER;split
  ·rename_i hi;exact (h' i hi hl).1
  ·simp
 ·unfold jER at hj;split at hj
  ·rename_i hi;exact (h' i hi hl).2.1 j hj
  ·obtain ⟨hu,o,ho,_⟩:=mem_ready.1 hj;have:=(Array.getElem?_eq_some_iff.1 ho).1;simp [this] at hu
 ·unfold jER;rw [if_pos hi];exact (h' i hi hl).2.2 j hj hf
theorem xB {n m:Nat} {loud:Nat→Bool} {far:Nat→Array Bool}:xL n loud far (Array.replicate m false):=fun i _ _ _ k hk=>by
 exfalso;rcases Nat.lt_or_ge k m with h' | h'
 ·simp [h'] at hk
 ·simp [h'] at hk
def jEY (P:Program) (md:Region.Mode) (ops:Array Oper) (C:World→Prop) (loud free:Nat→Bool) (Q:Act→World→Prop):Nat→Array Bool→Act→World→Prop
 | 0,listed,a,w=>Region.ready md ops listed=[]∧Q a w
 | fuel+1,listed,a,w =>
  (∃i,i∈Region.ready md ops listed∧loud i=false∧Region.free md ops listed i=true∧opM md P ops C loud free i (jEY P md ops C loud free Q fuel (listed.setIfInBounds i true)) a w) ∨
  ((Region.ready md ops listed=[]→Q a w)∧∀i∈Region.ready md ops listed,opM md P ops C loud free i (jEY P md ops C loud free Q fuel (listed.setIfInBounds i true)) a w)
theorem uP {loud free:Nat→Bool} {far:Nat→Array Bool} {Q:Act→World→Prop} (hg:Good md ops loud free far) (hfar:∀i,i<ops.size→far i=jAK md ops i) (hs:Region.noSelect ops=true):∀(fuel:Nat) (listed:Array Bool) (a:Act) (w:World),(C w∨vK loud ops.size listed)→xL ops.size loud far listed →
  jEY P md ops C loud free Q fuel listed a w→lI P md ops C loud free Q fuel listed a w
 | 0,_,_,_,_,_,h=>h
 | fuel+1,listed,a,w,hC,hW,h=>by
  rcases h with ⟨i,hr,hl,hf,h⟩ | ⟨h0,h⟩
  ·obtain ⟨hu,o,ho,_⟩:=mem_ready.1 hr;have hCw:C w:=by
    rcases hC with h | h
    ·exact h
    ·have:=h i (Array.getElem?_eq_some_iff.1 ho).1 hl;rw [hu] at this;cases this
   obtain ⟨v,hy,hK⟩:=tU ho hl h;exact jBB hg hfar ho hl (Region.noSelect_spec hs) fuel listed a w hCw hW (Region.free_spec ho hf) hr hy (uP hg hfar hs fuel _ _ _ (.inl hCw) (hg.step hW hr) hK)
  ·refine ⟨h0,fun i hi=>?_⟩;have hh:=h i hi;have rec_:∀a w,(C w∨vK loud ops.size (listed.setIfInBounds i true))→jEY P md ops C loud free Q fuel (listed.setIfInBounds i true) a w→lI P md ops C loud free Q fuel (listed.setIfInBounds i true) a w:=fun a w hc h=>uP hg hfar hs fuel _ a w hc (hg.step hW hi) h;have hkeep:C w∨vK loud ops.size (listed.setIfInBounds i true):=hC.imp id (fun h=>h.set i);unfold opM at hh ⊢;split
   ·rename_i ho;simp only [ho] at hh;exact rec_ _ _ hkeep hh
   ·rename_i o ho;simp only [ho] at hh;split
    ·rename_i hwt;simp only [hwt,if_true] at hh;split
     ·rename_i hl;simp only [hl,if_true] at hh;exact qM hh fun v w' ⟨hc,hk⟩=>⟨hc,rec_ _ _ (hc.elim (fun hf=>.inr ((hg.free hW hi hl hf).set i)) .inl) hk⟩
     ·rename_i hl;simp only [hl] at hh;obtain ⟨v,h1,h2⟩:=hh;exact ⟨v,h1,rec_ _ _ hkeep h2⟩
    ·rename_i hwt;simp only [hwt] at hh;exact rec_ _ _ hkeep hh
theorem tX {ro:Option Nat} {m:Nat} {id:Nat} {Q:Exit→Act→World→Prop} {a:Act} {w:World} (C:World→Prop) (loud free:Nat→Bool) (hm:P.follows .mixedOrders=true) (hs:Region.noSelect ops=true) (hg:jDW .any ops loud free=true)
  (hC:C { w with drawn:=w.drawn+1 })
  (h:jEY P .any ops C loud free (fun a' w'=>Q .normal a' w') ops.size (Array.replicate ops.size false) a { w with drawn:=w.drawn+1 }):(Code.region id ops true).wpIn (fen ro) m P Q a w :=
 wpIn_region_any hm (oV (Q':=Q) (jBZ hg) (fun _ _ h=>h) _ _ _ _ (.inl hC) xB (uP (md:=.any) (Q:=fun a' w'=>Q .normal a' w') (jBZ hg) (fun i hi=>if_pos hi) hs _ _ _ _ (.inl hC) xB h))
end
abbrev Env:=Nat→Value
def upd (ρ:Env) (d:Nat) (v:Value):Env:=fun i=>if i=d then v else ρ i
def put (ρ:Env) (d:Option Nat) (v:Value):Env:=match d with | some d=>upd ρ d v | none=>ρ
def evE (ρ:Env):Operand→Value
 | .tmp t=>ρ t
 | .const v=>v
 | .global g=>.pointer (some ⟨g,0,none⟩)
 | .func f=>.func (.func f) #[] #[]
def jAT (l:List Value):Env:=fun i=>l.getD i undef
structure Rep (ds:List Deferred) (n:Nat) (ρ:Env) (a:Act):Prop where
 defers:a.defers=ds
 size:a.tmps.size=n
 get:∀t,a.tmps.getD t undef=ρ t
theorem Rep.eval {ds:List Deferred} {n:Nat} {ρ:Env} {a:Act} (h:Rep ds n ρ a):a.eval=evE ρ:=by
 funext x;cases x with
 | tmp t=>exact h.get t
 | _=>rfl
theorem Rep.put {ds:List Deferred} {n:Nat} {ρ:Env} {a:Act} (h:Rep ds n ρ a) {d:Option Nat} (hd:∀k,d=some k→k<n) (v:Value):Rep ds n (SE.put ρ d v) (a.put d v):=by
 cases d with
 | none=>exact h
 | some k =>
  refine ⟨h.defers,by simp [Act.put,h.size],fun t=>?_⟩
  have hk:=hd k rfl
  simp only [Act.put,SE.put,upd]
  by_cases ht:t=k
  ·subst ht;simp [h.size,hk]
  ·rw [if_neg ht,← h.get t];simp [Array.getElem?_setIfInBounds_ne (Ne.symm ht)]
def jQ (ops:Array Oper) (ρ:Env) (j:Nat):Option Bool :=
 match (ops[j]?).bind (·.dst) with
 | some d=>match ρ d with | .bool b=>some b | _=>none
 | none=>none
theorem Rep.yielded {ds:List Deferred} {n:Nat} {ρ:Env} {a:Act} (h:Rep ds n ρ a) (ops:Array Oper):yielded ops a.tmps=jQ ops ρ:=by
 funext j;unfold Go.yielded jQ;cases (ops[j]?).bind (·.dst) with
 | none=>rfl
 | some d =>
  simp only [Option.bind_some]
  have:=h.get d
  rw [Array.getD_eq_getD_getElem?] at this
  cases hd:a.tmps[d]? with
  | none=>rw [hd] at this;simp only [Option.getD_none] at this;rw [← this];rfl
  | some v=>rw [hd] at this;simp only [Option.getD_some] at this;rw [← this];cases v <;> rfl
def mark (D:Nat):Deferred:={ target:=.collected D,args:=#[] }
structure Cx where
 ro:Option Nat
 ds:List Deferred
def jFP (x:Cx) (n:Nat) (Q:Exit→Env→World→Prop):Exit→Act→World→Prop:=fun e a w =>
 ∃ρ,(Rep x.ds n ρ a∧Q e ρ w)∨(e=.ret∧x.ro=none∧x.ds=[]∧∃D,Rep [mark D] n ρ a∧w.heap[D]?=some (.deferred (some []))∧Q .ret ρ (w.putObj D (.deferred none)))
def wpE {x:Cx} (P:Program) (n:Nat) (c:Code) (Q:Exit→Env→World→Prop) (ρ:Env) (w:World):Prop:=∀a,Rep x.ds n ρ a→c.wpIn (fen x.ro) 0 P (jFP x n Q) a w
def lN (next:Env→World→Prop) (Q:Exit→Env→World→Prop):Exit→Env→World→Prop
 | .normal,ρ,w=>next ρ w
 | e,ρ,w=>Q e ρ w
def xK (id:Nat) (Q:Exit→Env→World→Prop):Exit→Env→World→Prop
 | .exit id',ρ,w=>if id'=id then Q .normal ρ w else Q (.exit id') ρ w
 | e,ρ,w=>Q e ρ w
section
variable {x:Cx} {P:Program} {n:Nat} {Q:Exit→Env→World→Prop} {ρ:Env} {w:World}
theorem jHY {Q':Exit→Env→World→Prop} (hq:∀e ρ w,Q e ρ w→Q' e ρ w) {e:Exit} {a:Act} (h:jFP x n Q e a w):jFP x n Q' e a w:=by
 obtain ⟨ρ,⟨h1,h2⟩ | ⟨h1,h2,h3,D,h4,h5,h6⟩⟩:=h
 ·exact ⟨ρ,.inl ⟨h1,hq _ _ _ h2⟩⟩
 ·exact ⟨ρ,.inr ⟨h1,h2,h3,D,h4,h5,hq _ _ _ h6⟩⟩
theorem jBT {a:Act} (h:jFP x n Q .normal a w):∃ρ,Rep x.ds n ρ a∧Q .normal ρ w:=by
 obtain ⟨ρ,h | ⟨h,_⟩⟩:=h
 ·exact ⟨ρ,h⟩
 ·cases h
theorem xP {c:Code} {Q':Exit→Env→World→Prop} (hq:∀e ρ w,Q e ρ w→Q' e ρ w) (h:wpE (x:=x) P n c Q ρ w):wpE (x:=x) P n c Q' ρ w :=
 fun a ha=>wpIn_mono (h a ha) (fun _ _ _ h=>jHY hq h)
theorem jF (h:Q .normal ρ w):wpE (x:=x) P n .skip Q ρ w:=fun _ ha=>wpIn_skip ⟨ρ,.inl ⟨ha,h⟩⟩
theorem jDE (h:Q .ret ρ w):wpE (x:=x) P n .ret Q ρ w:=fun _ ha=>wpIn_ret ⟨ρ,.inl ⟨ha,h⟩⟩
theorem zI {id:Nat} (h:Q (.exit id) ρ w):wpE (x:=x) P n (.exit id) Q ρ w:=fun _ ha=>wpIn_exit ⟨ρ,.inl ⟨ha,h⟩⟩
theorem jB {c y:Code} (h:wpE (x:=x) P n c (lN (fun ρ w=>wpE (x:=x) P n y Q ρ w) Q) ρ w):wpE (x:=x) P n (.seq c y) Q ρ w:=fun a ha =>
 wpIn_seq (wpIn_mono (h a ha) (fun e a w hl=>by
  cases e with
  | normal=>obtain ⟨ρ',hr,hq⟩:=jBT hl;exact hq a hr
  | _=>exact hl))
theorem yZ {c y:Code} (J:Env→World→Prop) (hy:∀ρ w,J ρ w→wpE (x:=x) P n y Q ρ w) (h:wpE (x:=x) P n c (lN J Q) ρ w):wpE (x:=x) P n (.seq c y) Q ρ w :=
 jB (xP (fun e ρ w hq=>by cases e <;> first | exact hy _ _ hq | exact hq) h)
theorem zO {c:Operand} {y z:Code} {t:Bool} (hc:evE ρ c=.bool t) (ht:t=true→wpE (x:=x) P n y Q ρ w) (hf:t=false→wpE (x:=x) P n z Q ρ w):wpE (x:=x) P n (.cond c y z) Q ρ w :=
 fun a ha=>wpIn_cond_split (by rw [ha.eval];exact hc) (fun h=>ht h a ha) (fun h=>hf h a ha)
theorem kO {c:Operand} {y z:Code} (hc:evE ρ c=.bool true) (h:wpE (x:=x) P n y Q ρ w):wpE (x:=x) P n (.cond c y z) Q ρ w :=
 fun a ha=>wpIn_cond_true (by rw [ha.eval];exact hc) (h a ha)
theorem kF {c:Operand} {y z:Code} (hc:evE ρ c=.bool false) (h:wpE (x:=x) P n z Q ρ w):wpE (x:=x) P n (.cond c y z) Q ρ w :=
 fun a ha=>wpIn_cond_false (by rw [ha.eval];exact hc) (h a ha)
theorem jO {id:Nat} {c:Code} (h:wpE (x:=x) P n c (xK id Q) ρ w):wpE (x:=x) P n (.block id c) Q ρ w:=fun a ha =>
 wpIn_block (wpIn_mono (h a ha) (fun e a w hl=>by
  cases e with
  | exit id' =>
   obtain ⟨ρ',⟨hr,hq⟩ | ⟨h,_⟩⟩:=hl
   ·simp only [xK] at hq
    simp only [Exit.inBlock]
    split
    ·rename_i h;rw [if_pos h] at hq;exact ⟨ρ',.inl ⟨hr,hq⟩⟩
    ·rename_i h;rw [if_neg h] at hq;exact ⟨ρ',.inl ⟨hr,hq⟩⟩
   ·cases h
  | _=>exact hl))
theorem zU {c:Code} {σ:Type} (I:σ→Env→World→Prop) (μ:σ→Nat) (s0:σ) (h0:I s0 ρ w)
  (round:∀s ρ w,I s ρ w→wpE (x:=x) P n c (lN (fun ρ' w'=>∃s',I s' ρ' w'∧μ s'<μ s) Q) ρ w):wpE (x:=x) P n (.loop c) Q ρ w:=by
 intro a ha b k cs hro hb hroom
 have key:∀m s ρ a w,μ s=m→Rep x.ds n ρ a→I s ρ w→∃e a' w',jFP x n Q e a' w'∧ArrivesIn (Machine.fenced P (fen x.ro)) P (lone (b.atR a (.code c :: .inLoop c :: k)) cs w) b k cs e a' w':=by
  intro m;induction m using Nat.strongRecOn with
  | _ m ih =>
   intro s ρ a w hm hr hI
   obtain ⟨e,a1,w1,hl,harr⟩:=round s ρ w hI a hr b (.inLoop c :: k) cs hro hb hroom
   cases e with
   | normal =>
    obtain ⟨ρ1,hr1,s',hI',hlt⟩:=jBT hl
    obtain ⟨e2,a2,w2,hq2,harr2⟩:=ih (μ s') (hm▸hlt) s' ρ1 a1 w1 rfl hr1 hI'
    exact ⟨e2,a2,w2,hq2,.of_steps (StepsIn.trans harr (.one (fenced_calm hb hroom rfl) stepR_inLoop)) harr2⟩
   | exit id=>exact ⟨_,a1,w1,hl,.pass (x:=.inLoop c) rfl (fun _ _=>.inl (by simp)) harr⟩
   | goto l=>exact ⟨_,a1,w1,hl,.pass (x:=.inLoop c) rfl (fun _ _=>.inl (by simp)) harr⟩
   | ret=>exact ⟨_,a1,w1,hl,.pass (x:=.inLoop c) rfl (fun _ _=>.inl (by simp)) harr⟩
   | panic ch=>exact ⟨_,a1,w1,hl,.pass (x:=.inLoop c) rfl (fun _ _=>.inl (by simp)) harr⟩
   | outgrown=>exact ⟨_,a1,w1,hl,.pass (x:=.inLoop c) rfl (fun _ _=>.inl (by simp)) harr⟩
 obtain ⟨e,a',w',hq,harr⟩:=key _ s0 ρ a w rfl ha h0
 exact ⟨e,a',w',hq,.of_steps (.one (fenced_calm hb hroom rfl) stepR_loop) harr⟩
def wpL (P:Program) (ops:Array Oper) (Q:Env→World→Prop):List Oper→Env→World→Prop
 | [],ρ,w=>Q ρ w
 | o :: rest,ρ,w =>
  if Region.wanted o (jQ ops ρ) then yld P o (evE ρ) w (fun v w'=>wpL P ops Q rest (put ρ o.dst v) w')
  else wpL P ops Q rest (put ρ o.dst undef) w
def vP (n:Nat) (l:List Oper):Bool:=l.all fun o=>match o.dst with | some d=>d<n | none=>true
theorem uU {o:Oper} {l:List Oper} (h:vP n (o :: l)=true):(∀k,o.dst=some k→k<n)∧vP n l=true:=by
 simp only [vP,List.all_cons,Bool.and_eq_true] at h;refine ⟨fun k hk=>?_,h.2⟩;have:=h.1;rw [hk] at this;simpa using this
theorem yJ {ops:Array Oper} {Q':Env→World→Prop} (hQ:∀ρ a w,Rep x.ds n ρ a→Q' ρ w→jFP x n Q .normal a w):∀(l:List Oper) (ρ:Env) (a:Act) (w:World),vP n l=true→Rep x.ds n ρ a→wpL P ops Q' l ρ w→wpListIn (fen x.ro) 0 P ops (jFP x n Q) l a w
 | [],ρ,a,w,_,hr,h=>hQ _ _ _ hr h
 | o :: l,ρ,a,w,hd,hr,h=>by
  obtain ⟨hk,hd'⟩:=uU hd;unfold wpL at h;unfold wpListIn;rw [hr.yielded];split
  ·rename_i hw;rw [if_pos hw] at h;apply lG;rw [hr.eval];exact qM h fun v w' hh=>yJ hQ l _ _ _ hd' (hr.put hk v) hh
  ·rename_i hw;rw [if_neg hw] at h;exact ⟨fun f _=>tI x.ro f,yJ hQ l _ _ _ hd' (hr.put hk undef) h⟩
theorem jEZ {id:Nat} {l:List Oper} (hd:vP n l=true) (h:wpL P l.toArray (fun ρ w=>Q .normal ρ w) l ρ w):wpE (x:=x) P n (.region id l.toArray false) Q ρ w:=fun a ha =>
 wpIn_region_lit (yJ (fun ρ' _ _ hr hq=>⟨ρ',.inl ⟨hr,hq⟩⟩) l ρ a w hd ha h)
def opE (P:Program) (ops:Array Oper) (C:World→Prop) (loud free:Nat→Bool) (i:Nat) (K:Env→World→Prop) (ρ:Env) (w:World):Prop :=
 match ops[i]? with
 | none=>K ρ w
 | some o =>
  if Region.wanted o (jQ ops ρ) then
   (if loud i then yld P o (evE ρ) w (fun v w'=>(free i=true∨C w')∧K (put ρ o.dst v) w')
   else ∃v,((uN .any ops loud i=true∧qy P o (evE ρ) w v)∨∀w',C w'→qy P o (evE ρ) w' v)∧K (put ρ o.dst v) w)
  else K (put ρ o.dst undef) w
def wpX (P:Program) (ops:Array Oper) (C:World→Prop) (loud free:Nat→Bool) (Q:Env→World→Prop):Nat→Array Bool→Env→World→Prop
 | 0,listed,ρ,w=>Region.ready .any ops listed=[]∧Q ρ w
 | fuel+1,listed,ρ,w =>
  (∃i,i∈Region.ready .any ops listed∧loud i=false∧Region.free .any ops listed i=true∧opE P ops C loud free i (wpX P ops C loud free Q fuel (listed.setIfInBounds i true)) ρ w) ∨
  ((Region.ready .any ops listed=[]→Q ρ w)∧∀i∈Region.ready .any ops listed,opE P ops C loud free i (wpX P ops C loud free Q fuel (listed.setIfInBounds i true)) ρ w)
theorem tC {ds:List Deferred} {ops:Array Oper} {C:World→Prop} {loud free:Nat→Bool} {i:Nat} {K:Env→World→Prop} {K':Act→World→Prop} (hK:∀ρ a w,Rep ds n ρ a→K ρ w→K' a w) (hd:∀o,ops[i]?=some o→∀k,o.dst=some k→k<n) {a:Act} (hr:Rep ds n ρ a) (h:opE P ops C loud free i K ρ w):opM .any P ops C loud free i K' a w:=by
 unfold opE at h;unfold opM;cases ho:ops[i]? with
 | none=>rw [ho] at h;exact hK _ _ _ hr h
 | some o =>
  rw [ho] at h
  have hk:=hd o ho
  simp only at h ⊢
  rw [hr.yielded]
  split
  ·rename_i hw
   rw [if_pos hw] at h
   rw [hr.eval]
   split
   ·rename_i hl
    rw [if_pos hl] at h
    exact qM h fun v w' ⟨hc,hh⟩=>⟨hc,hK _ _ _ (hr.put hk v) hh⟩
   ·rename_i hl
    rw [if_neg hl] at h
    obtain ⟨v,h1,h2⟩:=h
    exact ⟨v,h1,hK _ _ _ (hr.put hk v) h2⟩
  ·rename_i hw
   rw [if_neg hw] at h
   exact hK _ _ _ (hr.put hk undef) h
theorem yR {ds:List Deferred} {ops:Array Oper} {C:World→Prop} {loud free:Nat→Bool} {Q':Env→World→Prop} {Q'':Act→World→Prop} (hQ:∀ρ a w,Rep ds n ρ a→Q' ρ w→Q'' a w) (hd:∀(i:Nat) (o:Oper),ops[i]?=some o→∀k,o.dst=some k→k<n):∀(fuel:Nat) (listed:Array Bool) (ρ:Env) (a:Act) (w:World),Rep ds n ρ a→wpX P ops C loud free Q' fuel listed ρ w→jEY P .any ops C loud free Q'' fuel listed a w
 | 0,_,_,_,_,hr,h=>⟨h.1,hQ _ _ _ hr h.2⟩
 | fuel+1,listed,ρ,a,w,hr,h=>by
  rcases h with ⟨i,h1,h2,h3,h4⟩ | ⟨h0,h⟩
  ·exact .inl ⟨i,h1,h2,h3,tC (fun ρ a w hr h=>yR hQ hd fuel _ ρ a w hr h) (hd i) hr h4⟩
  ·exact .inr ⟨fun e=>hQ _ _ _ hr (h0 e),fun i hi=>tC (fun ρ a w hr h=>yR hQ hd fuel _ ρ a w hr h) (hd i) hr (h i hi)⟩
def kV (l:List Nat) (k:Nat):Bool:=l.contains k
theorem jFX {l:List Oper} (h:vP n l=true) (i:Nat) (o:Oper) (ho:l.toArray[i]?=some o) (k:Nat) (hk:o.dst=some k):k<n:=by
 have hm:o∈l:=by
  have:l[i]?=some o:=by simpa using ho
  exact List.mem_of_getElem? this
 have:=(List.all_eq_true.1 h) o hm;rw [hk] at this;simpa using this
theorem jBA {id:Nat} {l:List Oper} (C:World→Prop) (loud free:List Nat) (hm:P.follows .mixedOrders=true) (hd:vP n l=true) (hB:Region.noSelect l.toArray=true) (hg:jDW .any l.toArray (kV loud) (kV free)=true)
  (hC:C { w with drawn:=w.drawn+1 })
  (h:wpX P l.toArray C (kV loud) (kV free) (fun ρ w=>Q .normal ρ w) l.toArray.size (Array.replicate l.toArray.size false) ρ { w with drawn:=w.drawn+1 }):wpE (x:=x) P n (.region id l.toArray true) Q ρ w:=fun a ha =>
 tX C (kV loud) (kV free) hm hB hg hC (yR (fun ρ' _ _ hr hq=>⟨ρ',.inl ⟨hr,hq⟩⟩) (jFX hd) _ _ ρ a _ ha h)
def oL (P:Program) (fn:Func) (n:Nat) (R:Ending→World→Prop):Exit→Env→World→Prop
 | .normal,ρ,w | .ret,ρ,w=>∃v,(∀ds a,Rep ds n ρ a→(results fn a.tmps).run P w=.ok v w)∧R (.returned v) w
 | _,_,_=>False
theorem xU {n:Nat} (args:List Value) (hn:args.length≤n):Rep [] n (jAT args) { tmps:=args.toArray++Array.replicate (n - args.toArray.size) undef,defers:=[] }:=by
 refine ⟨rfl,by simp;omega,fun t=>?_⟩;simp only [jAT,Array.getD_eq_getD_getElem?,List.getD_eq_getElem?_getD];by_cases h:t<args.length
 ·rw [Array.getElem?_append_left (by simpa using h)];simp
 ·rw [Array.getElem?_append_right (by simpa using h)];simp only [Array.getElem?_replicate];have:args[t]?=none:=by simpa using h
  rw [this];split <;> simp
theorem vY {fn:Func} {tmps:Array Value} {R:Ending→World→Prop} {v:Value} (hv:(results fn tmps).run P w=.ok v w) (hR:R (.returned v) w):LeavesInM Fence.wide 0 P fn tmps R [] .returning w:=by
 exact ⟨_,hv,hR⟩
theorem xI {f:FuncId} {fn:Func} {c:Code} {args:List Value} {R:Ending→World→Prop} (hf:P.funcs[f]?=some fn) (hb:fn.body=some c) (hn:fn.ntmps=n) (hl:args.length≤n)
  (h:wpE (x:=⟨none,[]⟩) P n c (oL P fn n R) (jAT args) w):Calls P f args.toArray w R:=by
 subst hn
 refine callsIn_wide.1 (callsIn_of_wp_marks (n:=0) hf hb trivial ?_)
 refine wpIn_mono (h _ (xU args hl)) ?_
 rintro e a w' ⟨ρ',⟨hr,hq⟩ | ⟨rfl,_,_,D,hr,hD,hq⟩⟩
 ·have hd:a.defers=[]:=hr.defers
  cases e with
  | normal=>obtain ⟨v,hv,hR⟩:=hq;simp only [bodyPostM,hd];exact vY (hv _ a hr) hR
  | ret=>obtain ⟨v,hv,hR⟩:=hq;simp only [bodyPostM,hd];exact vY (hv _ a hr) hR
  | exit _=>exact hq.elim
  | goto _=>exact hq.elim
  | panic _=>exact hq.elim
  | outgrown=>exact hq.elim
 ·obtain ⟨v,hv,hR⟩:=hq
  have hd:a.defers=[mark D]:=hr.defers
  simp only [bodyPostM,hd]
  exact ⟨by simp,.inl ⟨D,_,rfl,run_takeDeferred hD,vY (hv _ a hr) hR⟩⟩
theorem res1 {fn:Func} {t:Nat} {v:Value} {R:Ending→World→Prop} {e:Exit} (he:e=.ret∨e=.normal) (hr:fn.results=#[.tmp t]) (hv:ρ t=v) (h:R (.returned v) w):oL P fn n R e ρ w:=by
 rcases he with rfl | rfl <;> exact ⟨v,fun _ a ha=>by rw [results_tmp hr,ha.get,hv],h⟩
theorem jDK {fn:Func} {R:Ending→World→Prop} {e:Exit} (he:e=.ret∨e=.normal) (hr:fn.results=#[]) (h:R (.returned (.tuple #[])) w):oL P fn n R e ρ w:=by
 rcases he with rfl | rfl <;> exact ⟨_,fun _ a _=>by rw [results_none hr],h⟩
theorem uE {fn:Func} {t u:Nat} {v v':Value} {R:Ending→World→Prop} {e:Exit} (he:e=.ret∨e=.normal) (hr:fn.results=#[.tmp t,.tmp u]) (hv:ρ t=v) (hv':ρ u=v') (h:R (.returned (.tuple #[v,v'])) w):oL P fn n R e ρ w:=by
 rcases he with rfl | rfl <;> exact ⟨_,fun _ a ha=>by rw [results_tmp2 hr,ha.get,ha.get,hv,hv'],h⟩
theorem jBM {fn:Func} {ts:List Nat} (hr:fn.results=(ts.map ResultVar.tmp).toArray) (tmps:Array Value) (hts:ts.length≠1):(results fn tmps).run P w=.ok (.tuple (ts.map fun t=>tmps.getD t undef).toArray) w:=by
 have key:∀(f:ResultVar→Sem Value),(∀t,f (.tmp t)=pure (tmps.getD t undef))→∀(l:List Nat) (w:World),((l.map ResultVar.tmp).mapM f).run P w=.ok (l.map fun t=>tmps.getD t undef) w:=by
  intro f hf l;induction l with
  | nil=>intro w;rfl
  | cons t l ih=>intro w;rw [List.map_cons,List.mapM_cons,hf];simp only [Sem.run_bind,Sem.run_pure,Result.andThen,ih w,List.map_cons]
 unfold results;rw [hr,List.mapM_toArray];rw [Sem.run_bind,Sem.run_map,key _ (fun _=>rfl)];simp only [Result.andThen,Sem.run_pure];simp [hts]
theorem jLR {fn:Func} {t u s:Nat} {v v' v'':Value} {R:Ending→World→Prop} {e:Exit} (he:e=.ret∨e=.normal) (hr:fn.results=#[.tmp t,.tmp u,.tmp s]) (hv:ρ t=v) (hv':ρ u=v') (hv'':ρ s=v'') (h:R (.returned (.tuple #[v,v',v''])) w):oL P fn n R e ρ w:=by
 rcases he with rfl | rfl <;> exact ⟨_,fun _ a ha=>by rw [jBM (ts:=[t,u,s]) hr _ (by simp)];simp only [List.map_cons,List.map_nil,ha.get,hv,hv',hv''],h⟩
end
end Go.SE
end
section
namespace Go.SE
structure Sl where
 a:Option Addr
 len:Nat
 cap:Nat
def Sl.v (s:Sl):Value:=.slice s.a s.len s.cap
def Sl.nil:Sl:=⟨none,0,0⟩
def Br (c:Bool) (A B:Prop):Prop:=(c=true→A)∧(c=false→B)
def Row (w:World) (a:Addr) (vs:List Value):Prop:=∀i,i<vs.length→w.cell? (a.add i)=vs[i]?
def kG (w:World) (a:Addr):Prop:=(∃u,w.cell? a=some u)∧w.frozen? a=false
def storeRowFrom (w:World) (a:Addr):Nat→List Value→World
 | _,[]=>w
 | i,v :: vs=>storeRowFrom (w.setCell (a.add i) v) a (i+1) vs
def storeRow (w:World) (a:Addr) (vs:List Value):World:=storeRowFrom w a 0 vs
def kD:Value→Bool
 | .agg _ | .tuple _=>false
 | _=>true
section layers
variable {next:Env→World→Prop} {Q:Exit→Env→World→Prop} {ρ:Env} {w:World} {id id':Nat}
theorem jL (h:next ρ w):lN next Q .normal ρ w:=h
theorem vM (h:Q (.exit id) ρ w):lN next Q (.exit id) ρ w:=h
theorem zM (h:Q .ret ρ w):lN next Q .ret ρ w:=h
theorem kW (h:Q .normal ρ w):xK id Q .normal ρ w:=h
theorem vR (h:Q .ret ρ w):xK id Q .ret ρ w:=h
theorem vI (h:Q .normal ρ w):xK id Q (.exit id) ρ w:=by simpa [xK] using h
theorem bl_ne (hne:(id' == id)=false) (h:Q (.exit id') ρ w):xK id Q (.exit id') ρ w:=by
 have:¬ id'=id:=by simpa using hne
 simpa [xK,this] using h
end layers
section
variable {P:Program} {ops:Array Oper} {Q:Env→World→Prop} {ρ:Env} {w w':World} {rest:List Oper} {o:Oper} {v:Value}
theorem jC (h:Q ρ w):wpL P ops Q [] ρ w:=h
theorem yE {j d:Nat} {c t:Bool} (hd:(ops[j]?).bind (·.dst)=some d) (hv:ρ d=.bool c) (hc:c=t):jQ ops ρ j=some t:=by
 unfold jQ;rw [hd];simp only [hv,hc]
theorem jG {y:Nat→Option Bool} (hg:o.guard=none):Region.wanted o y=true:=by simp [Region.wanted,hg]
theorem jLI {y:Nat→Option Bool} {j:Nat} {t:Bool} (hg:o.guard=some (j,t)) (hy:y j=some t):Region.wanted o y=true:=by simp [Region.wanted,hg,hy]
theorem jH {y:Nat→Option Bool} {j:Nat} {t u:Bool} (hg:o.guard=some (j,t)) (hy:y j=some u) (hne:(u == t)=false):Region.wanted o y=false:=by
 have:¬ u=t:=by simpa using hne
 simp [Region.wanted,hg,hy,this]
theorem st (hw:Region.wanted o (jQ ops ρ)=true) (hr:(execOp (evE ρ) o).run P w=.ok (.value v) w') (h:wpL P ops Q rest (put ρ o.dst v) w'):wpL P ops Q (o :: rest) ρ w:=by
 unfold wpL;rw [if_pos hw];unfold yld;rw [hr];exact h
theorem stp (hw:Region.wanted o (jQ ops ρ)=true) (hr:(execOp (evE ρ) o).run P w=.ok (.value v) w) (h:wpL P ops Q rest (put ρ o.dst v) w):wpL P ops Q (o :: rest) ρ w:=st hw hr h
theorem vG (hw:Region.wanted o (jQ ops ρ)=true) (hr:(execOp (evE ρ) o).run P w=.ok .skip w') (h:wpL P ops Q rest (put ρ o.dst undef) w'):wpL P ops Q (o :: rest) ρ w:=by
 unfold wpL;rw [if_pos hw];unfold yld;rw [hr];exact h
theorem jKR (hw:Region.wanted o (jQ ops ρ)=false) (h:wpL P ops Q rest (put ρ o.dst undef) w):wpL P ops Q (o :: rest) ρ w:=by
 unfold wpL;rw [if_neg (by rw [hw];simp)];exact h
theorem kQ {f:FuncId} {args:Array Value} (hw:Region.wanted o (jQ ops ρ)=true) (hr:(execOp (evE ρ) o).run P w=.ok (.enter f args) w') (h:Calls P f args w' fun e w''=>∃v,e=.returned v∧wpL P ops Q rest (put ρ o.dst v) w''):wpL P ops Q (o :: rest) ρ w:=by
 unfold wpL;rw [if_pos hw];unfold yld;rw [hr];exact h
variable {C:World→Prop} {loud free:Nat→Bool} {k fuel:Nat} {listed:Array Bool}
theorem jGL (h0:Region.ready .any ops listed=[]) (h:Q ρ w):wpX P ops C loud free Q 0 listed ρ w:=⟨h0,h⟩
def jKC (ops:Array Oper) (listed:Array Bool) (loud:Nat→Bool) (k:Nat):Bool:=(Region.ready .any ops listed).contains k && !loud k && Region.free .any ops listed k
theorem qgo (hg:jKC ops listed loud k=true) (h:opE P ops C loud free k (wpX P ops C loud free Q fuel (listed.setIfInBounds k true)) ρ w):wpX P ops C loud free Q (fuel+1) listed ρ w:=by
 simp only [jKC,Bool.and_eq_true,Bool.not_eq_true'] at hg;exact .inl ⟨k,by simpa using hg.1.1,hg.1.2,hg.2,h⟩
theorem lgo (hr:Region.ready .any ops listed=[k]) (h:opE P ops C loud free k (wpX P ops C loud free Q fuel (listed.setIfInBounds k true)) ρ w):wpX P ops C loud free Q (fuel+1) listed ρ w :=
 .inr ⟨(fun h0=>by rw [hr] at h0;cases h0),fun i hi=>by rw [hr] at hi;simp at hi;subst hi;exact h⟩
theorem jGG {k':Nat} (hr:Region.ready .any ops listed=[k,k']) (h:opE P ops C loud free k (wpX P ops C loud free Q fuel (listed.setIfInBounds k true)) ρ w) (h':opE P ops C loud free k' (wpX P ops C loud free Q fuel (listed.setIfInBounds k' true)) ρ w):wpX P ops C loud free Q (fuel+1) listed ρ w :=
 .inr ⟨(fun h0=>by rw [hr] at h0;cases h0),fun i hi=>by rw [hr] at hi;simp at hi;rcases hi with rfl | rfl;exact h;exact h'⟩
variable {K:Env→World→Prop}
theorem sx (ho:ops[k]?=some o) (hw:Region.wanted o (jQ ops ρ)=true) (hl:loud k=false) (hr:∀w',C w'→(execOp (evE ρ) o).run P w'=.ok (.value v) w') (h:K (put ρ o.dst v) w):opE P ops C loud free k K ρ w:=by
 unfold opE;rw [ho];simp only;rw [if_pos hw,if_neg (by rw [hl];simp)];exact ⟨v,.inr fun w' hC=>by unfold qy;rw [hr w' hC];exact ⟨rfl,rfl⟩,h⟩
theorem sxe (ho:ops[k]?=some o) (hw:Region.wanted o (jQ ops ρ)=true) (hl:loud k=false) (he:uN .any ops loud k=true) (hr:(execOp (evE ρ) o).run P w=.ok (.value v) w) (h:K (put ρ o.dst v) w):opE P ops C loud free k K ρ w:=by
 unfold opE;rw [ho];simp only;rw [if_pos hw,if_neg (by rw [hl];simp)];exact ⟨v,.inl ⟨he,by unfold qy;rw [hr];exact ⟨rfl,rfl⟩⟩,h⟩
theorem kM (ho:ops[k]?=some o) (hw:Region.wanted o (jQ ops ρ)=false) (h:K (put ρ o.dst undef) w):opE P ops C loud free k K ρ w:=by
 unfold opE;rw [ho];simp only;rw [if_neg (by rw [hw];simp)];exact h
theorem sl (ho:ops[k]?=some o) (hw:Region.wanted o (jQ ops ρ)=true) (hl:loud k=true) (hr:(execOp (evE ρ) o).run P w=.ok (.value v) w') (hC:free k=true∨C w') (h:K (put ρ o.dst v) w'):opE P ops C loud free k K ρ w:=by
 unfold opE;rw [ho];simp only;rw [if_pos hw,if_pos hl];unfold yld;rw [hr];exact ⟨hC,h⟩
theorem jHA (ho:ops[k]?=some o) (hw:Region.wanted o (jQ ops ρ)=true) (hl:loud k=true) (hr:(execOp (evE ρ) o).run P w=.ok .skip w') (hC:free k=true∨C w') (h:K (put ρ o.dst undef) w'):opE P ops C loud free k K ρ w:=by
 unfold opE;rw [ho];simp only;rw [if_pos hw,if_pos hl];unfold yld;rw [hr];exact ⟨hC,h⟩
theorem gQ {f:FuncId} {args:Array Value} (ho:ops[k]?=some o) (hw:Region.wanted o (jQ ops ρ)=true) (hl:loud k=true) (hr:(execOp (evE ρ) o).run P w=.ok (.enter f args) w') (h:Calls P f args w' fun e w''=>∃v,e=.returned v∧(free k=true∨C w'')∧K (put ρ o.dst v) w''):opE P ops C loud free k K ρ w:=by
 unfold opE;rw [ho];simp only;rw [if_pos hw,if_pos hl];unfold yld;rw [hr];exact h
end
section
variable {P:Program} {ε:Operand→Value} {w w':World} {d:Option Tmp} {ty:TypeId} {pos:String} {aft:Array Edge} {g:Option (Nat×Bool)}
theorem oU {T:TypeId} {x:Operand} {a:Addr} {v:Value} (hx:ε x=.pointer (some a)) (hT:(isAgg T).run P w=.ok false w) (hc:w.cell? a=some v) :
  (execOp ε ⟨d,.load T x,ty,pos,aft,g⟩).run P w=.ok (.value v) w:=by
 simp [execOp,Instr.loadAt,Instr.sureAddr,hx,loadVar,hT,hc]
theorem qZ (a:Addr) (vs:List Value):∀(n i:Nat) (acc:Array Value),i+n=vs.length→(∀j,i≤j→j<vs.length→w.cell? (a.add j)=vs[j]?)→(loadCellsFrom a i n acc).run P w=.ok (acc++(vs.drop i).toArray) w:=by
 intro n;induction n with
 | zero => intro i acc hi _; have : vs.drop i = [] := by simp; omega
           simp [loadCellsFrom,this]
 | succ n ih =>
  intro i acc hi h
  have hlt:i<vs.length:=by omega
  have hc:=h i (Nat.le_refl _) hlt
  rw [List.getElem?_eq_getElem hlt] at hc
  have:=ih (i+1) (acc.push vs[i]) (by omega) (fun j hj hj'=>h j (by omega) hj')
  simp only [loadCellsFrom,Sem.run_bind,run_load,hc,Result.andThen_ok,this]
  rw [List.drop_eq_getElem_cons hlt]
  congr 1
  apply Array.ext'
  simp
theorem tW {T:TypeId} {x:Operand} {a:Addr} {n:Nat} {vs:List Value} (hx:ε x=.pointer (some a)) (hT:(isAgg T).run P w=.ok true w) (hs:(sizeOf T).run P w=.ok n w) (hn:vs.length=n) (hc:Row w a vs) :
  (execOp ε ⟨d,.load T x,ty,pos,aft,g⟩).run P w=.ok (.value (.agg vs.toArray)) w:=by
 have:=qZ (P:=P) (w:=w) a vs n 0 #[] (by omega) (fun j _ hj=>hc j hj)
 simp [execOp,Instr.loadAt,Instr.sureAddr,hx,loadVar,hT,hs,loadCells,this]
theorem tA {a:Addr} {v:Value} (h1:kD v=true) (hc:kG w a):(store a v).run P w=.ok () (w.setCell a v):=by
 obtain ⟨⟨u,hu⟩,hf⟩:=hc;cases v <;> simp [kD] at h1 <;> simp [store,Sem.run,hu,hf]
theorem zY {T:TypeId} {x y:Operand} {a:Addr} {v:Value} (hx:ε x=.pointer (some a)) (hy:ε y=v) (h1:kD v=true) (hs:(sizeOf T).run P w=.ok 1 w) (hc:kG w a) :
  (execOp ε ⟨d,.store T x y,ty,pos,aft,g⟩).run P w=.ok .skip (w.setCell a v):=by
 have hcells:v.cells=#[v]:=by cases v <;> simp [kD] at h1 <;> rfl
 have h0:a.add 0=a:=by simp [Addr.add]
 simp [execOp,Instr.storeAt,Instr.sureAddr,hx,hy,storeVar,hs,hcells,storeCells,h0,tA h1 hc]
theorem cell?_setCell_some {w:World} {p q:Addr} {x v:Value} (h:w.cell? q=some v):∃v',(w.setCell p x).cell? q=some v':=by
 unfold World.cell? at h ⊢;unfold World.setCell;simp only [Array.getElem?_modify];by_cases hb:p.block=q.block
 ·rw [if_pos hb];split at h
  ·rename_i c e f hc;rw [hc];by_cases hs:q.spot.isSome
   ·simp [hs] at h
   ·simp only [hs,Bool.false_eq_true,if_false] at h;simp only [Option.map_some,hs,Bool.false_eq_true,if_false];by_cases hp:p.spot.isSome
    ·simp only [hp,if_true];exact ⟨v,h⟩
    ·simp only [hp,Bool.false_eq_true,if_false,Array.getElem?_setIfInBounds];have hlt:=(Array.getElem?_eq_some_iff.1 h).1;split
     ·rename_i ho;exact ⟨x,by simp;omega⟩
     ·exact ⟨v,h⟩
  ·cases h
 ·rw [if_neg hb];exact ⟨v,h⟩
theorem kG.setCell {w:World} {a b:Addr} {u:Value} (h:kG w a):kG (w.setCell b u) a :=
 ⟨let ⟨_,hx⟩:=h.1;cell?_setCell_some hx,by rw [World.frozen?_setCell];exact h.2⟩
theorem gA (a:Addr):∀(vs:List Value) (i:Nat) (w:World),(∀v∈vs,kD v=true)→(∀j,j<vs.length→kG w (a.add (i+j)))→(storeCells a vs i).run P w=.ok () (storeRowFrom w a i vs):=by
 intro vs;induction vs with
 | nil=>intro i w _ _;rfl
 | cons v vs ih =>
  intro i w h1 hc
  have h0:kG w (a.add i):=by simpa using hc 0 (by simp)
  have hr:=tA (P:=P) (h1 v (by simp)) h0
  have:=ih (i+1) (w.setCell (a.add i) v) (fun u hu=>h1 u (by simp [hu])) (fun j hj=>by
   have:=(hc (j+1) (by simpa using hj)).setCell (b:=a.add i) (u:=v);rwa [show i+(j+1)=i+1+j by omega] at this)
  simp [storeCells,hr,this,storeRowFrom]
theorem qN {T:TypeId} {x y:Operand} {a:Addr} {n:Nat} {vs:List Value} (hx:ε x=.pointer (some a)) (hy:ε y=.agg vs.toArray) (h1:vs.all kD=true) (hs:(sizeOf T).run P w=.ok n w) (hn:vs.length=n) (hc:∀j,j<vs.length→kG w (a.add j)) :
  (execOp ε ⟨d,.store T x y,ty,pos,aft,g⟩).run P w=.ok .skip (storeRow w a vs):=by
 have:=gA (P:=P) a vs 0 w (by simpa using h1) (by simpa using hc)
 simp [execOp,Instr.storeAt,Instr.sureAddr,hx,hy,storeVar,hs,Value.cells,hn,this,storeRow]
theorem jW {T:TypeId} {z:Value} {cs:Array Value} (hz:(zeroValue T).run P w=.ok z w) (hc:z.cells=cs) :
  (execOp ε ⟨d,.alloc T,ty,pos,aft,g⟩).run P w=.ok (.value (.pointer (some ⟨w.heap.size,0,none⟩))) (w.alloc (.cells cs T)):=by
 subst hc
 simp [execOp,Instr.alloc,hz,newVar,newRow]
theorem x_box {T:TypeId} {x:Operand} {cs:Array Value} (hc:(ε x).cells=cs) :
  (execOp ε ⟨d,.box T x,ty,pos,aft,g⟩).run P w=.ok (.value (.pointer (some ⟨w.heap.size,0,none⟩))) (w.alloc (.cells cs T)):=by
 subst hc
 simp [execOp,Instr.box,newVar,newRow]
theorem jLC {c x y:Operand} {b:Bool} {v:Value} (hc:ε c=.bool b) (hb:b=true) (hx:ε x=v):(execOp ε ⟨d,.pick c x y,ty,pos,aft,g⟩).run P w=.ok (.value v) w:=by
 simp [execOp,hc,hb,hx,asBool]
theorem jLD {c x y:Operand} {b:Bool} {v:Value} (hc:ε c=.bool b) (hb:b=false) (hy:ε y=v):(execOp ε ⟨d,.pick c x y,ty,pos,aft,g⟩).run P w=.ok (.value v) w:=by
 simp [execOp,hc,hb,hy,asBool]
theorem oT {x:Operand} {p:Option Addr} {a:Addr} (hx:ε x=.pointer p) (hp:p=some a):(execOp ε ⟨d,.nilCheck x,ty,pos,aft,g⟩).run P w=.ok (.value (.pointer (some a))) w:=by
 simp [execOp,hx,hp]
structure At (s:Sl) (i:Int) (size:Nat) (a:Addr):Prop where
 lo:0≤i
 hi:i<s.len
 at_:∃b,s.a=some b∧a=b.add (i.toNat*size)
theorem lD {T E:TypeId} {x ix:Operand} {s:Sl} {k:IntKind} {i:Int} {n:Nat} {a:Addr} (hx:ε x=s.v) (hi:ε ix=.int k i) (hT:(underlying T).run P w=.ok (.slice E) w) (hs:(sizeOf E).run P w=.ok n w) (ha:At s i n a) :
  (execOp ε ⟨d,.indexAddr T x ix,ty,pos,aft,g⟩).run P w=.ok (.value (.pointer (some a))) w:=by
 obtain ⟨h0,h1,b,hb,rfl⟩:=ha
 simp [execOp,Instr.indexAt,hx,hi,Sl.v,asIntOf,hT,hb,h0,h1,hs]
theorem toList_inj {x y:ByteArray} (h:x.toList=y.toList):x=y:=by
 have e:∀z:ByteArray,z.toList=z.data.toList:=fun z=>ByteArray.toList_eq z;rw [e,e] at h;cases x;cases y;simpa using h
theorem jIZ (x y:ByteArray):(x.toList == y.toList)=decide (x=y):=by
 by_cases h:x=y
 ·simp [h]
 ·have:¬ x.toList=y.toList:=fun e=>h (toList_inj e);simp [h,this]
theorem jGJ {T T':TypeId} {a b:Operand} {x y:ByteArray} (hx:ε a=.string x) (hy:ε b=.string y):(execOp ε ⟨d,.binOp .eql T a b T',ty,pos,aft,g⟩).run P w=.ok (.value (.bool (decide (x=y)))) w:=by
 simp [execOp,hx,hy,eqGuard,jIZ,go_sem]
theorem xN {T T':TypeId} {a b:Operand} {x y:ByteArray} (hx:ε a=.string x) (hy:ε b=.string y):(execOp ε ⟨d,.binOp .neq T a b T',ty,pos,aft,g⟩).run P w=.ok (.value (.bool (!decide (x=y)))) w:=by
 simp [execOp,hx,hy,eqGuard,jIZ,go_sem]
theorem tV {T T' E:TypeId} {a b:Operand} {x:Option Addr} (hx:ε a=.pointer x) (hy:ε b=.pointer none) (hT:P.underlying T=some (.pointer E)):(execOp ε ⟨d,.binOp .eql T a b T',ty,pos,aft,g⟩).run P w=.ok (.value (.bool x.isNone)) w:=by
 have hp:P.pointee T=E:=by simp [Program.pointee,hT]
 have:=run_eql_pointer_nil (P:=P) w T x (by rw [hp];exact hT);simp [execOp,hx,hy,eqGuard,this]
theorem jIW {T T' E:TypeId} {a b:Operand} {x:Option Addr} (hx:ε a=.pointer x) (hy:ε b=.pointer none) (hT:P.underlying T=some (.pointer E)):(execOp ε ⟨d,.binOp .neq T a b T',ty,pos,aft,g⟩).run P w=.ok (.value (.bool (!x.isNone))) w:=by
 have hp:P.pointee T=E:=by simp [Program.pointee,hT]
 have:=run_neq_pointer_nil (P:=P) w T x (by rw [hp];exact hT);simp [execOp,hx,hy,eqGuard,this]
theorem jLG {op:BinOp} {T T':TypeId} {a b:Operand} {xs ys:Array Value} {r:Bool} (hx:ε a=.agg xs) (hy:ε b=.agg ys) (hm:P.eqGuardType P.depth T=false) (hr:(Go.binOp op T (.agg xs) (.agg ys)).run P w=.ok (.bool r) w) :
  (execOp ε ⟨d,.binOp op T a b T',ty,pos,aft,g⟩).run P w=.ok (.value (.bool r)) w:=by
 have:=run_eqGuard_agg (P:=P) w op T a b xs ys hm
 simp [execOp,hx,hy,this,hr]
theorem qV {op:BinOp} {T T':TypeId} {a b:Operand} {x y v:Value} (hx:ε a=x) (hy:ε b=y) (hg:(eqGuard op T a b x y).run P w=.ok () w) (hr:(Go.binOp op T x y).run P w=.ok v w) :
  (execOp ε ⟨d,.binOp op T a b T',ty,pos,aft,g⟩).run P w=.ok (.value v) w:=by
 simp [execOp,hx,hy,hg,hr]
theorem jLF {f:FuncId} {x:Operand} {c:List Operand} {ts:Array TypeId} {caps args args':Array Value} (hx:ε x=.func (.func f) #[] caps) (hf:∀args w,(callFunc f args).run P w=.ok (.enter f args) w) (ha:(c.map ε).toArray=args) (hc:args++caps=args') :
  (execOp ε ⟨d,.call ⟨.value x,c.toArray,ts⟩,ty,pos,aft,g⟩).run P w=.ok (.enter f args') w:=by
 subst hc;subst ha
 simp [execOp,resolve,hx,Deferred.ofValue,invoke,hf]
theorem x_call {f:FuncId} {c:List Operand} {ts:Array TypeId} {args:Array Value} (hf:∀args w,(callFunc f args).run P w=.ok (.enter f args) w) (ha:(c.map ε).toArray=args) :
  (execOp ε ⟨d,.call ⟨.value (.func f),c.toArray,ts⟩,ty,pos,aft,g⟩).run P w=.ok (.enter f args) w∨ε (.func f)≠.func (.func f) #[] #[]:=by
 by_cases h:ε (.func f)=.func (.func f) #[] #[]
 ·exact .inl (jLF (caps:=#[]) h hf ha (by simp))
 ·exact .inr h
theorem lE {ρ:Env} {f:FuncId} {c:List Operand} {ts:Array TypeId} {args:Array Value} (hf:∀args w,(callFunc f args).run P w=.ok (.enter f args) w) (ha:(c.map (evE ρ)).toArray=args) :
  (execOp (evE ρ) ⟨d,.call ⟨.value (.func f),c.toArray,ts⟩,ty,pos,aft,g⟩).run P w=.ok (.enter f args) w :=
 (x_call hf ha).resolve_right (fun h=>h rfl)
theorem jI {b:Builtin} {c:List Operand} {ts:Array TypeId} {args:Array Value} {s:Sem Value} {v:Value} (ha:(c.map ε).toArray=args) (hb:∀consts,builtin b ts ty consts args=(do pure (.value (← s)))) (hr:s.run P w=.ok v w') :
  (execOp ε ⟨d,.call ⟨.builtin b,c.toArray,ts⟩,ty,pos,aft,g⟩).run P w=.ok (.value v) w':=by
 subst ha
 simp only [execOp,resolve,pure_bind,invoke,List.map_toArray,hb]
 simp [hr]
theorem jEF {T:TypeId} {x i:Operand} {ok:Bool} {m k v:Value} (hx:ε x=m) (hi:ε i=k) (hr:(Instr.lookup T m k ok).run P w=.ok v w):(execOp ε ⟨d,.lookup T x i ok,ty,pos,aft,g⟩).run P w=.ok (.value v) w:=by
 simp [execOp,hx,hi,hr]
theorem jDC {T:TypeId} {x i y:Operand} {m k v:Value} (hx:ε x=m) (hi:ε i=k) (hy:ε y=v) (hr:(Instr.mapUpdate T m k v).run P w=.ok () w'):(execOp ε ⟨d,.mapUpdate T x i y,ty,pos,aft,g⟩).run P w=.ok .skip w':=by
 simp [execOp,hx,hi,hy,hr]
theorem vS {T:TypeId} {x i y:Operand} {m k v:Value} (hx:ε x=m) (hi:ε i=k) (hy:ε y=v) (hr:(Instr.mapUpdate T m k v).run P w=.ok () w'):(execOp ε ⟨d,.insert T x i y,ty,pos,aft,g⟩).run P w=.ok .skip w':=by
 simp [execOp,hx,hi,hy,hr]
theorem qB {T:TypeId} {x:Operand} {lo hi mx:Option Operand} {s v:Value} {l h m:Option Value} (hx:ε x=s) (hl:lo.map ε=l) (hh:hi.map ε=h) (hm:mx.map ε=m) (hr:(Instr.sliceAt T s l h m).run P w=.ok v w):(execOp ε ⟨d,.slice T x lo hi mx,ty,pos,aft,g⟩).run P w=.ok (.value v) w:=by
 simp only [execOp,hx,hl,hh,hm];simp [hr]
theorem vF {S T:TypeId} {x:Operand} {s v:Value} (hx:ε x=s) (hr:(convert S T s).run P w=.ok v w'):(execOp ε ⟨d,.convert S T x,ty,pos,aft,g⟩).run P w=.ok (.value v) w':=by
 simp [execOp,hx,hr]
theorem zZ {T:TypeId} {x i:Operand} {s k v:Value} (hx:ε x=s) (hi:ε i=k) (hr:(Instr.index T s k).run P w=.ok v w):(execOp ε ⟨d,.index T x i,ty,pos,aft,g⟩).run P w=.ok (.value v) w:=by
 simp [execOp,hx,hi,hr]
theorem jK {T:TypeId} {n:Nat} {ps:List (Nat×Operand)} {vs:Array (Nat×Value)} {v:Value} (hp:(ps.map fun p=>(p.1,ε p.2)).toArray=vs) (hr:(Instr.buildSlice T n vs).run P w=.ok v w'):(execOp ε ⟨d,.buildSlice T n ps.toArray,ty,pos,aft,g⟩).run P w=.ok (.value v) w':=by
 subst hp;simp only [execOp,List.map_toArray];simp [hr]
end
end Go.SE
namespace Go.SE
def Has (ρ:Env) (l:List (Nat×Value)):Prop:=l.map (fun p=>ρ p.1)=l.map (·.2)
theorem Has.mk {ρ:Env} {l:List (Nat×Value)} (h:l.map (fun p=>ρ p.1)=l.map (·.2)):Has ρ l:=h
def lS (ρ:Env):List (Nat×Value)→Env
 | []=>ρ
 | (d,v) :: l=>upd (lS ρ l) d v
theorem qY {ρ:Env}:∀{l:List (Nat×Value)},Has ρ l→lS ρ l=ρ
 | [],_=>rfl
 | (d,v) :: l,h=>by
  have h':ρ d=v∧l.map (fun p=>ρ p.1)=l.map (·.2):=by simpa [Has] using h
  have:=qY (ρ:=ρ) (l:=l) h'.2;simp only [lS,this];funext i;simp only [upd];split
  ·rename_i e;rw [e,h'.1]
  ·rfl
section
variable {P:Program} {n:Nat} {Q:Exit→Env→World→Prop} {ρ:Env} {w w':World}
theorem jY {cx:Cx} {c:Code} {l:List (Nat×Value)} (h:Has ρ l) (hg:wpE (x:=cx) P n c Q (lS ρ l) w):wpE (x:=cx) P n c Q ρ w:=by rwa [qY h] at hg
theorem jFA {cx:Cx} {c:Operand} {x y:Code} {t:Bool} (hc:evE ρ c=.bool t) (ht:t=true) (h:wpE (x:=cx) P n x Q ρ w):wpE (x:=cx) P n (.cond c x y) Q ρ w:=kO (by rw [hc,ht]) h
structure New (w:World) (o:Obj) (p:Addr) (w':World):Prop where
 at_:p=⟨w.heap.size,0,none⟩
 to:w'=w.alloc o
theorem kP {ops:Array Oper} {Q:Env→World→Prop} {rest:List Oper} {o:Oper} {O:Obj} (v:Addr→Value) (hw:Region.wanted o (jQ ops ρ)=true) (hr:(execOp (evE ρ) o).run P w=.ok (.value (v ⟨w.heap.size,0,none⟩)) (w.alloc O)) (h:∀p w',New w O p w'→wpL P ops Q rest (put ρ o.dst (v p)) w'):wpL P ops Q (o :: rest) ρ w :=
 st hw hr (h _ _ ⟨rfl,rfl⟩)
theorem zF {ops:Array Oper} {Q:Env→World→Prop} {rest:List Oper} {o:Oper} {W:World} (hw:Region.wanted o (jQ ops ρ)=true) (hr:(execOp (evE ρ) o).run P w=.ok .skip W) (h:∀w',w'=W→wpL P ops Q rest (put ρ o.dst undef) w'):wpL P ops Q (o :: rest) ρ w :=
 vG hw hr (h _ rfl)
section
variable {ops:Array Oper} {C:World→Prop} {loud free:Nat→Bool} {k:Nat} {o:Oper} {K:Env→World→Prop}
theorem kC {O:Obj} (v:Addr→Value) (ho:ops[k]?=some o) (hw:Region.wanted o (jQ ops ρ)=true) (hl:loud k=true) (hr:(execOp (evE ρ) o).run P w=.ok (.value (v ⟨w.heap.size,0,none⟩)) (w.alloc O)) (h:∀p w',New w O p w'→(free k=true∨C w')∧K (put ρ o.dst (v p)) w'):opE P ops C loud free k K ρ w :=
 let hh:=h _ _ ⟨rfl,rfl⟩;sl ho hw hl hr hh.1 hh.2
theorem jBF {W:World} (ho:ops[k]?=some o) (hw:Region.wanted o (jQ ops ρ)=true) (hl:loud k=true) (hr:(execOp (evE ρ) o).run P w=.ok .skip W) (h:∀w',w'=W→(free k=true∨C w')∧K (put ρ o.dst undef) w'):opE P ops C loud free k K ρ w :=
 let hh:=h _ rfl;jHA ho hw hl hr hh.1 hh.2
theorem sxQ {W:World} {v:Value} (ho:ops[k]?=some o) (hw:Region.wanted o (jQ ops ρ)=true) (hl:loud k=false) (hr:(execOp (evE ρ) o).run P W=.ok (.value v) W) (h:K (put ρ o.dst v) w):opE P ops (fun x=>x=W) loud free k K ρ w :=
 sx ho hw hl (fun w' e=>by rw [show w'=W from e];exact hr) h
end
theorem zJ {cx:Cx} {id:Nat} {l:List Oper} (hm:P.follows .mixedOrders=true) (hd:vP n l=true) (hB:Region.noSelect l.toArray=true) (hg:jDW .any l.toArray (kV []) (kV [])=true)
  (h:∀w',w'=w.drew→wpX P l.toArray (fun x=>x=w') (kV []) (kV []) (fun ρ w=>Q .normal ρ w) l.length (Array.replicate l.length false) ρ w'):wpE (x:=cx) P n (.region id l.toArray true) Q ρ w :=
 jBA (fun x=>x=w.drew) [] [] hm hd hB hg rfl (by simpa using h _ rfl)
theorem vX {cx:Cx} {id:Nat} {l:List Oper} (C:World→Prop) (loud free:List Nat) (hm:P.follows .mixedOrders=true) (hd:vP n l=true) (hB:Region.noSelect l.toArray=true) (hg:jDW .any l.toArray (kV loud) (kV free)=true)
  (hC:C w.drew)
  (h:∀w',w'=w.drew→wpX P l.toArray C (kV loud) (kV free) (fun ρ w=>Q .normal ρ w) l.length (Array.replicate l.length false) ρ w'):wpE (x:=cx) P n (.region id l.toArray true) Q ρ w :=
 jBA C loud free hm hd hB hg hC (by simpa using h _ rfl)
end
end Go.SE
namespace Go.SE
section
variable {P:Program} {n:Nat} {ρ:Env} {w:World}
def RV (P:Program) (ρ:Env) (w:World):ResultVar→Value→Prop
 | .tmp t,v=>ρ t=v
 | .cell a t,v=>∃A,ρ a=.pointer (some A)∧(loadVar t A).run P w=.ok v w
def RVs (P:Program) (ρ:Env) (w:World):List ResultVar→List Value→Prop
 | [],[]=>True
 | r :: rs,v :: vs=>RV P ρ w r v∧RVs P ρ w rs vs
 | _,_=>False
theorem jBK {T:TypeId} {a:Addr} {n:Nat} {vs:List Value} (hT:(isAgg T).run P w=.ok true w) (hs:(sizeOf T).run P w=.ok n w) (hn:vs.length=n) (hc:Row w a vs):(loadVar T a).run P w=.ok (.agg vs.toArray) w:=by
 have:=qZ (P:=P) (w:=w) a vs n 0 #[] (by omega) (fun j _ hj=>hc j hj);simp [loadVar,hT,hs,loadCells,this]
theorem jBL {T:TypeId} {a:Addr} {v:Value} (hT:(isAgg T).run P w=.ok false w) (hc:w.cell? a=some v):(loadVar T a).run P w=.ok v w:=by
 simp [loadVar,hT,hc]
theorem RV.cellA {a:Nat} {A:Addr} {T:TypeId} {vs:List Value} {k:Nat} (ha:ρ a=.pointer (some A)) (hT:(isAgg T).run P w=.ok true w) (hs:(sizeOf T).run P w=.ok k w) (hn:vs.length=k) (hc:Row w A vs):RV P ρ w (.cell a T) (.agg vs.toArray):=⟨A,ha,jBK hT hs hn hc⟩
theorem RV.cell1 {a:Nat} {A:Addr} {T:TypeId} {v:Value} (ha:ρ a=.pointer (some A)) (hT:(isAgg T).run P w=.ok false w) (hc:w.cell? A=some v):RV P ρ w (.cell a T) v:=⟨A,ha,jBL hT hc⟩
theorem uS {fn:Func} {rs:List ResultVar} {vs:List Value} (hr:fn.results=rs.toArray) (h:RVs P ρ w rs vs) {ds:List Deferred} {a:Act} (ha:Rep ds n ρ a) {v:Value} (hv:(if h:vs.toArray.size=1 then vs.toArray[0] else .tuple vs.toArray)=v):(results fn a.tmps).run P w=.ok v w:=by
 have key:∀(f:ResultVar→Sem Value),(∀t,f (.tmp t)=pure (a.tmps.getD t undef))→(∀x t,f (.cell x t)=(do loadVar t (← asAddr (a.tmps.getD x undef))))→∀(rs:List ResultVar) (vs:List Value),RVs P ρ w rs vs→(rs.mapM f).run P w=.ok vs w:=by
  intro f hf hf' rs;induction rs with
  | nil=>intro vs h;cases vs <;> simp only [RVs] at h;rfl
  | cons r rs ih =>
   intro vs h
   cases vs with
   | nil=>simp only [RVs] at h
   | cons v vs =>
    obtain ⟨h1,h2⟩:=h
    have:(f r).run P w=.ok v w:=by
     cases r with
     | tmp t=>rw [hf,ha.get];simp only [RV] at h1;rw [h1];rfl
     | cell x t =>
      obtain ⟨A,hA,hl⟩:=h1
      rw [hf',ha.get,hA]
      simp only [Sem.run_bind,asAddr,Sem.run_pure,Result.andThen]
      exact hl
    rw [List.mapM_cons]
    simp only [Sem.run_bind,Sem.run_pure,Result.andThen,this,ih vs h2]
 unfold results;rw [hr,List.mapM_toArray,Sem.run_bind,Sem.run_map,key _ (fun _=>rfl) (fun _ _=>rfl) rs vs h];simp only [Result.andThen,Sem.run_pure];rw [← hv]
theorem uD {fn:Func} {rs:List ResultVar} {vs:List Value} {v:Value} {R:Ending→World→Prop} {e:Exit} (he:e=.ret∨e=.normal) (hr:fn.results=rs.toArray) (h:RVs P ρ w rs vs) (hv:(if h:vs.toArray.size=1 then vs.toArray[0] else .tuple vs.toArray)=v) (hR:R (.returned v) w):oL P fn n R e ρ w:=by
 rcases he with rfl | rfl <;> exact ⟨v,fun _ a ha=>uS hr h ha hv,hR⟩
end
section
variable {P:Program} {ε:Operand→Value} {w w':World} {d:Option Tmp} {ty:TypeId} {pos:String} {aft:Array Edge} {g:Option (Nat×Bool)}
end
end Go.SE
namespace Go.SE
theorem rvT {P:Program} {ρ:Env} {w:World} {t:Nat} {v:Value} (h:ρ t=v):RV P ρ w (.tmp t) v:=h
end Go.SE
namespace Go.SE
theorem jD {o:Oper} {l:List Oper}:(o :: l)[0]?=some o:=rfl
theorem jA {a o:Oper} {l:List Oper} {k:Nat} (h:l[k]?=some o):(a :: l)[k+1]?=some o:=by simpa using h
theorem jE {o:Oper} {l:List Oper} {k:Nat} (h:l[k]?=some o):l.toArray[k]?=some o:=by simpa using h
end Go.SE
namespace Go.SE
theorem lF {P:Program} {ops:Array Oper} {Q:Env→World→Prop} {ρ:Env} {w:World}:∀(k:Nat) {l:List Oper} {ρ:Env} {w:World},wpL P ops (fun ρ w=>wpL P ops Q (l.drop k) ρ w) (l.take k) ρ w→wpL P ops Q l ρ w
 | 0,l,ρ,w,h=>by simpa [wpL] using h
 | k+1,[],ρ,w,h=>by simpa [wpL] using h
 | k+1,o :: l,ρ,w,h=>by
  simp only [List.take_succ_cons,List.drop_succ_cons] at h;unfold wpL at h ⊢;split
  ·rename_i hw;rw [if_pos hw] at h;exact qM h fun v w' hh=>lF (ρ:=ρ) (w:=w) k hh
  ·rename_i hw;rw [if_neg hw] at h;exact lF (ρ:=ρ) (w:=w) k h
theorem xO {P:Program} {ops:Array Oper} {Q Q':Env→World→Prop} (hq:∀ρ w,Q ρ w→Q' ρ w):∀{l:List Oper} {ρ:Env} {w:World},wpL P ops Q l ρ w→wpL P ops Q' l ρ w
 | [],ρ,w,h=>by unfold wpL at h ⊢;exact hq _ _ h
 | o :: l,ρ,w,h=>by
  unfold wpL at h ⊢;split
  ·rename_i hw;rw [if_pos hw] at h;exact qM h fun v w' hh=>xO hq hh
  ·rename_i hw;rw [if_neg hw] at h;exact xO hq h
theorem jM {P:Program} {ops:Array Oper} {Q:Env→World→Prop} {ρ:Env} {w:World} {l:List Oper} (k:Nat) (J:Env→World→Prop) (hy:∀ρ w,J ρ w→wpL P ops Q (l.drop k) ρ w) (h:wpL P ops J (l.take k) ρ w):wpL P ops Q l ρ w :=
 lF (ρ:=ρ) (w:=w) k (xO hy h)
theorem jR {P:Program} {ops:Array Oper} {Q:Env→World→Prop} {ρ:Env} {w:World} {l:List Oper} {hs:List (Nat×Value)} (h:Has ρ hs) (hg:wpL P ops Q l (lS ρ hs) w):wpL P ops Q l ρ w:=by rwa [qY h] at hg
end Go.SE
namespace Go.SE
section
variable {P:Program} {ε:Operand→Value} {w w':World} {d:Option Tmp} {ty:TypeId} {pos:String} {aft:Array Edge} {g:Option (Nat×Bool)}
end
end Go.SE
namespace Go.SE
section
variable {P:Program} {ε:Operand→Value} {w w':World} {d:Option Tmp} {ty:TypeId} {pos:String} {aft:Array Edge} {g:Option (Nat×Bool)}
theorem RV.cellAr {ρ:Env} {a:Nat} {A:Addr} {T:TypeId} {vs:Array Value} {k:Nat} (ha:ρ a=.pointer (some A)) (hT:(isAgg T).run P w=.ok true w) (hs:(sizeOf T).run P w=.ok k w) (hc:vs.size=k∧Row w A vs.toList):RV P ρ w (.cell a T) (.agg vs):=by
 have:=RV.cellA (P:=P) ha hT hs (vs:=vs.toList) (by simpa using hc.1) hc.2;simpa using this
end
end Go.SE
end
section
namespace Go.SE
theorem yI (w:World) (o:Obj) (i:Nat) (h:i<w.heap.size):(w.alloc o).heap[i]?=w.heap[i]?:=by
 show (w.heap.push o)[i]?=w.heap[i]?;rw [Array.getElem?_push,if_neg (Nat.ne_of_lt h)]
structure Ext (F:Nat→Prop) (w w':World):Prop where
 os:w'.os=w.os
 tape:w'.tape=w.tape
 output:w'.output=w.output
 drawn:w.drawn≤w.drawn
 size:w.heap.size≤w'.heap.size
 keep:∀b,b<w.heap.size→¬ F b→w'.heap[b]?=w.heap[b]?
def None (_:Nat):Prop:=False
abbrev Pure (w w':World):Prop:=Ext None w w'
theorem Ext.refl {F:Nat→Prop} (w:World):Ext F w w:=⟨rfl,rfl,rfl,(by first | exact Nat.le_refl _ | exact Nat.le_succ _),Nat.le_refl _,fun _ _ _=>rfl⟩
theorem Ext.trans' {F G:Nat→Prop} {a b c:World} (h:Ext F a b) (k:Ext G b c) (hG:∀i,i<a.heap.size→G i→F i):Ext F a c :=
 ⟨k.os.trans h.os,k.tape.trans h.tape,k.output.trans h.output,(by first | exact Nat.le_trans h.drawn k.drawn | exact Nat.le_refl _),Nat.le_trans h.size k.size,fun i hi hf=>(k.keep i (Nat.lt_of_lt_of_le hi h.size) (fun hg=>hf (hG i hi hg))).trans (h.keep i hi hf)⟩
theorem Ext.trans {F:Nat→Prop} {a b c:World} (h:Ext F a b) (k:Ext F b c):Ext F a c:=h.trans' k (fun _ _ h=>h)
theorem Ext.mono {F G:Nat→Prop} {a b:World} (h:Ext F a b) (hG:∀i,i<a.heap.size→F i→G i):Ext G a b :=
 ⟨h.os,h.tape,h.output,h.drawn,h.size,fun i hi hf=>h.keep i hi (fun hF=>hf (hG i hi hF))⟩
theorem Ext.pure {F:Nat→Prop} {a b:World} (h:Pure a b):Ext F a b:=h.mono fun _ _ h=>h.elim
theorem Ext.thenPure {F:Nat→Prop} {a b c:World} (h:Ext F a b) (k:Pure b c):Ext F a c:=h.trans k.pure
theorem Ext.below {w w':World} (h:Pure w w'):RowKit.Below w.heap.size w w':=⟨h.os,h.tape,h.output,h.size,fun k hk=>h.keep k hk id⟩
theorem Ext.drew (w:World) {F:Nat→Prop}:Ext F w w.drew:=⟨rfl,rfl,rfl,(by first | exact Nat.le_refl _ | exact Nat.le_succ _),Nat.le_refl _,fun _ _ _=>rfl⟩
theorem qS {w:World} {b:Nat} {o:Obj} (h:w.heap[b]?=some o):b<w.heap.size:=(Array.getElem?_eq_some_iff.1 h).1
theorem Ext.heap {F:Nat→Prop} {w w':World} (h:Ext F w w') {b:Nat} {o:Obj} (hb:w.heap[b]?=some o) (hf:¬ F b):w'.heap[b]?=some o:=by
 rw [h.keep b (qS hb) hf];exact hb
theorem Ext.cell {F:Nat→Prop} {w w':World} (h:Ext F w w') {a:Addr} {v:Value} (ha:w.cell? a=some v) (hf:¬ F a.block):w'.cell? a=some v:=by
 have hlt:a.block<w.heap.size:=World.block_lt_of_cell? w a ha;unfold World.cell? at *;rw [h.keep _ hlt hf];exact ha
theorem Ext.row {F:Nat→Prop} {w w':World} (h:Ext F w w') {a:Addr} {vs:List Value} (ha:Row w a vs) (hf:¬ F a.block):Row w' a vs:=by
 intro i hi;have:=ha i hi;rw [List.getElem?_eq_getElem hi] at this ⊢;refine h.cell this ?_;have:(a.add i).block=a.block:=by unfold Addr.add;split <;> rfl
 rw [this];exact hf
theorem Ext.new {F:Nat→Prop} {w w':World} {o:Obj} {p:Addr} (h:New w o p w'):Ext F w w':=by
 obtain ⟨_,rfl⟩:=h;exact ⟨rfl,rfl,rfl,(by first | exact Nat.le_refl _ | exact Nat.le_succ _),by simp,fun b hb _=>yI w o b hb⟩
theorem Ext.setCell {w:World} (a:Addr) (v:Value):Ext (·=a.block) w (w.setCell a v) :=
 ⟨rfl,rfl,rfl,(by first | exact Nat.le_refl _ | exact Nat.le_succ _),by simp [World.setCell],fun b _ hf=>heap_setCell_other w a b v hf⟩
theorem zN (a:Addr) (i:Nat):(a.add i).block=a.block:=by unfold Addr.add;split <;> rfl
theorem Ext.storeRowFrom (a:Addr):∀(vs:List Value) (i:Nat) (w:World),Ext (·=a.block) w (storeRowFrom w a i vs)
 | [],_,w=>Ext.refl w
 | v :: vs,i,w=>by
  have h1:Ext (·=a.block) w (w.setCell (a.add i) v):=(Ext.setCell (a.add i) v).mono (fun _ _ h=>by rw [zN] at h;exact h);exact h1.trans (Ext.storeRowFrom a vs (i+1) _)
theorem Ext.storeRow (w:World) (a:Addr) (vs:List Value):Ext (·=a.block) w (SE.storeRow w a vs):=Ext.storeRowFrom a vs 0 w
structure Box (w:World) (p:Addr) (c:List Value) (T:TypeId):Prop where
 addr:p=⟨p.block,0,none⟩
 blk:w.heap[p.block]?=some (.cells c.toArray T (0,0))
theorem Box.of_new {w w':World} {c:List Value} {T:TypeId} {p:Addr} (h:New w (.cells c.toArray T) p w'):Box w' p c T:=by
 obtain ⟨rfl,rfl⟩:=h;exact ⟨rfl,heap_alloc_new w _⟩
theorem New.at_size {w w':World} {o:Obj} {p:Addr} (h:New w o p w'):p.block=w.heap.size:=by rw [h.at_]
theorem New.block_new {w w':World} {o:Obj} {p:Addr} (h:New w o p w'):w'.heap[p.block]?=some o:=by
 obtain ⟨rfl,rfl⟩:=h;exact heap_alloc_new w _
theorem New.ne {w w':World} {o o':Obj} {p:Addr} (h:New w o p w') {b:Nat} (hb:w.heap[b]?=some o'):b≠p.block:=by
 rw [h.at_size];exact Nat.ne_of_lt (qS hb)
theorem Box.lt {w:World} {p:Addr} {c:List Value} {T:TypeId} (h:Box w p c T):p.block<w.heap.size:=qS h.blk
theorem Box.ext {F:Nat→Prop} {w w':World} {p:Addr} {c:List Value} {T:TypeId} (h:Box w p c T) (hE:Ext F w w') (hf:¬ F p.block):Box w' p c T:=⟨h.addr,hE.heap h.blk hf⟩
theorem Box.pure {w w':World} {p:Addr} {c:List Value} {T:TypeId} (h:Box w p c T) (hE:Pure w w'):Box w' p c T:=h.ext hE id
theorem Box.add {w:World} {p:Addr} {c:List Value} {T:TypeId} (h:Box w p c T) (i:Nat):p.add i=⟨p.block,i,none⟩:=by
 rw [h.addr];unfold Addr.add;split <;> simp_all
theorem Box.cell {w:World} {p:Addr} {c:List Value} {T:TypeId} (h:Box w p c T) {i:Nat} {v:Value} (hv:c[i]?=some v):w.cell? (p.add i)=some v:=by
 rw [h.add,cell_of_row w _ _ _ _ _ h.blk];simpa using hv
theorem Box.cell0 {w:World} {p:Addr} {v:Value} {c:List Value} {T:TypeId} (h:Box w p (v :: c) T):w.cell? p=some v:=by
 have:=h.cell (i:=0) (v:=v) rfl;simpa [Addr.add] using this
theorem Box.row {w:World} {p:Addr} {c:List Value} {T:TypeId} (h:Box w p c T):Row w p c:=fun i hi=>by
 rw [List.getElem?_eq_getElem hi];exact h.cell (List.getElem?_eq_getElem hi)
theorem Box.canW {w:World} {p:Addr} {c:List Value} {T:TypeId} (h:Box w p c T) {i:Nat} (hi:i<c.length):kG w (p.add i) :=
 ⟨⟨c[i],h.cell (List.getElem?_eq_getElem hi)⟩,by rw [h.add];exact frozen_of_row w _ _ _ _ h.blk⟩
theorem Box.canW0 {w:World} {p:Addr} {c:List Value} {T:TypeId} (h:Box w p c T) (hi:0<c.length):kG w p:=by
 have:=h.canW hi;simpa [Addr.add] using this
theorem Box.canWs {w:World} {p:Addr} {c:List Value} {T:TypeId} (h:Box w p c T) {n:Nat} (hn:n≤c.length):∀j,j<n→kG w (p.add j):=fun _ hj=>h.canW (by omega)
theorem Box.set {w:World} {p:Addr} {c:List Value} {T:TypeId} (h:Box w p c T) (i:Nat) (v:Value):Box (w.setCell (p.add i) v) p (c.set i v) T:=by
 refine ⟨h.addr,?_⟩;rw [h.add];have:=heap_setCell_same w p.block i c.toArray T v h.blk;rw [this];simp
theorem Box.set0 {w:World} {p:Addr} {u v:Value} {c:List Value} {T:TypeId} (h:Box w p (u :: c) T):Box (w.setCell p v) p (v :: c) T:=by
 have:=h.set 0 v;simpa [Addr.add] using this
theorem Box.storeFrom {p:Addr} {T:TypeId}:∀(vs:List Value) (i:Nat) (w:World) (c:List Value),Box w p c T→i+vs.length=c.length→Box (storeRowFrom w p i vs) p (c.take i++vs) T
 | [],i,w,c,h,hl=>by
  have:c.take i=c:=List.take_of_length_le (by simp at hl;omega);simpa [storeRowFrom,this] using h
 | v :: vs,i,w,c,h,hl=>by
  simp only [List.length_cons] at hl;have:=Box.storeFrom vs (i+1) _ _ (h.set i v) (by simp;omega);simp only [storeRowFrom];have e:(c.set i v).take (i+1)++vs=c.take i++v :: vs:=by
   rw [List.take_succ_eq_append_getElem (by simp;omega),List.take_set_of_le (Nat.le_refl i)];simp
  rwa [e] at this
theorem Box.store {w:World} {p:Addr} {c vs:List Value} {T:TypeId} (h:Box w p c T) (hl:vs.length=c.length):Box (storeRow w p vs) p vs T:=by
 have:=Box.storeFrom vs 0 w c h (by omega);simpa [storeRow] using this
theorem Br.of {c:Bool} {A B:Prop} (h1:c=true→A) (h2:c=false→B):Br c A B:=⟨h1,h2⟩
theorem Br.t {c:Bool} {A B:Prop} (hc:c=true) (h:A):Br c A B:=⟨fun _=>h,fun e=>(by rw [hc] at e;cases e)⟩
theorem Br.f {c:Bool} {A B:Prop} (hc:c=false) (h:B):Br c A B:=⟨fun e=>(by rw [hc] at e;cases e),fun _=>h⟩
end Go.SE
namespace Go.SE
theorem bx (n:Nat) {w:World} {p:Addr} {c vs:List Value} {T:TypeId} (h:Box w p c T) (hn:c.length=n) (hl:vs.length=n) {A:World→Prop} (k:∀w',Box w' p vs T→Ext (·=p.block) w w'→A w'):(∀j,j<n→kG w (p.add j))∧∀w',w'=storeRow w p vs→A w' :=
 ⟨h.canWs (by omega),fun w' e=>by subst e;exact k _ (h.store (by omega)) (Ext.storeRow _ _ _)⟩
theorem Ext.own {w0 w w':World} {p:Addr} (h:Pure w0 w) (hp:w0.heap.size≤p.block) (k:Ext (·=p.block) w w'):Pure w0 w' :=
 h.trans' k (fun i hi e=>by subst e;exact absurd hi (by omega))
theorem New.own {w0 w w':World} {o:Obj} {p:Addr} (h:Pure w0 w) (hn:New w o p w'):w0.heap.size≤p.block:=by rw [hn.at_size];exact h.size
end Go.SE
namespace Go.SE
theorem Box.of_newA {w w':World} {c:Array Value} {T:TypeId} {p:Addr} (h:New w (.cells c T) p w'):Box w' p c.toList T:=by
 obtain ⟨rfl,rfl⟩:=h;exact ⟨rfl,by simpa using heap_alloc_new w (.cells c T)⟩
theorem Box.row_eq {w:World} {p:Addr} {c vs:List Value} {T:TypeId} (h:Box w p c T) (e:c=vs):Row w p vs:=e▸h.row
end Go.SE
end
section
namespace Go.SE
structure Rws (w:World) (e:TypeId) (sz:Nat) (s:Sl) (rs:List (List Value)):Prop where
 each:∀r∈rs,r.length=sz
 len:s.len=rs.length
 own:(s=Sl.nil∧rs=[])∨∃g cur,s.a=some ⟨g,0,none⟩∧w.heap[g]?=some (.cells cur e (0,0))∧rs.length≤s.cap∧s.cap≤maxLen∧cur.size=s.cap*sz∧cur.toList.take (rs.length*sz)=rs.flatten
def Sl.blk (s:Sl) (b:Nat):Prop:=∃a,s.a=some a∧a.block=b
theorem Rws.nil (w:World) (e:TypeId) (sz:Nat):Rws w e sz Sl.nil []:=⟨by simp,rfl,.inl ⟨rfl,rfl⟩⟩
theorem zS {rs:List (List Value)} {sz:Nat} (h:∀r∈rs,r.length=sz):rs.flatten.length=rs.length*sz:=by
 induction rs with
 | nil=>simp
 | cons r rs ih =>
  have h1:=h r (by simp)
  have h2:=ih (fun r hr=>h r (by simp [hr]))
  simp only [List.flatten_cons,List.length_append,h1,h2,List.length_cons,Nat.add_mul,Nat.one_mul]
  omega
theorem oI {rs:List (List Value)} {sz:Nat} (h:∀r∈rs,r.length=sz) {i:Nat} (hi:i<rs.length) {j:Nat} (hj:j<sz):rs.flatten[i*sz+j]?=rs[i][j]?:=by
 induction rs generalizing i with
 | nil=>simp at hi
 | cons r rs ih =>
  have h1:=h r (by simp)
  cases i with
  | zero=>simp [List.getElem?_append_left (show j<r.length by omega)]
  | succ i =>
   simp only [List.flatten_cons,List.getElem_cons_succ]
   rw [List.getElem?_append_right (by rw [h1,Nat.succ_mul];omega)]
   have:=ih (fun r hr=>h r (by simp [hr])) (i:=i) (by simpa using hi)
   rw [← this]
   congr 1
   rw [h1,Nat.succ_mul];omega
theorem Rws.ext {F:Nat→Prop} {w w':World} {e:TypeId} {sz:Nat} {s:Sl} {rs:List (List Value)} (h:Rws w e sz s rs) (hE:Ext F w w') (hf:∀b,s.blk b→¬ F b):Rws w' e sz s rs:=by
 refine ⟨h.each,h.len,?_⟩;rcases h.own with h' | ⟨g,cur,ha,hg,r⟩
 ·exact .inl h'
 ·exact .inr ⟨g,cur,ha,hE.heap hg (hf g ⟨_,ha,rfl⟩),r⟩
theorem Rws.pure {w w':World} {e:TypeId} {sz:Nat} {s:Sl} {rs:List (List Value)} (h:Rws w e sz s rs) (hE:Pure w w'):Rws w' e sz s rs:=h.ext hE (fun _ _ h=>h)
theorem Rws.lt {w:World} {e:TypeId} {sz:Nat} {s:Sl} {rs:List (List Value)} (h:Rws w e sz s rs) {b:Nat} (hb:s.blk b):b<w.heap.size:=by
 rcases h.own with ⟨rfl,_⟩ | ⟨g,cur,ha,hg,_⟩
 ·obtain ⟨a,ha,_⟩:=hb;cases ha
 ·obtain ⟨a,ha',rfl⟩:=hb;rw [ha] at ha';cases ha';exact qS hg
theorem Rws.at {w:World} {e:TypeId} {sz:Nat} {s:Sl} {rs:List (List Value)} (h:Rws w e sz s rs) {i:Int} (h0:0≤i) (hi:i.toNat<rs.length):∃a,At s i sz a∧Row w a rs[i.toNat]∧s.blk a.block:=by
 rcases h.own with ⟨_,rfl⟩ | ⟨g,cur,ha,hg,hc,_,hs,ht⟩
 ·simp at hi
 ·refine ⟨(⟨g,0,none⟩:Addr).add (i.toNat*sz),⟨h0,by rw [h.len];omega,⟨_,ha,rfl⟩⟩,?_,⟨_,ha,by rw [zN]⟩⟩;intro j hj;have hsz:=h.each _ (List.getElem_mem hi);have hadd:((⟨g,0,none⟩:Addr).add (i.toNat*sz)).add j=⟨g,i.toNat*sz+j,none⟩:=by
   unfold Addr.add;split <;> split <;> simp_all
  rw [hadd,cell_of_row w g _ cur e (0,0) hg,← oI h.each hi (by omega),← ht,List.getElem?_take];have hlt:i.toNat*sz+j<rs.length*sz:=by
   have:(i.toNat+1)*sz≤rs.length*sz:=Nat.mul_le_mul_right _ hi;rw [Nat.succ_mul] at this;omega
  rw [if_pos hlt];simp
theorem jFK {v:Value} (h:kD v=true):v.oneCell'=true:=by cases v <;> simp_all [kD,Value.oneCell']
structure SlType (P:Program) (t e:TypeId) (sz bytes:Nat):Prop where
 ht:P.underlying t=some (.slice e)
 hi:∃i z,P.info? e=some i∧i.zero=some z∧i.size=sz∧i.bytes=bytes∧z.cells.size=sz
 pos:0<sz
theorem jDJ {w:World} {p:Addr} {r:List Value} (hr:Row w p r):∀j u,r[j]?=some u→w.cell? (p.add j)=some u:=fun j u hu=>by
 rw [hr j (List.getElem?_eq_some_iff.1 hu).1,hu]
theorem Rws.grown {w:World} {e:TypeId} {sz:Nat} {rs:List (List Value)} (heach:∀q∈rs,q.length=sz) {cur:Array Value} {z:Value} (hz:z.cells.size=sz) (hcur:cur.toList=rs.flatten) {cap:Nat} (hc:rs.length≤cap) (hm:cap≤maxLen) :
  Rws (w.drew.alloc (.cells (cur++Builtin.zeroCells z.cells (cap - rs.length)) e)) e sz ⟨some ⟨w.heap.size,0,none⟩,rs.length,cap⟩ rs:=by
 refine ⟨heach,rfl,.inr ⟨w.heap.size,_,rfl,heap_alloc_new w.drew _,hc,hm,?_,?_⟩⟩
 ·have:cur.size=rs.length*sz:=by rw [← Array.length_toList,hcur,zS heach]
  rw [Array.size_append,size_zeroCells,hz,this,← Nat.add_mul]
  congr 1
  show rs.length+(cap - rs.length)=cap
  omega
 ·rw [Array.toList_append,hcur]
  have:=zS heach
  rw [← this]
  exact List.take_left
theorem Rws.appends {P:Program} {w:World} {t ty e:TypeId} {sz bytes:Nat} (T:SlType P t e sz bytes) {s:Sl} {rs qs:List (List Value)} (h:Rws w e sz s rs) {p:Addr} {c:Nat} (hr:Row w p qs.flatten) (hl:∀q∈qs,q.length=sz) (h1:∀q∈qs,q.all kD=true) (hq:qs≠[]) (hb:(rs.length+qs.length)*bytes≤140737488355328) (hm:rs.length+qs.length≤maxLen) :
  ∃s' w',(Builtin.append_ #[t,t] ty #[s.v,(Sl.mk (some p) qs.length c).v]).run P w=.ok s'.v w'∧Rws w' e sz s' (rs++qs)∧Ext s.blk w w'∧(∀b,s'.blk b→s.blk b∨w.heap.size≤b):=by
 obtain ⟨i,z,hi,hz,hsz,hby,hzs⟩:=T.hi
 subst hsz;subst hby
 have h1':∀u∈qs.flatten,u.oneCell'=true:=fun u hu=>by
  obtain ⟨q,hq,hu⟩:=List.mem_flatten.1 hu;exact jFK (List.all_eq_true.1 (h1 q hq) u hu)
 have hml:rs.length+qs.length≤9223372036854775807:=by simp only [maxLen] at hm;omega
 have hlq:=zS hl
 have hpos:0<qs.length:=List.length_pos_iff.2 hq
 have heach:∀q∈rs++qs,q.length=i.size:=fun q hq=>(List.mem_append.1 hq).elim (h.each q) (hl q)
 have hfl:=zS h.each
 rcases h.own with ⟨rfl,rfl⟩ | ⟨g,cur,ha,hg,hcap,hcm,hcs,htake⟩
 ·simp only [List.length_nil,Nat.zero_add] at hb hml hm
  have hrun:=run_append_nil (P:=P) w t ty e i z T.ht hi hz p qs.length c qs.flatten hlq (jDJ hr) hpos (by omega) (by omega)
  have hg:=Rws.grown (w:=w) (e:=e) (rs:=qs) hl (cur:=qs.flatten.toArray) hzs (by simp) (grownCap_ge w qs.length 0 e) (grownCap_le_maxLen w _ 0 e hm)
  refine ⟨⟨some ⟨w.heap.size,0,none⟩,qs.length,grownCap w qs.length 0 e⟩,(w.drew.alloc (.cells (qs.flatten.toArray++Builtin.zeroCells z.cells (grownCap w qs.length 0 e - qs.length)) e)),hrun,?_,?_,?_⟩
  ·simpa using hg
  ·exact ⟨rfl,rfl,rfl,(by first | exact Nat.le_refl _ | exact Nat.le_succ _),by simp,fun b hb _=>yI w.drew _ b hb⟩
  ·intro b hb;obtain ⟨a,ha,rfl⟩:=hb;cases ha;right;exact Nat.le_refl _
 ·have hs':s.v=.slice (some ⟨g,0,none⟩) rs.length s.cap:=by unfold Sl.v;rw [ha,h.len]
  by_cases hroom:rs.length+qs.length≤s.cap
  ·have hfit:rs.length*i.size+qs.flatten.length≤cur.size:=by rw [hlq,hcs,← Nat.add_mul];exact Nat.mul_le_mul_right _ hroom
   have hrun:=run_append_room (P:=P) w t ty e i T.ht hi g rs.length s.cap cur hg p qs.length c qs.flatten hlq (jDJ hr) h1' hroom hfit
   refine ⟨⟨some ⟨g,0,none⟩,rs.length+qs.length,s.cap⟩,_,by rw [hs'];exact hrun,⟨heach,by simp,.inr ⟨g,_,rfl,setRow_heap w g cur _ e _ hg,by simpa using hroom,hcm,?_,?_⟩⟩,⟨rfl,rfl,rfl,(by first | exact Nat.le_refl _ | exact Nat.le_succ _),by simp,fun b hb hf=>setRow_other w g b _ (fun e=>hf ⟨_,ha,e.symm⟩)⟩,fun b hb=>by obtain ⟨a,ha',rfl⟩:=hb;cases ha';exact .inl ⟨_,ha,rfl⟩⟩
   ·simp only [List.size_toArray,List.length_append,List.length_take,List.length_drop,Array.length_toList]
    omega
   ·rw [htake,List.flatten_append,List.length_append,Nat.add_mul,← hfl,← hlq,← List.length_append]
    exact List.take_left
  ·have holds : ∀ j u, rs.flatten[j]? = some u → w.cell? ((⟨g, 0, none⟩ : Addr).add j) = some u := fun j u hu => by
    have hadd:(⟨g,0,none⟩:Addr).add j=⟨g,j,none⟩:=by unfold Addr.add;split <;> simp_all
    rw [hadd,cell_of_row w g j cur e (0,0) hg];rw [← htake,List.getElem?_take] at hu;split at hu
    ·simpa using hu
    ·cases hu
   have hrun:=run_append_grow (P:=P) w t ty e i z T.ht hi hz ⟨g,0,none⟩ rs.length s.cap rs.flatten hfl holds p qs.length c qs.flatten hlq (jDJ hr) (by omega) (by omega) (growslice_fits (by omega) hb)
   have hgr:=Rws.grown (w:=w) (e:=e) (rs:=rs++qs) heach (cur:=rs.flatten.toArray++qs.flatten.toArray) hzs (by simp) (cap:=grownCap w (rs.length+qs.length) s.cap e) (by simpa using grownCap_ge w (rs.length+qs.length) s.cap e) (grownCap_le_maxLen w _ _ e hm)
   refine ⟨⟨some ⟨w.heap.size,0,none⟩,rs.length+qs.length,grownCap w (rs.length+qs.length) s.cap e⟩,(w.drew.alloc (.cells (rs.flatten.toArray++qs.flatten.toArray++Builtin.zeroCells z.cells (grownCap w (rs.length+qs.length) s.cap e - (rs.length+qs.length))) e)),?_,?_,?_,?_⟩
   ·rw [hs'];exact hrun
   ·simpa using hgr
   ·exact ⟨rfl,rfl,rfl,(by first | exact Nat.le_refl _ | exact Nat.le_succ _),by simp,fun b hb _=>yI w.drew _ b hb⟩
   ·intro b hb;obtain ⟨a,ha,rfl⟩:=hb;cases ha;right;exact Nat.le_refl _
theorem Rws.append {P:Program} {w:World} {t ty e:TypeId} {sz bytes:Nat} (T:SlType P t e sz bytes) {s:Sl} {rs:List (List Value)} (h:Rws w e sz s rs) {p:Addr} {c:Nat} {r:List Value} (hr:Row w p r) (hl:r.length=sz) (h1:r.all kD=true) (hb:(rs.length+1)*bytes≤140737488355328) (hm:rs.length+1≤maxLen) :
  ∃s' w',(Builtin.append_ #[t,t] ty #[s.v,(Sl.mk (some p) 1 c).v]).run P w=.ok s'.v w'∧Rws w' e sz s' (rs++[r])∧Ext s.blk w w'∧(∀b,s'.blk b→s.blk b∨w.heap.size≤b) :=
 Rws.appends T h (qs:=[r]) (by simpa using hr) (by simpa using hl) (by simpa using h1) (by simp) hb hm
end Go.SE
end
section
namespace Go.SE
open Go.Instr
def jMO (k:Value) (es:List MapEntry) (r:Option (Nat×Value)):Prop :=
 (r=.none∧∀e∈es,e.key≠k)∨∃i e,es[i]?=some e∧e.key=k∧r=some (i,e.val)
structure KeyOK (P:Program) (K:TypeId) (S:Value→Prop):Prop where
 check:∀k,S k→∀em w,(checkKey em 10000 K k).run P w=.ok () w
 find:∀k (es:List MapEntry) w,S k→(∀e∈es,S e.key)→∃r,(findKey K k es).run P w=.ok r w∧jMO k es r
 bits:∀k,S k→sameBits 10000 k k=true
structure CMap (w:World) (m:Nat) (es:List (Value×Value)):Prop where
 ex:∃arr clock,w.heap[m]?=some (.map arr clock)∧arr.toList.map (fun e=>(e.key,e.val))=es∧arr.toList.Pairwise (fun a b=>a.born<b.born)∧∀e∈arr.toList,e.born<clock
theorem CMap.ext {F:Nat→Prop} {w w':World} {m:Nat} {es:List (Value×Value)} (h:CMap w m es) (hE:Ext F w w') (hf:¬ F m):CMap w' m es:=by
 obtain ⟨arr,clock,hm,r⟩:=h.ex;exact ⟨arr,clock,hE.heap hm hf,r⟩
theorem CMap.lt {w:World} {m:Nat} {es:List (Value×Value)} (h:CMap w m es):m<w.heap.size:=by
 obtain ⟨arr,clock,hm,r⟩:=h.ex;exact qS hm
theorem CMap.of_new {w w':World} {p:Addr} (h:New w (.map #[] 0) p w'):CMap w' p.block []:=⟨#[],0,h.block_new,rfl,by simp,by simp⟩
theorem yP {P:Program} {K:TypeId} {k:Value} {w:World}:∀(es:List MapEntry) (i:Nat),(∀e∈es,∃b,(Op.equal K k e.key).run P w=.ok b w∧(b=true↔e.key=k)) →
  ∃r,(findAsking K k es i).run P w=.ok r w∧((r=.none∧∀e∈es,e.key≠k)∨∃j e,es[j]?=some e∧e.key=k∧r=some (i+j,e.val))
 | [],i,_=>⟨.none,rfl,.inl ⟨rfl,by simp⟩⟩
 | e :: es,i,h=>by
  obtain ⟨b,hb,hbk⟩:=h e (by simp);cases b with
  | true =>
   refine ⟨some (i,e.val),?_,.inr ⟨0,e,rfl,hbk.1 rfl,rfl⟩⟩
   simp [findAsking,hb]
  | false =>
   obtain ⟨r,hr,hf⟩:=yP es (i+1) (fun e he=>h e (by simp [he]))
   refine ⟨r,?_,?_⟩
   ·simp [findAsking,hb,hr]
   ·rcases hf with ⟨h1,h2⟩ | ⟨j,e',h1,h2,h3⟩
    ·left
     refine ⟨h1,fun e' he'=>?_⟩
     rcases List.mem_cons.1 he' with rfl | he'
     ·intro hk;have:=hbk.2 hk;cases this
     ·exact h2 e' he'
    ·exact .inr ⟨j+1,e',by simpa using h1,h2,by rw [h3,Nat.add_assoc,Nat.add_comm 1 j]⟩
theorem oR {fs:Array Field} {k:Value}:∀(es:List MapEntry) (i:Nat),es≠[]→findNow (.struct fs) k es i=.none
 | [],_,h=>absurd rfl h
 | e :: es,i,_=>by simp [findNow,sameNow]
theorem KeyOK.of_struct {P:Program} {K:TypeId} {S:Value→Prop} {fs:Array Field} (hK:P.underlying K=some (.struct fs)) (hc:∀k,S k→∀em w,(checkKey em 10000 K k).run P w=.ok () w)
  (he:∀k k' w,S k→S k'→∃b,(Op.equal K k k').run P w=.ok b w∧(b=true↔k'=k)) (hb:∀k,S k→sameBits 10000 k k=true):KeyOK P K S:=by
 refine ⟨hc,fun k es w hk hes=>?_,hb⟩
 unfold findKey
 simp only [Sem.run_bind,run_underlying hK,Result.andThen_ok]
 by_cases h0:es=[]
 ·subst h0;exact ⟨.none,by simp [findNow],.inl ⟨rfl,by simp⟩⟩
 ·rw [oR es 0 h0]
  obtain ⟨r,hr,hf⟩:=yP (P:=P) (K:=K) (k:=k) (w:=w) es 0 (fun e he'=>he k e.key w hk (hes e he'))
  exact ⟨r,hr,by simpa [jMO] using hf⟩
theorem oJ {q:IntKind} {k:Int}:∀(es:List MapEntry) (i:Nat),(∀e∈es,∃n,e.key=.int q n)→∃r,findNow (.int q) (.int q k) es i=some r∧((r=.none∧∀e∈es,e.key≠.int q k)∨∃j e,es[j]?=some e∧e.key=.int q k∧r=some (i+j,e.val))
 | [],i,_=>⟨.none,rfl,.inl ⟨rfl,by simp⟩⟩
 | e :: es,i,h=>by
  obtain ⟨n,hn⟩:=h e (by simp);by_cases hk:k=n
  ·subst hk;exact ⟨some (i,e.val),by simp [findNow,sameNow,hn],.inr ⟨0,e,rfl,hn,rfl⟩⟩
  ·obtain ⟨r,hr,hf⟩:=oJ (q:=q) (k:=k) es (i+1) (fun e he=>h e (by simp [he]));have hkn:(k == n)=false:=by simpa using hk
   refine ⟨r,by simp [findNow,sameNow,hn,hkn,hr],?_⟩;rcases hf with ⟨h1,h2⟩ | ⟨j,e',h1,h2,h3⟩
   ·left;refine ⟨h1,fun e' he'=>?_⟩;rcases List.mem_cons.1 he' with rfl | he'
    ·rw [hn];intro h;cases h;exact hk rfl
    ·exact h2 e' he'
   ·exact .inr ⟨j+1,e',by simpa using h1,h2,by rw [h3,Nat.add_assoc,Nat.add_comm 1 j]⟩
theorem jCH {P:Program} {K:TypeId} {q:IntKind} (hK:P.underlying K=some (.int q)) (n:Int) (em:Bool) (w:World) (d:Nat):(checkKey em (d+1) K (.int q n)).run P w=.ok () w:=by
 simp [checkKey,run_underlying hK]
theorem jBH (q:IntKind) (n:Int) (d:Nat):sameBits d (.int q n) (.int q n)=true:=by
 cases d <;> simp [sameBits]
theorem KeyOK.of_int {P:Program} {K:TypeId} {q:IntKind} (hK:P.underlying K=some (.int q)):KeyOK P K (fun k=>∃n,k=.int q n):=by
 refine ⟨?_,?_,?_⟩
 ·rintro _ ⟨n,rfl⟩ em w;exact jCH hK n em w 9999
 ·rintro _ es w ⟨n,rfl⟩ hes;obtain ⟨r,hr,hf⟩:=oJ (q:=q) (k:=n) es 0 hes;exact ⟨r,by simp [findKey,run_underlying hK,hr],by simpa [jMO] using hf⟩
 ·rintro _ ⟨n,rfl⟩;exact jBH q n 10000
section
variable {P:Program} {T K E:TypeId} {S:Value→Prop} {w:World} {m:Nat} {es:List (Value×Value)}
theorem CMap.lookup (h:CMap w m es) (hT:P.underlying T=some (.map K E)) (hK:KeyOK P K S) (hS:∀p∈es,S p.1) {k z:Value} (hk:S k) (hz:(zeroValue E).run P w=.ok z w) (ok:Bool) :
  ((∀p∈es,p.1≠k)∧(Instr.lookup T (.map (some m)) k ok).run P w=.ok (if ok then .tuple #[z,.bool false] else z) w) ∨
  ∃(i:Nat) (v:Value),es[i]?=some (k,v)∧(Instr.lookup T (.map (some m)) k ok).run P w=.ok (if ok then .tuple #[v,.bool true] else v) w:=by
 obtain ⟨arr,clock,hm,rfl,_,_⟩:=h.ex
 obtain ⟨r,hr,hf⟩:=hK.find k arr.toList w hk (fun e he=>hS _ (List.mem_map.2 ⟨e,he,rfl⟩))
 have hc:=hK.check k hk arr.isEmpty w
 have hg:(getObj m).run P w=.ok (.map arr clock) w:=by simp [getObj,Sem.run,hm]
 rcases hf with ⟨rfl,hn⟩ | ⟨i,e,hi,rfl,rfl⟩
 ·left
  refine ⟨fun p hp=>?_,?_⟩
  ·obtain ⟨e,he,rfl⟩:=List.mem_map.1 hp;exact hn e he
  ·cases ok <;> simp [Instr.lookup,run_underlying hT,hg,hc,hr,hz]
 ·right
  refine ⟨i,e.val,by simp [hi],?_⟩
  cases ok <;> simp [Instr.lookup,run_underlying hT,hg,hc,hr]
theorem CMap.insert (h:CMap w m es) (hT:P.underlying T=some (.map K E)) (hK:KeyOK P K S) (hS:∀p∈es,S p.1) {k v:Value} (hk:S k) (hn:∀p∈es,p.1≠k) :
  ∃w',(Instr.mapUpdate T (.map (some m)) k v).run P w=.ok () w'∧CMap w' m (es++[(k,v)])∧Ext (·=m) w w':=by
 obtain ⟨arr,clock,hm,rfl,hp,hb⟩:=h.ex
 obtain ⟨r,hr,hf⟩:=hK.find k arr.toList w hk (fun e he=>hS _ (List.mem_map.2 ⟨e,he,rfl⟩))
 have hc:=hK.check k hk false w
 have hg:(getObj m).run P w=.ok (.map arr clock) w:=by simp [getObj,Sem.run,hm]
 have hlt:=qS hm
 rcases hf with ⟨rfl,_⟩ | ⟨i,e,hi,rfl,rfl⟩
 ·refine ⟨{ w with heap:=w.heap.setIfInBounds m (.map (arr.push { key:=k,val:=v,born:=clock }) (clock+1)) },?_,⟨arr.push { key:=k,val:=v,born:=clock },clock+1,by simp [hlt],by simp,?_,?_⟩,⟨rfl,rfl,rfl,(by first | exact Nat.le_refl _ | exact Nat.le_succ _),by simp,fun b _ hf=>by simp [Array.getElem?_setIfInBounds_ne (Ne.symm hf)]⟩⟩
  ·simp [Instr.mapUpdate,run_underlying hT,hg,hc,hr,setObj,Sem.run,hm]
  ·simp only [Array.toList_push,List.pairwise_append,List.pairwise_cons,List.mem_singleton]
   exact ⟨hp,⟨by simp,List.Pairwise.nil⟩,fun a ha b hb'=>by subst hb';exact hb a ha⟩
  ·intro e he
   simp only [Array.toList_push,List.mem_append,List.mem_singleton] at he
   rcases he with he | rfl
   ·have:=hb e he;omega
   ·simp
 ·exact absurd rfl (hn _ (List.mem_map.2 ⟨e,List.mem_of_getElem? hi,rfl⟩))
theorem gC {α β:Type} (f:α→β):∀(l:List α) (i:Nat),(l.eraseIdx i).map f=(l.map f).eraseIdx i
 | [],i=>by simp
 | a :: l,0=>by simp
 | a :: l,i+1=>by simp [gC f l i]
theorem CMap.delete (h:CMap w m es) (hT:P.underlying T=some (.map K E)) (hK:KeyOK P K S) (hS:∀p∈es,S p.1) {k v:Value} (hk:S k) {i:Nat} (hi:es[i]?=some (k,v)) (hu:∀j u,es[j]?=some (k,u)→j=i) {Q:TypeId} {z:TypeId} :
  ∃w',(Builtin.delete_ #[T,Q] z #[.map (some m),k]).run P w=.ok (.tuple #[]) w'∧CMap w' m (es.eraseIdx i)∧Ext (·=m) w w':=by
 obtain ⟨arr,clock,hm,rfl,hp,hb⟩:=h.ex
 obtain ⟨r,hr,hf⟩:=hK.find k arr.toList w hk (fun e he=>hS _ (List.mem_map.2 ⟨e,he,rfl⟩))
 have hc:=hK.check k hk arr.isEmpty w
 have hg:(getObj m).run P w=.ok (.map arr clock) w:=by simp [getObj,Sem.run,hm]
 have hlt:=qS hm
 rcases hf with ⟨rfl,hn⟩ | ⟨j,e,hj,rfl,rfl⟩
 ·have:=List.mem_of_getElem? hi
  obtain ⟨e,he,h2⟩:=List.mem_map.1 this
  exact absurd (congrArg Prod.fst h2) (hn e he)
 ·have hji:j=i:=hu j e.val (by simp [hj])
  subst hji
  have hja:j<arr.size:=by
   have:=List.getElem?_eq_some_iff.1 hj;obtain ⟨h,_⟩:=this;simpa using h
  have hl:(arr.eraseIdxIfInBounds j).toList=arr.toList.eraseIdx j:=by
   simp [Array.eraseIdxIfInBounds,hja,Array.toList_eraseIdx]
  refine ⟨{ w with heap:=w.heap.setIfInBounds m (.map (arr.eraseIdxIfInBounds j) clock) },?_,⟨arr.eraseIdxIfInBounds j,clock,by simp [hlt],?_,?_,?_⟩,⟨rfl,rfl,rfl,(by first | exact Nat.le_refl _ | exact Nat.le_succ _),by simp,fun b _ hf=>by simp [Array.getElem?_setIfInBounds_ne (Ne.symm hf)]⟩⟩
  ·simp [Builtin.delete_,run_underlying hT,hg,hc,hr,setObj,Sem.run,hm]
  ·rw [hl];exact gC _ _ _
  ·rw [hl];exact hp.sublist (List.eraseIdx_sublist _ _)
  ·rw [hl];intro e he;exact hb e ((List.eraseIdx_sublist _ _).subset he)
theorem CMap.update (h:CMap w m es) (hT:P.underlying T=some (.map K E)) (hK:KeyOK P K S) (hS:∀p∈es,S p.1) {k v v':Value} (hk:S k) {i:Nat} (hi:es[i]?=some (k,v)) (hu:∀j u,es[j]?=some (k,u)→j=i) :
  ∃w',(Instr.mapUpdate T (.map (some m)) k v').run P w=.ok () w'∧CMap w' m (es.set i (k,v'))∧Ext (·=m) w w':=by
 obtain ⟨arr,clock,hm,rfl,hp,hb⟩:=h.ex
 obtain ⟨r,hr,hf⟩:=hK.find k arr.toList w hk (fun e he=>hS _ (List.mem_map.2 ⟨e,he,rfl⟩))
 have hc:=hK.check k hk false w
 have hg:(getObj m).run P w=.ok (.map arr clock) w:=by simp [getObj,Sem.run,hm]
 have hlt:=qS hm
 rcases hf with ⟨rfl,hn⟩ | ⟨j,e,hj,hek,rfl⟩
 ·have:=List.mem_of_getElem? hi
  obtain ⟨e,he,h2⟩:=List.mem_map.1 this
  exact absurd (congrArg Prod.fst h2) (hn e he)
 ·have hji:j=i:=hu j e.val (by simp [hj,hek])
  subst hji
  obtain ⟨hja,hje⟩:=List.getElem?_eq_some_iff.1 hj
  have hja':j<arr.size:=by simpa using hja
  have hje':arr[j]?=some e:=by simpa using hj
  have hje2:arr[j]=e:=by simpa using hje
  have hl:(arr.modify j fun e=>{ e with key:=k,val:=v' }).toList=arr.toList.set j { e with key:=k,val:=v' }:=by
   rw [Array.toList_modify];apply List.ext_getElem?;intro n;rw [List.getElem?_modify,List.getElem?_set];by_cases hn:j=n
   ·subst hn;simp [hja',hje',hje2]
   ·simp [hn]
  have hpw:(arr.toList.map (·.born)).Pairwise (·<·):=List.pairwise_map.2 hp
  have hborn:(arr.toList.set j { e with key:=k,val:=v' }).map (·.born)=arr.toList.map (·.born):=by
   rw [List.map_set];apply List.ext_getElem?;intro n;rw [List.getElem?_set];by_cases hn:j=n
   ·subst hn;simp [hja',hje',hje2]
   ·simp [hn]
  have hbits:=hK.bits k hk
  refine ⟨{ w with heap:=w.heap.setIfInBounds m (.map (arr.modify j fun e=>{ e with key:=k,val:=v' }) clock) },?_,⟨arr.modify j fun e=>{ e with key:=k,val:=v' },clock,by simp [hlt],?_,?_,?_⟩,⟨rfl,rfl,rfl,(by first | exact Nat.le_refl _ | exact Nat.le_succ _),by simp,fun b _ hf=>by simp [Array.getElem?_setIfInBounds_ne (Ne.symm hf)]⟩⟩
  ·simp [Instr.mapUpdate,run_underlying hT,hg,hc,hr,setObj,Sem.run,hm,keyThatStays,hje',hek,hbits]
  ·rw [hl,List.map_set]
  ·rw [hl];exact List.pairwise_map.1 (by rw [hborn];exact hpw)
  ·rw [hl];intro e' he'
   have:e'.born∈arr.toList.map (·.born):=by rw [← hborn];exact List.mem_map.2 ⟨e',he',rfl⟩
   obtain ⟨e'',h1,h2⟩:=List.mem_map.1 this
   rw [← h2];exact hb e'' h1
end
end Go.SE
end
section
namespace Go.SE
structure Lst (S:Nat→Prop) (w:World) (sz:Nat) (s:Sl) (rs:List (List Value)):Prop where
 len:s.len=rs.length
 at_:∀i (h:i<rs.length),∃a,At s i sz a∧S a.block∧Row w a rs[i]
theorem Lst.ext {S F:Nat→Prop} {w w':World} {sz:Nat} {s:Sl} {rs:List (List Value)} (h:Lst S w sz s rs) (hE:Ext F w w') (hd:∀b,S b→¬ F b):Lst S w' sz s rs :=
 ⟨h.len,fun i hi=>let ⟨a,h1,h2,h3⟩:=h.at_ i hi;⟨a,h1,h2,hE.row h3 (hd _ h2)⟩⟩
theorem Lst.pure {S:Nat→Prop} {w w':World} {sz:Nat} {s:Sl} {rs:List (List Value)} (h:Lst S w sz s rs) (hE:Pure w w'):Lst S w' sz s rs:=h.ext hE (fun _ _ h=>h)
theorem Rws.lst {w:World} {e:TypeId} {sz:Nat} {s:Sl} {rs:List (List Value)} (h:Rws w e sz s rs):Lst s.blk w sz s rs :=
 ⟨h.len,fun i hi=>let ⟨a,h1,h2,h3⟩:=h.at (i:=i) (by omega) (by simpa using hi);⟨a,h1,h3,h2⟩⟩
theorem qU (a:Addr) (i j:Nat):(a.add i).add j=a.add (i+j):=by
 unfold Addr.add;repeat' split
 all_goals simp_all
 all_goals omega
section
variable {P:Program} {t e:TypeId} {sz bytes:Nat}
theorem SlType.sizeOf (T:SlType P t e sz bytes) (w:World):(Go.sizeOf e).run P w=.ok sz w:=by
 obtain ⟨i,z,hi,_,hs,_⟩:=T.hi;simp [Go.sizeOf,Go.typeInfo,Sem.run,program,hi,hs,bind,pure,Sem.bind,Sem.pure]
theorem Rws.hi (T:SlType P t e sz bytes) {w:World} {s:Sl} {rs:List (List Value)} (h:Rws w e sz s rs) {k:IntKind} {n:Int} (h0:0≤n) (hn:n≤rs.length) :
  ∃s':Sl,(Instr.sliceAt t s.v none (some (.int k n)) none).run P w=.ok s'.v w∧Rws w e sz s' (rs.take n.toNat)∧∀b,s'.blk b↔s.blk b:=by
 rcases h.own with ⟨rfl,rfl⟩ | ⟨g,cur,ha,hg,hc,hm,hs,ht⟩
 ·have:n=0:=by simpa using (show n=0 by simp at hn;omega)
  subst this
  refine ⟨Sl.nil,?_,by simpa using Rws.nil w e sz,fun _=>Iff.rfl⟩
  simp [Instr.sliceAt,Instr.slice,Sl.v,Sl.nil,run_underlying T.ht,Instr.sliceBounds,Instr.sliceBound,asIntOf,T.sizeOf]
 ·refine ⟨⟨some ⟨g,0,none⟩,n.toNat,s.cap⟩,?_,⟨fun r hr=>h.each r (List.mem_of_mem_take hr),by simp;omega,.inr ⟨g,cur,rfl,hg,by simp;omega,hm,hs,?_⟩⟩,fun b=>?_⟩
  ·have hle:n≤(s.cap:Int):=by omega
   by_cases hz:s.cap=0
   ·have:n=0:=by omega
    subst this
    simp [Instr.sliceAt,Instr.slice,Sl.v,run_underlying T.ht,Instr.sliceBounds,Instr.sliceBound,asIntOf,T.sizeOf,ha,hz]
   ·simp [Instr.sliceAt,Instr.slice,Sl.v,run_underlying T.ht,Instr.sliceBounds,Instr.sliceBound,asIntOf,T.sizeOf,h0,hle,ha,hz,Addr.add]
  ·have hl:(rs.take n.toNat).length=n.toNat:=by simp;omega
   have e1:rs=rs.take n.toNat++rs.drop n.toNat:=(List.take_append_drop _ _).symm
   have e2:((rs.take n.toNat).flatten).length=n.toNat*sz:=by rw [zS (fun r hr=>h.each r (List.mem_of_mem_take hr)),hl]
   have h3:n.toNat*sz≤rs.length*sz:=Nat.mul_le_mul_right _ (by omega)
   calc cur.toList.take ((rs.take n.toNat).length*sz)=(cur.toList.take (rs.length*sz)).take (n.toNat*sz):=by rw [hl,List.take_take,Nat.min_eq_left h3]
    _=((rs.take n.toNat).flatten++(rs.drop n.toNat).flatten).take (n.toNat*sz):=by rw [ht,← List.flatten_append,← e1]
    _=(rs.take n.toNat).flatten:=by rw [← e2,List.take_left]
  ·simp [Sl.blk,ha]
theorem Lst.lo {S:Nat→Prop} (T:SlType P t e sz bytes) {w:World} {s:Sl} {rs:List (List Value)} (h:Lst S w sz s rs) (hcap:s.len≤s.cap) {k:IntKind} {n:Int} (h0:0≤n) (hn:n≤rs.length) :
  ∃s':Sl,(Instr.sliceAt t s.v (some (.int k n)) none none).run P w=.ok s'.v w∧Lst S w sz s' (rs.drop n.toNat):=by
 have hle:n≤(s.len:Int):=by rw [h.len];exact hn
 refine ⟨⟨if s.cap=n.toNat then s.a else s.a.map (·.add (n.toNat*sz)),s.len - n.toNat,s.cap - n.toNat⟩,?_,⟨by simp [h.len],fun i hi=>?_⟩⟩
 ·simp [Instr.sliceAt,Instr.slice,Sl.v,run_underlying T.ht,Instr.sliceBounds,Instr.sliceBound,asIntOf,T.sizeOf,h0,hle]
 ·have hi':n.toNat+i<rs.length:=by simp at hi;omega
  obtain ⟨a,⟨_,hlt,p,hp,rfl⟩,hS,hr⟩:=h.at_ (n.toNat+i) hi'
  refine ⟨_,⟨by omega,by simp only [h.len];omega,p.add (n.toNat*sz),?_,rfl⟩,?_,?_⟩
  ·rw [if_neg (by rw [h.len] at hcap;omega),hp];rfl
  ·simpa [zN] using hS
  ·have : (p.add (n.toNat * sz)).add ((i : Int).toNat * sz) = p.add (((n.toNat + i : Nat) : Int).toNat * sz) := by
    rw [qU,Int.toNat_natCast,Int.toNat_natCast,Nat.add_mul]
   rw [this,List.getElem_drop];exact hr
end
theorem Box.storeAt {p:Addr} {T:TypeId}:∀(vs:List Value) (i off:Nat) (w:World) (c:List Value),Box w p c T→off+i+vs.length≤c.length →
  Box (storeRowFrom w (p.add off) i vs) p (c.take (off+i)++vs++c.drop (off+i+vs.length)) T
 | [],i,off,w,c,h,hl=>by simpa [storeRowFrom] using h
 | v :: vs,i,off,w,c,h,hl=>by
  simp only [storeRowFrom];have h1:=h.set (off+i) v;rw [← qU] at h1;have h2:=Box.storeAt vs (i+1) off _ _ h1 (by simp at hl ⊢;omega);have e:(c.set (off+i) v).take (off+(i+1))++vs++(c.set (off+i) v).drop (off+(i+1)+vs.length)=c.take (off+i)++(v :: vs)++c.drop (off+i+(v :: vs).length):=by
   have hlt:off+i<c.length:=by simp at hl;omega
   rw [List.drop_set_of_lt (by omega),← Nat.add_assoc,List.take_succ_eq_append_getElem (by simp;omega),List.getElem_set_self,List.take_set_of_le (Nat.le_refl _)];simp only [List.length_cons,List.append_assoc,List.cons_append,List.nil_append];congr 4;omega
  rw [e] at h2;exact h2
theorem Rws.set {w:World} {e:TypeId} {sz:Nat} {s:Sl} {rs:List (List Value)} (h:Rws w e sz s rs) {i:Nat} (hi:i<rs.length) {r:List Value} (hr:r.length=sz) {k:Int} (hk:k=i) :
  ∃a,At s k sz a∧(∀j,j<sz→kG w (a.add j))∧∀w',w'=storeRow w a r→Rws w' e sz s (rs.set i r)∧Ext s.blk w w':=by
 subst hk
 rcases h.own with ⟨_,rfl⟩ | ⟨g,cur,ha,hg,hc,hm,hs,ht⟩
 ·simp at hi
 ·have B:Box w ⟨g,0,none⟩ cur.toList e:=⟨rfl,by simpa using hg⟩
  have hle:(i+1)*sz≤rs.length*sz:=Nat.mul_le_mul_right _ hi
  have hle2:rs.length*sz≤s.cap*sz:=Nat.mul_le_mul_right _ hc
  have hlen:cur.toList.length=s.cap*sz:=by simpa using hs
  rw [Nat.succ_mul] at hle
  refine ⟨(⟨g,0,none⟩:Addr).add (i*sz),⟨by omega,by rw [h.len];omega,⟨_,ha,by simp⟩⟩,fun j hj=>?_,?_⟩
  ·rw [qU];exact B.canW (by omega)
  ·intro w' hw'
   have B2:=Box.storeAt r 0 (i*sz) w _ B (by rw [hr];omega)
   have hE:Ext (·=g) w w':=by
    rw [hw'];have:=Ext.storeRow w ((⟨g,0,none⟩:Addr).add (i*sz)) r;rw [zN] at this;exact this
   have hw2:storeRowFrom w ((⟨g,0,none⟩:Addr).add (i*sz)) 0 r=w':=hw'.symm
   rw [hw2] at B2
   refine ⟨⟨?_,by rw [List.length_set];exact h.len,.inr ⟨g,_,ha,B2.blk,by rw [List.length_set];exact hc,hm,?_,?_⟩⟩,hE.mono (fun b _ hb=>⟨_,ha,hb.symm⟩)⟩
   ·intro q hq
    rcases List.mem_or_eq_of_mem_set hq with h' | rfl
    ·exact h.each q h'
    ·exact hr
   ·simp only [List.size_toArray,List.length_append,List.length_take,List.length_drop,hr,hlen];omega
   ·have hse : ∀ q ∈ rs.set i r, q.length = sz := by
     intro q hq;rcases List.mem_or_eq_of_mem_set hq with h' | rfl
     ·exact h.each q h'
     ·exact hr
    have e1:rs=rs.take i++rs[i] :: rs.drop (i+1):=by rw [← List.drop_eq_getElem_cons hi,List.take_append_drop]
    have e2:rs.set i r=rs.take i++r :: rs.drop (i+1):=by
     rw [List.set_eq_take_append_cons_drop,if_pos hi]
    have l1:(rs.take i).flatten.length=i*sz:=by rw [zS (fun r hr=>h.each r (List.mem_of_mem_take hr)),List.length_take,Nat.min_eq_left (by omega)]
    have l2:rs[i].length=sz:=h.each _ (List.getElem_mem hi)
    have l3:(rs.drop (i+1)).flatten.length=(rs.length - (i+1))*sz:=by rw [zS (fun r hr=>h.each r (List.mem_of_mem_drop hr)),List.length_drop]
    have hcur:cur.toList=rs.flatten++cur.toList.drop (rs.length*sz):=by rw [← ht,List.take_append_drop]
    have hfl:rs.flatten=(rs.take i).flatten++(rs[i]++(rs.drop (i+1)).flatten):=by
     calc rs.flatten=(rs.take i++rs[i] :: rs.drop (i+1)).flatten:=by rw [← e1]
      _=_:=by rw [List.flatten_append,List.flatten_cons]
    have t1:cur.toList.take (i*sz)=(rs.take i).flatten:=by
     rw [hcur,hfl,List.append_assoc,← l1,List.take_left]
    have t2:cur.toList.drop (i*sz+sz)=(rs.drop (i+1)).flatten++cur.toList.drop (rs.length*sz):=by
     conv=>lhs;rw [hcur,hfl]
     have:i*sz+sz=((rs.take i).flatten++rs[i]).length:=by rw [List.length_append,l1,l2]
     rw [← List.append_assoc,List.append_assoc,this,List.drop_left]
    have tot:((rs.set i r).flatten).length=(rs.set i r).length*sz:=zS hse
    have hf2:(rs.set i r).flatten=(rs.take i).flatten++(r++(rs.drop (i+1)).flatten):=by rw [e2,List.flatten_append,List.flatten_cons]
    have e3:(rs.take i).flatten++r++((rs.drop (i+1)).flatten++cur.toList.drop (rs.length*sz))=(rs.set i r).flatten++cur.toList.drop (rs.length*sz):=by
     rw [hf2];simp only [List.append_assoc]
    rw [← tot,Nat.add_zero,hr,t1,t2,e3]
    exact List.take_left
section
variable {P:Program} {t e:TypeId} {sz bytes:Nat}
theorem Rws.make (T:SlType P t e sz bytes) {zr:List Value} (hz:∀i z,P.info? e=some i→i.zero=some z→z.cells=zr.toArray) {k k':IntKind} {n:Nat} (hb:bytes*n≤281474976710656) (hm:n≤maxLen) (w:World) :
  ∃w',(Instr.makeSlice t (.int k (n:Int)) (.int k' (n:Int))).run P w=.ok (Sl.mk (some ⟨w.heap.size,0,none⟩) n n).v w'∧Rws w' e sz ⟨some ⟨w.heap.size,0,none⟩,n,n⟩ (List.replicate n zr)∧Pure w w':=by
 obtain ⟨i,z,hi,h0,hs,hby,hzs⟩:=T.hi
 have hzr:=hz i z hi h0
 have hzl:zr.length=sz:=by rw [← hzs,hzr];simp
 have hm':(n:Int)≤9223372036854775807:=by simp only [maxLen] at hm;omega
 have hb':(i.bytes:Int)*(n:Int)≤281474976710656:=by
  have h:((i.bytes*n:Nat):Int)≤281474976710656:=by rw [hby];omega
  rwa [Int.natCast_mul] at h
 have hr:=run_make (P:=P) w t e i z T.ht hi h0 k k' n n (by omega) (Int.le_refl _) hb' hm'
 simp only [Int.toNat_natCast,hs] at hr
 have hN:New w (.cells (madeCells z.cells (n*sz)) e) ⟨w.heap.size,0,none⟩ (w.alloc (.cells (madeCells z.cells (n*sz)) e)):=⟨rfl,rfl⟩
 refine ⟨_,hr,⟨fun r hr=>by rw [(List.mem_replicate.1 hr).2,hzl],by simp,.inr ⟨w.heap.size,_,rfl,hN.block_new,by simp,hm,by simp [size_madeCells],?_⟩⟩,Ext.new hN⟩
 have hpos:=T.pos
 have he:∀r∈List.replicate n zr,r.length=sz:=fun r hr=>by rw [(List.mem_replicate.1 hr).2,hzl]
 rw [List.take_of_length_le (by simp [size_madeCells])]
 apply List.ext_getElem?
 intro j
 by_cases hj:j<n*sz
 ·have hq:j / sz<n:=Nat.div_lt_of_lt_mul (by rw [Nat.mul_comm];exact hj)
  have hmod:j % sz<sz:=Nat.mod_lt _ hpos
  have e1:=oI he (i:=j / sz) (by simpa using hq) (j:=j % sz) hmod
  have e2:j / sz*sz+j % sz=j:=by rw [Nat.mul_comm];exact Nat.div_add_mod j sz
  rw [e2] at e1
  rw [e1]
  have hsz:z.cells.size=sz:=hzs
  simp only [madeCells,hzr,Array.getElem?_toList,Array.getElem?_map,Array.getElem?_range,hj,List.size_toArray,hzl,List.getElem_replicate,if_true,Option.map_some]
  rw [List.getElem?_eq_getElem (by omega)]
  simp [hzl,hmod]
 ·rw [List.getElem?_eq_none (by simp [size_madeCells];omega),List.getElem?_eq_none (by rw [zS he];simp;omega)]
end
end Go.SE
end
section
namespace Go.SE
open Go.Instr
structure CEnt (w:World) (m:Nat) (z:Int) (i:Nat) (es:List (Value×Value)):Prop where
 ex:∃arr clock,w.heap[m]?=some (.map arr clock)∧arr.toList.map (fun e=>(e.key,e.val))=es∧arr.toList.Pairwise (fun a b=>a.born<b.born)∧(∀e∈arr.toList,e.born<clock)∧∃e,arr.toList[i]?=some e∧(e.born:Int)=z
theorem CEnt.ext {F:Nat→Prop} {w w':World} {m:Nat} {z:Int} {i:Nat} {es:List (Value×Value)} (h:CEnt w m z i es) (hE:Ext F w w') (hf:¬ F m):CEnt w' m z i es:=by
 obtain ⟨arr,clock,hm,r⟩:=h.ex;exact ⟨arr,clock,hE.heap hm hf,r⟩
section
variable {P:Program} {T K E:TypeId} {S:Value→Prop} {w:World} {m:Nat} {es:List (Value×Value)}
theorem CEnt.store {z:Int} {i:Nat} (h:CEnt w m z i es) {k v0 v:Value} (hi:es[i]?=some (k,v0)) :
  ∃w',(Instr.entryStore T (.map (some m)) (.int .i64 z) v).run P w=.ok () w'∧CMap w' m (es.set i (k,v))∧Ext (·=m) w w':=by
 obtain ⟨arr,clock,hm,rfl,hp,hb,e,he,rfl⟩:=h.ex
 have hg:(getObj m).run P w=.ok (.map arr clock) w:=by simp [getObj,Sem.run,hm]
 have hlt:=qS hm
 obtain ⟨hja,hje⟩:=List.getElem?_eq_some_iff.1 he
 have hja':i<arr.size:=by simpa using hja
 have hje':arr[i]?=some e:=by simpa using he
 have hje2:arr[i]=e:=by simpa using hje
 have hke:e.key=k:=by
  rw [List.getElem?_map,he] at hi;have:=Option.some.inj hi;exact congrArg Prod.fst this
 have hfi:arr.findIdx? (fun e'=>(e'.born:Int) == (e.born:Int))=some i:=by
  rw [Array.findIdx?_eq_some_iff_getElem];refine ⟨hja',by simp [hje2],fun j hj=>?_⟩;have:=List.pairwise_iff_getElem.1 hp j i (by simp;omega) (by simpa using hja') hj;simp only [Array.getElem_toList,hje2] at this;simp only [beq_iff_eq];omega
 have hl:(arr.modify i fun e=>{ e with val:=v }).toList=arr.toList.set i { e with val:=v }:=by
  rw [Array.toList_modify];apply List.ext_getElem?;intro n;rw [List.getElem?_modify,List.getElem?_set];by_cases hn:i=n
  ·subst hn;simp [hja',hje2]
  ·simp [hn]
 have hpw:(arr.toList.map (·.born)).Pairwise (·<·):=List.pairwise_map.2 hp
 have hborn:(arr.toList.set i { e with val:=v }).map (·.born)=arr.toList.map (·.born):=by
  rw [List.map_set];apply List.ext_getElem?;intro n;rw [List.getElem?_set];by_cases hn:i=n
  ·subst hn;simp [hja',hje2]
  ·simp [hn]
 refine ⟨{ w with heap:=w.heap.setIfInBounds m (.map (arr.modify i fun e=>{ e with val:=v }) clock) },?_,⟨arr.modify i fun e=>{ e with val:=v },clock,by simp [hlt],?_,?_,?_⟩,⟨rfl,rfl,rfl,(by first | exact Nat.le_refl _ | exact Nat.le_succ _),by simp,fun b _ hf=>by simp [Array.getElem?_setIfInBounds_ne (Ne.symm hf)]⟩⟩
 ·simp [Instr.entryStore,hg,asInt,asIntOf,hfi,setObj,Sem.run,hm]
 ·rw [hl,List.map_set,hke]
 ·rw [hl];exact List.pairwise_map.1 (by rw [hborn];exact hpw)
 ·rw [hl];intro e' he'
  have:e'.born∈arr.toList.map (·.born):=by rw [← hborn];exact List.mem_map.2 ⟨e',he',rfl⟩
  obtain ⟨e'',h1,h2⟩:=List.mem_map.1 this
  rw [← h2];exact hb e'' h1
end
end Go.SE
end
section
namespace Go.SE
abbrev HBx:=Addr×List Value×TypeId
def isCl:Obj→Bool
 | .cells ..=>true
 | _=>false
structure HBZ (Z:List (Nat×Obj)) (H:Nat→Prop) (w:World) (l:List HBx):Prop where
 box:∀x∈l,Box w x.1 x.2.1 x.2.2
 hid:∀x∈l,H x.1.block
 ne:l.Pairwise (fun x y=>x.1.block≠y.1.block)
 fz:∀x∈Z,H x.1∧w.heap[x.1]?=some x.2∧isCl x.2=false
abbrev HB (H:Nat→Prop) (w:World) (l:List HBx):Prop:=HBZ [] H w l
structure Hst (w0:World) (H:Nat→Prop) (w:World) (H':Nat→Prop) (w':World):Prop where
 ext:Ext H' w w'
 sub:∀b,H b→H' b
 new:∀b,H' b→H b∨w.heap.size≤b
 old:∀b,H' b→w0.heap.size≤b
 lt:∀b,H' b→b<w'.heap.size
 base:w0.heap.size≤w'.heap.size
structure Kept (H:Nat→Prop) (w w':World):Prop where
 size:w.heap.size≤w'.heap.size
 keep:∀b,b<w.heap.size→H b→w'.heap[b]?=w.heap[b]?
theorem Ext.kept {F H:Nat→Prop} {w w':World} (h:Ext F w w') (hd:∀b,H b→¬ F b):Kept H w w':=⟨h.size,fun b hb hH=>h.keep b hb (hd b hH)⟩
theorem Ext.keptP {H:Nat→Prop} {w w':World} (h:Pure w w'):Kept H w w':=h.kept (fun _ _ h=>h)
theorem Kept.refl {H:Nat→Prop} (w:World):Kept H w w:=⟨Nat.le_refl _,fun _ _ _=>rfl⟩
section
variable {w0 w w1 w2 wv:World} {H H1 H2 Hv:Nat→Prop} {Z:List (Nat×Obj)} {l l':List HBx}
theorem Hst.start (w0:World):Hst w0 None w0 None w0:=⟨Ext.refl _,fun _ h=>h,fun _ h=>.inl h,fun _ h=>h.elim,fun _ h=>h.elim,Nat.le_refl _⟩
theorem HB.nil (H:Nat→Prop) (w:World):HB H w []:=⟨fun _ h=>(by cases h),fun _ h=>(by cases h),List.Pairwise.nil,fun _ h=>(by cases h)⟩
theorem Hst.here (h:Hst w0 Hv wv H w):Hst w0 H w H w:=⟨Ext.refl _,fun _ h=>h,fun _ h=>.inl h,h.old,h.lt,h.base⟩
theorem Hst.again (h:Hst w0 Hv wv H w) (hk:Kept H w w1):Hst w0 H w1 H w1 :=
 ⟨Ext.refl _,fun _ h=>h,fun _ h=>.inl h,h.old,fun b hb=>Nat.lt_of_lt_of_le (h.lt b hb) hk.size,Nat.le_trans h.base hk.size⟩
theorem Hst.trans (h:Hst w0 Hv wv H w) (k:Hst w0 H w H1 w1):Hst w0 Hv wv H1 w1 :=
 ⟨(h.ext.mono (fun b _ hb=>k.sub b hb)).trans k.ext,fun b hb=>k.sub b (h.sub b hb),fun b hb=>(k.new b hb).elim (fun hb=>h.new b hb) (fun hb=>.inr (Nat.le_trans h.ext.size hb)),k.old,k.lt,k.base⟩
theorem Hst.pure (h:Hst w0 Hv wv H w) (E:Pure w w1):Hst w0 Hv wv H w1 :=
 ⟨h.ext.thenPure E,h.sub,h.new,h.old,fun b hb=>Nat.lt_of_lt_of_le (h.lt b hb) E.size,Nat.le_trans h.base E.size⟩
theorem Hst.drew (h:Hst w0 Hv wv H w):Hst w0 Hv wv H w.drew:=h.pure (Ext.drew w)
theorem HBZ.kept (hb:HBZ Z H w l) (hk:Kept H w w1):HBZ Z H w1 l :=
 ⟨fun x hx=>⟨(hb.box x hx).addr,by rw [hk.keep _ (hb.box x hx).lt (hb.hid x hx)];exact (hb.box x hx).blk⟩,hb.hid,hb.ne,fun x hx=>⟨(hb.fz x hx).1,by rw [hk.keep _ (qS (hb.fz x hx).2.1) (hb.fz x hx).1];exact (hb.fz x hx).2.1,(hb.fz x hx).2.2⟩⟩
theorem HBZ.pure (hb:HBZ Z H w l) (E:Pure w w1):HBZ Z H w1 l:=hb.kept E.keptP
theorem HBZ.drew (hb:HBZ Z H w l):HBZ Z H w.drew l:=hb.pure (Ext.drew w)
theorem HBZ.sub (hb:HBZ Z H w l) (hl:l'.Sublist l):HBZ Z H w l':=⟨fun x hx=>hb.box x (hl.subset hx),fun x hx=>hb.hid x (hl.subset hx),hb.ne.sublist hl,hb.fz⟩
theorem Hst.alloc {c:List Value} {T:TypeId} {p:Addr} (h:Hst w0 Hv wv H w) (hb:HBZ Z H w l) (hn:New w (.cells c.toArray T) p w1):∃H1,Hst w0 Hv wv H1 w1∧HBZ Z H1 w1 ((p,c,T) :: l):=by
 have E:Pure w w1:=Ext.new hn;have hp:p.block=w.heap.size:=hn.at_size;have B:=Box.of_new hn;refine ⟨fun b=>H b∨b=p.block,⟨(h.ext.thenPure E).mono (fun b _ hb=>.inl hb),fun b hb=>.inl (h.sub b hb),?_,?_,?_,Nat.le_trans h.base E.size⟩,?_⟩
 ·rintro b (hb | rfl)
  ·exact h.new b hb
  ·right;rw [hp];exact h.ext.size
 ·rintro b (hb | rfl)
  ·exact h.old b hb
  ·rw [hp];exact h.base
 ·rintro b (hb | rfl)
  ·exact Nat.lt_of_lt_of_le (h.lt b hb) E.size
  ·exact B.lt
 ·have hb':=hb.pure E;refine ⟨?_,?_,?_,fun x hx=>⟨.inl (hb'.fz x hx).1,(hb'.fz x hx).2⟩⟩
  ·intro x hx;rcases List.mem_cons.1 hx with rfl | hx
   ·exact B
   ·exact hb'.box x hx
  ·intro x hx;rcases List.mem_cons.1 hx with rfl | hx
   ·exact .inr rfl
   ·exact .inl (hb'.hid x hx)
  ·refine List.pairwise_cons.2 ⟨fun x hx=>?_,hb'.ne⟩;have:=(hb.box x hx).lt;show p.block≠x.1.block;omega
theorem HBZ.at (hb:HBZ Z H w l) {i:Nat} {p:Addr} {c:List Value} {T:TypeId} (hi:l[i]?=some (p,c,T)):Box w p c T:=hb.box _ (List.mem_of_getElem? hi)
theorem HBZ.cell (hb:HBZ Z H w l) (i j:Nat) {p:Addr} {c:List Value} {T:TypeId} {v:Value} (hi:l[i]?=some (p,c,T)) (hv:c[j]?=some v):w.cell? (p.add j)=some v:=(hb.at hi).cell hv
theorem HBZ.cell0 (hb:HBZ Z H w l) (i:Nat) {p:Addr} {c:List Value} {T:TypeId} {v:Value} (hi:l[i]?=some (p,c,T)) (hv:c[0]?=some v):w.cell? p=some v:=by
 have:=hb.cell i 0 hi hv;simpa [Addr.add] using this
theorem HBZ.row (hb:HBZ Z H w l) (i j n:Nat) {p:Addr} {c vs:List Value} {T:TypeId} (hi:l[i]?=some (p,c,T)) (hv:(c.drop j).take n=vs):Row w (p.add j) vs:=by
 intro k hk;subst hv;have hlt:k<n∧j+k<c.length:=by simp at hk;omega
 rw [qU,List.getElem?_take,if_pos hlt.1,List.getElem?_drop,List.getElem?_eq_getElem hlt.2];exact (hb.at hi).cell (List.getElem?_eq_getElem hlt.2)
theorem HBZ.row0 (hb:HBZ Z H w l) (i n:Nat) {p:Addr} {c vs:List Value} {T:TypeId} (hi:l[i]?=some (p,c,T)) (hv:c.take n=vs):Row w p vs:=by
 intro k hk;subst hv;have hlt:k<n∧k<c.length:=by simp at hk;omega
 rw [List.getElem?_take,if_pos hlt.1,List.getElem?_eq_getElem hlt.2];exact (hb.at hi).cell (List.getElem?_eq_getElem hlt.2)
theorem HBZ.canW (hb:HBZ Z H w l) (i j:Nat) {p:Addr} {c:List Value} {T:TypeId} (hi:l[i]?=some (p,c,T)) (hj:decide (j<c.length)=true):kG w (p.add j):=(hb.at hi).canW (of_decide_eq_true hj)
theorem HBZ.canW0 (hb:HBZ Z H w l) (i:Nat) {p:Addr} {c:List Value} {T:TypeId} (hi:l[i]?=some (p,c,T)) (hj:decide (0<c.length)=true):kG w p:=(hb.at hi).canW0 (of_decide_eq_true hj)
theorem HBZ.canWs (hb:HBZ Z H w l) (i j n:Nat) {p:Addr} {c:List Value} {T:TypeId} (hi:l[i]?=some (p,c,T)) (hj:decide (j+n≤c.length)=true):∀k,k<n→kG w ((p.add j).add k):=fun k hk=>by
 rw [qU];exact (hb.at hi).canW (by have:=of_decide_eq_true hj;omega)
theorem HBZ.canWs0 (hb:HBZ Z H w l) (i n:Nat) {p:Addr} {c:List Value} {T:TypeId} (hi:l[i]?=some (p,c,T)) (hj:decide (n≤c.length)=true):∀k,k<n→kG w (p.add k):=fun k hk=>(hb.at hi).canW (by have:=of_decide_eq_true hj;omega)
theorem HBZ.put {i:Nat} {p:Addr} {c c':List Value} {T:TypeId} (hb:HBZ Z H w l) (h:Hst w0 Hv wv H w) (hi:l[i]?=some (p,c,T)) (hB:Box w1 p c' T) (hE:Ext (·=p.block) w w1) (hl:l.set i (p,c',T)=l'):Hst w0 Hv wv H w1∧HBZ Z H w1 l':=by
 have hmem:=List.mem_of_getElem? hi;refine ⟨⟨h.ext.trans' hE (fun b _ e=>by subst e;exact hb.hid _ hmem),h.sub,h.new,h.old,fun b hb=>Nat.lt_of_lt_of_le (h.lt b hb) hE.size,Nat.le_trans h.base hE.size⟩,?_⟩;subst hl;obtain ⟨hlt,hget⟩:=List.getElem?_eq_some_iff.1 hi;have hset:∀k x,(l.set i (p,c',T))[k]?=some x→(k=i∧x=(p,c',T))∨(k≠i∧l[k]?=some x):=by
  intro k x hx;rw [List.getElem?_set] at hx;by_cases hk:i=k
  ·subst hk;simp [hlt] at hx;exact .inl ⟨rfl,hx.symm⟩
  ·rw [if_neg hk] at hx;exact .inr ⟨fun e=>hk e.symm,hx⟩
 have hne:∀k x,k≠i→l[k]?=some x→x.1.block≠p.block:=by
  intro k x hk hx;obtain ⟨hk1,hk2⟩:=List.getElem?_eq_some_iff.1 hx;have hp:=List.pairwise_iff_getElem.1 hb.ne;rcases Nat.lt_or_gt_of_ne hk with h' | h'
  ·have:=hp k i hk1 hlt h';rw [hk2,hget] at this;exact this
  ·have:=hp i k hlt hk1 h';rw [hk2,hget] at this;exact fun e=>this e.symm
 refine ⟨?_,?_,?_,fun x hx=>⟨(hb.fz x hx).1,hE.heap (hb.fz x hx).2.1 (fun e=>?_),(hb.fz x hx).2.2⟩⟩
 ·intro x hx;obtain ⟨k,hk⟩:=List.getElem?_of_mem hx;rcases hset k x hk with ⟨_,rfl⟩ | ⟨hk',hx'⟩
  ·exact hB
  ·exact (hb.box x (List.mem_of_getElem? hx')).ext hE (hne k x hk' hx')
 ·intro x hx;obtain ⟨k,hk⟩:=List.getElem?_of_mem hx;rcases hset k x hk with ⟨_,rfl⟩ | ⟨hk',hx'⟩
  ·have:=hb.hid _ hmem;exact this
  ·exact hb.hid x (List.mem_of_getElem? hx')
 ·have e : (l.set i (p, c', T)).map (fun x => x.1.block) = l.map (fun x => x.1.block) := by
   rw [List.map_set];apply List.ext_getElem?;intro k;rw [List.getElem?_set];by_cases hk:i=k
   ·subst hk;simp [hlt,hget]
   ·simp [hk]
  have:=List.pairwise_map.2 hb.ne;exact List.pairwise_map.1 (e▸this)
 ·have h1:=(hb.box _ hmem).blk;have h2:=(hb.fz x hx).2;simp only at h1;rw [e,h1] at h2;have h3:=Option.some.inj h2.1;rw [← h3] at h2;cases h2.2
theorem HBZ.set {i:Nat} (j:Nat) {p:Addr} {c:List Value} {v:Value} {T:TypeId} (hb:HBZ Z H w l) (h:Hst w0 Hv wv H w) (hi:l[i]?=some (p,c,T)) (hl:l.set i (p,c.set j v,T)=l'):Hst w0 Hv wv H (w.setCell (p.add j) v)∧HBZ Z H (w.setCell (p.add j) v) l' :=
 hb.put h hi ((hb.at hi).set j v) (by have:=Ext.setCell (w:=w) (p.add j) v;rw [zN] at this;exact this) hl
theorem HBZ.set0 {i:Nat} {p:Addr} {c:List Value} {v:Value} {T:TypeId} (hb:HBZ Z H w l) (h:Hst w0 Hv wv H w) (hi:l[i]?=some (p,c,T)) (hl:l.set i (p,c.set 0 v,T)=l'):Hst w0 Hv wv H (w.setCell p v)∧HBZ Z H (w.setCell p v) l':=by
 have:=hb.set 0 (v:=v) h hi hl;simpa [Addr.add] using this
theorem HBZ.store {i:Nat} (j:Nat) {p:Addr} {c vs:List Value} {T:TypeId} (hb:HBZ Z H w l) (h:Hst w0 Hv wv H w) (hi:l[i]?=some (p,c,T)) (hj:decide (j+vs.length≤c.length)=true) (hl:l.set i (p,c.take j++vs++c.drop (j+vs.length),T)=l'):Hst w0 Hv wv H (storeRow w (p.add j) vs)∧HBZ Z H (storeRow w (p.add j) vs) l' :=
 hb.put h hi (by have:=Box.storeAt vs 0 j w c (hb.at hi) (by have:=of_decide_eq_true hj;omega);simpa [storeRow] using this) (by have:=Ext.storeRow w (p.add j) vs;rw [zN] at this;exact this) hl
theorem HBZ.store0 {i:Nat} {p:Addr} {c vs:List Value} {T:TypeId} (hb:HBZ Z H w l) (h:Hst w0 Hv wv H w) (hi:l[i]?=some (p,c,T)) (hj:decide (vs.length≤c.length)=true) (hl:l.set i (p,vs++c.drop vs.length,T)=l'):Hst w0 Hv wv H (storeRow w p vs)∧HBZ Z H (storeRow w p vs) l':=by
 have:=hb.store 0 (vs:=vs) h hi (by simpa using hj) (by simpa using hl);simpa [Addr.add] using this
theorem Ext.hst {F:Nat→Prop} (E:Ext F w0 w) (h:Hst w0 H w H1 w1):Ext F w0 w1:=E.trans' h.ext (fun b hb hF=>absurd (h.old b hF) (by omega))
theorem Hst.disj (h:Hst w0 H w H1 w1) {G:Nat→Prop} (hG:∀b,G b→b<w.heap.size∧¬ H b):∀b,G b→¬ H1 b:=fun b hb h1=>(h.new b h1).elim (hG b hb).2 (fun h2=>by have:=(hG b hb).1;omega)
theorem Hst.disj0 (h:Hst w0 H w H1 w1) {G:Nat→Prop} (hG:∀b,G b→b<w0.heap.size):∀b,G b→¬ H1 b:=fun b hb h1=>by have:=hG b hb;have:=h.old b h1;omega
end
end Go.SE
namespace Go.SE
section
variable {H:Nat→Prop} {w:World} {a:Addr}
theorem Kept.setCell {v:Value} (h:¬ H a.block):Kept H w (w.setCell a v):=(Ext.setCell a v).kept (fun b hb e=>h (e▸hb))
theorem Kept.storeRow {vs:List Value} (h:¬ H a.block):Kept H w (SE.storeRow w a vs):=(Ext.storeRow w a vs).kept (fun b hb e=>h (e▸hb))
theorem HBZ.drop {Z:List (Nat×Obj)} {l:List HBx} (hb:HBZ Z H w l) (n:Nat):HBZ Z H w (l.drop n):=hb.sub (List.drop_sublist n l)
theorem zH {cx:Cx} {P:Program} {n:Nat} {c:Code} {Q:Exit→Env→World→Prop} {ρ:Env} (J:Env→World→Prop) (h:wpE (x:=cx) P n c (lN J (fun _ _ _=>False)) ρ w) (hJ:∀ρ w,J ρ w→Q .normal ρ w):wpE (x:=cx) P n c Q ρ w :=
 xP (fun e ρ w hq=>by cases e <;> first | exact hJ _ _ hq | exact hq.elim) h
theorem zA {Q:Exit→Env→World→Prop} {ρ:Env} {l:List (Nat×Value)} (h:Has ρ l) (hg:Q .normal (lS ρ l) w):Q .normal ρ w:=by rwa [qY h] at hg
end
end Go.SE
namespace Go.SE
theorem gZ {α:Type} {o:α} {l:List α}:(o :: l)[0]?=some o:=rfl
theorem gS {α:Type} {a o:α} {l:List α} {k:Nat} (h:l[k]?=some o):(a :: l)[k+1]?=some o:=by simpa using h
end Go.SE
end
section
namespace Go.SE
structure Own (H:Nat→Prop) (w:World) (e:TypeId) (sz:Nat) (s:Sl) (rs:List (List Value)):Prop where
 rows:Rws w e sz s rs
 vis:∀b,s.blk b→¬ H b
section
variable {w0 w w1 w2 wv:World} {H H1 Hv:Nat→Prop} {e:TypeId} {sz:Nat} {s:Sl} {rs:List (List Value)}
theorem Own.hst (h:Own H w e sz s rs) (hs:Hst w0 H w H1 w1):Own H1 w1 e sz s rs :=
 have hv:∀b,s.blk b→¬ H1 b:=hs.disj fun b hb=>⟨h.rows.lt hb,h.vis b hb⟩
 ⟨h.rows.ext hs.ext hv,hv⟩
theorem Own.pure (h:Own H w e sz s rs) (E:Pure w w1):Own H w1 e sz s rs:=⟨h.rows.pure E,h.vis⟩
theorem Own.ext {F:Nat→Prop} (h:Own H w e sz s rs) (E:Ext F w w1) (hd:∀b,s.blk b→¬ F b):Own H w1 e sz s rs:=⟨h.rows.ext E hd,h.vis⟩
theorem Own.nil (H:Nat→Prop) (w:World):Own H w e sz Sl.nil []:=⟨Rws.nil _ _ _,fun b h=>by obtain ⟨a,h,_⟩:=h;cases h⟩
theorem Own.len (h:Own H w e sz s rs):s.len=rs.length:=h.rows.len
theorem Rws.nth {α:Type} {f:α→List Value} {xs:List α} (h:Rws w e sz s (xs.map f)) {j:Nat} (hj:j<xs.length):∃a,At s j sz a∧Row w a (f xs[j]):=by
 obtain ⟨a,h1,h2,_⟩:=h.at (i:=j) (by omega) (by simpa using hj);exact ⟨a,h1,by simpa using h2⟩
theorem Own.nth {α:Type} {f:α→List Value} {xs:List α} (h:Own H w e sz s (xs.map f)) {j:Nat} (hj:j<xs.length):∃a,At s j sz a∧Row w a (f xs[j]):=h.rows.nth hj
theorem Lst.nth {S:Nat→Prop} {α:Type} {f:α→List Value} {xs:List α} (h:Lst S w sz s (xs.map f)) {j:Nat} (hj:j<xs.length):∃a,At s j sz a∧S a.block∧Row w a (f xs[j]):=by
 obtain ⟨a,h1,h2,h3⟩:=h.at_ j (by simpa using hj);exact ⟨a,h1,h2,by simpa using h3⟩
theorem xS {a:Addr} {v:Value} (h:Row w a [v]):w.cell? a=some v:=by
 have:=h 0 (by simp);simpa [Addr.add] using this
theorem Lst.hst {S:Nat→Prop} (h:Lst S w sz s rs) (hs:Hst w0 H w H1 w1) (hd:∀b,S b→b<w0.heap.size):Lst S w1 sz s rs:=h.ext hs.ext (fun b hb h1=>by have:=hd b hb;have:=hs.old b h1;omega)
theorem Hst.first (h:Hst w0 None w0 H1 w1):Pure w0 w1:=(Ext.refl w0).hst h
theorem Own.append {P:Program} {t ty:TypeId} {bytes:Nat} (T:SlType P t e sz bytes) (h:Own H w e sz s rs) (hs:Hst w0 Hv wv H w) {p:Addr} {c:Nat} {r:List Value} (hr:Row w p r) (hl:r.length=sz) (h1:r.all kD=true) (hb:(rs.length+1)*bytes≤140737488355328) (hm:rs.length+1≤maxLen) :
  ∃s' w',(Builtin.append_ #[t,t] ty #[s.v,(Sl.mk (some p) 1 c).v]).run P w=.ok s'.v w'∧Own H w' e sz s' (rs++[r])∧Ext s.blk w w'∧Kept H w w'∧(∀b,s'.blk b→s.blk b∨w.heap.size≤b):=by
 obtain ⟨s',w',hr',hR,hE,hb'⟩:=h.rows.append T (ty:=ty) (c:=c) hr hl h1 hb hm
 exact ⟨s',w',hr',⟨hR,fun b hb=>(hb' b hb).elim (h.vis b) (fun hge hH=>by have:=hs.lt b hH;omega)⟩,hE,hE.kept (fun b hH hS=>h.vis b hS hH),hb'⟩
end
theorem kX {j n:Nat} (h:j<n) (hn:n≤9223372036854775807):IntKind.i64.wrap ((j:Int)+1)=((j+1:Nat):Int):=by
 rw [IntWalk.i64_in _ (by omega)];omega
theorem gD {j n:Nat} (h:j<n):((n:Int) - ((j+1:Nat):Int)).toNat<((n:Int) - (j:Int)).toNat:=by omega
theorem qH {j n m:Nat} (hm:m=n) (h:decide ((j:Int)<(m:Int))=true):j<n:=by have h:=of_decide_eq_true h;omega
theorem qJ {j n m:Nat} (hm:m=n) (hj:j≤n) (h:decide ((j:Int)<(m:Int))=false):j=n:=by have h:=of_decide_eq_false h;omega
end Go.SE
namespace Go.SE
theorem zD {cx:Cx} {P:Program} {n:Nat} {c:Code} {Q:Exit→Env→World→Prop} {ρ:Env} {w:World} {N:Env→World→Prop} (J:Env→World→Prop) (hy:∀ρ w,J ρ w→N ρ w) (h:wpE (x:=cx) P n c (lN J Q) ρ w):wpE (x:=cx) P n c (lN N Q) ρ w :=
 xP (fun e ρ w hq=>by cases e <;> first | exact hy _ _ hq | exact hq) h
end Go.SE
namespace Go.SE
section
variable {w0 w w1:World} {H H1:Nat→Prop}
theorem uH {a:Addr} {v:Value} (h:w.cell? a=some v) (hn:¬ H a.block) (hs:Hst w0 H w H1 w1):w1.cell? a=some v :=
 hs.ext.cell h (fun h1=>(hs.new _ h1).elim hn (fun h2=>by have:=World.block_lt_of_cell? w a h;omega))
theorem uY {P:Program} {ops:Array Oper} {C:World→Prop} {loud free:Nat→Bool} {Q Q':Env→World→Prop} (hq:∀ρ w,Q ρ w→Q' ρ w):∀{fuel:Nat} {listed:Array Bool} {ρ:Env} {w:World},wpX P ops C loud free Q fuel listed ρ w→wpX P ops C loud free Q' fuel listed ρ w
 | 0,_,_,_,h=>⟨h.1,hq _ _ h.2⟩
 | fuel+1,listed,ρ,w,h=>by
  have key:∀i ρ w,opE P ops C loud free i (wpX P ops C loud free Q fuel (listed.setIfInBounds i true)) ρ w→opE P ops C loud free i (wpX P ops C loud free Q' fuel (listed.setIfInBounds i true)) ρ w:=by
   intro i ρ w h;unfold opE at h ⊢;split
   ·rename_i ho;simp only [ho] at h;exact uY hq h
   ·rename_i o ho;simp only [ho] at h;split
    ·rename_i hw;rw [if_pos hw] at h;split
     ·rename_i hl;rw [if_pos hl] at h;exact qM h fun v w' ⟨hc,hk⟩=>⟨hc,uY hq hk⟩
     ·rename_i hl;rw [if_neg hl] at h;obtain ⟨v,h1,h2⟩:=h;exact ⟨v,h1,uY hq h2⟩
    ·rename_i hw;rw [if_neg hw] at h;exact uY hq h
  rcases h with ⟨i,h1,h2,h3,h4⟩ | ⟨h0,h⟩
  ·exact .inl ⟨i,h1,h2,h3,key _ _ _ h4⟩
  ·exact .inr ⟨fun e=>hq _ _ (h0 e),fun i hi=>key _ _ _ (h i hi)⟩
theorem jDD {P:Program} {ops:Array Oper} {C:World→Prop} {loud free:Nat→Bool} {Q:Env→World→Prop} {ρ:Env} {fuel:Nat} {listed:Array Bool} (J:Env→World→Prop) (h:wpX P ops C loud free J fuel listed ρ w) (hJ:∀ρ w,J ρ w→Q ρ w):wpX P ops C loud free Q fuel listed ρ w:=uY hJ h
theorem jLS {Q:Env→World→Prop} {ρ:Env} {l:List (Nat×Value)} (h:Has ρ l) (hg:Q (lS ρ l) w):Q ρ w:=by rwa [qY h] at hg
end
end Go.SE
namespace Go.SE
section
variable {P:Program} {t e:TypeId} {sz bytes:Nat}
end
end Go.SE
end
section
namespace Go.SE
open Go.Instr
section
variable {P:Program} {T K E:TypeId} {S:Value→Prop} {w:World} {m:Nat} {es:List (Value×Value)}
structure CntMap (w:World) (m:Nat) (ks:List Value) (B:Int):Prop where
 ex:∃es,CMap w m es∧es.map Prod.fst=ks∧∀p∈es,∃n,p.2=.int .i64 n∧1≤n∧n≤B
 nodup:ks.Nodup
theorem CntMap.ext {F:Nat→Prop} {w w':World} {m:Nat} {ks:List Value} {B:Int} (h:CntMap w m ks B) (hE:Ext F w w') (hf:¬ F m):CntMap w' m ks B :=
 ⟨let ⟨es,h1,h2⟩:=h.ex;⟨es,h1.ext hE hf,h2⟩,h.nodup⟩
theorem CntMap.lt {w:World} {m:Nat} {ks:List Value} {B:Int} (h:CntMap w m ks B):m<w.heap.size:=let ⟨_,h1,_⟩:=h.ex;h1.lt
theorem CntMap.of_new {w w':World} {p:Addr} (h:New w (.map #[] 0) p w') (B:Int):CntMap w' p.block [] B:=⟨⟨[],CMap.of_new h,rfl,by simp⟩,List.nodup_nil⟩
theorem CntMap.mono {w:World} {m:Nat} {ks:List Value} {B B':Int} (h:CntMap w m ks B) (hB:B≤B'):CntMap w m ks B' :=
 ⟨let ⟨es,h1,h2,h3⟩:=h.ex;⟨es,h1,h2,fun p hp=>let ⟨n,h4,h5,h6⟩:=h3 p hp;⟨n,h4,h5,by omega⟩⟩,h.nodup⟩
theorem CntMap.look {ks:List Value} {B:Int} (h:CntMap w m ks B) (hT:P.underlying T=some (.map K E)) (hK:KeyOK P K S) (hS:∀k∈ks,S k) {k:Value} (hk:S k) (hz:∀w,(zeroValue E).run P w=.ok (.int .i64 0) w) :
  ∃v,(Instr.lookup T (.map (some m)) k false).run P w=.ok (.int .i64 v) w∧((k∈ks∧1≤v∧v≤B)∨(k ∉ ks∧v=0)):=by
 obtain ⟨es,hM,rfl,hc⟩:=h.ex
 rcases hM.lookup hT hK (fun p hp=>hS _ (List.mem_map.2 ⟨p,hp,rfl⟩)) hk (hz w) false with ⟨hn,hr⟩ | ⟨i,v,hi,hr⟩
 ·refine ⟨0,hr,.inr ⟨fun hm=>?_,rfl⟩⟩
  obtain ⟨p,hp,rfl⟩:=List.mem_map.1 hm
  exact hn p hp rfl
 ·obtain ⟨n,rfl,h1,h2⟩:=hc _ (List.mem_of_getElem? hi)
  exact ⟨n,hr,.inl ⟨List.mem_map.2 ⟨_,List.mem_of_getElem? hi,rfl⟩,h1,h2⟩⟩
end
end Go.SE
end
section
namespace Go.SE
section
variable {P:Program} {ops:Array Oper} {Q:Env→World→Prop} {ρ:Env} {w:World} {rest:List Oper} {o:Oper}
theorem yD (d:Nat) {j:Nat} {c t:Bool} (hc:c=t) (hd:(ops[j]?).bind (·.dst)=some d:=by kernel_rfl) (hv:ρ d=.bool c:=by kernel_rfl):jQ ops ρ j=some t:=yE hd hv hc
theorem q0 (v:Value) (h:wpL P ops Q rest (put ρ o.dst v) w) (hw:Region.wanted o (jQ ops ρ)=true:=by kernel_rfl) (hr:(execOp (evE ρ) o).run P w=.ok (.value v) w:=by kernel_rfl):wpL P ops Q (o :: rest) ρ w:=stp hw hr h
theorem q1 (v:Value) (hw:Region.wanted o (jQ ops ρ)=true) (h:wpL P ops Q rest (put ρ o.dst v) w) (hr:(execOp (evE ρ) o).run P w=.ok (.value v) w:=by kernel_rfl):wpL P ops Q (o :: rest) ρ w:=stp hw hr h
theorem q2 (v:Value) (hr:(execOp (evE ρ) o).run P w=.ok (.value v) w) (h:wpL P ops Q rest (put ρ o.dst v) w) (hw:Region.wanted o (jQ ops ρ)=true:=by kernel_rfl):wpL P ops Q (o :: rest) ρ w:=stp hw hr h
variable {C:World→Prop} {loud free:Nat→Bool} {fuel:Nat} {listed:Array Bool}
theorem qx (k:Nat) (v:Value) (ho:ops[k]?=some o) (h:wpX P ops C loud free Q fuel (listed.setIfInBounds k true) (put ρ o.dst v) w) (hg:jKC ops listed loud k=true:=by kernel_rfl) (hw:Region.wanted o (jQ ops ρ)=true:=by kernel_rfl) (hl:loud k=false:=by kernel_rfl) (hr:∀w',(execOp (evE ρ) o).run P w'=.ok (.value v) w':=by intro _;kernel_rfl):wpX P ops C loud free Q (fuel+1) listed ρ w :=
 qgo hg (sx ho hw hl (fun w' _=>hr w') h)
theorem qw (k:Nat) (v:Value) (ho:ops[k]?=some o) (hw:Region.wanted o (jQ ops ρ)=true) (h:wpX P ops C loud free Q fuel (listed.setIfInBounds k true) (put ρ o.dst v) w) (hg:jKC ops listed loud k=true:=by kernel_rfl) (hl:loud k=false:=by kernel_rfl) (hr:∀w',(execOp (evE ρ) o).run P w'=.ok (.value v) w':=by intro _;kernel_rfl):wpX P ops C loud free Q (fuel+1) listed ρ w :=
 qgo hg (sx ho hw hl (fun w' _=>hr w') h)
theorem qz (k:Nat) (v:Value) (ho:ops[k]?=some o) (hr:∀w',C w'→(execOp (evE ρ) o).run P w'=.ok (.value v) w') (h:wpX P ops C loud free Q fuel (listed.setIfInBounds k true) (put ρ o.dst v) w) (hg:jKC ops listed loud k=true:=by kernel_rfl) (hw:Region.wanted o (jQ ops ρ)=true:=by kernel_rfl) (hl:loud k=false:=by kernel_rfl):wpX P ops C loud free Q (fuel+1) listed ρ w :=
 qgo hg (sx ho hw hl hr h)
theorem qn (k:Nat) (ho:ops[k]?=some o) (hw:Region.wanted o (jQ ops ρ)=false) (h:wpX P ops C loud free Q fuel (listed.setIfInBounds k true) (put ρ o.dst undef) w) (hg:jKC ops listed loud k=true:=by kernel_rfl):wpX P ops C loud free Q (fuel+1) listed ρ w :=
 qgo hg (kM ho hw h)
theorem qq {W:World} (k:Nat) (v:Value) (ho:ops[k]?=some o) (h:wpX P ops (fun x=>x=W) loud free Q fuel (listed.setIfInBounds k true) (put ρ o.dst v) w) (hg:jKC ops listed loud k=true:=by kernel_rfl) (hw:Region.wanted o (jQ ops ρ)=true:=by kernel_rfl) (hl:loud k=false:=by kernel_rfl) (hr:(execOp (evE ρ) o).run P W=.ok (.value v) W:=by kernel_rfl):wpX P ops (fun x=>x=W) loud free Q (fuel+1) listed ρ w :=
 qgo hg (sxQ ho hw hl hr h)
theorem qr {W:World} (k:Nat) (v:Value) (ho:ops[k]?=some o) (hr:(execOp (evE ρ) o).run P W=.ok (.value v) W) (h:wpX P ops (fun x=>x=W) loud free Q fuel (listed.setIfInBounds k true) (put ρ o.dst v) w) (hg:jKC ops listed loud k=true:=by kernel_rfl) (hw:Region.wanted o (jQ ops ρ)=true:=by kernel_rfl) (hl:loud k=false:=by kernel_rfl):wpX P ops (fun x=>x=W) loud free Q (fuel+1) listed ρ w :=
 qgo hg (sxQ ho hw hl hr h)
end
section
variable {P:Program} {n:Nat} {Q:Exit→Env→World→Prop} {ρ:Env} {w:World}
theorem rg {cx:Cx} {id:Nat} {l:List Oper} (h:wpL P l.toArray (fun ρ w=>Q .normal ρ w) l ρ w) (hd:vP n l=true:=by kernel_rfl):wpE (x:=cx) P n (.region id l.toArray false) Q ρ w:=jEZ hd h
end
section
variable {α:Type} {x0 x1 x2 x3 x4 x5 x6 x7 x8 x9 o:α} {l:List α}
theorem Kp0:(o :: l).toArray[0]?=some o:=rfl
theorem Kp1:(x0 :: o :: l).toArray[1]?=some o:=rfl
theorem Kp2:(x0 :: x1 :: o :: l).toArray[2]?=some o:=rfl
theorem Kp3:(x0 :: x1 :: x2 :: o :: l).toArray[3]?=some o:=rfl
theorem Kp4:(x0 :: x1 :: x2 :: x3 :: o :: l).toArray[4]?=some o:=rfl
theorem Kp5:(x0 :: x1 :: x2 :: x3 :: x4 :: o :: l).toArray[5]?=some o:=rfl
theorem Kp6:(x0 :: x1 :: x2 :: x3 :: x4 :: x5 :: o :: l).toArray[6]?=some o:=rfl
theorem Kp7:(x0 :: x1 :: x2 :: x3 :: x4 :: x5 :: x6 :: o :: l).toArray[7]?=some o:=rfl
theorem Kp8:(x0 :: x1 :: x2 :: x3 :: x4 :: x5 :: x6 :: x7 :: o :: l).toArray[8]?=some o:=rfl
theorem Kp9:(x0 :: x1 :: x2 :: x3 :: x4 :: x5 :: x6 :: x7 :: x8 :: o :: l).toArray[9]?=some o:=rfl
end
end Go.SE
end
section
namespace Go.SE
section
variable {α:Type} {a b c d e f g h o:α} {l:List α} {k:Nat}
theorem S4 (x:l[k]?=some o):(a :: b :: c :: d :: l)[k+4]?=some o:=by simpa using x
theorem S8 (x:l[k]?=some o):(a :: b :: c :: d :: e :: f :: g :: h :: l)[k+8]?=some o:=by simpa using x
end
section
variable {P:Program} {ε:Operand→Value} {w w':World} {d:Option Tmp} {ty:TypeId} {pos:String} {aft:Array Edge} {g:Option (Nat×Bool)}
theorem xl {T:TypeId} {x:Operand} {a:Addr} {v:Value} (hT:(isAgg T).run P w=.ok false w) (hc:w.cell? a=some v) (hx:ε x=.pointer (some a):=by kernel_rfl):(execOp ε ⟨d,.load T x,ty,pos,aft,g⟩).run P w=.ok (.value v) w:=oU hx hT hc
theorem xT {c x y:Operand} {b:Bool} {v:Value} (hb:b=true) (hc:ε c=.bool b:=by kernel_rfl) (hx:ε x=v:=by kernel_rfl):(execOp ε ⟨d,.pick c x y,ty,pos,aft,g⟩).run P w=.ok (.value v) w:=jLC hc hb hx
theorem xF {c x y:Operand} {b:Bool} {v:Value} (hb:b=false) (hc:ε c=.bool b:=by kernel_rfl) (hy:ε y=v:=by kernel_rfl):(execOp ε ⟨d,.pick c x y,ty,pos,aft,g⟩).run P w=.ok (.value v) w:=jLD hc hb hy
theorem xb {T:TypeId} {x:Operand} {cs:Array Value} (hc:(ε x).cells=cs:=by kernel_rfl):(execOp ε ⟨d,.box T x,ty,pos,aft,g⟩).run P w=.ok (.value (.pointer (some ⟨w.heap.size,0,none⟩))) (w.alloc (.cells cs T)):=x_box hc
theorem xs {T:TypeId} {x y:Operand} {a:Addr} {v:Value} (hs:(sizeOf T).run P w=.ok 1 w) (hc:kG w a) (hx:ε x=.pointer (some a):=by kernel_rfl) (hy:ε y=v:=by kernel_rfl) (h1:kD v=true:=by rfl):(execOp ε ⟨d,.store T x y,ty,pos,aft,g⟩).run P w=.ok .skip (w.setCell a v):=zY hx hy h1 hs hc
end
section
variable {P:Program} {ρ:Env} {w w':World} {ty:TypeId} {pos:String} {aft:Array Edge} {g:Option (Nat×Bool)} {d:Option Tmp}
theorem xc {f:FuncId} {c:List Operand} {ts:Array TypeId} {args:Array Value} (hf:∀args w,(callFunc f args).run P w=.ok (.enter f args) w) (ha:(c.map (evE ρ)).toArray=args:=by kernel_rfl) :
  (execOp (evE ρ) ⟨d,.call ⟨.value (.func f),c.toArray,ts⟩,ty,pos,aft,g⟩).run P w=.ok (.enter f args) w:=lE hf ha
end
section
variable {P:Program} {ops:Array Oper} {Q:Env→World→Prop} {ρ:Env} {w w':World} {rest:List Oper} {o:Oper} {v:Value}
theorem sn {O:Obj} (hr:(execOp (evE ρ) o).run P w=.ok (.value (.pointer (some ⟨w.heap.size,0,none⟩))) (w.alloc O)) (h:∀p w',New w O p w'→wpL P ops Q rest (put ρ o.dst (.pointer (some p))) w') (hw:Region.wanted o (jQ ops ρ)=true:=by kernel_rfl):wpL P ops Q (o :: rest) ρ w:=kP (fun p=>.pointer (some p)) hw hr h
end
section
variable {H:Nat→Prop} {w:World} {l:List HBx}
theorem HBZ.c {Z:List (Nat×Obj)} (hb:HBZ Z H w l) (i j:Nat) {p:Addr} {c:List Value} {T:TypeId} {v:Value} (hi:l[i]?=some (p,c,T)) (hv:c[j]?=some v:=by kernel_rfl):w.cell? (p.add j)=some v:=hb.cell i j hi hv
theorem HBZ.c0 {Z:List (Nat×Obj)} (hb:HBZ Z H w l) (i:Nat) {p:Addr} {c:List Value} {T:TypeId} {v:Value} (hi:l[i]?=some (p,c,T)) (hv:c[0]?=some v:=by kernel_rfl):w.cell? p=some v:=hb.cell0 i hi hv
end
abbrev vi (n:Int):Value:=.int .i64 n
abbrev vu (n:Int):Value:=.int .u64 n
abbrev vs (n:ByteArray):Value:=.string n
abbrev vb (n:Bool):Value:=.bool n
abbrev vp (n:Option Addr):Value:=.pointer n
end Go.SE
namespace Go.SE
theorem Kept.hh {w0 wv w w1:World} {Hv H:Nat→Prop} {Z:List (Nat×Obj)} {l:List HBx} (hk:Kept H w w1) (hs:Hst w0 Hv wv H w) (hb:HBZ Z H w l):Hst w0 H w1 H w1∧HBZ Z H w1 l:=⟨hs.again hk,hb.kept hk⟩
end Go.SE
namespace Go.SE
section
variable {P:Program} {ops:Array Oper} {C:World→Prop} {loud free:Nat→Bool} {K:Env→World→Prop} {ρ:Env} {w w' W:World} {o:Oper} {v:Value} {k:Nat}
theorem sy (ho:ops[k]?=some o) (hr:∀w',C w'→(execOp (evE ρ) o).run P w'=.ok (.value v) w') (h:K (put ρ o.dst v) w) (hw:Region.wanted o (jQ ops ρ)=true:=by kernel_rfl) (hl:loud k=false:=by kernel_rfl):opE P ops C loud free k K ρ w:=sx ho hw hl hr h
theorem sz (ho:ops[k]?=some o) (hw:Region.wanted o (jQ ops ρ)=true) (hr:∀w',C w'→(execOp (evE ρ) o).run P w'=.ok (.value v) w') (h:K (put ρ o.dst v) w) (hl:loud k=false:=by kernel_rfl):opE P ops C loud free k K ρ w:=sx ho hw hl hr h
theorem sye (ho:ops[k]?=some o) (hr:(execOp (evE ρ) o).run P w=.ok (.value v) w) (h:K (put ρ o.dst v) w) (hw:Region.wanted o (jQ ops ρ)=true:=by kernel_rfl) (hl:loud k=false:=by kernel_rfl) (he:uN .any ops loud k=true:=by kernel_rfl):opE P ops C loud free k K ρ w:=sxe ho hw hl he hr h
theorem sl_t (ho:ops[k]?=some o) (hr:(execOp (evE ρ) o).run P w=.ok .skip W) (h:∀w',w'=W→(free k=true∨C w')∧K (put ρ o.dst undef) w') (hw:Region.wanted o (jQ ops ρ)=true:=by kernel_rfl) (hl:loud k=true:=by kernel_rfl):opE P ops C loud free k K ρ w:=jBF ho hw hl hr h
variable {Q:Env→World→Prop} {fuel:Nat} {listed:Array Bool}
theorem qg (k:Nat) (h:opE P ops C loud free k (wpX P ops C loud free Q fuel (listed.setIfInBounds k true)) ρ w) (hg:jKC ops listed loud k=true:=by kernel_rfl):wpX P ops C loud free Q (fuel+1) listed ρ w:=qgo hg h
theorem lg (k:Nat) (h:opE P ops C loud free k (wpX P ops C loud free Q fuel (listed.setIfInBounds k true)) ρ w) (hr:Region.ready .any ops listed=[k]:=by kernel_rfl):wpX P ops C loud free Q (fuel+1) listed ρ w:=lgo hr h
variable {ε:Operand→Value} {d:Option Tmp} {ty:TypeId} {pos:String} {aft:Array Edge} {g:Option (Nat×Bool)}
theorem xi {T E:TypeId} {x ix:Operand} {s:Sl} {i:Int} {n:Nat} {a:Addr} (hT:(underlying T).run P w=.ok (.slice E) w) (hs:(sizeOf E).run P w=.ok n w) (ha:At s i n a) (hx:ε x=s.v:=by kernel_rfl) (hi:ε ix=.int .i64 i:=by kernel_rfl):(execOp ε ⟨d,.indexAddr T x ix,ty,pos,aft,g⟩).run P w=.ok (.value (.pointer (some a))) w:=lD hx hi hT hs ha
theorem hm {l:List (Nat×Value)} (h:l.map (fun p=>ρ p.1)=l.map (·.2):=by kernel_rfl):Has ρ l:=Has.mk h
theorem wn {Q:Env→World→Prop} {listed:Array Bool} (h:Q ρ w) (h0:Region.ready .any ops listed=[]:=by kernel_rfl):wpX P ops C loud free Q 0 listed ρ w:=jGL h0 h
theorem sm {rest:List Oper} (h:wpL P ops Q rest (put ρ o.dst undef) w) (hw:Region.wanted o (jQ ops ρ)=false:=by kernel_rfl):wpL P ops Q (o :: rest) ρ w:=jKR hw h
theorem sc {rest:List Oper} {f:FuncId} {c:List Operand} {ts:Array TypeId} {args:Array Value} (hf:∀args w,(callFunc f args).run P w=.ok (.enter f args) w) (h:Calls P f args w fun e w''=>∃v,e=.returned v∧wpL P ops Q rest (put ρ d v) w'') (hw:Region.wanted ⟨d,.call ⟨.value (.func f),c.toArray,ts⟩,ty,pos,aft,g⟩ (jQ ops ρ)=true:=by kernel_rfl) (ha:(c.map (evE ρ)).toArray=args:=by kernel_rfl) :
  wpL P ops Q (⟨d,.call ⟨.value (.func f),c.toArray,ts⟩,ty,pos,aft,g⟩ :: rest) ρ w:=kQ hw (lE hf ha) h
theorem cw {n:Nat} {f:FuncId} {fn:Func} {c:Code} {args:List Value} {R:Ending→World→Prop} (hf:P.funcs[f]?=some fn) (hn:fn.ntmps=n) (h:wpE (x:=⟨none,[]⟩) P n c (oL P fn n R) (jAT args) w) (hb:fn.body=some c:=by exact rfl) (hl:args.length≤n:=by exact Nat.le_of_ble_eq_true rfl):Calls P f args.toArray w R:=xI hf hb hn hl h
theorem rs1 {n:Nat} {fn:Func} {t:Nat} {v:Value} {R:Ending→World→Prop} {e:Exit} (hr:fn.results=#[.tmp t]) (h:R (.returned v) w) (hv:ρ t=v:=by kernel_rfl) (he:e=.ret∨e=.normal:=by exact .inl rfl):oL P fn n R e ρ w:=res1 he hr hv h
end
end Go.SE
namespace Go.SE
theorem Kept.sc {H:Nat→Prop} {w w':World} {a:Addr} {v:Value} (h:¬ H a.block) (e:w'=w.setCell a v):Kept H w w':=by rw [e];exact Kept.setCell h
end Go.SE
namespace Go.SE
section
variable {P:Program} {n:Nat} {Q:Exit→Env→World→Prop} {ρ:Env} {w:World}
theorem ln {ops:Array Oper} {next:Env→World→Prop} (h:next ρ w):wpL P ops (fun ρ w=>lN next Q .normal ρ w) [] ρ w:=h
theorem eg {cx:Cx} {id:Nat} {l:List Oper} {y:Code} (h:wpL P l.toArray (fun ρ w=>lN (fun ρ w=>wpE (x:=cx) P n y Q ρ w) Q .normal ρ w) l ρ w) (hd:vP n l=true:=by kernel_rfl):wpE (x:=cx) P n (.seq (.region id l.toArray false) y) Q ρ w:=jB (rg h hd)
theorem er {x:Cx} (h:Q .ret ρ w):wpE (x:=x) P n .ret Q ρ w:=jDE h
theorem wy {ops:Array Oper} {o:Oper} (d:Nat) {j:Nat} {c t:Bool} (hc:c=t) (hg:o.guard=some (j,t):=by rfl) (hd:(ops[j]?).bind (·.dst)=some d:=by kernel_rfl) (hv:ρ d=.bool c:=by kernel_rfl):Region.wanted o (jQ ops ρ)=true:=jLI hg (yE hd hv hc)
variable {ε:Operand→Value} {w':World} {d:Option Tmp} {ty:TypeId} {pos:String} {aft:Array Edge} {g:Option (Nat×Bool)}
theorem xo {T:TypeId} {x y:Operand} {n:Nat} (a:Addr) (vs:List Value) (hs:(sizeOf T).run P w=.ok n w) (hc:∀j,j<vs.length→kG w (a.add j)) (hx:ε x=.pointer (some a):=by kernel_rfl) (hy:ε y=.agg vs.toArray:=by kernel_rfl) (h1:vs.all kD=true:=by rfl) (hn:vs.length=n:=by rfl) :
  (execOp ε ⟨d,.store T x y,ty,pos,aft,g⟩).run P w=.ok .skip (storeRow w a vs):=qN hx hy h1 hs hn hc
theorem xa {T:TypeId} {x:Operand} {n:Nat} (a:Addr) (vs:List Value) (hT:(isAgg T).run P w=.ok true w) (hs:(sizeOf T).run P w=.ok n w) (hc:Row w a vs) (hx:ε x=.pointer (some a):=by kernel_rfl) (hn:vs.length=n:=by rfl) :
  (execOp ε ⟨d,.load T x,ty,pos,aft,g⟩).run P w=.ok (.value (.agg vs.toArray)) w:=tW hx hT hs hn hc
theorem rva {a:Nat} {A:Addr} {T:TypeId} {vs:List Value} {k:Nat} (hT:(isAgg T).run P w=.ok true w) (hs:(sizeOf T).run P w=.ok k w) (hc:Row w A vs) (ha:ρ a=.pointer (some A):=by kernel_rfl) (hn:vs.length=k:=by rfl):RV P ρ w (.cell a T) (.agg vs.toArray):=RV.cellA ha hT hs hn hc
end
section
variable {H Hv:Nat→Prop} {w0 wv w w':World} {l l':List HBx} {Z:List (Nat×Obj)} {p:Addr} {c vs:List Value} {T:TypeId}
theorem HBZ.r0 (hb:HBZ Z H w l) (i n:Nat) (hi:l[i]?=some (p,c,T)) (hv:c.take n=vs:=by kernel_rfl):Row w p vs:=hb.row0 i n hi hv
theorem HBZ.k0 (hb:HBZ Z H w l) (i n:Nat) (hi:l[i]?=some (p,c,T)) (hj:decide (n≤c.length)=true:=by kernel_rfl):∀k,k<n→kG w (p.add k):=hb.canWs0 i n hi hj
theorem HBZ.s0 (hb:HBZ Z H w l) (i:Nat) (vs:List Value) (h:Hst w0 Hv wv H w) (hw:w'=storeRow w p vs) (hi:l[i]?=some (p,c,T)) (hj:decide (vs.length≤c.length)=true:=by kernel_rfl) (hl:l.set i (p,vs++c.drop vs.length,T)=l':=by kernel_rfl):Hst w0 Hv wv H w'∧HBZ Z H w' l':=by
 subst hw;exact hb.store0 h hi hj hl
end
end Go.SE
namespace Go.SE
abbrev ve:Value:=.string ⟨#[]⟩
theorem bte (b:Bool):b=true∨b=false:=Bool.eq_false_or_eq_true b
section
variable {P:Program} {ops:Array Oper} {Q:Env→World→Prop} {C:World→Prop} {loud free:Nat→Bool} {K:Env→World→Prop} {ρ:Env} {w:World} {k:Nat} {d:Option Tmp} {ty:TypeId} {pos:String} {aft:Array Edge} {g:Option (Nat×Bool)}
theorem slc {f:FuncId} {c:List Operand} {ts:Array TypeId} {args:Array Value} (ho:ops[k]?=some ⟨d,.call ⟨.value (.func f),c.toArray,ts⟩,ty,pos,aft,g⟩) (hf:∀args w,(callFunc f args).run P w=.ok (.enter f args) w) (h:Calls P f args w fun e w''=>∃v,e=.returned v∧(free k=true∨C w'')∧K (put ρ d v) w'') (hg:g=none:=by rfl) (hl:loud k=true:=by kernel_rfl) (ha:(c.map (evE ρ)).toArray=args:=by kernel_rfl):opE P ops C loud free k K ρ w:=gQ ho (jG hg) hl (lE hf ha) h
theorem ss {rest:List Oper} {o:Oper} {W:World} (hr:(execOp (evE ρ) o).run P w=.ok .skip W) (h:∀w',w'=W→wpL P ops Q rest (put ρ o.dst undef) w') (hg:o.guard=none:=by rfl):wpL P ops Q (o :: rest) ρ w:=zF (jG hg) hr h
variable {ε:Operand→Value}
theorem xn {x:Operand} {p:Option Addr} {a:Addr} (hp:p=some a) (hx:ε x=.pointer p:=by kernel_rfl):(execOp ε ⟨d,.nilCheck x,ty,pos,aft,g⟩).run P w=.ok (.value (.pointer (some a))) w:=oT hx hp
end
end Go.SE
namespace Go.SE
def rv:Result Next→Value
 | .ok (.value v) _=>v
 | _=>undef
def sv (P:Program) (o:Oper) (ρ:Env) (w:World):Env:=put ρ o.dst (rv ((execOp (evE ρ) o).run P w))
def isv:Result Next→Bool
 | .ok (.value _) _=>true
 | _=>false
def wof (w:World):Result Next→World
 | .ok _ w'=>w'
 | _=>w
theorem jKT {r:Result Next} {w w0:World} (h:isv r=true) (hw:wof w0 r=w):r=.ok (.value (rv r)) w:=by
 cases r with
 | ok a w' =>
  cases a with
  | value v=>simp [rv,wof] at hw ⊢;exact hw
  | _=>simp [isv] at h
 | _=>simp [isv] at h
def okl (P:Program) (ops:Array Oper) (o:Oper) (ρ:Env) (w:World):Bool×World:=(Region.wanted o (jQ ops ρ) && isv ((execOp (evE ρ) o).run P w),wof w ((execOp (evE ρ) o).run P w))
theorem okq {P:Program} {ops:Array Oper} {o:Oper} {ρ:Env} {w:World} (h:okl P ops o ρ w=(true,w)):Region.wanted o (jQ ops ρ)=true∧(execOp (evE ρ) o).run P w=.ok (.value (rv ((execOp (evE ρ) o).run P w))) w:=by
 have h1:=congrArg Prod.fst h;have h2:=congrArg Prod.snd h;simp only [okl,Bool.and_eq_true] at h1 h2;exact ⟨h1.1,jKT h1.2 h2⟩
def okv (P:Program) (o:Oper) (ρ:Env) (w:World):Bool×World:=(isv ((execOp (evE ρ) o).run P w),wof w ((execOp (evE ρ) o).run P w))
theorem okw {P:Program} {o:Oper} {ρ:Env} {w:World} (h:okv P o ρ w=(true,w)):(execOp (evE ρ) o).run P w=.ok (.value (rv ((execOp (evE ρ) o).run P w))) w:=jKT (congrArg Prod.fst h) (congrArg Prod.snd h)
section
variable {P:Program} {ops:Array Oper} {Q:Env→World→Prop} {ρ:Env} {w:World} {rest:List Oper} {o o1 o2 o3 o4 o5:Oper}
theorem q (h:wpL P ops Q rest (sv P o ρ w) w) (h0:okl P ops o ρ w=(true,w):=by kernel_rfl):wpL P ops Q (o :: rest) ρ w:=stp (okq h0).1 (okq h0).2 h
theorem qb (h:wpL P ops Q rest (sv P o1 (sv P o ρ w) w) w) (h0:okl P ops o ρ w=(true,w):=by kernel_rfl) (h1:okl P ops o1 (sv P o ρ w) w=(true,w):=by kernel_rfl):wpL P ops Q (o :: o1 :: rest) ρ w:=q (q h h1) h0
theorem qc (h:wpL P ops Q rest (sv P o2 (sv P o1 (sv P o ρ w) w) w) w) (h0:okl P ops o ρ w=(true,w):=by kernel_rfl) (h1:okl P ops o1 (sv P o ρ w) w=(true,w):=by kernel_rfl) (h2:okl P ops o2 (sv P o1 (sv P o ρ w) w) w=(true,w):=by kernel_rfl):wpL P ops Q (o :: o1 :: o2 :: rest) ρ w:=q (q (q h h2) h1) h0
theorem qd (h:wpL P ops Q rest (sv P o3 (sv P o2 (sv P o1 (sv P o ρ w) w) w) w) w) (h0:okl P ops o ρ w=(true,w):=by kernel_rfl) (h1:okl P ops o1 (sv P o ρ w) w=(true,w):=by kernel_rfl) (h2:okl P ops o2 (sv P o1 (sv P o ρ w) w) w=(true,w):=by kernel_rfl) (h3:okl P ops o3 (sv P o2 (sv P o1 (sv P o ρ w) w) w) w=(true,w):=by kernel_rfl):wpL P ops Q (o :: o1 :: o2 :: o3 :: rest) ρ w:=qb (qb h h2 h3) h0 h1
theorem qk (d:Nat) {j:Nat} {c t:Bool} (hc:c=t) (h:wpL P ops Q rest (sv P o ρ w) w) (hg:o.guard=some (j,t):=by rfl) (hd:(ops[j]?).bind (·.dst)=some d:=by kernel_rfl) (hv:ρ d=.bool c:=by kernel_rfl) (hr:okv P o ρ w=(true,w):=by kernel_rfl):wpL P ops Q (o :: rest) ρ w:=stp (jLI hg (yE hd hv hc)) (okw hr) h
theorem stq {v:Value} (hw:Region.wanted o (jQ ops ρ)=true) (hr:(execOp (evE ρ) o).run P w=.ok (.value v) w) (h:wpL P ops Q rest (put ρ o.dst v) w):wpL P ops Q (o :: rest) ρ w:=Go.SE.stp hw hr h
theorem q3 {v:Value} (hr:(execOp (evE ρ) o).run P w=.ok (.value v) w) (h:wpL P ops Q rest (put ρ o.dst v) w) (hw:Region.wanted o (jQ ops ρ)=true:=by kernel_rfl):wpL P ops Q (o :: rest) ρ w:=stp hw hr h
theorem q4 {v:Value} (d:Nat) {j:Nat} {c t:Bool} (hc:c=t) (hr:(execOp (evE ρ) o).run P w=.ok (.value v) w) (h:wpL P ops Q rest (put ρ o.dst v) w) (hg:o.guard=some (j,t):=by rfl) (hd:(ops[j]?).bind (·.dst)=some d:=by kernel_rfl) (hv:ρ d=.bool c:=by kernel_rfl):wpL P ops Q (o :: rest) ρ w:=stp (jLI hg (yE hd hv hc)) hr h
theorem sj (d:Nat) {j:Nat} {c t u:Bool} (hc:c=u) (h:wpL P ops Q rest (put ρ o.dst undef) w) (hg:o.guard=some (j,t):=by rfl) (hne:(u == t)=false:=by rfl) (hd:(ops[j]?).bind (·.dst)=some d:=by kernel_rfl) (hv:ρ d=.bool c:=by kernel_rfl):wpL P ops Q (o :: rest) ρ w:=jKR (jH hg (yE hd hv hc) hne) h
theorem sj2 (d:Nat) {j0 j1:Nat} {c u t0 t1:Bool} (hc:c=u) (h:wpL P ops Q rest (put (put ρ o.dst undef) o1.dst undef) w) (g0:o.guard=some (j0,t0):=by rfl) (n0:(u == t0)=false:=by rfl) (d0:(ops[j0]?).bind (·.dst)=some d:=by kernel_rfl) (v0:ρ d=.bool c:=by kernel_rfl) (g1:o1.guard=some (j1,t1):=by rfl) (n1:(u == t1)=false:=by rfl) (d1:(ops[j1]?).bind (·.dst)=some d:=by kernel_rfl) (v1:(put ρ o.dst undef) d=.bool c:=by kernel_rfl):wpL P ops Q (o :: o1 :: rest) ρ w:=sj d hc (sj d hc (h) g1 n1 d1 v1) g0 n0 d0 v0
theorem sj3 (d:Nat) {j0 j1 j2:Nat} {c u t0 t1 t2:Bool} (hc:c=u) (h:wpL P ops Q rest (put (put (put ρ o.dst undef) o1.dst undef) o2.dst undef) w) (g0:o.guard=some (j0,t0):=by rfl) (n0:(u == t0)=false:=by rfl) (d0:(ops[j0]?).bind (·.dst)=some d:=by kernel_rfl) (v0:ρ d=.bool c:=by kernel_rfl) (g1:o1.guard=some (j1,t1):=by rfl) (n1:(u == t1)=false:=by rfl) (d1:(ops[j1]?).bind (·.dst)=some d:=by kernel_rfl) (v1:(put ρ o.dst undef) d=.bool c:=by kernel_rfl) (g2:o2.guard=some (j2,t2):=by rfl) (n2:(u == t2)=false:=by rfl) (d2:(ops[j2]?).bind (·.dst)=some d:=by kernel_rfl) (v2:(put (put ρ o.dst undef) o1.dst undef) d=.bool c:=by kernel_rfl):wpL P ops Q (o :: o1 :: o2 :: rest) ρ w:=sj d hc (sj d hc (sj d hc (h) g2 n2 d2 v2) g1 n1 d1 v1) g0 n0 d0 v0
theorem sj4 (d:Nat) {j0 j1 j2 j3:Nat} {c u t0 t1 t2 t3:Bool} (hc:c=u) (h:wpL P ops Q rest (put (put (put (put ρ o.dst undef) o1.dst undef) o2.dst undef) o3.dst undef) w) (g0:o.guard=some (j0,t0):=by rfl) (n0:(u == t0)=false:=by rfl) (d0:(ops[j0]?).bind (·.dst)=some d:=by kernel_rfl) (v0:ρ d=.bool c:=by kernel_rfl) (g1:o1.guard=some (j1,t1):=by rfl) (n1:(u == t1)=false:=by rfl) (d1:(ops[j1]?).bind (·.dst)=some d:=by kernel_rfl) (v1:(put ρ o.dst undef) d=.bool c:=by kernel_rfl) (g2:o2.guard=some (j2,t2):=by rfl) (n2:(u == t2)=false:=by rfl) (d2:(ops[j2]?).bind (·.dst)=some d:=by kernel_rfl) (v2:(put (put ρ o.dst undef) o1.dst undef) d=.bool c:=by kernel_rfl) (g3:o3.guard=some (j3,t3):=by rfl) (n3:(u == t3)=false:=by rfl) (d3:(ops[j3]?).bind (·.dst)=some d:=by kernel_rfl) (v3:(put (put (put ρ o.dst undef) o1.dst undef) o2.dst undef) d=.bool c:=by kernel_rfl):wpL P ops Q (o :: o1 :: o2 :: o3 :: rest) ρ w:=sj d hc (sj d hc (sj d hc (sj d hc (h) g3 n3 d3 v3) g2 n2 d2 v2) g1 n1 d1 v1) g0 n0 d0 v0
theorem sj5 (d:Nat) {j0 j1 j2 j3 j4:Nat} {c u t0 t1 t2 t3 t4:Bool} (hc:c=u) (h:wpL P ops Q rest (put (put (put (put (put ρ o.dst undef) o1.dst undef) o2.dst undef) o3.dst undef) o4.dst undef) w) (g0:o.guard=some (j0,t0):=by rfl) (n0:(u == t0)=false:=by rfl) (d0:(ops[j0]?).bind (·.dst)=some d:=by kernel_rfl) (v0:ρ d=.bool c:=by kernel_rfl) (g1:o1.guard=some (j1,t1):=by rfl) (n1:(u == t1)=false:=by rfl) (d1:(ops[j1]?).bind (·.dst)=some d:=by kernel_rfl) (v1:(put ρ o.dst undef) d=.bool c:=by kernel_rfl) (g2:o2.guard=some (j2,t2):=by rfl) (n2:(u == t2)=false:=by rfl) (d2:(ops[j2]?).bind (·.dst)=some d:=by kernel_rfl) (v2:(put (put ρ o.dst undef) o1.dst undef) d=.bool c:=by kernel_rfl) (g3:o3.guard=some (j3,t3):=by rfl) (n3:(u == t3)=false:=by rfl) (d3:(ops[j3]?).bind (·.dst)=some d:=by kernel_rfl) (v3:(put (put (put ρ o.dst undef) o1.dst undef) o2.dst undef) d=.bool c:=by kernel_rfl) (g4:o4.guard=some (j4,t4):=by rfl) (n4:(u == t4)=false:=by rfl) (d4:(ops[j4]?).bind (·.dst)=some d:=by kernel_rfl) (v4:(put (put (put (put ρ o.dst undef) o1.dst undef) o2.dst undef) o3.dst undef) d=.bool c:=by kernel_rfl):wpL P ops Q (o :: o1 :: o2 :: o3 :: o4 :: rest) ρ w:=sj d hc (sj d hc (sj d hc (sj d hc (sj d hc (h) g4 n4 d4 v4) g3 n3 d3 v3) g2 n2 d2 v2) g1 n1 d1 v1) g0 n0 d0 v0
variable {d:Option Tmp} {ty:TypeId} {pos:String} {aft:Array Edge} {g:Option (Nat×Bool)}
theorem ql {τ:Type} {F:τ→Value} {R:τ→Prop} {T:TypeId} {x:Operand} {a:Addr} (hT:(isAgg T).run P w=.ok false w) (h:∃v,w.cell? a=some (F v)∧R v) (k:∀v,R v→wpL P ops Q rest (put ρ d (F v)) w) (hx:evE ρ x=.pointer (some a):=by kernel_rfl) (hw:Region.wanted ⟨d,.load T x,ty,pos,aft,g⟩ (jQ ops ρ)=true:=by kernel_rfl):wpL P ops Q (⟨d,.load T x,ty,pos,aft,g⟩ :: rest) ρ w:=by
 obtain ⟨v,hv,h⟩:=h;exact q2 _ (oU hx hT hv) (k v h) hw
theorem qm {R:Addr→Prop} {x:Operand} {p:Option Addr} (h:∃a,p=some a∧R a) (k:∀a,R a→wpL P ops Q rest (put ρ d (.pointer (some a))) w) (hx:evE ρ x=.pointer p:=by kernel_rfl) (hw:Region.wanted ⟨d,.nilCheck x,ty,pos,aft,g⟩ (jQ ops ρ)=true:=by kernel_rfl):wpL P ops Q (⟨d,.nilCheck x,ty,pos,aft,g⟩ :: rest) ρ w:=by
 obtain ⟨a,ha,h⟩:=h;exact q2 _ (oT hx ha) (k a h) hw
theorem qi {R:Addr→Prop} {T E:TypeId} {x ix:Operand} {s:Sl} {i:Int} {n:Nat} (hT:(underlying T).run P w=.ok (.slice E) w) (hs:(sizeOf E).run P w=.ok n w) (h:∃a,At s i n a∧R a) (k:∀a,R a→wpL P ops Q rest (put ρ d (.pointer (some a))) w) (hx:evE ρ x=s.v:=by kernel_rfl) (hi:evE ρ ix=.int .i64 i:=by kernel_rfl) (hw:Region.wanted ⟨d,.indexAddr T x ix,ty,pos,aft,g⟩ (jQ ops ρ)=true:=by kernel_rfl):wpL P ops Q (⟨d,.indexAddr T x ix,ty,pos,aft,g⟩ :: rest) ρ w:=by
 obtain ⟨a,ha,h⟩:=h;exact q2 _ (lD hx hi hT hs ha) (k a h) hw
theorem qa {T:TypeId} {x:Operand} {n:Nat} {a:Addr} {vs:List Value} (hT:(isAgg T).run P w=.ok true w) (hs:(sizeOf T).run P w=.ok n w) (hc:Row w a vs) (h:wpL P ops Q rest (put ρ d (.agg vs.toArray)) w) (hx:evE ρ x=.pointer (some a):=by kernel_rfl) (hn:vs.length=n:=by rfl) (hw:Region.wanted ⟨d,.load T x,ty,pos,aft,g⟩ (jQ ops ρ)=true:=by kernel_rfl):wpL P ops Q (⟨d,.load T x,ty,pos,aft,g⟩ :: rest) ρ w:=q2 _ (tW hx hT hs hn hc) h hw
theorem sro {R:World→Prop} {T:TypeId} {x y:Operand} {n m:Nat} {a:Addr} {vs:List Value} (hs:(sizeOf T).run P w=.ok n w) (h:(∀j,j<m→kG w (a.add j))∧∀w',w'=storeRow w a vs→R w') (k:∀w',R w'→wpL P ops Q rest (put ρ d undef) w') (hx:evE ρ x=.pointer (some a):=by kernel_rfl) (hy:evE ρ y=.agg vs.toArray:=by kernel_rfl) (h1:vs.all kD=true:=by rfl) (hn:vs.length=n:=by rfl) (hm:vs.length=m:=by rfl) (hw:Region.wanted ⟨d,.store T x y,ty,pos,aft,g⟩ (jQ ops ρ)=true:=by kernel_rfl):wpL P ops Q (⟨d,.store T x y,ty,pos,aft,g⟩ :: rest) ρ w:=by
 subst hm;exact vG hw (qN hx hy h1 hs hn h.1) (k _ (h.2 _ rfl))
theorem st1 {R:World→Prop} {T:TypeId} {x y:Operand} {a:Addr} {v:Value} (hs:(sizeOf T).run P w=.ok 1 w) (h:kG w a∧∀w',w'=w.setCell a v→R w') (k:∀w',R w'→wpL P ops Q rest (put ρ d undef) w') (hx:evE ρ x=.pointer (some a):=by kernel_rfl) (hy:evE ρ y=v:=by kernel_rfl) (h1:kD v=true:=by rfl) (hw:Region.wanted ⟨d,.store T x y,ty,pos,aft,g⟩ (jQ ops ρ)=true:=by kernel_rfl):wpL P ops Q (⟨d,.store T x y,ty,pos,aft,g⟩ :: rest) ρ w :=
 vG hw (zY hx hy h1 hs h.1) (k _ (h.2 _ rfl))
variable {H Hv:Nat→Prop} {w0 wv:World} {l:List HBx} {Z:List (Nat×Obj)}
theorem st2 {R:World→Prop} {T:TypeId} {x y:Operand} {a:Addr} {v:Value} (hs:(sizeOf T).run P w=.ok 1 w) (hst:Hst w0 Hv wv H w) (hb:HBZ Z H w l) (h:kG w a∧¬ H a.block∧∀w',w'=w.setCell a v→R w') (k:∀w',Hst w0 H w' H w'→HBZ Z H w' l→R w'→wpL P ops Q rest (put ρ d undef) w') (hx:evE ρ x=.pointer (some a):=by kernel_rfl) (hy:evE ρ y=v:=by kernel_rfl) (h1:kD v=true:=by rfl) (hw:Region.wanted ⟨d,.store T x y,ty,pos,aft,g⟩ (jQ ops ρ)=true:=by kernel_rfl):wpL P ops Q (⟨d,.store T x y,ty,pos,aft,g⟩ :: rest) ρ w :=
 vG hw (zY hx hy h1 hs h.1) (by obtain ⟨hst,hb⟩:=(Kept.setCell h.2.1).hh hst hb;exact k _ hst hb (h.2.2 _ rfl))
theorem nw1 {R:Addr→World→Prop} {O:Obj} (h:∀p w',New w O p w'→R p w') (hr:(execOp (evE ρ) o).run P w=.ok (.value (.pointer (some ⟨w.heap.size,0,none⟩))) (w.alloc O)) (k:∀p w',R p w'→wpL P ops Q rest (put ρ o.dst (.pointer (some p))) w') (hw:Region.wanted o (jQ ops ρ)=true:=by kernel_rfl):wpL P ops Q (o :: rest) ρ w:=sn hr (fun p w' hn=>k p w' (h p w' hn)) hw
theorem nw2 {R:Addr→World→Prop} {O:Obj} (hst:Hst w0 Hv wv H w) (hb:HBZ Z H w l) (h:∀p w',New w O p w'→R p w') (hr:(execOp (evE ρ) o).run P w=.ok (.value (.pointer (some ⟨w.heap.size,0,none⟩))) (w.alloc O)) (k:∀p w',Hst w0 H w' H w'→HBZ Z H w' l→R p w'→wpL P ops Q rest (put ρ o.dst (.pointer (some p))) w') (hw:Region.wanted o (jQ ops ρ)=true:=by kernel_rfl):wpL P ops Q (o :: rest) ρ w:=sn hr (fun p w' hn=>by
 obtain ⟨hst,hb⟩:=(Ext.new (F:=None) hn).keptP.hh hst hb;exact k p w' hst hb (h p w' hn)) hw
theorem nw3 (c:List Value) (T:TypeId) (hst:Hst w0 Hv wv H w) (hb:HBZ Z H w l) (hr:(execOp (evE ρ) o).run P w=.ok (.value (.pointer (some ⟨w.heap.size,0,none⟩))) (w.alloc (.cells c.toArray T))) (k:∀p w' H',Hst w0 Hv wv H' w'→HBZ Z H' w' ((p,c,T) :: l)→wpL P ops Q rest (put ρ o.dst (.pointer (some p))) w') (hw:Region.wanted o (jQ ops ρ)=true:=by kernel_rfl):wpL P ops Q (o :: rest) ρ w:=sn hr (fun p w' hn=>by
 obtain ⟨H1,hst,hb⟩:=hst.alloc hb hn;exact k p w' H1 hst hb) hw
theorem sbx (i:Nat) (vs:List Value) {p:Addr} {c:List Value} {T U:TypeId} {x y:Operand} {n:Nat} (hs:(sizeOf T).run P w=.ok n w) (hst:Hst w0 Hv wv H w) (hb:HBZ Z H w l) (hi:l[i]?=some (p,c,U)) (k:∀w',Hst w0 Hv wv H w'→HBZ Z H w' (l.set i (p,vs++c.drop vs.length,U))→wpL P ops Q rest (put ρ d undef) w') (hx:evE ρ x=.pointer (some p):=by kernel_rfl) (hy:evE ρ y=.agg vs.toArray:=by kernel_rfl) (h1:vs.all kD=true:=by rfl) (hn:vs.length=n:=by rfl) (hj:decide (vs.length≤c.length)=true:=by kernel_rfl) (hw:Region.wanted ⟨d,.store T x y,ty,pos,aft,g⟩ (jQ ops ρ)=true:=by kernel_rfl):wpL P ops Q (⟨d,.store T x y,ty,pos,aft,g⟩ :: rest) ρ w :=
 vG hw (qN hx hy h1 hs hn (hb.canWs0 i _ hi hj)) (by obtain ⟨a,b⟩:=hb.store0 (vs:=vs) hst hi hj rfl;exact k _ a b)
end
section
variable {H Hv:Nat→Prop} {w0 wv w w':World} {l l':List HBx} {Z:List (Nat×Obj)} {p:Addr} {c vs:List Value} {T:TypeId}
theorem HBZ.st1 (hb:HBZ Z H w l) (i:Nat) (h:Hst w0 Hv wv H w) (hw:w'=storeRow w p vs) (hi:l[i]?=some (p,c,T)) (hj:decide (vs.length≤c.length)=true:=by kernel_rfl):Hst w0 Hv wv H w'∧HBZ Z H w' (l.set i (p,vs++c.drop vs.length,T)):=by
 subst hw;exact hb.store0 h hi hj rfl
theorem HBZ.d (hb:HBZ Z H w l) (i j:Nat) {p:Addr} {c:List Value} {T:TypeId} (hi:l[i]?=some (p,c,T)) (hv:c[j]?=some (c.getD j undef):=by kernel_rfl):w.cell? (p.add j)=some (c.getD j undef):=hb.cell i j hi hv
theorem HBZ.d0 (hb:HBZ Z H w l) (i:Nat) {p:Addr} {c:List Value} {T:TypeId} (hi:l[i]?=some (p,c,T)) (hv:c[0]?=some (c.getD 0 undef):=by kernel_rfl):w.cell? p=some (c.getD 0 undef):=hb.cell0 i hi hv
theorem Hst.nw {O:Obj} {p:Addr} (h:Hst w0 Hv wv H w) (hb:HBZ Z H w l) (hn:New w O p w'):Hst w0 H w' H w'∧HBZ Z H w' l:=(Ext.new (F:=None) hn).keptP.hh h hb
theorem Hst.pp (h:Hst w0 Hv wv H w) (hb:HBZ Z H w l) (E:Pure w w'):Hst w0 Hv wv H w'∧HBZ Z H w' l:=⟨h.pure E,hb.pure E⟩
theorem Hst.hr {R:Prop} (hs:Hst w0 Hv wv H w) (h:Hst w0 Hv wv H w→R):R∧Hst w0 H w H w:=⟨h hs,hs.here⟩
theorem st0 (w0:World):Hst w0 None w0 None w0∧HB None w0 []:=⟨Hst.start w0,HB.nil None w0⟩
end
theorem Br.br {c:Bool} {A B:Prop} (h:Br c A B):(c=true∧A)∨(c=false∧B):=by
 cases c
 ·exact .inr ⟨rfl,h.2 rfl⟩
 ·exact .inl ⟨rfl,h.1 rfl⟩
section
variable {P:Program} {n:Nat} {Q:Exit→Env→World→Prop} {ρ:Env} {w:World}
theorem cbr {cx:Cx} {c:Operand} {y z:Code} {t:Bool} {A B:Prop} (h:Br t A B) (ht:A→wpE (x:=cx) P n y Q ρ w) (hf:B→wpE (x:=cx) P n z Q ρ w) (hc:evE ρ c=.bool t:=by kernel_rfl):wpE (x:=cx) P n (.cond c y z) Q ρ w:=zO hc (fun e=>ht (h.1 e)) (fun e=>hf (h.2 e))
theorem cbr' {cx:Cx} {c:Operand} {y z:Code} {t:Bool} {A B:Prop} (h:Br t A B) (ht:t=true→A→wpE (x:=cx) P n y Q ρ w) (hf:t=false→B→wpE (x:=cx) P n z Q ρ w) (hc:evE ρ c=.bool t:=by kernel_rfl):wpE (x:=cx) P n (.cond c y z) Q ρ w:=zO hc (fun e=>ht e (h.1 e)) (fun e=>hf e (h.2 e))
theorem gg1 {fn:Func} {r:ResultVar} {v:Value} {R:Ending→World→Prop} {e:Exit} (hr:fn.results=#[r]) (h:RV P ρ w r v) (hR:R (.returned v) w) (he:e=.ret∨e=.normal:=by exact .inl rfl):oL P fn n R e ρ w:=uD he (rs:=[r]) (vs:=[v]) hr ⟨h,trivial⟩ rfl hR
theorem gg2 {fn:Func} {r s:ResultVar} {v u:Value} {R:Ending→World→Prop} {e:Exit} (hr:fn.results=#[r,s]) (h:RV P ρ w r v) (h':RV P ρ w s u) (hR:R (.returned (.tuple #[v,u])) w) (he:e=.ret∨e=.normal:=by exact .inl rfl):oL P fn n R e ρ w:=uD he (rs:=[r,s]) (vs:=[v,u]) hr ⟨h,h',trivial⟩ rfl hR
theorem rvU {t:Nat} (v:Value) (h:ρ t=v:=by kernel_rfl):RV P ρ w (.tmp t) v:=h
end
end Go.SE
namespace Go.SE
section
variable {P:Program} {ops:Array Oper} {Q:Env→World→Prop} {ρ:Env} {w:World} {rest:List Oper} {o:Oper}
variable {H Hv:Nat→Prop} {w0 wv:World} {l:List HBx} {Z:List (Nat×Obj)}
theorem nw4 {R:Addr→World→Prop} {O:Obj} (v:Addr→Value) (h:∀p w',New w O p w'→R p w') (k:∀p w',R p w'→wpL P ops Q rest (put ρ o.dst (v p)) w') (hr:(execOp (evE ρ) o).run P w=.ok (.value (v ⟨w.heap.size,0,none⟩)) (w.alloc O):=by kernel_rfl) (hw:Region.wanted o (jQ ops ρ)=true:=by kernel_rfl):wpL P ops Q (o :: rest) ρ w:=kP v hw hr (fun p w' hn=>k p w' (h p w' hn))
theorem nw5 {R:Addr→World→Prop} {O:Obj} (v:Addr→Value) (hst:Hst w0 Hv wv H w) (hb:HBZ Z H w l) (h:∀p w',New w O p w'→R p w') (k:∀p w',Hst w0 H w' H w'→HBZ Z H w' l→R p w'→wpL P ops Q rest (put ρ o.dst (v p)) w') (hr:(execOp (evE ρ) o).run P w=.ok (.value (v ⟨w.heap.size,0,none⟩)) (w.alloc O):=by kernel_rfl) (hw:Region.wanted o (jQ ops ρ)=true:=by kernel_rfl):wpL P ops Q (o :: rest) ρ w:=kP v hw hr (fun p w' hn=>by
 obtain ⟨hst,hb⟩:=hst.nw hb hn;exact k p w' hst hb (h p w' hn))
end
section
variable {P:Program} {ops:Array Oper} {C:World→Prop} {loud free:Nat→Bool} {K:Env→World→Prop} {ρ:Env} {w:World} {k:Nat}
variable {d:Option Tmp} {ty:TypeId} {pos:String} {aft:Array Edge} {g:Option (Nat×Bool)}
end
section
variable {P:Program} {n:Nat} {Q:Exit→Env→World→Prop} {ρ:Env} {w:World}
variable {H Hv:Nat→Prop} {w0 wv:World} {l':List HBx} {Z:List (Nat×Obj)}
theorem dr1 {R:World→Prop} {cx:Cx} {id:Nat} {l:List Oper} (C:World→Prop) (loud free:List Nat) (hC:C w.drew) (h:∀w',w'=w.drew→R w') (k:∀w',R w'→wpX P l.toArray C (kV loud) (kV free) (fun ρ w=>Q .normal ρ w) l.length (Array.replicate l.length false) ρ w') (hm:P.follows .mixedOrders=true:=by kernel_rfl) (hd:vP n l=true:=by kernel_rfl) (hB:Region.noSelect l.toArray=true:=by kernel_rfl) (hg:jDW .any l.toArray (kV loud) (kV free)=true:=by kernel_rfl):wpE (x:=cx) P n (.region id l.toArray true) Q ρ w:=vX C loud free hm hd hB hg hC (fun w' e=>k w' (h w' e))
theorem dr2 {R:World→Prop} {cx:Cx} {id:Nat} {l:List Oper} (C:World→Prop) (loud free:List Nat) (hC:C w.drew) (h:∀w',w'=w.drew→R w') (hs:Hst w0 Hv wv H w) (hb:HBZ Z H w l') (k:∀w',Hst w0 Hv wv H w'→HBZ Z H w' l'→R w'→wpX P l.toArray C (kV loud) (kV free) (fun ρ w=>Q .normal ρ w) l.length (Array.replicate l.length false) ρ w') (hm:P.follows .mixedOrders=true:=by kernel_rfl) (hd:vP n l=true:=by kernel_rfl) (hB:Region.noSelect l.toArray=true:=by kernel_rfl) (hg:jDW .any l.toArray (kV loud) (kV free)=true:=by kernel_rfl):wpE (x:=cx) P n (.region id l.toArray true) Q ρ w:=vX C loud free hm hd hB hg hC (fun w' e=>k w' (e▸hs.drew) (e▸hb.drew) (h w' e))
end
end Go.SE
namespace Go.SE
abbrev Aa (x0:Int) (x1:Int) (x2:Int) (x3:Int) (x4:ByteArray) (x5:Sl):List Value:=[vi x0,vi x1,vi x2,vu x3,vs x4,x5.v]
abbrev Ab (x0:Int) (x1:Int) (x2:Int) (x3:Int) (x4:ByteArray) (x5:Sl):Value:=.agg #[vi x0,vi x1,vi x2,vu x3,vs x4,x5.v]
abbrev Ac (x0:Int) (x1:Int) (x2:Int) (x3:Int) (x4:ByteArray) (x5:Int) (x6:Int):List Value:=[vi x0,vi x1,vi x2,vu x3,vs x4,vi x5,vi x6]
abbrev Ad (x0:Int) (x1:Int) (x2:Int) (x3:Int) (x4:ByteArray) (x5:Int) (x6:Int):Value:=.agg #[vi x0,vi x1,vi x2,vu x3,vs x4,vi x5,vi x6]
abbrev Ae (x0:Bool) (x1:Bool) (x2:Bool) (x3:Bool) (x4:Int):List Value:=[vb x0,vb x1,vb x2,vb x3,vi x4]
abbrev Af (x0:Int) (x1:Int) (x2:Int) (x3:Int) (x5:Sl):Value:=.agg #[vi x0,vi x1,vi x2,vu x3,ve,x5.v]
abbrev Ag (x0:Bool) (x1:Bool) (x2:Bool) (x3:Bool) (x4:Int):Value:=.agg #[vb x0,vb x1,vb x2,vb x3,vi x4]
abbrev Ah (x0:Int) (x1:Int) (x2:Int) (x3:Int) (x5:Sl):List Value:=[vi x0,vi x1,vi x2,vu x3,ve,x5.v]
abbrev Ai (x0:Bool) (x1:Bool) (x2:Bool) (x3:Bool) (x4:Int) (x5:Bool) (x6:Bool) (x7:Bool) (x8:Bool) (x9:Int) (x10:Bool) (x11:Bool) (x12:Bool) (x13:Bool) (x14:Int) (x15:Bool) (x16:Bool) (x17:Bool) (x18:Bool) (x19:Int) (x20:Bool) (x21:Bool) (x22:Bool) (x23:Bool) (x24:Int) (x25:Bool) (x26:Bool) (x27:Bool) (x28:Bool) (x29:Int) (x30:Bool) (x31:Bool) (x32:Bool) (x33:Bool) (x34:Int) (x35:Bool) (x36:Bool) (x37:Bool) (x38:Bool) (x39:Int) (x40:Bool) (x41:Bool) (x42:Bool) (x43:Bool) (x44:Int) (x45:Bool) (x46:Bool) (x47:Bool) (x48:Bool) (x49:Int):List Value:=[vb x0,vb x1,vb x2,vb x3,vi x4,vb x5,vb x6,vb x7,vb x8,vi x9,vb x10,vb x11,vb x12,vb x13,vi x14,vb x15,vb x16,vb x17,vb x18,vi x19,vb x20,vb x21,vb x22,vb x23,vi x24,vb x25,vb x26,vb x27,vb x28,vi x29,vb x30,vb x31,vb x32,vb x33,vi x34,vb x35,vb x36,vb x37,vb x38,vi x39,vb x40,vb x41,vb x42,vb x43,vi x44,vb x45,vb x46,vb x47,vb x48,vi x49]
abbrev Aj (x0:Int) (x1:Int) (x2:Int) (x3:Int) (x5:Int) (x6:Int):List Value:=[vi x0,vi x1,vi x2,vu x3,ve,vi x5,vi x6]
end Go.SE
end
section
open Go Go.SE
namespace Go.SE
section
variable {P:Program} {t e:TypeId} {sz bytes:Nat}
theorem lU (T:SlType P t e sz bytes) (w:World) (ty:TypeId) (s x:Sl) (hc:s.len≤s.cap) (hx:x.len=0):(Builtin.append_ #[t,t] ty #[s.v,x.v]).run P w=.ok s.v w:=by
 obtain ⟨a,n,c⟩:=s;obtain ⟨b,m,d⟩:=x;simp only at hc hx;subst hx;cases b <;> cases a <;> simp [Builtin.append_,Sl.v,run_underlying T.ht,T.sizeOf,Builtin.lenOf,Builtin.firstCells,loadCells,loadCellsFrom,storeCells,hc]
end
theorem jEJ {w:World} {sz:Nat}:∀{rs:List (List Value)} {p:Addr},(∀r∈rs,r.length=sz)→(∀i (h:i<rs.length),Row w (p.add (i*sz)) rs[i])→Row w p rs.flatten
 | [],p,_,_=>fun i h=>by simp at h
 | r :: rs,p,hl,h=>by
  have hr:Row w p r:=by have:=h 0 (by simp);simpa [Addr.add] using this
  have hsz:=hl r (by simp);have ih:=jEJ (rs:=rs) (p:=p.add sz) (fun q hq=>hl q (List.mem_cons_of_mem _ hq)) (fun i hi=>by
   have:=h (i+1) (by simpa using hi);rw [qU,show sz+i*sz=(i+1)*sz by rw [Nat.succ_mul];omega];simpa using this)
  intro i hi;rw [List.flatten_cons] at hi ⊢;by_cases hlt:i<r.length
  ·rw [hr i hlt,List.getElem?_append_left hlt]
  ·have:=ih (i - r.length) (by rw [List.length_append] at hi;omega);rw [qU,show sz+(i - r.length)=i by omega] at this;rw [this,List.getElem?_append_right (by omega)]
section
variable {P:Program} {t e:TypeId} {sz bytes:Nat}
theorem Rws.appendL (T:SlType P t e sz bytes) {w:World} {ty:TypeId} {s x:Sl} {rs qs:List (List Value)} (h:Rws w e sz s rs) {S:NP} (hx:Lst S w sz x qs) (hl:∀q∈qs,q.length=sz) (h1:∀q∈qs,q.all kD=true) (hb:(rs.length+qs.length)*bytes≤140737488355328) (hm:rs.length+qs.length≤maxLen) :
  ∃s' w',(Builtin.append_ #[t,t] ty #[s.v,x.v]).run P w=.ok s'.v w'∧Rws w' e sz s' (rs++qs)∧Ext s.blk w w'∧(∀b,s'.blk b→s.blk b∨w.heap.size≤b):=by
 cases hq:qs with
 | nil =>
  subst hq
  have hc:s.len≤s.cap:=by
   rcases h.own with ⟨rfl,_⟩ | ⟨g,cur,_,_,hc,_⟩
   ·exact Nat.le_refl _
   ·rw [h.len];exact hc
  exact ⟨s,w,lU T w ty s x hc hx.len,by simpa using h,Ext.refl w,fun b hb=>.inl hb⟩
 | cons q0 rest =>
  rw [← hq]
  have hne:qs≠[]:=by rw [hq];simp
  have hpos:=List.length_pos_iff.2 hne
  obtain ⟨_,⟨_,_,p,hp,_⟩,_,_⟩:=hx.at_ 0 hpos
  have hrow:Row w p qs.flatten:=jEJ hl (fun i hi=>by
   obtain ⟨a,⟨_,_,b,hb',rfl⟩,_,hr⟩:=hx.at_ i hi;rw [hp] at hb';cases hb';simpa using hr)
  have hxv:x.v=(Sl.mk (some p) qs.length x.cap).v:=by unfold Sl.v;rw [hp,hx.len]
  rw [hxv]
  exact h.appends T hrow hl h1 hne hb hm
end
def look {α:Type}:List (Int×α)→Int→Option α
 | [],_=>none
 | p :: M,k=>if p.1=k then some p.2 else look M k
theorem jBS {α:Type} {M:List (Int×α)} {k:Int}:look M k=none↔k ∉ M.map Prod.fst:=by
 induction M with
 | nil=>simp [look]
 | cons p M ih =>
  rw [look]
  split
  ·rename_i h;simp [h]
  ·rename_i h;rw [ih,List.map_cons,List.mem_cons];exact ⟨fun h1 h2=>h2.elim (fun e=>h e.symm) h1,fun h1 h2=>h1 (.inr h2)⟩
theorem jJW {α:Type} {M:List (Int×α)} {k:Int} {v:α} (h:look M k=some v):(k,v)∈M:=by
 induction M with
 | nil=>cases h
 | cons p M ih =>
  rw [look] at h
  split at h
  ·rename_i e;cases h;subst e;simp
  ·exact List.mem_cons_of_mem _ (ih h)
theorem jLZ {α:Type} {M:List (Int×α)} (hn:(M.map Prod.fst).Nodup) {i:Nat} {k:Int} {v:α} (h:M[i]?=some (k,v)):look M k=some v:=by
 induction M generalizing i with
 | nil=>simp at h
 | cons p M ih =>
  rw [List.map_cons,List.nodup_cons] at hn
  rw [look]
  cases i with
  | zero=>simp at h;subst h;simp
  | succ i =>
   have h':M[i]?=some (k,v):=by simpa using h
   have hne:p.1≠k:=fun e=>hn.1 (by rw [e];exact List.mem_map.2 ⟨_,List.mem_of_getElem? h',rfl⟩)
   rw [if_neg hne]
   exact ih hn.2 h'
def jFW (k:Int):Value:=.int .i64 k
structure IMap {α:Type} (f:α→Value) (w:World) (m:Nat) (M:List (Int×α)):Prop where
 map:CMap w m (M.map fun p=>(jFW p.1,f p.2))
 nd:(M.map Prod.fst).Nodup
section
variable {α:Type} {f:α→Value} {w w':World} {m:Nat} {M:List (Int×α)} {P:Program} {T K E:TypeId}
theorem IMap.ext {F:NP} (h:IMap f w m M) (hE:Ext F w w') (hf:¬ F m):IMap f w' m M:=⟨h.map.ext hE hf,h.nd⟩
theorem IMap.pure (h:IMap f w m M) (hE:Pure w w'):IMap f w' m M:=h.ext hE id
theorem IMap.lt (h:IMap f w m M):m<w.heap.size:=h.map.lt
theorem IMap.of_new {p:Addr} (h:New w (.map #[] 0) p w'):IMap f w' p.block []:=⟨CMap.of_new h,List.nodup_nil⟩
theorem IMap.keys (M:List (Int×α)):∀p∈M.map (fun p=>(jFW p.1,f p.2)),∃n,p.1=.int .i64 n:=by
 intro p hp;obtain ⟨q,_,rfl⟩:=List.mem_map.1 hp;exact ⟨_,rfl⟩
theorem IMap.get (h:IMap f w m M) (hT:P.underlying T=some (.map K E)) (hK:P.underlying K=some (.int .i64)) {z:Value} (hz:(zeroValue E).run P w=.ok z w) (k:Int) (ok:Bool) :
  (look M k=none∧(Instr.lookup T (.map (some m)) (.int .i64 k) ok).run P w=.ok (if ok then .tuple #[z,.bool false] else z) w)∨∃v,look M k=some v∧(Instr.lookup T (.map (some m)) (.int .i64 k) ok).run P w=.ok (if ok then .tuple #[f v,.bool true] else f v) w:=by
 rcases h.map.lookup hT (KeyOK.of_int hK) (IMap.keys M) (k:=jFW k) ⟨k,rfl⟩ hz ok with ⟨h1,h2⟩ | ⟨i,v,h1,h2⟩
 ·refine .inl ⟨jBS.2 fun hm=>?_,h2⟩
  obtain ⟨q,hq,rfl⟩:=List.mem_map.1 hm
  exact h1 _ (List.mem_map.2 ⟨q,hq,rfl⟩) rfl
 ·rw [List.getElem?_map] at h1
  cases hi:M[i]? with
  | none=>rw [hi] at h1;cases h1
  | some q =>
   rw [hi] at h1
   obtain ⟨a,b⟩:=q
   simp [jFW] at h1
   obtain ⟨rfl,rfl⟩:=h1
   exact .inr ⟨b,jLZ h.nd hi,h2⟩
theorem IMap.put (h:IMap f w m M) (hT:P.underlying T=some (.map K E)) (hK:P.underlying K=some (.int .i64)) {k:Int} (hn:look M k=none) (v:α) :
  ∃w',(Instr.mapUpdate T (.map (some m)) (.int .i64 k) (f v)).run P w=.ok () w'∧IMap f w' m (M++[(k,v)])∧Ext (·=m) w w':=by
 have hn':=jBS.1 hn
 obtain ⟨w',h1,h2,h3⟩:=h.map.insert hT (KeyOK.of_int hK) (IMap.keys M) (k:=jFW k) (v:=f v) ⟨k,rfl⟩ (fun p hp e=>by
  obtain ⟨q,hq,rfl⟩:=List.mem_map.1 hp;simp only [jFW,Value.int.injEq,true_and] at e;exact hn' (List.mem_map.2 ⟨q,hq,e⟩))
 refine ⟨w',h1,⟨by simpa using h2,?_⟩,h3⟩
 rw [List.map_append,List.nodup_append]
 exact ⟨h.nd,by simp,fun x hx y hy e=>by simp at hy;subst hy;exact hn' (e▸hx)⟩
theorem IMap.again (h:IMap f w m M) (hT:P.underlying T=some (.map K E)) (hK:P.underlying K=some (.int .i64)) {k:Int} {v:α} (hv:look M k=some v) :
  ∃w',(Instr.mapUpdate T (.map (some m)) (.int .i64 k) (f v)).run P w=.ok () w'∧IMap f w' m M∧Ext (·=m) w w':=by
 obtain ⟨i,hi,e⟩:=List.getElem_of_mem (jJW hv)
 have hes:(M.map fun p=>(jFW p.1,f p.2))[i]?=some (jFW k,f v):=by simp [hi,e]
 obtain ⟨w',h1,h2,h3⟩:=h.map.update hT (KeyOK.of_int hK) (IMap.keys M) (k:=jFW k) (v:=f v) (v':=f v) ⟨k,rfl⟩ hes (fun j u hj=>by
  rw [List.getElem?_map] at hj;cases hq:M[j]? with
  | none=>rw [hq] at hj;cases hj
  | some q =>
   rw [hq] at hj
   simp [jFW] at hj
   obtain ⟨hj',hje⟩:=List.getElem?_eq_some_iff.1 hq
   have h4:(M.map Prod.fst)[j]'(by simpa using hj')=(M.map Prod.fst)[i]'(by simpa using hi):=by simp [hje,e,hj.1]
   exact (List.getElem_inj h.nd).1 h4)
 have hset:(M.map fun p=>(jFW p.1,f p.2)).set i (jFW k,f v)=M.map fun p=>(jFW p.1,f p.2):=by
  apply List.ext_getElem?;intro n;rw [List.getElem?_set];by_cases hn:i=n
  ·subst hn;rw [if_pos rfl];simp [hi,e]
  ·rw [if_neg hn]
 rw [hset] at h2
 exact ⟨w',h1,⟨h2,h.nd⟩,h3⟩
end
end Go.SE
end
section
open Go Go.SE
namespace Go.SE
theorem Ext.putObj (w:World) (r:Nat) (o:Obj):Ext (·=r) w (w.putObj r o):=⟨rfl,rfl,rfl,(by first | exact Nat.le_refl _ | exact Nat.le_succ _),by simp,fun b _ hne=>World.putObj_heap_other hne⟩
abbrev Yld (P:Program) (l:Nat) (args:Array Value) (w:World) (R:Ending→WP):Prop:=YieldAt Fence.wide 0 P l args w R
theorem Kept.trans {H:NP} {a b c:World} (h:Kept H a b) (k:Kept H b c):Kept H a c:=⟨Nat.le_trans h.size k.size,fun i hi hH=>(k.keep i (Nat.lt_of_lt_of_le hi h.size) hH).trans (h.keep i hi hH)⟩
theorem Kept.mono {H H':NP} {a b:World} (h:Kept H a b) (hs:∀b,H' b→H b):Kept H' a b:=⟨h.size,fun i hi hH=>h.keep i hi (hs i hH)⟩
theorem Yld.mono {P:Program} {l:Nat} {args:Array Value} {w:World} {R R':Ending→WP} (h:Yld P l args w R) (hr:∀e w,R e w→R' e w):Yld P l args w R':=by
 obtain ⟨fn,tmps,assign,body,h1,h2⟩:=h;exact ⟨fn,tmps,assign,body,h1,RoundIn.mono h2 hr⟩
section
variable {P:Program} {n:Nat} {Q:Exit→Env→WP} {ρ:Env} {w w0:World} {H Hv:NP} {wv:World}
end
end Go.SE
namespace Go.SE
end Go.SE
end
section
open Go Go.SE
open Go.IntKind renaming i64 → q6
namespace Go.Proofs
open Tryz
set_option maxRecDepth 100000
set_option maxHeartbeats 4000000
attribute [local irreducible] wpL wpX opE wpE Calls
def m_T1 (dst1:Sl) (i1 base1:Int) (w0:World) (K:Sl→WP):Prop :=Br (base1 == 10) (Br (decide (i1<100)) (Calls prog 176 #[(vi (q6.wrap i1))] w0 (fun e w1=>∃r1,e=.returned (vs r1)∧∃s1:Sl,∃w2:World,(Builtin.append_ #[54,9] 54 #[dst1.v,(vs r1)]).run prog w1=.ok s1.v w2∧K s1 w2)) (∀p1 w3,New w0 (.cells #[(.int .u8 0),(.int .u8 0),(.int .u8 0),(.int .u8 0),(.int .u8 0),(.int .u8 0),(.int .u8 0),(.int .u8 0),(.int .u8 0),(.int .u8 0),(.int .u8 0),(.int .u8 0),(.int .u8 0),(.int .u8 0),(.int .u8 0),(.int .u8 0),(.int .u8 0),(.int .u8 0),(.int .u8 0),(.int .u8 0),(.int .u8 0),(.int .u8 0),(.int .u8 0),(.int .u8 0)] 244) p1 w3→Calls prog 177 #[(vu i1)] w3 (fun e w4=>∃r2,e=.returned (vi r2)∧∃s2:Sl,(Instr.sliceAt 244 (vp (some p1)) none (some (vi r2)) none).run prog w4=.ok s2.v w4∧Calls prog 178 #[s2.v,(vu i1)] w4 (fun e w5=>e=.returned (.tuple #[])∧∃s3:Sl,(Instr.sliceAt 244 (vp (some p1)) none (some (vi r2)) none).run prog w5=.ok s3.v w5∧∃s4:Sl,∃w6:World,(Builtin.append_ #[54,54] 54 #[dst1.v,s3.v]).run prog w5=.ok s4.v w6∧K s4 w6)))) (Calls prog 179 #[dst1.v,(vu i1),(vi base1),(vb false),(vb true)] w0 (fun e w7=>∃r3:Sl,∃r4,e=.returned (.tuple #[r3.v,(vs r4)])∧K r3 w7))
theorem w_T1 (dst1 i1 base1 w0 K) (h:m_T1 dst1 i1 base1 w0 K):
  Calls prog 209 #[dst1.v,(vu i1),(vi base1)] w0 (fun e w'=>∃r5:Sl,e=.returned r5.v∧K r5 w'):=by
 refine cw (args:=[dst1.v,(vu i1),(vi base1)]) func209 ntmps209 (eg (q0 Sl.nil.v (ln (jB (eg (q0 (vi base1) (q0 (vb (base1 == 10)) (jC ?_))))))))
 refine jL (cbr h ?_ ?_)<;>intro h
 refine jB (eg (qb (ln (cbr h ?_ ?_))))<;>intro h
 refine eg (qc (sc call176 (h.mono fun e w1 ⟨r1,k,h⟩=>⟨_,k,?_⟩)))
 obtain ⟨s1,w2,hv1,h⟩:=h
 refine st (v:=s1.v) (jG rfl) (jI (args:=#[dst1.v,(vs r1)]) (by kernel_rfl) (fun _=>rfl) hv1) (q0 s1.v (ln (er (zM (zM (rs1 results209 ⟨s1,rfl,h⟩))))))
 refine jF (jL (eg (nw1 h (jW (zeroValue244 _) rfl) fun p1 w3 h=>ln (eg (q (sc call177 (h.mono fun e w4 ⟨r2,k,h⟩=>⟨_,k,?_⟩)))))))
 refine q (ln (eg (q ?_)))
 obtain ⟨s2,hv4,h⟩:=h
 refine q2 s2.v (qB (by kernel_rfl) (by kernel_rfl) (by kernel_rfl) (by kernel_rfl) hv4) (q (sc call178 (h.mono fun e w5 ⟨k,h⟩=>⟨_,k,?_⟩)))
 refine ln (eg (qb ?_))
 obtain ⟨s3,hv3,h⟩:=h
 refine q2 s3.v (qB (by kernel_rfl) (by kernel_rfl) (by kernel_rfl) (by kernel_rfl) hv3) ?_
 obtain ⟨s4,w6,hv2,h⟩:=h
 refine st (v:=s4.v) (jG rfl) (jI (args:=#[dst1.v,s3.v]) (by kernel_rfl) (fun _=>rfl) hv2) (q0 s4.v (ln (er (zM (rs1 results209 ⟨s4,rfl,h⟩)))))
 refine jF (jL (eg (qc (sc call179 (h.mono fun e w7 ⟨r3,r4,k,h⟩=>⟨_,k,?_⟩)))))
 refine qd (ln (eg (qb (ln (er (rs1 results209 ⟨r3,rfl,h⟩))))))
def m_U1 (dst1:Sl) (i1 base1:Int) (w0:World) (K:Sl→WP):Prop :=Calls prog 209 #[dst1.v,(vu i1),(vi base1)] w0 (fun e w1=>∃r1:Sl,e=.returned r1.v∧K r1 w1)
theorem w_U1 (dst1 i1 base1 w0 K) (h:m_U1 dst1 i1 base1 w0 K):
  Calls prog 157 #[dst1.v,(vu i1),(vi base1)] w0 (fun e w'=>∃r2:Sl,e=.returned r2.v∧K r2 w'):=by
 refine cw (args:=[dst1.v,(vu i1),(vi base1)]) func157 ntmps157 (eg (q0 Sl.nil.v (ln (eg (q0 dst1.v (q0 (vu i1) (q0 (vi base1) ?_)))))))
 refine sc call209 (h.mono fun e w1 ⟨r1,k,h⟩=>⟨_,k,?_⟩)
 refine q (ln (er (rs1 results157 ⟨r1,rfl,h⟩)))
end Go.Proofs
end
section
open Go Go.SE
namespace Go.SE
def byr (bs:List UInt8):List (List Value):=bs.map fun b=>[.int .u8 (b.toNat:Int)]
theorem zG (bs:List UInt8):(byr bs).length=bs.length:=by simp [byr]
theorem jAR (bs:List UInt8):∀q∈byr bs,q.all kD=true:=by intro q hq;obtain ⟨t,_,rfl⟩:=List.mem_map.1 hq;rfl
theorem gJ (bs:List UInt8):∀q∈byr bs,q.length=1:=by intro q hq;obtain ⟨t,_,rfl⟩:=List.mem_map.1 hq;rfl
theorem gK (bs:List UInt8):(byr bs).flatten=bs.map fun b=>Value.int .u8 (b.toNat:Int):=by
 induction bs with
 | nil=>rfl
 | cons b bs ih=>simp only [byr,List.map_cons,List.flatten_cons] at ih ⊢;rw [ih];rfl
theorem jIS (a b:List UInt8):byr (a++b)=byr a++byr b:=by simp [byr]
theorem jKZ {S:NP} {w:World} {s:Sl} {bs:List UInt8} (h:Lst S w 1 s (byr bs)) {j:Nat} (hj:j<bs.length):∃a,At s j 1 a∧S a.block∧w.cell? a=some (.int .u8 (bs[j].toNat:Int)):=by
 obtain ⟨a,h1,h2,h3⟩:=h.at_ j (by simpa [byr] using hj);exact ⟨a,h1,h2,xS (by simpa [byr] using h3)⟩
theorem jLH (n:Nat):IntKind.u8.wrap (n:Int)=((UInt8.ofNat n).toNat:Int):=by
 rw [UInt8.toNat_ofNat'];simp [IntKind.wrap,IntKind.bits,IntKind.signed]
theorem gT {P:Program} {src dst e:TypeId} (hs:P.underlying src=some (.slice e)) (he:P.underlying e=some (.int .u8)) (hd:P.underlying dst=some .string) {S:NP} {w:World} {s:Sl} {bs:List UInt8} (h:Lst S w 1 s (byr bs)) :
  (convert src dst s.v).run P w=.ok (.string ⟨bs.toArray⟩) w:=by
 have hl:s.len=bs.length:=by rw [h.len,zG]
 cases ha:s.a with
 | none =>
  have hb:bs=[]:=by
   cases bs with
   | nil=>rfl
   | cons b bs=>obtain ⟨_,⟨_,_,p,hp,_⟩,_⟩:=jKZ h (j:=0) (by simp);rw [ha] at hp;cases hp
  subst hb
  have:s.v=.slice none 0 s.cap:=by unfold Sl.v;rw [ha,hl];rfl
  rw [this,run_convert_bytes_string w src dst e none 0 s.cap hs he hd];rfl
 | some p =>
  have:s.v=.slice (some p) bs.length s.cap:=by unfold Sl.v;rw [ha,hl]
  rw [this]
  refine run_convert_bytes_back w src dst e p s.cap bs hs he hd fun j hj=>?_
  obtain ⟨a,⟨_,_,b,hb,rfl⟩,_,hc⟩:=jKZ h hj
  rw [ha] at hb;cases hb
  simpa using hc
section
variable {P:Program} {t u e ty:TypeId} {w:World}
theorem uM (b:ByteArray):(Builtin.firstCells 1 b.size (.string b)).run P w=.ok (b.data.map fun x=>Value.int .u8 (x.toNat:Int)) w:=by
 have hx:(Array.map (fun b:UInt8=>Value.int IntKind.u8 (b.toNat:Int)) b.data).extract 0 b.size=Array.map (fun b:UInt8=>Value.int IntKind.u8 (b.toNat:Int)) b.data:=by
  have hs:b.size=(Array.map (fun b:UInt8=>Value.int IntKind.u8 (b.toNat:Int)) b.data).size:=by rw [Array.size_map];rfl
  rw [hs,Array.extract_size]
 simp [Builtin.firstCells,hx]
theorem uT (T:SlType P t e 1 1) (hu:P.underlying u=some .string) (s:Sl) (hc:s.len≤s.cap) (b:ByteArray) (hb:b.size=0):(Builtin.append_ #[t,u] ty #[s.v,.string b]).run P w=.ok s.v w:=by
 obtain ⟨a,n,c⟩:=s;simp only at hc;have hbd:b=⟨#[]⟩:=by cases b;simp only [ByteArray.size] at hb;congr;exact Array.eq_empty_of_size_eq_zero hb
 subst hbd;cases a <;> simp [Builtin.append_,Sl.v,run_underlying T.ht,run_underlying hu,T.sizeOf,Builtin.lenOf,Builtin.firstCells,storeCells,hc,ByteArray.size]
theorem Rws.appendStr (T:SlType P t e 1 1) (hu:P.underlying u=some .string) {s:Sl} {rs:List (List Value)} (h:Rws w e 1 s rs) (b:ByteArray) (hb:rs.length+b.size≤140737488355328) (hm:rs.length+b.size≤maxLen) :
  ∃s' w',(Builtin.append_ #[t,u] ty #[s.v,.string b]).run P w=.ok s'.v w'∧Rws w' e 1 s' (rs++byr b.data.toList)∧Ext s.blk w w'∧(∀b,s'.blk b→s.blk b∨w.heap.size≤b):=by
 obtain ⟨i,z,hi,hz,hsz,hby,hzs⟩:=T.hi
 have hbl:b.data.toList.length=b.size:=by rw [Array.length_toList];rfl
 by_cases h0:b.size=0
 ·have hc : s.len ≤ s.cap := by
   rcases h.own with ⟨rfl,_⟩ | ⟨g,cur,_,_,hc,_⟩
   ·exact Nat.le_refl _
   ·rw [h.len];exact hc
  have:b.data.toList=[]:=List.length_eq_zero_iff.1 (by omega)
  rw [this]
  exact ⟨s,w,uT T hu s hc b h0,by simpa [byr] using h,Ext.refl w,fun b hb=>.inl hb⟩
 have hml:rs.length+b.size≤9223372036854775807:=by simp only [maxLen] at hm;omega
 have hfl:=zS h.each
 have hql:(byr b.data.toList).length=b.size:=by rw [zG,hbl]
 have heach:∀q∈rs++byr b.data.toList,q.length=1:=fun q hq=>(List.mem_append.1 hq).elim (h.each q) (gJ _ q)
 have hfq:(b.data.map (fun x=>Value.int .u8 (x.toNat:Int))).toList=(byr b.data.toList).flatten:=by rw [gK];simp
 have hsv:(b.data.map (fun x=>Value.int .u8 (x.toNat:Int))).size=b.size:=by rw [Array.size_map];rfl
 rcases h.own with ⟨rfl,rfl⟩ | ⟨g,cur,ha,hg,hcap,hcm,hcs,htake⟩
 ·simp only [List.length_nil,Nat.zero_add] at hb hml hm
  have hrun:=run_append_nil_string (P:=P) w t u ty e i z T.ht hu hi hz b (by omega) (by omega) (by rw [hby];omega)
  have hgr:=Rws.grown (w:=w) (e:=e) (sz:=1) (rs:=byr b.data.toList) (gJ _) (cur:=b.data.map (fun x=>Value.int .u8 (x.toNat:Int))) (by rw [hzs]) hfq (cap:=grownCap w b.size 0 e) (by rw [hql];exact grownCap_ge w _ 0 e) (grownCap_le_maxLen w _ 0 e hm)
  rw [hql] at hgr
  exact ⟨⟨some ⟨w.heap.size,0,none⟩,b.size,grownCap w b.size 0 e⟩,_,hrun,by simpa using hgr,⟨rfl,rfl,rfl,(by first | exact Nat.le_refl _ | exact Nat.le_succ _),by simp,fun b hb _=>yI w.drew _ b hb⟩,fun b hb=>by obtain ⟨a,ha,rfl⟩:=hb;cases ha;right;exact Nat.le_refl _⟩
 ·have hs':s.v=.slice (some ⟨g,0,none⟩) rs.length s.cap:=by unfold Sl.v;rw [ha,h.len]
  by_cases hroom:rs.length+b.size≤s.cap
  ·have hfit:rs.length+(byr b.data.toList).flatten.length≤cur.size:=by rw [zS (gJ _),hql,hcs];omega
   have h1':∀u∈(byr b.data.toList).flatten,u.oneCell'=true:=fun u hu=>by
    rw [gK] at hu;obtain ⟨x,_,rfl⟩:=List.mem_map.1 hu;rfl
   have hst:=run_storeCells_at P g rs.length e (byr b.data.toList).flatten 0 cur w hg (by simpa using hfit) h1'
   have hrun:(Builtin.append_ #[t,u] ty #[s.v,.string b]).run P w=.ok (.slice (some ⟨g,0,none⟩) (rs.length+b.size) s.cap) (w.setRow g (cur.toList.take rs.length++(byr b.data.toList).flatten++cur.toList.drop (rs.length+(byr b.data.toList).flatten.length)).toArray):=by
    rw [hs'];simp only [Nat.add_zero] at hst;have hf:=uM (P:=P) (w:=w) b;rw [gK] at hst ⊢;simp [Builtin.append_,run_underlying T.ht,run_underlying hu,T.sizeOf,Builtin.lenOf,hroom,hf,Addr.add_lit,hst]
   refine ⟨⟨some ⟨g,0,none⟩,rs.length+b.size,s.cap⟩,_,hrun,⟨heach,by simp [hql],.inr ⟨g,_,rfl,setRow_heap w g cur _ e _ hg,by simpa [hql] using hroom,hcm,?_,?_⟩⟩,⟨rfl,rfl,rfl,(by first | exact Nat.le_refl _ | exact Nat.le_succ _),by simp,fun b hb hf=>setRow_other w g b _ (fun e=>hf ⟨_,ha,e.symm⟩)⟩,fun b hb=>by obtain ⟨a,ha',rfl⟩:=hb;cases ha';exact .inl ⟨_,ha,rfl⟩⟩
   ·simp only [List.size_toArray,List.length_append,List.length_take,List.length_drop,Array.length_toList]
    omega
   ·simp only [Nat.mul_one] at htake hfl ⊢
    rw [htake,List.flatten_append,List.length_append,hql]
    rw [zS (gJ _),hql,← hfl]
    simp only [Nat.mul_one]
    rw [show rs.flatten.length+b.size=(rs.flatten++(byr b.data.toList).flatten).length by rw [List.length_append,zS (gJ _),hql];omega]
    exact List.take_left
  ·have holds : ∀ j u, rs.flatten[j]? = some u → w.cell? ((⟨g, 0, none⟩ : Addr).add j) = some u := fun j u hu => by
    have hadd:(⟨g,0,none⟩:Addr).add j=⟨g,j,none⟩:=by unfold Addr.add;split <;> simp_all
    rw [hadd,cell_of_row w g j cur e (0,0) hg];rw [← htake,List.getElem?_take] at hu;split at hu
    ·simpa using hu
    ·cases hu
   have hfit:=growslice_fits (need:=rs.length+b.size) (old:=s.cap) (bytes:=1) (by omega) (by omega)
   have hgr:=Rws.grown (w:=w) (e:=e) (sz:=1) (rs:=rs++byr b.data.toList) heach (cur:=rs.flatten.toArray++b.data.map (fun x=>Value.int .u8 (x.toNat:Int))) (by rw [hzs]) (by simp [← hfq]) (cap:=grownCap w (rs.length+b.size) s.cap e) (by rw [List.length_append,hql];exact grownCap_ge w _ s.cap e) (grownCap_le_maxLen w _ _ e hm)
   have hrun:(Builtin.append_ #[t,u] ty #[s.v,.string b]).run P w=.ok (.slice (some ⟨w.heap.size,0,none⟩) (rs.length+b.size) (grownCap w (rs.length+b.size) s.cap e)) (w.drew.alloc (.cells (rs.flatten.toArray++b.data.map (fun x=>Value.int .u8 (x.toNat:Int))++Builtin.zeroCells z.cells (grownCap w (rs.length+b.size) s.cap e - (rs.length+b.size))) e)):=by
    rw [hs'];have hn:¬ (rs.length+b.size≤s.cap):=by omega
    have h63':¬ (9223372036854775807<((rs.length:Int)+(b.size:Int))):=by omega
    have h48':¬ (281474976710656<Builtin.nextslicecap (rs.length+b.size) s.cap*i.bytes):=by rw [hby];omega
    have hfo:=run_firstCells_some (P:=P) w.drew i.size rs.length ⟨g,0,none⟩ rs.length s.cap rs.flatten (by rw [hsz];exact hfl) (by simpa using holds);have hf:=uM (P:=P) (w:=w.drew) b;rw [hsz] at hfo;simp [Builtin.append_,run_underlying T.ht,run_underlying hu,sizeOf,typeInfo,zeroValue,hi,hz,Builtin.lenOf,hn,h63',h48',Question.forced,hf,hfo,newRow,grownCap,hsz]
    try (congr 2;apply Array.ext';simp [List.append_assoc])
   rw [List.length_append,hql] at hgr
   exact ⟨⟨some ⟨w.heap.size,0,none⟩,rs.length+b.size,grownCap w (rs.length+b.size) s.cap e⟩,_,hrun,hgr,⟨rfl,rfl,rfl,(by first | exact Nat.le_refl _ | exact Nat.le_succ _),by simp,fun b hb _=>yI w.drew _ b hb⟩,fun b hb=>by obtain ⟨a,ha,rfl⟩:=hb;cases ha;right;exact Nat.le_refl _⟩
end
section
variable {P:Program} {w:World} {t:TypeId}
theorem wrap_u64 {n:Nat} (h:n<18446744073709551616):IntKind.u64.wrap (n:Int)=(n:Int):=by
 simp [IntKind.wrap,IntKind.bits,IntKind.signed];omega
end
theorem Lst.sub {P:Program} {t e:TypeId} {sz bytes:Nat} {S:NP} (T:SlType P t e sz bytes) {w:World} {s:Sl} {rs:List (List Value)} (h:Lst S w sz s rs) (hcap:s.len≤s.cap) {k:IntKind} {lo n:Nat} (hn:lo+n≤rs.length) :
  ∃s':Sl,(Instr.sliceAt t s.v (some (.int k (lo:Int))) (some (.int k ((lo+n:Nat):Int))) none).run P w=.ok s'.v w∧Lst S w sz s' ((rs.drop lo).take n):=by
 have h1:((lo+n:Nat):Int)≤(s.cap:Int):=by rw [h.len] at hcap;omega
 have h2:(lo:Int)≤((lo+n:Nat):Int):=by omega
 refine ⟨⟨if s.cap=lo then s.a else s.a.map (·.add (lo*sz)),n,s.cap - lo⟩,?_,⟨by simp;omega,fun i hi=>?_⟩⟩
 ·simp [Instr.sliceAt,Instr.slice,Sl.v,run_underlying T.ht,Instr.sliceBounds,Instr.sliceBound,asIntOf,T.sizeOf]
  rw [if_pos (by omega),if_pos (by omega),show ((lo:Int)+(n:Int)).toNat - lo=n by omega]
 ·have hi':lo+i<rs.length:=by simp at hi;omega
  obtain ⟨a,⟨_,hlt,p,hp,rfl⟩,hS,hr⟩:=h.at_ (lo+i) hi'
  refine ⟨_,⟨by omega,by simp at hi ⊢;omega,p.add (lo*sz),?_,rfl⟩,?_,?_⟩
  ·rw [if_neg (by rw [h.len] at hcap;omega),hp];rfl
  ·simpa [zN] using hS
  ·have : (p.add (lo * sz)).add ((i : Int).toNat * sz) = p.add (((lo + i : Nat) : Int).toNat * sz) := by
    rw [qU,Int.toNat_natCast,Int.toNat_natCast,Nat.add_mul]
   rw [this,List.getElem_take,List.getElem_drop];exact hr
end Go.SE
end
section
open Go Go.SE
namespace Go.SE
theorem jBN {w:World} {k:Nat} {os:Array Obj}:Pure w (Sort.grow (w.drewN k) os):=by
 refine ⟨rfl,rfl,rfl,(by first | exact Nat.le_add_right _ _ | exact Nat.le_refl _),by simp [Sort.grow,World.drewN],fun b hb _=>?_⟩;show (w.heap++os)[b]?=w.heap[b]?;exact Array.getElem?_append_left hb
theorem kT {P:Program} {w w':World} {name:String} {k:IntKind} {zs:List Int} (h:Lib.TabIs P w name k zs) (E:Pure w w'):Lib.TabIs P w' name k zs:=by
 unfold Lib.TabIs World.var? at *;cases hg:P.globalNamed name with
 | none=>simp [hg] at h
 | some g =>
  simp only [hg,Option.bind_some] at h ⊢
  have hlt:g<w.heap.size:=by
   rcases Nat.lt_or_ge g w.heap.size with h' | h'
   ·exact h'
   ·rw [Array.getElem?_eq_none h'] at h;simp at h
  rw [E.keep g hlt id]
  exact h
theorem jDV (w:World) (T:TypeId) (nd:Nat) (hs:nd≤24):Sort.Holds (fun (b:UInt8)=>Value.int .u8 (b.toNat:Int)) (w.alloc (.cells Lib.zeros24 T)) w.heap.size 0 (Array.replicate nd (0:UInt8)):=fun j hj=>by
 have hj':j<nd:=by simpa using hj
 refine ⟨?_,World.frozen?_alloc_new _ _ _ _⟩;rw [World.cell?_alloc_new,Lib.zeros24_at _ (by omega),getElem!_pos _ j hj];simp
theorem jKD (w:World) (o:Obj) (dk:Array UInt8) (k:Nat):∃os,(Sort.putRow (fun (b:UInt8)=>Value.int .u8 (b.toNat:Int)) (w.alloc o) w.heap.size 0 dk).drewN k=Sort.grow (w.drewN k) os:=by
 rw [Sort.alloc_eq_grow];obtain ⟨os',_,e⟩:=Sort.putRow_grow_new (fun (b:UInt8)=>Value.int .u8 (b.toNat:Int)) w #[o] w.heap.size 0 dk (Nat.le_refl _);exact ⟨os',by rw [e];rfl⟩
end Go.SE
namespace Go.Proofs
open Tryz
attribute [local irreducible] Calls
abbrev Pow (w : World) : Prop := Lib.TabIs prog w "internal/strconv.uint64pow10" .u64 Lib.pow10Tab
theorem nd20 {n:Nat} (h:n<18446744073709551616):(Lib.decDigits n).length≤20:=by
 rw [Lib.decDigits_length];by_cases h0:n<10
 ·rw [Lib.nDigits_small h0];omega
 ·have:=Lib.numDigits_eq n (by omega) h;split at this <;> omega
theorem jLO {P:Program} {t:TypeId} {w:World} (x y:List UInt8) (hx:x.length≤1000) (hy:y.length≤1000) :
  (Go.binOp .add t (.string ⟨x.toArray⟩) (.string ⟨y.toArray⟩)).run P w=.ok (.string ⟨(x++y).toArray⟩) w:=by
 rw [binOp_string_add]
 exact run_string_add_lists w x y (by omega) (by omega)
theorem jKW (n:Nat) (h:n<10) (w:World):(Instr.sliceAt 9 (.string (⟨#[48,49,50,51,52,53,54,55,56,57]⟩:ByteArray)) (some (.int .u64 (n:Int))) (some (.int .u64 (IntKind.u64.wrap ((n:Int)+1)))) none).run prog w=.ok (.string ⟨(Lib.decDigits n).toArray⟩) w:=by
 have hw:IntKind.u64.wrap ((n:Int)+1)=((n+1:Nat):Int):=by rw [show (n:Int)+1=((n+1:Nat):Int) by omega,wrap_u64 (by omega)]
 rw [Lib.decDigits_one h,hw,run_sliceAt_string _ _ _ _ _ _ underlying9,run_slice_string_if _ _ _ _ _ _ _ underlying9,if_pos ⟨by omega,by show ((n+1:Nat):Int)≤10;omega⟩,if_pos ⟨by omega,by omega⟩];have he:∀m:Fin 10,(⟨#[48,49,50,51,52,53,54,55,56,57]⟩:ByteArray).extract m.val (m.val+1)=⟨[UInt8.ofNat (48+m.val)].toArray⟩:=by decide +kernel
 have:=he ⟨n,h⟩;simp only [Int.toNat_natCast] at this ⊢;rw [this]
theorem jBJ {P:Program} {t:TypeId} {w:World} (n:Nat) (h:n<18446744073709551616):(Go.binOp .quo t (.int .u64 (n:Int)) (.int .u64 10)).run P w=.ok (.int .u64 ((n / 10:Nat):Int)) w:=by
 have:IntKind.u64.wrap ((n:Int).tdiv 10)=((n / 10:Nat):Int):=by
  rw [Int.tdiv_eq_ediv_of_nonneg (by omega)];simp only [IntKind.wrap,IntKind.bits,IntKind.signed];simp;omega
 show ((pure (Value.int .u64 (IntKind.u64.wrap ((n:Int).tdiv 10))):Sem Value)).run P w=_;rw [this];rfl
theorem jHF {P:Program} {t:TypeId} {w:World} (n:Nat):(Go.binOp .rem t (.int .u64 (n:Int)) (.int .u64 10)).run P w=.ok (.int .u64 ((n % 10:Nat):Int)) w:=by
 have:(n:Int).tmod 10=((n % 10:Nat):Int):=by
  rw [Int.tmod_eq_emod_of_nonneg (by omega)];simp
 simp [Go.binOp,Op.intDiv,this]
end Go.Proofs
end
section
open Go Go.SE
namespace Go.Proofs
set_option maxRecDepth 100000
set_option maxHeartbeats 4000000
attribute [local irreducible] wpL wpX opE wpE Calls
end Go.Proofs
end
section
namespace Go.SE
variable {P:Program}
def yldP (P:Program) (o:Oper) (ε:Operand→Value) (w:World) (R:Value→World→Prop) (X:List PanicEntry→World→Prop):Prop :=
 (∀c,o.op≠.defer c)∧match (execOp ε o).run P w with
 | .ok (.value v) w'=>R v w'
 | .ok .skip w'=>R undef w'
 | .ok (.enter f args) w'=>Calls P f args w' (fun e w''=>(∃v,e=.returned v∧R v w'')∨∃ch,e=.panicked ch∧X ch w'')
 | .ok (.row row args) w'=>Rows P row args w' R
 | .ok (.round l f tmps assign body) w'=>RoundIn Fence.wide 0 P l f tmps assign body w' (fun e w''=>∃v,e=.returned v∧R v w'')
 | .halt (.panic v) w'=>X [{ v,recovered:=false }] w'
 | _=>False
theorem lC {o:Oper} {ε:Operand→Value} {w:World} {R R':Value→World→Prop} {X X':List PanicEntry→World→Prop} (h:yldP P o ε w R X) (hr:∀v w',R v w'→R' v w') (hx:∀ch w',X ch w'→X' ch w'):yldP P o ε w R' X':=by
 unfold yldP at *;refine ⟨h.1,?_⟩;have h:=h.2;generalize (execOp ε o).run P w=r at *;cases r with
 | ok n w' =>
  cases n <;> simp only at h ⊢ <;> first
   | exact hr _ _ h
   | exact RoundIn.mono h fun e w'' ⟨v,he,hR⟩=>⟨v,he,hr _ _ hR⟩
   | exact Calls.mono h fun e w'' hh=>hh.elim (fun ⟨v,he,hR⟩=>.inl ⟨v,he,hr _ _ hR⟩) (fun ⟨ch,he,hX⟩=>.inr ⟨ch,he,hx _ _ hX⟩)
   | exact h.mono hr
 | halt x w'=>cases x <;> simp only at h ⊢ <;> exact hx _ _ h
theorem jAZ {o:Oper} {ε:Operand→Value} {w:World} {R:Value→World→Prop} {X:List PanicEntry→World→Prop} (h:yld P o ε w R):yldP P o ε w R X:=by
 refine ⟨jAY h,?_⟩;unfold yld at h;generalize (execOp ε o).run P w=r at *;cases r with
 | ok n w' =>
  cases n <;> simp only at h ⊢ <;> first
   | exact h
   | exact Calls.mono h fun e w'' ⟨v,he,hR⟩=>.inl ⟨v,he,hR⟩
 | halt x w'=>exact h.elim
theorem yS {ro:Option Nat} {m:Nat} {o:Oper} {a:Act} {w:World} {K:Act→World→Prop} {Q:Exit→Act→World→Prop} (h:yldP P o a.eval w (fun v w'=>K (a.put o.dst v) w') (fun ch w'=>Q (.panic ch) a w')):o.wpIn (fen ro) m P a w K Q:=by
 obtain ⟨h0,h⟩:=h;refine ⟨fun f _=>tI ro f,?_⟩;rw [jCD,Oper.semAt_eq _ _ _ h0];have hd:(fen ro).depth.isSome=true→1≤m:=fun h=>by rw [jCE] at h;cases h
 generalize (execOp a.eval o).run P w=r at *;cases r with
 | ok n w' =>
  cases n <;> simp only at h <;> simp only [Oper.uponIn]
  case value=>exact h
  case skip=>exact h
  case enter =>
   refine ⟨hd,(Calls.fen h).mono ?_⟩
   rintro e w'' (⟨v,rfl,hR⟩ | ⟨ch,rfl,hX⟩)
   ·exact hR
   ·exact hX
  case row=>exact ⟨hd,Rows.fen h⟩
  case round=>exact ⟨hd,(RoundIn.fen h).mono fun e w'' ⟨v,he,hR⟩=>by subst he;exact hR⟩
 | halt x w'=>cases x <;> simp only at h <;> simp only [Oper.uponIn];exact h
def jAU (P:Program) (ops:Array Oper) (Q:Env→World→Prop) (X:List PanicEntry→World→Prop):List Oper→Env→World→Prop
 | [],ρ,w=>Q ρ w
 | o :: rest,ρ,w =>
  if Region.wanted o (jQ ops ρ) then yldP P o (evE ρ) w (fun v w'=>jAU P ops Q X rest (put ρ o.dst v) w') X
  else jAU P ops Q X rest (put ρ o.dst undef) w
section
variable {x:Cx} {n:Nat} {Q:Exit→Env→World→Prop} {ρ:Env} {w:World}
theorem qP {ops:Array Oper} {Q':Env→World→Prop} {X:List PanicEntry→World→Prop} (hQ:∀ρ a w,Rep x.ds n ρ a→Q' ρ w→jFP x n Q .normal a w) (hX:∀ρ a ch w,Rep x.ds n ρ a→X ch w→jFP x n Q (.panic ch) a w) :
  ∀(l:List Oper) (ρ:Env) (a:Act) (w:World),vP n l=true→Rep x.ds n ρ a→jAU P ops Q' X l ρ w→wpListIn (fen x.ro) 0 P ops (jFP x n Q) l a w
 | [],ρ,a,w,_,hr,h=>hQ _ _ _ hr h
 | o :: l,ρ,a,w,hd,hr,h=>by
  obtain ⟨hk,hd'⟩:=uU hd;unfold jAU at h;unfold wpListIn;rw [hr.yielded];split
  ·rename_i hw;rw [if_pos hw] at h;apply yS;rw [hr.eval];exact lC h (fun v w' hh=>qP hQ hX l _ _ _ hd' (hr.put hk v) hh) (fun ch w' hh=>hX ρ a ch w' hr hh)
  ·rename_i hw;rw [if_neg hw] at h;exact ⟨fun f _=>tI x.ro f,qP hQ hX l _ _ _ hd' (hr.put hk undef) h⟩
theorem jN {id:Nat} {l:List Oper} (hd:vP n l=true) (h:jAU P l.toArray (fun ρ w=>Q .normal ρ w) (fun ch w=>∀ρ,Q (.panic ch) ρ w) l ρ w):wpE (x:=x) P n (.region id l.toArray false) Q ρ w:=fun a ha =>
 wpIn_region_lit (qP (fun ρ' _ _ hr hq=>⟨ρ',.inl ⟨hr,hq⟩⟩) (fun ρ' _ _ _ hr hq=>⟨ρ',.inl ⟨hr,hq ρ'⟩⟩) l ρ a w hd ha h)
end
def jLA (P:Program) (fn:Func) (n:Nat) (R:Ending→World→Prop):Exit→Env→World→Prop
 | .normal,ρ,w | .ret,ρ,w=>∃v,(∀ds a,Rep ds n ρ a→(results fn a.tmps).run P w=.ok v w)∧R (.returned v) w
 | .panic ch,_,w=>R (.panicked ch) w
 | _,_,_=>False
theorem kB {n:Nat} {w:World} {f:FuncId} {fn:Func} {c:Code} {args:List Value} {R:Ending→World→Prop} (hf:P.funcs[f]?=some fn) (hb:fn.body=some c) (hn:fn.ntmps=n) (hl:args.length≤n)
  (h:wpE (x:=⟨none,[]⟩) P n c (jLA P fn n R) (jAT args) w):Calls P f args.toArray w R:=by
 subst hn
 refine callsIn_wide.1 (callsIn_of_wp_marks (n:=0) hf hb trivial ?_)
 refine wpIn_mono (h _ (xU args hl)) ?_
 rintro e a w' ⟨ρ',⟨hr,hq⟩ | ⟨rfl,_,_,D,hr,hD,hq⟩⟩
 ·have hd:a.defers=[]:=hr.defers
  cases e with
  | normal=>obtain ⟨v,hv,hR⟩:=hq;simp only [bodyPostM,hd];exact vY (hv _ a hr) hR
  | ret=>obtain ⟨v,hv,hR⟩:=hq;simp only [bodyPostM,hd];exact vY (hv _ a hr) hR
  | exit _=>exact hq.elim
  | goto _=>exact hq.elim
  | panic ch=>simp only [bodyPostM,hd];exact hq
  | outgrown=>exact hq.elim
 ·obtain ⟨v,hv,hR⟩:=hq
  have hd:a.defers=[mark D]:=hr.defers
  simp only [bodyPostM,hd]
  exact ⟨by simp,.inl ⟨D,_,rfl,run_takeDeferred hD,vY (hv _ a hr) hR⟩⟩
theorem ep {n:Nat} {fn:Func} {R:Ending→World→Prop} {e:Exit} {ρ:Env} {w:World} (h:oL P fn n R e ρ w):jLA P fn n R e ρ w:=by
 cases e <;> first | exact h | exact h.elim
theorem jP {ops:Array Oper} {Q:Env→World→Prop} {X:List PanicEntry→World→Prop}:∀(k:Nat) {l:List Oper} {ρ:Env} {w:World},wpL P ops (fun ρ w=>jAU P ops Q X (l.drop k) ρ w) (l.take k) ρ w→jAU P ops Q X l ρ w
 | 0,l,ρ,w,h=>by simpa [wpL] using h
 | k+1,[],ρ,w,h=>by simpa [wpL] using h
 | k+1,o :: l,ρ,w,h=>by
  simp only [List.take_succ_cons,List.drop_succ_cons] at h;unfold wpL at h;unfold jAU;split
  ·rename_i hw;rw [if_pos hw] at h;exact lC (jAZ (X:=X) h) (fun v w' hh=>jP k hh) (fun _ _ h=>h)
  ·rename_i hw;rw [if_neg hw] at h;exact jP k h
theorem zK {ops:Array Oper} {Q:Env→World→Prop} {X:List PanicEntry→World→Prop} {l:List Oper} {ρ:Env} {w:World} (h:wpL P ops Q l ρ w):jAU P ops Q X l ρ w :=
 jP l.length (by rw [List.take_length,List.drop_length];exact xO (fun ρ w hq=>hq) h)
section
variable {ε:Operand→Value} {w:World} {d:Option Tmp} {ty:TypeId} {pos:String} {aft:Array Edge} {g:Option (Nat×Bool)}
theorem jLE {x:Operand} {t:TypeId} {v:Value} (hx:ε x=.iface t v):(execOp ε ⟨d,.panic x,ty,pos,aft,g⟩).run P w=.halt (.panic (.iface t v)) w:=by
 simp [execOp,hx];rfl
end
section
variable {ops:Array Oper} {Q:Env→World→Prop} {X:List PanicEntry→World→Prop} {ρ:Env} {w w':World} {rest:List Oper} {o:Oper} {v:Value}
theorem kE (h:Q ρ w):jAU P ops Q X [] ρ w:=h
theorem zC {f:FuncId} {args:Array Value} (hw:Region.wanted o (jQ ops ρ)=true) (hd:∀c,o.op≠.defer c) (hr:(execOp (evE ρ) o).run P w=.ok (.enter f args) w') (h:Calls P f args w' fun e w''=>(∃v,e=.returned v∧jAU P ops Q X rest (put ρ o.dst v) w'')∨∃ch,e=.panicked ch∧X ch w''):jAU P ops Q X (o :: rest) ρ w:=by
 unfold jAU;rw [if_pos hw];exact ⟨hd,by rw [hr];exact h⟩
theorem jJB {pv:Value} (hw:Region.wanted o (jQ ops ρ)=true) (hd:∀c,o.op≠.defer c) (hr:(execOp (evE ρ) o).run P w=.halt (.panic pv) w') (h:X [{ v:=pv,recovered:=false }] w'):jAU P ops Q X (o :: rest) ρ w:=by
 unfold jAU;rw [if_pos hw];exact ⟨hd,by rw [hr];exact h⟩
end
section
variable {ε:Operand→Value} {w:World} {d:Option Tmp} {ty:TypeId} {pos:String} {aft:Array Edge} {g:Option (Nat×Bool)}
theorem x_bini {op:BinOp} {T T':TypeId} {a:Operand} {x v:Value} (hx:ε a=x) (hy:ε (.const .nilIface)=.nilIface) (hr:(Go.binOp op T x .nilIface).run P w=.ok v w) :
  (execOp ε ⟨d,.binOp op T a (.const .nilIface) T',ty,pos,aft,g⟩).run P w=.ok (.value v) w:=by
 have hg:(eqGuard op T a (.const .nilIface) x .nilIface).run P w=.ok () w:=by
  cases op <;> cases x <;> simp [eqGuard]
 simp [execOp,hx,hy,hg,hr]
end
end Go.SE
end
