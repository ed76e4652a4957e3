import Derived.Orders
import Derived.OrdersIn
import Derived.Still
import Derived.RangeFuncLeaves
import Derived.Tactics
import Derived.Scope
import Derived.TacticsIn
import Derived.RangeFuncRecord
import Derived.Laws.StructEq
import Derived.Laws.Rows
import Derived.Laws.NewBlocks
import Derived.Laws.Strings
import Derived.Laws.Pointers
import Derived.Below
import Derived.Laws.AppendOwn
import Derived.Laws.MakeOwn
import Derived.IntWalk
import Derived.KernelRfl
import Derived.Test.YtodiipjdnnnieaaGreatProg
section
namespace Go.SE
abbrev NP:=Nat→Prop
abbrev WP:=World→Prop
def yld (P:Program) (o:Oper) (ε:Operand→Value) (w:World) (R:Value→World→Prop):Prop :=
 match (execOp ε o).run P w with
 | .ok (.value v) w'=>R v w'
 | .ok .skip w'=>R undef w'
 | .ok (.enter f args) w'=>Calls P f args w' (fun e w''=>∃v,e=.returned v∧R v w'')
 | .ok (.row row args) w'=>Rows P row args w' R
 | .ok (.round l f tmps assign body) w'=>RoundIn Fence.wide 0 P l f tmps assign body w' (fun e w''=>∃v,e=.returned v∧R v w'')
 | _=>False
section
variable {P:Program} {ops:Array Oper} {md:Region.Mode} {C:World→Prop}
theorem xJ {o:Oper} {ε:Operand→Value} {w:World} {R R':Value→World→Prop} (h:yld P o ε w R) (hr:∀v w',R v w'→R' v w'):yld P o ε w R':=by
 unfold yld at *;generalize (execOp ε o).run P w=r at *;cases r with
 | ok n w' =>
  cases n <;> simp only at h ⊢ <;> first
   | exact hr _ _ h
   | exact h.mono fun e w'' ⟨v,he,hR⟩=>⟨v,he,hr _ _ hR⟩
   | exact RoundIn.mono h fun e w'' ⟨v,he,hR⟩=>⟨v,he,hr _ _ hR⟩
   | exact h.mono hr
 | halt x w'=>exact h
theorem Rows.witness {row:String} {args:Array Value} {w:World} {R:Value→World→Prop} (h:Rows P row args w R):∃v w',R v w':=by
 obtain ⟨v,w',r,_⟩:=h default [];exact ⟨v,w',r⟩
theorem Calls.witness {f:FuncId} {args:Array Value} {w:World} {R:Ending→World→Prop} (h:Calls P f args w R):∃e w',R e w':=by
 obtain ⟨e,w',fr,r,_⟩:=h [];exact ⟨e,w',r⟩
theorem RoundIn.witness {n l:Nat} {f:FuncId} {tmps:Array Value} {assign body:Code} {w:World} {R:Ending→World→Prop} (h:RoundIn Fence.wide n P l f tmps assign body w R):∃e w',R e w':=by
 obtain ⟨e,w',r,_⟩:=h.2 default [] (room_wide _);exact ⟨e,w',r⟩
def fen:Option Nat→Fence
 | none=>Fence.wide
 | some l=>Fence.wide.inRound l
theorem jMV (ro:Option Nat):(fen ro).round=ro:=by cases ro <;> rfl
theorem jMW (ro:Option Nat) (f:FuncId):(fen ro).fn f:=by cases ro <;> trivial
theorem jMX (ro:Option Nat):(fen ro).depth=none:=by cases ro <;> rfl
theorem Calls.fen {ro:Option Nat} {m:Nat} {f:FuncId} {args:Array Value} {w:World} {R:Ending→World→Prop} (h:Calls P f args w R):CallsIn (SE.fen ro) m P f args w R:=by
 cases ro with
 | none=>exact callsIn_wide.2 h
 | some l=>exact (callsIn_wide.2 h:CallsIn Fence.wide m P f args w R)
theorem Rows.fen {ro:Option Nat} {m:Nat} {row:String} {args:Array Value} {w:World} {R:Value→World→Prop} (h:Rows P row args w R):RowsIn (SE.fen ro) m P row args w R:=by
 have h':RowsIn Fence.wide m P row args w R:=fun c cs _=>let ⟨v,w',r,s⟩:=h c cs;⟨v,w',r,stepsIn_wide.2 s⟩
 cases ro with
 | none=>exact h'
 | some l=>exact h'
theorem RoundIn.fen {ro:Option Nat} {n m l:Nat} {f:FuncId} {tmps:Array Value} {assign body:Code} {w:World} {R:Ending→World→Prop} (h:RoundIn Fence.wide n P l f tmps assign body w R):RoundIn (SE.fen ro) m P l f tmps assign body w R:=by
 have h':RoundIn Fence.wide m P l f tmps assign body w R:=⟨trivial,fun c cs _=>h.2 c cs (room_wide _)⟩;cases ro with
 | none=>exact h'
 | some l'=>exact h'
theorem jLJ {o:Oper} {ε:Operand→Value} {w:World} {R:Value→World→Prop} (h:yld P o ε w R):∀c,o.op≠.defer c:=by
 intro c hc;unfold yld execOp at h;rw [hc] at h;simp only [Sem.run_bind] at h;generalize (resolve ε c o.type).run P w=r at h;cases r with
 | ok d w'=>exact h
 | halt x w'=>exact h
theorem jDB {ro:Option Nat} {m:Nat} {o:Oper} {a:Act} {w:World} {K:Act→World→Prop} {Q:Exit→Act→World→Prop} (h:yld P o a.eval w (fun v w'=>K (a.put o.dst v) w')):o.wpIn (fen ro) m P a w K Q:=by
 refine ⟨fun f _=>jMW ro f,?_⟩;rw [jMV,Oper.semAt_eq _ _ _ (jLJ h)];have hd:(fen ro).depth.isSome=true→1≤m:=fun h=>by rw [jMX] at h;cases h
 unfold yld at h;generalize (execOp a.eval o).run P w=r at *;cases r with
 | ok n w' =>
  cases n <;> simp only at h <;> simp only [Oper.uponIn]
  case value=>exact h
  case skip=>exact h
  case enter=>exact ⟨hd,(Calls.fen h).mono fun e w'' ⟨v,he,hR⟩=>by subst he;exact hR⟩
  case row=>exact ⟨hd,Rows.fen h⟩
  case round=>exact ⟨hd,(RoundIn.fen h).mono fun e w'' ⟨v,he,hR⟩=>by subst he;exact hR⟩
 | halt x w'=>exact h.elim
def qy (P:Program) (o:Oper) (ε:Operand→Value) (w:World) (v:Value):Prop :=
 match (execOp ε o).run P w with
 | .ok (.value u) w'=>u=v∧w'=w
 | .ok .skip w'=>v=undef∧w'=w
 | _=>False
theorem jLI {o:Oper} {ε:Operand→Value} {w:World} {v:Value} {R:Value→World→Prop} (h:qy P o ε w v) (hR:R v w):yld P o ε w R:=by
 unfold qy at h;unfold yld;generalize (execOp ε o).run P w=r at *;cases r with
 | ok n w' =>
  cases n <;> simp only at h ⊢
  case value u=>obtain ⟨rfl,rfl⟩:=h;exact hR
  case skip=>obtain ⟨rfl,rfl⟩:=h;exact hR
 | halt x w'=>exact h.elim
def jGE (md:Region.Mode) (ops:Array Oper) (i:Nat):Array Bool :=
 (List.range ops.size).foldl (fun l j=>if j != i && !l.getD j true && ((ops[j]?).map (·.after.all fun e=>!Region.binds md e || l.getD e.on false)).getD false then l.setIfInBounds j true else l) (Array.replicate ops.size false)
def jCK (md:Region.Mode) (ops:Array Oper) (loud:Nat→Bool) (i:Nat):Bool:=(List.range ops.size).all fun j=>!loud j || !(jGE md ops i).getD j false
def opM (md:Region.Mode) (P:Program) (ops:Array Oper) (C:World→Prop) (loud free:Nat→Bool) (i:Nat) (K:Act→World→Prop) (a:Act) (w:World):Prop :=
 match ops[i]? with
 | none=>K a w
 | some o =>
  if Region.wanted o (yielded ops a.tmps) then
   (if loud i then yld P o a.eval w (fun v w'=>(free i=true∨C w')∧K (a.put o.dst v) w')
   else ∃v,((jCK md ops loud i=true∧qy P o a.eval w v)∨∀w',C w'→qy P o a.eval w' v)∧K (a.put o.dst v) w)
  else K (a.put o.dst undef) w
theorem jOE {loud free:Nat→Bool} {i:Nat} {a:Act} {w:World} {K K':Act→World→Prop} (h:∀a w,C w∨(loud i=true∧free i=true)→K a w→K' a w) (hw:loud i=false→C w) (hn:C w∨(loud i=true∧free i=true)) (hh:opM md P ops C loud free i K a w):opM md P ops C loud free i K' a w:=by
 unfold opM at *;split
 ·exact h _ _ hn (by simpa [*] using hh)
 ·rename_i o ho;simp only [ho] at hh;split
  ·rename_i hwt;simp only [hwt,if_true] at hh;split
   ·rename_i hl;simp only [hl,if_true] at hh;exact xJ hh fun v w' ⟨hc,hk⟩=>⟨hc,h _ _ (hc.elim (fun hf=>.inr ⟨hl,hf⟩) .inl) hk⟩
   ·rename_i hl;simp only [hl] at hh;obtain ⟨v,h1,h2⟩:=hh;exact ⟨v,h1,h _ _ (.inl (hw (by simpa using hl))) h2⟩
  ·rename_i hwt;simp only [hwt] at hh;exact h _ _ hn hh
def jDC (P:Program) (md:Region.Mode) (ops:Array Oper) (C:World→Prop) (loud free:Nat→Bool) (Q:Act→World→Prop):Nat→Array Bool→Act→World→Prop
 | 0,listed,a,w=>Region.ready md ops listed=[]∧Q a w
 | fuel+1,listed,a,w =>
  (Region.ready md ops listed=[]→Q a w) ∧
  ∀i∈Region.ready md ops listed,opM md P ops C loud free i (jDC P md ops C loud free Q fuel (listed.setIfInBounds i true)) a w
def uG (loud:Nat→Bool) (n:Nat) (listed:Array Bool):Prop:=∀i,i<n→loud i=false→listed.getD i true=true
theorem uG.set {loud:Nat→Bool} {n:Nat} {listed:Array Bool} (h:uG loud n listed) (k:Nat):uG loud n (listed.setIfInBounds k true):=fun i hi hl=>by
 by_cases hk:k=i
 ·subst hk;rcases Nat.lt_or_ge k listed.size with h' | h'
  ·simp [h']
  ·simp [h']
 ·rw [getD_set_ne true hk];exact h i hi hl
structure Good (md:Region.Mode) (ops:Array Oper) (loud free:Nat→Bool) (far:Nat→Array Bool):Prop where
 size:∀i,loud i=false→(far i).size=ops.size
 shut:∀i,loud i=false→∀j∈Region.ready md ops (far i),j=i
 out:∀i,i<ops.size→loud i=false→∀j,j<ops.size→free j=true→(far i).getD j false=false
def jCO (n:Nat) (loud:Nat→Bool) (far:Nat→Array Bool) (listed:Array Bool):Prop:=∀i,i<n→loud i=false→listed.getD i true=false→∀k,listed.getD k false=true→(far i).getD k false=true
theorem Good.inFar {loud free:Nat→Bool} {far:Nat→Array Bool} {listed:Array Bool} (hg:Good md ops loud free far) (h:jCO ops.size loud far listed) {i j:Nat} (hi:i<ops.size) (hl:loud i=false) (hu:listed.getD i true=false) (hj:j∈Region.ready md ops listed) (hne:j≠i):(far i).getD j false=true:=by
 obtain ⟨_,o,ho,hall⟩:=mem_ready.1 hj;have hlt:j<(far i).size:=hg.size i hl▸(Array.getElem?_eq_some_iff.1 ho).1;cases hf:(far i).getD j false with
 | true=>rfl
 | false=>exact absurd (hg.shut i hl j (mem_ready.2 ⟨by simpa [hlt] using hf,o,ho,fun e he hb=>h i hi hl hu _ (hall e he hb)⟩)) hne
theorem Good.step {loud free:Nat→Bool} {far:Nat→Array Bool} {listed:Array Bool} (hg:Good md ops loud free far) (h:jCO ops.size loud far listed) {j:Nat} (hj:j∈Region.ready md ops listed):jCO ops.size loud far (listed.setIfInBounds j true):=by
 intro i hi hl hu k hk;have hji:j≠i:=fun e=>by
  subst e;rcases Nat.lt_or_ge j listed.size with h' | h'
  ·simp [h'] at hu
  ·simp [h'] at hu
 rw [getD_set_ne true hji] at hu;by_cases hjk:j=k
 ·subst hjk;exact hg.inFar h hi hl hu hj hji
 ·rw [getD_set_ne false hjk] at hk;exact h i hi hl hu k hk
theorem Good.free {loud free:Nat→Bool} {far:Nat→Array Bool} {listed:Array Bool} (hg:Good md ops loud free far) (h:jCO ops.size loud far listed) {j:Nat} (hj:j∈Region.ready md ops listed) (hlj:loud j=true) (hf:free j=true):uG loud ops.size listed:=by
 intro i hi hl;cases hu:listed.getD i true with
 | true=>rfl
 | false =>
  have hne:j≠i:=fun e=>by subst e;rw [hl] at hlj;cases hlj
  have h1:=hg.inFar h hi hl hu hj hne
  obtain ⟨_,o,ho,_⟩:=mem_ready.1 hj
  rw [hg.out i hi hl j (Array.getElem?_eq_some_iff.1 ho).1 hf] at h1
  cases h1
theorem jEQ {ro:Option Nat} {m:Nat} {loud free:Nat→Bool} {far:Nat→Array Bool} {Q:Act→World→Prop} {Q':Exit→Act→World→Prop} (hg:Good md ops loud free far) (hQ:∀a w,Q a w→Q' .normal a w) :
  ∀(fuel:Nat) (listed:Array Bool) (a:Act) (w:World),(C w∨uG loud ops.size listed)→jCO ops.size loud far listed→jDC P md ops C loud free Q fuel listed a w→wpAnyIn (fen ro) m P md ops Q' fuel listed a w
 | 0,_,_,_,_,_,h=>⟨h.1,hQ _ _ h.2⟩
 | fuel + 1, listed, a, w, hw, hW, h => ⟨fun h0 => hQ _ _ (h.1 h0), fun i hi => by
   have hh:=h.2 i hi;have ih:∀a w,(C w∨uG loud ops.size (listed.setIfInBounds i true))→jDC P md ops C loud free Q fuel (listed.setIfInBounds i true) a w→wpAnyIn (fen ro) m P md ops Q' fuel (listed.setIfInBounds i true) a w:=fun a w hw h=>jEQ hg hQ fuel _ a w hw (hg.step hW hi) h;have hkeep:C w∨uG loud ops.size (listed.setIfInBounds i true):=hw.imp id (fun h=>h.set i);unfold opM at hh;unfold wpOpIn;split
   ·rename_i ho;simp only [ho] at hh;exact ih _ _ hkeep hh
   ·rename_i o ho;simp only [ho] at hh;split
    ·rename_i hwt;simp only [hwt,if_true] at hh;apply jDB;split at hh
     ·rename_i hl;exact xJ hh fun v w' ⟨hc,hk⟩=>ih _ _ (hc.elim (fun hf=>.inr ((hg.free hW hi hl hf).set i)) .inl) hk
     ·rename_i hl;obtain ⟨v,h1,h2⟩:=hh;have hCw:C w:=by
       rcases hw with h | h
       ·exact h
       ·obtain ⟨hu,o',ho',_⟩:=mem_ready.1 hi;have:=h i (Array.getElem?_eq_some_iff.1 ho').1 (by simpa using hl);rw [hu] at this;cases this
      exact jLI (h1.elim (·.2) (fun h=>h w hCw)) (ih _ _ hkeep h2)
    ·rename_i hwt;simp only [hwt] at hh;exact ⟨fun f _=>jMW ro f,ih _ _ hkeep hh⟩⟩
def yZ (P:Program) (ops:Array Oper) (C:World→Prop) (e:Bool) (w:World) (o:Oper) (v:Value) (a:Act):Prop :=
 (Region.wanted o (yielded ops a.tmps)=true∧((e=true∧qy P o a.eval w v)∨∀w',C w'→qy P o a.eval w' v)) ∨
 (Region.wanted o (yielded ops a.tmps)=false∧v=undef)
theorem yZ.of_same {e:Bool} {w:World} {o:Oper} {v:Value} {a a':Act} (hy:yZ P ops C e w o v a) (he:execOp a'.eval o=execOp a.eval o)
  (hw:Region.wanted o (yielded ops a'.tmps)=Region.wanted o (yielded ops a.tmps)):yZ P ops C e w o v a':=by
 unfold yZ qy at *
 rw [he,hw]
 exact hy
theorem yZ.at {e:Bool} {w w':World} {o:Oper} {v:Value} {a:Act} (hy:yZ P ops C e w o v a) (h:e=true→w'=w):yZ P ops C e w' o v a:=by
 rcases hy with ⟨h1,⟨h2,h3⟩ | h2⟩ | h1
 ·exact .inl ⟨h1,.inl ⟨h2,by rw [h h2];exact h3⟩⟩
 ·exact .inl ⟨h1,.inr h2⟩
 ·exact .inr h1
theorem yZ.op {loud free:Nat→Bool} {i:Nat} {o:Oper} {v:Value} {a:Act} {w:World} (hi:ops[i]?=some o) (hl:loud i=false) (hy:yZ P ops C (jCK md ops loud i) w o v a) {K:Act→World→Prop} (h:K (a.put o.dst v) w):opM md P ops C loud free i K a w:=by
 unfold opM;simp only [hi,hl];rcases hy with ⟨hw,hv⟩ | ⟨hw,rfl⟩
 ·simp only [hw,if_true];exact ⟨v,hv,h⟩
 ·simp only [hw,Bool.false_eq_true,if_false];exact h
theorem jFG {loud free:Nat→Bool} {i:Nat} {o:Oper} {a:Act} {w:World} {K:Act→World→Prop} (hi:ops[i]?=some o) (hl:loud i=false) (h:opM md P ops C loud free i K a w):∃v,yZ P ops C (jCK md ops loud i) w o v a∧K (a.put o.dst v) w:=by
 unfold opM at h;simp only [hi,hl] at h;by_cases hw:Region.wanted o (yielded ops a.tmps)=true
 ·simp only [hw,if_true] at h;obtain ⟨v,h1,h2⟩:=h;exact ⟨v,.inl ⟨hw,h1⟩,h2⟩
 ·simp only [hw] at h;exact ⟨undef,.inr ⟨by simpa using hw,rfl⟩,h⟩
theorem jPV {loud free:Nat→Bool} {j:Nat} {oi oj:Oper} {v:Value} (hj:ops[j]?=some oj) (hap:oi.apart ops oj=true)
  (hsi:∀cs b,oi.op≠.select cs b) (hsj:∀cs b,oj.op≠.select cs b) {K:Act→World→Prop} {a:Act} {w:World}
  {e:Bool} (hej:loud j=true→e=false) (hy:yZ P ops C e w oi v a) (h:opM md P ops C loud free j K (a.put oi.dst v) w) :
  opM md P ops C loud free j (fun a' w'=>yZ P ops C e w' oi v a'∧K (a'.put oi.dst v) w') a w:=by
 obtain ⟨h1,h2,h3⟩:=Oper.apart_spec hap
 have keep:∀u,yZ P ops C e w oi v (a.put oj.dst u):=fun u =>
  hy.of_same (execOp_put oi hsi a oj.dst u h3) (wanted_put oi a oj.dst u h3)
 unfold opM at *
 simp only [hj] at *
 rw [wanted_put oj a oi.dst v h1] at h
 split
 ·rename_i hw
  simp only [hw,if_true] at h
  split
  ·rename_i hl
   simp only [hl,if_true] at h
   unfold yld at *
   rw [execOp_put oj hsj a oi.dst v h1] at h
   generalize (execOp a.eval oj).run P w=r at *
   cases r with
   | ok n w' =>
    cases n <;> simp only at h ⊢
    case value u=>exact ⟨h.1,(keep u).at (fun h=>by rw [hej hl] at h;cases h),by rw [← Act.put_comm a v u h2];exact h.2⟩
    case skip=>exact ⟨h.1,(keep _).at (fun h=>by rw [hej hl] at h;cases h),by rw [← Act.put_comm a v undef h2];exact h.2⟩
    case enter f args=>exact h.mono fun e w'' ⟨u,he,hc,hk⟩=>⟨u,he,hc,(keep u).at (fun h=>by rw [hej hl] at h;cases h),by rw [← Act.put_comm a v u h2];exact hk⟩
    case row f args=>exact h.mono fun u w'' ⟨hc,hk⟩=>⟨hc,(keep u).at (fun h=>by rw [hej hl] at h;cases h),by rw [← Act.put_comm a v u h2];exact hk⟩
    case round=>exact RoundIn.mono h fun e w'' ⟨u,he,hc,hk⟩=>⟨u,he,hc,(keep u).at (fun h=>by rw [hej hl] at h;cases h),by rw [← Act.put_comm a v u h2];exact hk⟩
   | halt x w'=>exact h.elim
  ·rename_i hl
   simp only [hl] at h
   obtain ⟨u,hu,hn⟩:=h
   refine ⟨u,?_,keep u,by rw [← Act.put_comm a v u h2];exact hn⟩
   unfold qy at *
   rwa [execOp_put oj hsj a oi.dst v h1] at hu
 ·rename_i hw
  simp only [hw] at h
  exact ⟨keep _,by rw [← Act.put_comm a v undef h2];exact h⟩
theorem jEA {i:Nat} {oj:Oper} {listed:Array Bool} (hr:i∈Region.ready md ops listed) (hall:∀e∈oj.after,Region.binds md e=true→listed.getD e.on false=true) :
  ∀e∈oj.after,Region.binds md e=true→e.on≠i:=fun e he hb heq=>by
 have h1:=hall e he hb
 have h0:=(mem_ready.1 hr).1
 rw [heq] at h1
 rcases Nat.lt_or_ge i listed.size with h' | h'
 ·simp [h'] at h0 h1;rw [h0] at h1;cases h1
 ·simp [Array.getElem?_eq_none h'] at h1
theorem jGO {loud free:Nat→Bool} {far:Nat→Array Bool} {Q:Act→World→Prop} (hg:Good md ops loud free far) (hfar:∀i,i<ops.size→far i=jGE md ops i) {i:Nat} {oi:Oper} {v:Value} (hi:ops[i]?=some oi) (hli:loud i=false) (hsel:∀(j:Nat) (o:Oper) cs b,ops[j]?=some o→o.op≠.select cs b) :
  ∀(fuel:Nat) (listed:Array Bool) (a:Act) (w:World),C w→jCO ops.size loud far listed →
   (∀j oj,ops[j]?=some oj→j≠i→listed.getD j true=false→(∀e∈oj.after,Region.binds md e=true→e.on≠i)→oi.apart ops oj=true) →
   i∈Region.ready md ops listed→yZ P ops C (jCK md ops loud i) w oi v a →
   jDC P md ops C loud free Q fuel (listed.setIfInBounds i true) (a.put oi.dst v) w→jDC P md ops C loud free Q (fuel+1) listed a w:=by
 intro fuel
 induction fuel with
 | zero =>
  intro listed a w _ _ _ hr hy H
  refine ⟨fun h=>(by rw [h] at hr;cases hr),fun j hj=>?_⟩
  by_cases hji:j=i
  ·subst hji;exact hy.op hi hli H
  ·have:=ready_mono hj hji
   rw [H.1] at this
   cases this
 | succ fuel ih =>
  intro listed a w hC hW hfree hr hy H
  refine ⟨fun h=>(by rw [h] at hr;cases hr),fun j hj=>?_⟩
  by_cases hji:j=i
  ·subst hji;exact hy.op hi hli H
  ·have h1:=H.2 j (ready_mono hj hji)
   obtain ⟨hjun,oj,hoj,hall⟩:=mem_ready.1 hj
   have hej:loud j=true→jCK md ops loud i=false:=fun hlj=>by
    cases he:jCK md ops loud i with
    | false=>rfl
    | true =>
     have hil:=(Array.getElem?_eq_some_iff.1 hi).1
     have hjl:=(Array.getElem?_eq_some_iff.1 hoj).1
     have h1:=hg.inFar hW hil hli (mem_ready.1 hr).1 hj hji
     have h2:=List.all_eq_true.1 he j (List.mem_range.2 hjl)
     rw [hlj] at h2
     have h3:(jGE md ops i).getD j false=true:=hfar i hil▸h1
     rw [h3] at h2;cases h2
   have h2:=jPV (e:=jCK md ops loud i) hoj (hfree j oj hoj hji hjun (jEA hr hall)) (fun cs b=>hsel i oi cs b hi) (fun cs b=>hsel j oj cs b hoj) hej hy h1
   have hfree' : ∀ k ok, ops[k]? = some ok → k ≠ i → (listed.setIfInBounds j true).getD k true = false →
     (∀e∈ok.after,Region.binds md e=true→e.on≠i)→oi.apart ops ok=true:=fun k ok hk hki hun hno=>by
    refine hfree k ok hk hki ?_ hno
    by_cases hjk:j=k
    ·subst hjk;exact hjun
    ·rw [getD_set_ne true hjk] at hun;exact hun
   have hnf:¬ (loud j=true∧free j=true):=fun ⟨h1,h2⟩=>by
    have:=hg.free hW hj h1 h2 i (Array.getElem?_eq_some_iff.1 hi).1 hli;rw [(mem_ready.1 hr).1] at this;cases this
   refine jOE (fun a' w' hC' h3=>ih (listed.setIfInBounds j true) a' w' (hC'.resolve_right hnf) (hg.step hW hj) hfree' (ready_mono hr (Ne.symm hji)) h3.1 ?_) (fun _=>hC) (.inl hC) h2
   rw [Array.setIfInBounds_comm _ _ hji]
   exact h3.2
def jJA (md:Region.Mode) (ops:Array Oper) (loud free:Nat→Bool):Bool :=
 (List.range ops.size).all fun i=>loud i || (let f:=jGE md ops i
  f.size == ops.size && (Region.ready md ops f).all (· == i) && (List.range ops.size).all (fun j=>!free j || !f.getD j false))
def jKF (md:Region.Mode) (ops:Array Oper) (i:Nat):Array Bool:=if i<ops.size then jGE md ops i else Array.replicate ops.size true
theorem jHM {loud free:Nat→Bool} (h:jJA md ops loud free=true):Good md ops loud free (jKF md ops):=by
 have h':∀i,i<ops.size→loud i=false→(jGE md ops i).size=ops.size∧(∀j∈Region.ready md ops (jGE md ops i),j=i)∧∀j,j<ops.size→free j=true→(jGE md ops i).getD j false=false:=fun i hi hl=>by
  have:=List.all_eq_true.1 h i (List.mem_range.2 hi);simp only [hl,Bool.false_or,Bool.and_eq_true,beq_iff_eq,List.all_eq_true,List.mem_range,Bool.or_eq_true,Bool.not_eq_true'] at this;exact ⟨this.1.1,this.1.2,fun j hj hf=>by rcases this.2 j hj with h | h;rw [hf] at h;cases h;exact h⟩
 refine ⟨fun i hl=>?_,fun i hl j hj=>?_,fun i hi hl j hj hf=>?_⟩
 ·unfold jKF;split
  ·rename_i hi;exact (h' i hi hl).1
  ·simp
 ·unfold jKF at hj;split at hj
  ·rename_i hi;exact (h' i hi hl).2.1 j hj
  ·obtain ⟨hu,o,ho,_⟩:=mem_ready.1 hj;have:=(Array.getElem?_eq_some_iff.1 ho).1;simp [this] at hu
 ·unfold jKF;rw [if_pos hi];exact (h' i hi hl).2.2 j hj hf
theorem jCE {n m:Nat} {loud:Nat→Bool} {far:Nat→Array Bool}:jCO n loud far (Array.replicate m false):=fun i _ _ _ k hk=>by
 exfalso;rcases Nat.lt_or_ge k m with h' | h'
 ·simp [h'] at hk
 ·simp [h'] at hk
def jKO (P:Program) (md:Region.Mode) (ops:Array Oper) (C:World→Prop) (loud free:Nat→Bool) (Q:Act→World→Prop):Nat→Array Bool→Act→World→Prop
 | 0,listed,a,w=>Region.ready md ops listed=[]∧Q a w
 | fuel+1,listed,a,w =>
  (∃i,i∈Region.ready md ops listed∧loud i=false∧Region.free md ops listed i=true∧opM md P ops C loud free i (jKO P md ops C loud free Q fuel (listed.setIfInBounds i true)) a w) ∨
  ((Region.ready md ops listed=[]→Q a w)∧∀i∈Region.ready md ops listed,opM md P ops C loud free i (jKO P md ops C loud free Q fuel (listed.setIfInBounds i true)) a w)
theorem jAO {loud free:Nat→Bool} {far:Nat→Array Bool} {Q:Act→World→Prop} (hg:Good md ops loud free far) (hfar:∀i,i<ops.size→far i=jGE md ops i) (hs:Region.noSelect ops=true):∀(fuel:Nat) (listed:Array Bool) (a:Act) (w:World),(C w∨uG loud ops.size listed)→jCO ops.size loud far listed →
  jKO P md ops C loud free Q fuel listed a w→jDC P md ops C loud free Q fuel listed a w
 | 0,_,_,_,_,_,h=>h
 | fuel+1,listed,a,w,hC,hW,h=>by
  rcases h with ⟨i,hr,hl,hf,h⟩ | ⟨h0,h⟩
  ·obtain ⟨hu,o,ho,_⟩:=mem_ready.1 hr;have hCw:C w:=by
    rcases hC with h | h
    ·exact h
    ·have:=h i (Array.getElem?_eq_some_iff.1 ho).1 hl;rw [hu] at this;cases this
   obtain ⟨v,hy,hK⟩:=jFG ho hl h;exact jGO hg hfar ho hl (Region.noSelect_spec hs) fuel listed a w hCw hW (Region.free_spec ho hf) hr hy (jAO hg hfar hs fuel _ _ _ (.inl hCw) (hg.step hW hr) hK)
  ·refine ⟨h0,fun i hi=>?_⟩;have hh:=h i hi;have rec_:∀a w,(C w∨uG loud ops.size (listed.setIfInBounds i true))→jKO P md ops C loud free Q fuel (listed.setIfInBounds i true) a w→jDC P md ops C loud free Q fuel (listed.setIfInBounds i true) a w:=fun a w hc h=>jAO hg hfar hs fuel _ a w hc (hg.step hW hi) h;have hkeep:C w∨uG loud ops.size (listed.setIfInBounds i true):=hC.imp id (fun h=>h.set i);unfold opM at hh ⊢;split
   ·rename_i ho;simp only [ho] at hh;exact rec_ _ _ hkeep hh
   ·rename_i o ho;simp only [ho] at hh;split
    ·rename_i hwt;simp only [hwt,if_true] at hh;split
     ·rename_i hl;simp only [hl,if_true] at hh;exact xJ hh fun v w' ⟨hc,hk⟩=>⟨hc,rec_ _ _ (hc.elim (fun hf=>.inr ((hg.free hW hi hl hf).set i)) .inl) hk⟩
     ·rename_i hl;simp only [hl] at hh;obtain ⟨v,h1,h2⟩:=hh;exact ⟨v,h1,rec_ _ _ hkeep h2⟩
    ·rename_i hwt;simp only [hwt] at hh;exact rec_ _ _ hkeep hh
theorem jFJ {ro:Option Nat} {m:Nat} {id:Nat} {Q:Exit→Act→World→Prop} {a:Act} {w:World} (C:World→Prop) (loud free:Nat→Bool) (hm:P.follows .mixedOrders=true) (hs:Region.noSelect ops=true) (hg:jJA .any ops loud free=true)
  (hC:C { w with drawn:=w.drawn+1 })
  (h:jKO P .any ops C loud free (fun a' w'=>Q .normal a' w') ops.size (Array.replicate ops.size false) a { w with drawn:=w.drawn+1 }):(Code.region id ops true).wpIn (fen ro) m P Q a w :=
 wpIn_region_any hm (jEQ (Q':=Q) (jHM hg) (fun _ _ h=>h) _ _ _ _ (.inl hC) jCE (jAO (md:=.any) (Q:=fun a' w'=>Q .normal a' w') (jHM hg) (fun i hi=>if_pos hi) hs _ _ _ _ (.inl hC) jCE h))
end
abbrev Env:=Nat→Value
def upd (ρ:Env) (d:Nat) (v:Value):Env:=fun i=>if i=d then v else ρ i
def put (ρ:Env) (d:Option Nat) (v:Value):Env:=match d with | some d=>upd ρ d v | none=>ρ
def evE (ρ:Env):Operand→Value
 | .tmp t=>ρ t
 | .const v=>v
 | .global g=>.pointer (some ⟨g,0,none⟩)
 | .func f=>.func (.func f) #[] #[]
def jOW (l:List Value):Env:=fun i=>l.getD i undef
structure Rep (ds:List Deferred) (n:Nat) (ρ:Env) (a:Act):Prop where
 defers:a.defers=ds
 size:a.tmps.size=n
 get:∀t,a.tmps.getD t undef=ρ t
theorem Rep.eval {ds:List Deferred} {n:Nat} {ρ:Env} {a:Act} (h:Rep ds n ρ a):a.eval=evE ρ:=by
 funext x;cases x with
 | tmp t=>exact h.get t
 | _=>rfl
theorem Rep.put {ds:List Deferred} {n:Nat} {ρ:Env} {a:Act} (h:Rep ds n ρ a) {d:Option Nat} (hd:∀k,d=some k→k<n) (v:Value):Rep ds n (SE.put ρ d v) (a.put d v):=by
 cases d with
 | none=>exact h
 | some k =>
  refine ⟨h.defers,by simp [Act.put,h.size],fun t=>?_⟩
  have hk:=hd k rfl
  simp only [Act.put,SE.put,upd]
  by_cases ht:t=k
  ·subst ht;simp [h.size,hk]
  ·rw [if_neg ht,← h.get t];simp [Array.getElem?_setIfInBounds_ne (Ne.symm ht)]
def zQ (ops:Array Oper) (ρ:Env) (j:Nat):Option Bool :=
 match (ops[j]?).bind (·.dst) with
 | some d=>match ρ d with | .bool b=>some b | _=>none
 | none=>none
theorem Rep.yielded {ds:List Deferred} {n:Nat} {ρ:Env} {a:Act} (h:Rep ds n ρ a) (ops:Array Oper):yielded ops a.tmps=zQ ops ρ:=by
 funext j;unfold Go.yielded zQ;cases (ops[j]?).bind (·.dst) with
 | none=>rfl
 | some d =>
  simp only [Option.bind_some]
  have:=h.get d
  rw [Array.getD_eq_getD_getElem?] at this
  cases hd:a.tmps[d]? with
  | none=>rw [hd] at this;simp only [Option.getD_none] at this;rw [← this];rfl
  | some v=>rw [hd] at this;simp only [Option.getD_some] at this;rw [← this];cases v <;> rfl
def jPY (D:Nat):Deferred:={ target:=.collected D,args:=#[] }
structure Cx where
 ro:Option Nat
 ds:List Deferred
def jNP (x:Cx) (n:Nat) (Q:Exit→Env→World→Prop):Exit→Act→World→Prop:=fun e a w =>
 ∃ρ,(Rep x.ds n ρ a∧Q e ρ w)∨(e=.ret∧x.ro=none∧x.ds=[]∧∃D,Rep [jPY D] n ρ a∧w.heap[D]?=some (.deferred (some []))∧Q .ret ρ (w.putObj D (.deferred none)))
def wpE {x:Cx} (P:Program) (n:Nat) (c:Code) (Q:Exit→Env→World→Prop) (ρ:Env) (w:World):Prop:=∀a,Rep x.ds n ρ a→c.wpIn (fen x.ro) 0 P (jNP x n Q) a w
def jBW (next:Env→World→Prop) (Q:Exit→Env→World→Prop):Exit→Env→World→Prop
 | .normal,ρ,w=>next ρ w
 | e,ρ,w=>Q e ρ w
def jFF (id:Nat) (Q:Exit→Env→World→Prop):Exit→Env→World→Prop
 | .exit id',ρ,w=>if id'=id then Q .normal ρ w else Q (.exit id') ρ w
 | e,ρ,w=>Q e ρ w
section
variable {x:Cx} {P:Program} {n:Nat} {Q:Exit→Env→World→Prop} {ρ:Env} {w:World}
theorem jMP {Q':Exit→Env→World→Prop} (hq:∀e ρ w,Q e ρ w→Q' e ρ w) {e:Exit} {a:Act} (h:jNP x n Q e a w):jNP x n Q' e a w:=by
 obtain ⟨ρ,⟨h1,h2⟩ | ⟨h1,h2,h3,D,h4,h5,h6⟩⟩:=h
 ·exact ⟨ρ,.inl ⟨h1,hq _ _ _ h2⟩⟩
 ·exact ⟨ρ,.inr ⟨h1,h2,h3,D,h4,h5,hq _ _ _ h6⟩⟩
theorem jED {a:Act} (h:jNP x n Q .normal a w):∃ρ,Rep x.ds n ρ a∧Q .normal ρ w:=by
 obtain ⟨ρ,h | ⟨h,_⟩⟩:=h
 ·exact ⟨ρ,h⟩
 ·cases h
theorem jFL {c:Code} {Q':Exit→Env→World→Prop} (hq:∀e ρ w,Q e ρ w→Q' e ρ w) (h:wpE (x:=x) P n c Q ρ w):wpE (x:=x) P n c Q' ρ w :=
 fun a ha=>wpIn_mono (h a ha) (fun _ _ _ h=>jMP hq h)
theorem zB (h:Q .normal ρ w):wpE (x:=x) P n .skip Q ρ w:=fun _ ha=>wpIn_skip ⟨ρ,.inl ⟨ha,h⟩⟩
theorem jPQ (h:Q .ret ρ w):wpE (x:=x) P n .ret Q ρ w:=fun _ ha=>wpIn_ret ⟨ρ,.inl ⟨ha,h⟩⟩
theorem vO {id:Nat} (h:Q (.exit id) ρ w):wpE (x:=x) P n (.exit id) Q ρ w:=fun _ ha=>wpIn_exit ⟨ρ,.inl ⟨ha,h⟩⟩
theorem jLM {l:Nat} (h:Q .normal ρ w):wpE (x:=x) P n (.label l) Q ρ w:=fun _ ha=>wpIn_label ⟨ρ,.inl ⟨ha,h⟩⟩
theorem zA {c y:Code} (h:wpE (x:=x) P n c (jBW (fun ρ w=>wpE (x:=x) P n y Q ρ w) Q) ρ w):wpE (x:=x) P n (.seq c y) Q ρ w:=fun a ha =>
 wpIn_seq (wpIn_mono (h a ha) (fun e a w hl=>by
  cases e with
  | normal=>obtain ⟨ρ',hr,hq⟩:=jED hl;exact hq a hr
  | _=>exact hl))
theorem qM {c y:Code} (J:Env→World→Prop) (hy:∀ρ w,J ρ w→wpE (x:=x) P n y Q ρ w) (h:wpE (x:=x) P n c (jBW J Q) ρ w):wpE (x:=x) P n (.seq c y) Q ρ w :=
 zA (jFL (fun e ρ w hq=>by cases e <;> first | exact hy _ _ hq | exact hq) h)
theorem vI {c:Operand} {y z:Code} {t:Bool} (hc:evE ρ c=.bool t) (ht:t=true→wpE (x:=x) P n y Q ρ w) (hf:t=false→wpE (x:=x) P n z Q ρ w):wpE (x:=x) P n (.cond c y z) Q ρ w :=
 fun a ha=>wpIn_cond_split (by rw [ha.eval];exact hc) (fun h=>ht h a ha) (fun h=>hf h a ha)
theorem yH {c:Operand} {y z:Code} (hc:evE ρ c=.bool true) (h:wpE (x:=x) P n y Q ρ w):wpE (x:=x) P n (.cond c y z) Q ρ w :=
 fun a ha=>wpIn_cond_true (by rw [ha.eval];exact hc) (h a ha)
theorem yU {c:Operand} {y z:Code} (hc:evE ρ c=.bool false) (h:wpE (x:=x) P n z Q ρ w):wpE (x:=x) P n (.cond c y z) Q ρ w :=
 fun a ha=>wpIn_cond_false (by rw [ha.eval];exact hc) (h a ha)
theorem zK {id:Nat} {c:Code} (h:wpE (x:=x) P n c (jFF id Q) ρ w):wpE (x:=x) P n (.block id c) Q ρ w:=fun a ha =>
 wpIn_block (wpIn_mono (h a ha) (fun e a w hl=>by
  cases e with
  | exit id' =>
   obtain ⟨ρ',⟨hr,hq⟩ | ⟨h,_⟩⟩:=hl
   ·simp only [jFF] at hq
    simp only [Exit.inBlock]
    split
    ·rename_i h;rw [if_pos h] at hq;exact ⟨ρ',.inl ⟨hr,hq⟩⟩
    ·rename_i h;rw [if_neg h] at hq;exact ⟨ρ',.inl ⟨hr,hq⟩⟩
   ·cases h
  | _=>exact hl))
theorem jLL {c:Code} (hx:x.ro=none) (hQ:∀l ρ w,¬ Q (.goto l) ρ w) (h:wpE (x:=x) P n c Q ρ w):wpE (x:=x) P n (.scope c) Q ρ w:=fun a ha=>by
 have h:=h a ha;rw [hx] at h ⊢;refine wpIn_wide.2 (wp_scope_straight (Code.wp_mono (fun e a w hl=>?_) (wpIn_wide.1 h)));cases e with
 | goto l =>
  obtain ⟨ρ',⟨_,hq⟩ | ⟨h,_⟩⟩:=hl
  ·exact (hQ l ρ' w hq).elim
  ·cases h
 | _=>exact hl
theorem vQ {c:Code} {σ:Type} (I:σ→Env→World→Prop) (μ:σ→Nat) (s0:σ) (h0:I s0 ρ w)
  (round:∀s ρ w,I s ρ w→wpE (x:=x) P n c (jBW (fun ρ' w'=>∃s',I s' ρ' w'∧μ s'<μ s) Q) ρ w):wpE (x:=x) P n (.loop c) Q ρ w:=by
 intro a ha b k cs hro hb hroom
 have key:∀m s ρ a w,μ s=m→Rep x.ds n ρ a→I s ρ w→∃e a' w',jNP x n Q e a' w'∧ArrivesIn (Machine.fenced P (fen x.ro)) P (lone (b.atR a (.code c :: .inLoop c :: k)) cs w) b k cs e a' w':=by
  intro m;induction m using Nat.strongRecOn with
  | _ m ih =>
   intro s ρ a w hm hr hI
   obtain ⟨e,a1,w1,hl,harr⟩:=round s ρ w hI a hr b (.inLoop c :: k) cs hro hb hroom
   cases e with
   | normal =>
    obtain ⟨ρ1,hr1,s',hI',hlt⟩:=jED hl
    obtain ⟨e2,a2,w2,hq2,harr2⟩:=ih (μ s') (hm▸hlt) s' ρ1 a1 w1 rfl hr1 hI'
    exact ⟨e2,a2,w2,hq2,.of_steps (StepsIn.trans harr (.one (fenced_calm hb hroom rfl) stepR_inLoop)) harr2⟩
   | exit id=>exact ⟨_,a1,w1,hl,.pass (x:=.inLoop c) rfl (fun _ _=>.inl (by simp)) harr⟩
   | goto l=>exact ⟨_,a1,w1,hl,.pass (x:=.inLoop c) rfl (fun _ _=>.inl (by simp)) harr⟩
   | ret=>exact ⟨_,a1,w1,hl,.pass (x:=.inLoop c) rfl (fun _ _=>.inl (by simp)) harr⟩
   | panic ch=>exact ⟨_,a1,w1,hl,.pass (x:=.inLoop c) rfl (fun _ _=>.inl (by simp)) harr⟩
   | outgrown=>exact ⟨_,a1,w1,hl,.pass (x:=.inLoop c) rfl (fun _ _=>.inl (by simp)) harr⟩
 obtain ⟨e,a',w',hq,harr⟩:=key _ s0 ρ a w rfl ha h0
 exact ⟨e,a',w',hq,.of_steps (.one (fenced_calm hb hroom rfl) stepR_loop) harr⟩
def wpL (P:Program) (ops:Array Oper) (Q:Env→World→Prop):List Oper→Env→World→Prop
 | [],ρ,w=>Q ρ w
 | o :: rest,ρ,w =>
  if Region.wanted o (zQ ops ρ) then yld P o (evE ρ) w (fun v w'=>wpL P ops Q rest (put ρ o.dst v) w')
  else wpL P ops Q rest (put ρ o.dst undef) w
def tE (n:Nat) (l:List Oper):Bool:=l.all fun o=>match o.dst with | some d=>d<n | none=>true
theorem jJC {o:Oper} {l:List Oper} (h:tE n (o :: l)=true):(∀k,o.dst=some k→k<n)∧tE n l=true:=by
 simp only [tE,List.all_cons,Bool.and_eq_true] at h;refine ⟨fun k hk=>?_,h.2⟩;have:=h.1;rw [hk] at this;simpa using this
theorem tJ {ops:Array Oper} {Q':Env→World→Prop} (hQ:∀ρ a w,Rep x.ds n ρ a→Q' ρ w→jNP x n Q .normal a w):∀(l:List Oper) (ρ:Env) (a:Act) (w:World),tE n l=true→Rep x.ds n ρ a→wpL P ops Q' l ρ w→wpListIn (fen x.ro) 0 P ops (jNP x n Q) l a w
 | [],ρ,a,w,_,hr,h=>hQ _ _ _ hr h
 | o :: l,ρ,a,w,hd,hr,h=>by
  obtain ⟨hk,hd'⟩:=jJC hd;unfold wpL at h;unfold wpListIn;rw [hr.yielded];split
  ·rename_i hw;rw [if_pos hw] at h;apply jDB;rw [hr.eval];exact xJ h fun v w' hh=>tJ hQ l _ _ _ hd' (hr.put hk v) hh
  ·rename_i hw;rw [if_neg hw] at h;exact ⟨fun f _=>jMW x.ro f,tJ hQ l _ _ _ hd' (hr.put hk undef) h⟩
theorem jKP {id:Nat} {l:List Oper} (hd:tE n l=true) (h:wpL P l.toArray (fun ρ w=>Q .normal ρ w) l ρ w):wpE (x:=x) P n (.region id l.toArray false) Q ρ w:=fun a ha =>
 wpIn_region_lit (tJ (fun ρ' _ _ hr hq=>⟨ρ',.inl ⟨hr,hq⟩⟩) l ρ a w hd ha h)
def opE (P:Program) (ops:Array Oper) (C:World→Prop) (loud free:Nat→Bool) (i:Nat) (K:Env→World→Prop) (ρ:Env) (w:World):Prop :=
 match ops[i]? with
 | none=>K ρ w
 | some o =>
  if Region.wanted o (zQ ops ρ) then
   (if loud i then yld P o (evE ρ) w (fun v w'=>(free i=true∨C w')∧K (put ρ o.dst v) w')
   else ∃v,((jCK .any ops loud i=true∧qy P o (evE ρ) w v)∨∀w',C w'→qy P o (evE ρ) w' v)∧K (put ρ o.dst v) w)
  else K (put ρ o.dst undef) w
def wpX (P:Program) (ops:Array Oper) (C:World→Prop) (loud free:Nat→Bool) (Q:Env→World→Prop):Nat→Array Bool→Env→World→Prop
 | 0,listed,ρ,w=>Region.ready .any ops listed=[]∧Q ρ w
 | fuel+1,listed,ρ,w =>
  (∃i,i∈Region.ready .any ops listed∧loud i=false∧Region.free .any ops listed i=true∧opE P ops C loud free i (wpX P ops C loud free Q fuel (listed.setIfInBounds i true)) ρ w) ∨
  ((Region.ready .any ops listed=[]→Q ρ w)∧∀i∈Region.ready .any ops listed,opE P ops C loud free i (wpX P ops C loud free Q fuel (listed.setIfInBounds i true)) ρ w)
theorem jEU {ds:List Deferred} {ops:Array Oper} {C:World→Prop} {loud free:Nat→Bool} {i:Nat} {K:Env→World→Prop} {K':Act→World→Prop} (hK:∀ρ a w,Rep ds n ρ a→K ρ w→K' a w) (hd:∀o,ops[i]?=some o→∀k,o.dst=some k→k<n) {a:Act} (hr:Rep ds n ρ a) (h:opE P ops C loud free i K ρ w):opM .any P ops C loud free i K' a w:=by
 unfold opE at h;unfold opM;cases ho:ops[i]? with
 | none=>rw [ho] at h;exact hK _ _ _ hr h
 | some o =>
  rw [ho] at h
  have hk:=hd o ho
  simp only at h ⊢
  rw [hr.yielded]
  split
  ·rename_i hw
   rw [if_pos hw] at h
   rw [hr.eval]
   split
   ·rename_i hl
    rw [if_pos hl] at h
    exact xJ h fun v w' ⟨hc,hh⟩=>⟨hc,hK _ _ _ (hr.put hk v) hh⟩
   ·rename_i hl
    rw [if_neg hl] at h
    obtain ⟨v,h1,h2⟩:=h
    exact ⟨v,h1,hK _ _ _ (hr.put hk v) h2⟩
  ·rename_i hw
   rw [if_neg hw] at h
   exact hK _ _ _ (hr.put hk undef) h
theorem tQ {ds:List Deferred} {ops:Array Oper} {C:World→Prop} {loud free:Nat→Bool} {Q':Env→World→Prop} {Q'':Act→World→Prop} (hQ:∀ρ a w,Rep ds n ρ a→Q' ρ w→Q'' a w) (hd:∀(i:Nat) (o:Oper),ops[i]?=some o→∀k,o.dst=some k→k<n):∀(fuel:Nat) (listed:Array Bool) (ρ:Env) (a:Act) (w:World),Rep ds n ρ a→wpX P ops C loud free Q' fuel listed ρ w→jKO P .any ops C loud free Q'' fuel listed a w
 | 0,_,_,_,_,hr,h=>⟨h.1,hQ _ _ _ hr h.2⟩
 | fuel+1,listed,ρ,a,w,hr,h=>by
  rcases h with ⟨i,h1,h2,h3,h4⟩ | ⟨h0,h⟩
  ·exact .inl ⟨i,h1,h2,h3,jEU (fun ρ a w hr h=>tQ hQ hd fuel _ ρ a w hr h) (hd i) hr h4⟩
  ·exact .inr ⟨fun e=>hQ _ _ _ hr (h0 e),fun i hi=>jEU (fun ρ a w hr h=>tQ hQ hd fuel _ ρ a w hr h) (hd i) hr (h i hi)⟩
def yM (l:List Nat) (k:Nat):Bool:=l.contains k
theorem jLD {l:List Oper} (h:tE n l=true) (i:Nat) (o:Oper) (ho:l.toArray[i]?=some o) (k:Nat) (hk:o.dst=some k):k<n:=by
 have hm:o∈l:=by
  have:l[i]?=some o:=by simpa using ho
  exact List.mem_of_getElem? this
 have:=(List.all_eq_true.1 h) o hm;rw [hk] at this;simpa using this
theorem jGN {id:Nat} {l:List Oper} (C:World→Prop) (loud free:List Nat) (hm:P.follows .mixedOrders=true) (hd:tE n l=true) (hB:Region.noSelect l.toArray=true) (hg:jJA .any l.toArray (yM loud) (yM free)=true)
  (hC:C { w with drawn:=w.drawn+1 })
  (h:wpX P l.toArray C (yM loud) (yM free) (fun ρ w=>Q .normal ρ w) l.toArray.size (Array.replicate l.toArray.size false) ρ { w with drawn:=w.drawn+1 }):wpE (x:=x) P n (.region id l.toArray true) Q ρ w:=fun a ha =>
 jFJ C (yM loud) (yM free) hm hB hg hC (tQ (fun ρ' _ _ hr hq=>⟨ρ',.inl ⟨hr,hq⟩⟩) (jLD hd) _ _ ρ a _ ha h)
def jEN (P:Program) (fn:Func) (n:Nat) (R:Ending→World→Prop):Exit→Env→World→Prop
 | .normal,ρ,w | .ret,ρ,w=>∃v,(∀ds a,Rep ds n ρ a→(results fn a.tmps).run P w=.ok v w)∧R (.returned v) w
 | _,_,_=>False
theorem jNZ {n:Nat} (args:List Value) (hn:args.length≤n):Rep [] n (jOW args) { tmps:=args.toArray++Array.replicate (n - args.toArray.size) undef,defers:=[] }:=by
 refine ⟨rfl,by simp;omega,fun t=>?_⟩;simp only [jOW,Array.getD_eq_getD_getElem?,List.getD_eq_getElem?_getD];by_cases h:t<args.length
 ·rw [Array.getElem?_append_left (by simpa using h)];simp
 ·rw [Array.getElem?_append_right (by simpa using h)];simp only [Array.getElem?_replicate];have:args[t]?=none:=by simpa using h
  rw [this];split <;> simp
theorem jBY {fn:Func} {tmps:Array Value} {R:Ending→World→Prop} {v:Value} (hv:(results fn tmps).run P w=.ok v w) (hR:R (.returned v) w):LeavesInM Fence.wide 0 P fn tmps R [] .returning w:=by
 exact ⟨_,hv,hR⟩
theorem jHR {f:FuncId} {fn:Func} {c:Code} {args:List Value} {R:Ending→World→Prop} (hf:P.funcs[f]?=some fn) (hb:fn.body=some c) (hn:fn.ntmps=n) (hl:args.length≤n)
  (h:wpE (x:=⟨none,[]⟩) P n c (jEN P fn n R) (jOW args) w):Calls P f args.toArray w R:=by
 subst hn
 refine callsIn_wide.1 (callsIn_of_wp_marks (n:=0) hf hb trivial ?_)
 refine wpIn_mono (h _ (jNZ args hl)) ?_
 rintro e a w' ⟨ρ',⟨hr,hq⟩ | ⟨rfl,_,_,D,hr,hD,hq⟩⟩
 ·have hd:a.defers=[]:=hr.defers
  cases e with
  | normal=>obtain ⟨v,hv,hR⟩:=hq;simp only [bodyPostM,hd];exact jBY (hv _ a hr) hR
  | ret=>obtain ⟨v,hv,hR⟩:=hq;simp only [bodyPostM,hd];exact jBY (hv _ a hr) hR
  | exit _=>exact hq.elim
  | goto _=>exact hq.elim
  | panic _=>exact hq.elim
  | outgrown=>exact hq.elim
 ·obtain ⟨v,hv,hR⟩:=hq
  have hd:a.defers=[jPY D]:=hr.defers
  simp only [bodyPostM,hd]
  exact ⟨by simp,.inl ⟨D,_,rfl,run_takeDeferred hD,jBY (hv _ a hr) hR⟩⟩
theorem res1 {fn:Func} {t:Nat} {v:Value} {R:Ending→World→Prop} {e:Exit} (he:e=.ret∨e=.normal) (hr:fn.results=#[.tmp t]) (hv:ρ t=v) (h:R (.returned v) w):jEN P fn n R e ρ w:=by
 rcases he with rfl | rfl <;> exact ⟨v,fun _ a ha=>by rw [results_tmp hr,ha.get,hv],h⟩
theorem jPD {fn:Func} {R:Ending→World→Prop} {e:Exit} (he:e=.ret∨e=.normal) (hr:fn.results=#[]) (h:R (.returned (.tuple #[])) w):jEN P fn n R e ρ w:=by
 rcases he with rfl | rfl <;> exact ⟨_,fun _ a _=>by rw [results_none hr],h⟩
theorem xA {fn:Func} {t u:Nat} {v v':Value} {R:Ending→World→Prop} {e:Exit} (he:e=.ret∨e=.normal) (hr:fn.results=#[.tmp t,.tmp u]) (hv:ρ t=v) (hv':ρ u=v') (h:R (.returned (.tuple #[v,v'])) w):jEN P fn n R e ρ w:=by
 rcases he with rfl | rfl <;> exact ⟨_,fun _ a ha=>by rw [results_tmp2 hr,ha.get,ha.get,hv,hv'],h⟩
theorem jGZ {fn:Func} {ts:List Nat} (hr:fn.results=(ts.map ResultVar.tmp).toArray) (tmps:Array Value) (hts:ts.length≠1):(results fn tmps).run P w=.ok (.tuple (ts.map fun t=>tmps.getD t undef).toArray) w:=by
 have key:∀(f:ResultVar→Sem Value),(∀t,f (.tmp t)=pure (tmps.getD t undef))→∀(l:List Nat) (w:World),((l.map ResultVar.tmp).mapM f).run P w=.ok (l.map fun t=>tmps.getD t undef) w:=by
  intro f hf l;induction l with
  | nil=>intro w;rfl
  | cons t l ih=>intro w;rw [List.map_cons,List.mapM_cons,hf];simp only [Sem.run_bind,Sem.run_pure,Result.andThen,ih w,List.map_cons]
 unfold results;rw [hr,List.mapM_toArray];rw [Sem.run_bind,Sem.run_map,key _ (fun _=>rfl)];simp only [Result.andThen,Sem.run_pure];simp [hts]
theorem jPC {fn:Func} {t u s:Nat} {v v' v'':Value} {R:Ending→World→Prop} {e:Exit} (he:e=.ret∨e=.normal) (hr:fn.results=#[.tmp t,.tmp u,.tmp s]) (hv:ρ t=v) (hv':ρ u=v') (hv'':ρ s=v'') (h:R (.returned (.tuple #[v,v',v''])) w):jEN P fn n R e ρ w:=by
 rcases he with rfl | rfl <;> exact ⟨_,fun _ a ha=>by rw [jGZ (ts:=[t,u,s]) hr _ (by simp)];simp only [List.map_cons,List.map_nil,ha.get,hv,hv',hv''],h⟩
end
end Go.SE
end
section
namespace Go.SE
structure Sl where
 a:Option Addr
 len:Nat
 cap:Nat
def Sl.v (s:Sl):Value:=.slice s.a s.len s.cap
def Sl.nil:Sl:=⟨none,0,0⟩
def Br (c:Bool) (A B:Prop):Prop:=(c=true→A)∧(c=false→B)
def Row (w:World) (a:Addr) (vs:List Value):Prop:=∀i,i<vs.length→w.cell? (a.add i)=vs[i]?
def vF (w:World) (a:Addr):Prop:=(∃u,w.cell? a=some u)∧w.frozen? a=false
def storeRowFrom (w:World) (a:Addr):Nat→List Value→World
 | _,[]=>w
 | i,v :: vs=>storeRowFrom (w.setCell (a.add i) v) a (i+1) vs
def storeRow (w:World) (a:Addr) (vs:List Value):World:=storeRowFrom w a 0 vs
def qE:Value→Bool
 | .agg _ | .tuple _=>false
 | _=>true
section layers
variable {next:Env→World→Prop} {Q:Exit→Env→World→Prop} {ρ:Env} {w:World} {id id':Nat}
theorem zL (h:next ρ w):jBW next Q .normal ρ w:=h
theorem uI (h:Q (.exit id) ρ w):jBW next Q (.exit id) ρ w:=h
theorem zX (h:Q .ret ρ w):jBW next Q .ret ρ w:=h
theorem uM (h:Q .normal ρ w):jFF id Q .normal ρ w:=h
theorem qW (h:Q .ret ρ w):jFF id Q .ret ρ w:=h
theorem uD (h:Q .normal ρ w):jFF id Q (.exit id) ρ w:=by simpa [jFF] using h
end layers
section
variable {P:Program} {ops:Array Oper} {Q:Env→World→Prop} {ρ:Env} {w w':World} {rest:List Oper} {o:Oper} {v:Value}
theorem zC (h:Q ρ w):wpL P ops Q [] ρ w:=h
theorem yE {j d:Nat} {c t:Bool} (hd:(ops[j]?).bind (·.dst)=some d) (hv:ρ d=.bool c) (hc:c=t):zQ ops ρ j=some t:=by
 unfold zQ;rw [hd];simp only [hv,hc]
theorem zR {y:Nat→Option Bool} (hg:o.guard=none):Region.wanted o y=true:=by simp [Region.wanted,hg]
theorem jBV {y:Nat→Option Bool} {j:Nat} {t:Bool} (hg:o.guard=some (j,t)) (hy:y j=some t):Region.wanted o y=true:=by simp [Region.wanted,hg,hy]
theorem qA {y:Nat→Option Bool} {j:Nat} {t u:Bool} (hg:o.guard=some (j,t)) (hy:y j=some u) (hne:(u == t)=false):Region.wanted o y=false:=by
 have:¬ u=t:=by simpa using hne
 simp [Region.wanted,hg,hy,this]
theorem st (hw:Region.wanted o (zQ ops ρ)=true) (hr:(execOp (evE ρ) o).run P w=.ok (.value v) w') (h:wpL P ops Q rest (put ρ o.dst v) w'):wpL P ops Q (o :: rest) ρ w:=by
 unfold wpL;rw [if_pos hw];unfold yld;rw [hr];exact h
theorem stp (hw:Region.wanted o (zQ ops ρ)=true) (hr:(execOp (evE ρ) o).run P w=.ok (.value v) w) (h:wpL P ops Q rest (put ρ o.dst v) w):wpL P ops Q (o :: rest) ρ w:=st hw hr h
theorem jDI (hw:Region.wanted o (zQ ops ρ)=true) (hr:(execOp (evE ρ) o).run P w=.ok .skip w') (h:wpL P ops Q rest (put ρ o.dst undef) w'):wpL P ops Q (o :: rest) ρ w:=by
 unfold wpL;rw [if_pos hw];unfold yld;rw [hr];exact h
theorem jOY (hw:Region.wanted o (zQ ops ρ)=false) (h:wpL P ops Q rest (put ρ o.dst undef) w):wpL P ops Q (o :: rest) ρ w:=by
 unfold wpL;rw [if_neg (by rw [hw];simp)];exact h
theorem vA {f:FuncId} {args:Array Value} (hw:Region.wanted o (zQ ops ρ)=true) (hr:(execOp (evE ρ) o).run P w=.ok (.enter f args) w') (h:Calls P f args w' fun e w''=>∃v,e=.returned v∧wpL P ops Q rest (put ρ o.dst v) w''):wpL P ops Q (o :: rest) ρ w:=by
 unfold wpL;rw [if_pos hw];unfold yld;rw [hr];exact h
variable {C:World→Prop} {loud free:Nat→Bool} {k fuel:Nat} {listed:Array Bool}
theorem jPP (h0:Region.ready .any ops listed=[]) (h:Q ρ w):wpX P ops C loud free Q 0 listed ρ w:=⟨h0,h⟩
def jOJ (ops:Array Oper) (listed:Array Bool) (loud:Nat→Bool) (k:Nat):Bool:=(Region.ready .any ops listed).contains k && !loud k && Region.free .any ops listed k
theorem qgo (hg:jOJ ops listed loud k=true) (h:opE P ops C loud free k (wpX P ops C loud free Q fuel (listed.setIfInBounds k true)) ρ w):wpX P ops C loud free Q (fuel+1) listed ρ w:=by
 simp only [jOJ,Bool.and_eq_true,Bool.not_eq_true'] at hg;exact .inl ⟨k,by simpa using hg.1.1,hg.1.2,hg.2,h⟩
theorem lgo (hr:Region.ready .any ops listed=[k]) (h:opE P ops C loud free k (wpX P ops C loud free Q fuel (listed.setIfInBounds k true)) ρ w):wpX P ops C loud free Q (fuel+1) listed ρ w :=
 .inr ⟨(fun h0=>by rw [hr] at h0;cases h0),fun i hi=>by rw [hr] at hi;simp at hi;subst hi;exact h⟩
theorem jNQ {k':Nat} (hr:Region.ready .any ops listed=[k,k']) (h:opE P ops C loud free k (wpX P ops C loud free Q fuel (listed.setIfInBounds k true)) ρ w) (h':opE P ops C loud free k' (wpX P ops C loud free Q fuel (listed.setIfInBounds k' true)) ρ w):wpX P ops C loud free Q (fuel+1) listed ρ w :=
 .inr ⟨(fun h0=>by rw [hr] at h0;cases h0),fun i hi=>by rw [hr] at hi;simp at hi;rcases hi with rfl | rfl;exact h;exact h'⟩
theorem lgo3 {k' k'':Nat} (hr:Region.ready .any ops listed=[k,k',k'']) (h:opE P ops C loud free k (wpX P ops C loud free Q fuel (listed.setIfInBounds k true)) ρ w) (h':opE P ops C loud free k' (wpX P ops C loud free Q fuel (listed.setIfInBounds k' true)) ρ w) (h'':opE P ops C loud free k'' (wpX P ops C loud free Q fuel (listed.setIfInBounds k'' true)) ρ w):wpX P ops C loud free Q (fuel+1) listed ρ w :=
 .inr ⟨(fun h0=>by rw [hr] at h0;cases h0),fun i hi=>by rw [hr] at hi;simp at hi;rcases hi with rfl | rfl | rfl;exact h;exact h';exact h''⟩
variable {K:Env→World→Prop}
theorem sx (ho:ops[k]?=some o) (hw:Region.wanted o (zQ ops ρ)=true) (hl:loud k=false) (hr:∀w',C w'→(execOp (evE ρ) o).run P w'=.ok (.value v) w') (h:K (put ρ o.dst v) w):opE P ops C loud free k K ρ w:=by
 unfold opE;rw [ho];simp only;rw [if_pos hw,if_neg (by rw [hl];simp)];exact ⟨v,.inr fun w' hC=>by unfold qy;rw [hr w' hC];exact ⟨rfl,rfl⟩,h⟩
theorem xZ (ho:ops[k]?=some o) (hw:Region.wanted o (zQ ops ρ)=false) (h:K (put ρ o.dst undef) w):opE P ops C loud free k K ρ w:=by
 unfold opE;rw [ho];simp only;rw [if_neg (by rw [hw];simp)];exact h
theorem sl (ho:ops[k]?=some o) (hw:Region.wanted o (zQ ops ρ)=true) (hl:loud k=true) (hr:(execOp (evE ρ) o).run P w=.ok (.value v) w') (hC:free k=true∨C w') (h:K (put ρ o.dst v) w'):opE P ops C loud free k K ρ w:=by
 unfold opE;rw [ho];simp only;rw [if_pos hw,if_pos hl];unfold yld;rw [hr];exact ⟨hC,h⟩
theorem jFP (ho:ops[k]?=some o) (hw:Region.wanted o (zQ ops ρ)=true) (hl:loud k=true) (hr:(execOp (evE ρ) o).run P w=.ok .skip w') (hC:free k=true∨C w') (h:K (put ρ o.dst undef) w'):opE P ops C loud free k K ρ w:=by
 unfold opE;rw [ho];simp only;rw [if_pos hw,if_pos hl];unfold yld;rw [hr];exact ⟨hC,h⟩
theorem jBX {f:FuncId} {args:Array Value} (ho:ops[k]?=some o) (hw:Region.wanted o (zQ ops ρ)=true) (hl:loud k=true) (hr:(execOp (evE ρ) o).run P w=.ok (.enter f args) w') (h:Calls P f args w' fun e w''=>∃v,e=.returned v∧(free k=true∨C w'')∧K (put ρ o.dst v) w''):opE P ops C loud free k K ρ w:=by
 unfold opE;rw [ho];simp only;rw [if_pos hw,if_pos hl];unfold yld;rw [hr];exact h
end
section
variable {P:Program} {ε:Operand→Value} {w w':World} {d:Option Tmp} {ty:TypeId} {pos:String} {aft:Array Edge} {g:Option (Nat×Bool)}
theorem jOX {T:TypeId} {x:Operand} {a:Addr} {v:Value} (hx:ε x=.pointer (some a)) (hT:(isAgg T).run P w=.ok false w) (hc:w.cell? a=some v) :
  (execOp ε ⟨d,.load T x,ty,pos,aft,g⟩).run P w=.ok (.value v) w:=by
 simp [execOp,Instr.loadAt,Instr.sureAddr,hx,loadVar,hT,hc]
theorem tB (a:Addr) (vs:List Value):∀(n i:Nat) (acc:Array Value),i+n=vs.length→(∀j,i≤j→j<vs.length→w.cell? (a.add j)=vs[j]?)→(loadCellsFrom a i n acc).run P w=.ok (acc++(vs.drop i).toArray) w:=by
 intro n;induction n with
 | zero => intro i acc hi _; have : vs.drop i = [] := by simp; omega
           simp [loadCellsFrom,this]
 | succ n ih =>
  intro i acc hi h
  have hlt:i<vs.length:=by omega
  have hc:=h i (Nat.le_refl _) hlt
  rw [List.getElem?_eq_getElem hlt] at hc
  have:=ih (i+1) (acc.push vs[i]) (by omega) (fun j hj hj'=>h j (by omega) hj')
  simp only [loadCellsFrom,Sem.run_bind,run_load,hc,Result.andThen_ok,this]
  rw [List.drop_eq_getElem_cons hlt]
  congr 1
  apply Array.ext'
  simp
theorem jLK {T:TypeId} {x:Operand} {a:Addr} {n:Nat} {vs:List Value} (hx:ε x=.pointer (some a)) (hT:(isAgg T).run P w=.ok true w) (hs:(sizeOf T).run P w=.ok n w) (hn:vs.length=n) (hc:Row w a vs) :
  (execOp ε ⟨d,.load T x,ty,pos,aft,g⟩).run P w=.ok (.value (.agg vs.toArray)) w:=by
 have:=tB (P:=P) (w:=w) a vs n 0 #[] (by omega) (fun j _ hj=>hc j hj)
 simp [execOp,Instr.loadAt,Instr.sureAddr,hx,loadVar,hT,hs,loadCells,this]
theorem jES {a:Addr} {v:Value} (h1:qE v=true) (hc:vF w a):(store a v).run P w=.ok () (w.setCell a v):=by
 obtain ⟨⟨u,hu⟩,hf⟩:=hc;cases v <;> simp [qE] at h1 <;> simp [store,Sem.run,hu,hf]
theorem uZ {T:TypeId} {x y:Operand} {a:Addr} {v:Value} (hx:ε x=.pointer (some a)) (hy:ε y=v) (h1:qE v=true) (hs:(sizeOf T).run P w=.ok 1 w) (hc:vF w a) :
  (execOp ε ⟨d,.store T x y,ty,pos,aft,g⟩).run P w=.ok .skip (w.setCell a v):=by
 have hcells:v.cells=#[v]:=by cases v <;> simp [qE] at h1 <;> rfl
 have h0:a.add 0=a:=by simp [Addr.add]
 simp [execOp,Instr.storeAt,Instr.sureAddr,hx,hy,storeVar,hs,hcells,storeCells,h0,jES h1 hc]
theorem cell?_setCell_some {w:World} {p q:Addr} {x v:Value} (h:w.cell? q=some v):∃v',(w.setCell p x).cell? q=some v':=by
 unfold World.cell? at h ⊢;unfold World.setCell;simp only [Array.getElem?_modify];by_cases hb:p.block=q.block
 ·rw [if_pos hb];split at h
  ·rename_i c e f hc;rw [hc];by_cases hs:q.spot.isSome
   ·simp [hs] at h
   ·simp only [hs,Bool.false_eq_true,if_false] at h;simp only [Option.map_some,hs,Bool.false_eq_true,if_false];by_cases hp:p.spot.isSome
    ·simp only [hp,if_true];exact ⟨v,h⟩
    ·simp only [hp,Bool.false_eq_true,if_false,Array.getElem?_setIfInBounds];have hlt:=(Array.getElem?_eq_some_iff.1 h).1;split
     ·rename_i ho;exact ⟨x,by simp;omega⟩
     ·exact ⟨v,h⟩
  ·cases h
 ·rw [if_neg hb];exact ⟨v,h⟩
theorem vF.setCell {w:World} {a b:Addr} {u:Value} (h:vF w a):vF (w.setCell b u) a :=
 ⟨let ⟨_,hx⟩:=h.1;cell?_setCell_some hx,by rw [World.frozen?_setCell];exact h.2⟩
theorem xM (a:Addr):∀(vs:List Value) (i:Nat) (w:World),(∀v∈vs,qE v=true)→(∀j,j<vs.length→vF w (a.add (i+j)))→(storeCells a vs i).run P w=.ok () (storeRowFrom w a i vs):=by
 intro vs;induction vs with
 | nil=>intro i w _ _;rfl
 | cons v vs ih =>
  intro i w h1 hc
  have h0:vF w (a.add i):=by simpa using hc 0 (by simp)
  have hr:=jES (P:=P) (h1 v (by simp)) h0
  have:=ih (i+1) (w.setCell (a.add i) v) (fun u hu=>h1 u (by simp [hu])) (fun j hj=>by
   have:=(hc (j+1) (by simpa using hj)).setCell (b:=a.add i) (u:=v);rwa [show i+(j+1)=i+1+j by omega] at this)
  simp [storeCells,hr,this,storeRowFrom]
theorem jCR {T:TypeId} {x y:Operand} {a:Addr} {n:Nat} {vs:List Value} (hx:ε x=.pointer (some a)) (hy:ε y=.agg vs.toArray) (h1:vs.all qE=true) (hs:(sizeOf T).run P w=.ok n w) (hn:vs.length=n) (hc:∀j,j<vs.length→vF w (a.add j)) :
  (execOp ε ⟨d,.store T x y,ty,pos,aft,g⟩).run P w=.ok .skip (storeRow w a vs):=by
 have:=xM (P:=P) a vs 0 w (by simpa using h1) (by simpa using hc)
 simp [execOp,Instr.storeAt,Instr.sureAddr,hx,hy,storeVar,hs,Value.cells,hn,this,storeRow]
theorem zH {T:TypeId} {z:Value} {cs:Array Value} (hz:(zeroValue T).run P w=.ok z w) (hc:z.cells=cs) :
  (execOp ε ⟨d,.alloc T,ty,pos,aft,g⟩).run P w=.ok (.value (.pointer (some ⟨w.heap.size,0,none⟩))) (w.alloc (.cells cs T)):=by
 subst hc
 simp [execOp,Instr.alloc,hz,newVar,newRow]
theorem x_box {T:TypeId} {x:Operand} {cs:Array Value} (hc:(ε x).cells=cs) :
  (execOp ε ⟨d,.box T x,ty,pos,aft,g⟩).run P w=.ok (.value (.pointer (some ⟨w.heap.size,0,none⟩))) (w.alloc (.cells cs T)):=by
 subst hc
 simp [execOp,Instr.box,newVar,newRow]
theorem jPL {c x y:Operand} {b:Bool} {v:Value} (hc:ε c=.bool b) (hb:b=true) (hx:ε x=v):(execOp ε ⟨d,.pick c x y,ty,pos,aft,g⟩).run P w=.ok (.value v) w:=by
 simp [execOp,hc,hb,hx,asBool]
theorem jPM {c x y:Operand} {b:Bool} {v:Value} (hc:ε c=.bool b) (hb:b=false) (hy:ε y=v):(execOp ε ⟨d,.pick c x y,ty,pos,aft,g⟩).run P w=.ok (.value v) w:=by
 simp [execOp,hc,hb,hy,asBool]
theorem jEO {x:Operand} {p:Option Addr} {a:Addr} (hx:ε x=.pointer p) (hp:p=some a):(execOp ε ⟨d,.nilCheck x,ty,pos,aft,g⟩).run P w=.ok (.value (.pointer (some a))) w:=by
 simp [execOp,hx,hp]
structure At (s:Sl) (i:Int) (size:Nat) (a:Addr):Prop where
 lo:0≤i
 hi:i<s.len
 at_:∃b,s.a=some b∧a=b.add (i.toNat*size)
theorem jCZ {T E:TypeId} {x ix:Operand} {s:Sl} {k:IntKind} {i:Int} {n:Nat} {a:Addr} (hx:ε x=s.v) (hi:ε ix=.int k i) (hT:(underlying T).run P w=.ok (.slice E) w) (hs:(sizeOf E).run P w=.ok n w) (ha:At s i n a) :
  (execOp ε ⟨d,.indexAddr T x ix,ty,pos,aft,g⟩).run P w=.ok (.value (.pointer (some a))) w:=by
 obtain ⟨h0,h1,b,hb,rfl⟩:=ha
 simp [execOp,Instr.indexAt,hx,hi,Sl.v,asIntOf,hT,hb,h0,h1,hs]
theorem toList_inj {x y:ByteArray} (h:x.toList=y.toList):x=y:=by
 have e:∀z:ByteArray,z.toList=z.data.toList:=fun z=>ByteArray.toList_eq z;rw [e,e] at h;cases x;cases y;simpa using h
theorem jGR (x y:ByteArray):(x.toList == y.toList)=decide (x=y):=by
 by_cases h:x=y
 ·simp [h]
 ·have:¬ x.toList=y.toList:=fun e=>h (toList_inj e);simp [h,this]
theorem jBU {T T':TypeId} {a b:Operand} {x y:ByteArray} (hx:ε a=.string x) (hy:ε b=.string y):(execOp ε ⟨d,.binOp .eql T a b T',ty,pos,aft,g⟩).run P w=.ok (.value (.bool (decide (x=y)))) w:=by
 simp [execOp,hx,hy,eqGuard,jGR,go_sem]
theorem uE {T T':TypeId} {a b:Operand} {x y:ByteArray} (hx:ε a=.string x) (hy:ε b=.string y):(execOp ε ⟨d,.binOp .neq T a b T',ty,pos,aft,g⟩).run P w=.ok (.value (.bool (!decide (x=y)))) w:=by
 simp [execOp,hx,hy,eqGuard,jGR,go_sem]
theorem tI {T T' E:TypeId} {a b:Operand} {x:Option Addr} (hx:ε a=.pointer x) (hy:ε b=.pointer none) (hT:P.underlying T=some (.pointer E)):(execOp ε ⟨d,.binOp .eql T a b T',ty,pos,aft,g⟩).run P w=.ok (.value (.bool x.isNone)) w:=by
 have hp:P.pointee T=E:=by simp [Program.pointee,hT]
 have:=run_eql_pointer_nil (P:=P) w T x (by rw [hp];exact hT);simp [execOp,hx,hy,eqGuard,this]
theorem jNS {T T' E:TypeId} {a b:Operand} {x:Option Addr} (hx:ε a=.pointer x) (hy:ε b=.pointer none) (hT:P.underlying T=some (.pointer E)):(execOp ε ⟨d,.binOp .neq T a b T',ty,pos,aft,g⟩).run P w=.ok (.value (.bool (!x.isNone))) w:=by
 have hp:P.pointee T=E:=by simp [Program.pointee,hT]
 have:=run_neq_pointer_nil (P:=P) w T x (by rw [hp];exact hT);simp [execOp,hx,hy,eqGuard,this]
theorem jFI {op:BinOp} {T T':TypeId} {a b:Operand} {xs ys:Array Value} {r:Bool} (hx:ε a=.agg xs) (hy:ε b=.agg ys) (hm:P.eqGuardType P.depth T=false) (hr:(Go.binOp op T (.agg xs) (.agg ys)).run P w=.ok (.bool r) w) :
  (execOp ε ⟨d,.binOp op T a b T',ty,pos,aft,g⟩).run P w=.ok (.value (.bool r)) w:=by
 have:=run_eqGuard_agg (P:=P) w op T a b xs ys hm
 simp [execOp,hx,hy,this,hr]
theorem jIL {op:BinOp} {T T':TypeId} {a b:Operand} {x y v:Value} (hx:ε a=x) (hy:ε b=y) (hg:(eqGuard op T a b x y).run P w=.ok () w) (hr:(Go.binOp op T x y).run P w=.ok v w) :
  (execOp ε ⟨d,.binOp op T a b T',ty,pos,aft,g⟩).run P w=.ok (.value v) w:=by
 simp [execOp,hx,hy,hg,hr]
theorem jPN {f:FuncId} {x:Operand} {c:List Operand} {ts:Array TypeId} {caps args args':Array Value} (hx:ε x=.func (.func f) #[] caps) (hf:∀args w,(callFunc f args).run P w=.ok (.enter f args) w) (ha:(c.map ε).toArray=args) (hc:args++caps=args') :
  (execOp ε ⟨d,.call ⟨.value x,c.toArray,ts⟩,ty,pos,aft,g⟩).run P w=.ok (.enter f args') w:=by
 subst hc;subst ha
 simp [execOp,resolve,hx,Deferred.ofValue,invoke,hf]
theorem x_call {f:FuncId} {c:List Operand} {ts:Array TypeId} {args:Array Value} (hf:∀args w,(callFunc f args).run P w=.ok (.enter f args) w) (ha:(c.map ε).toArray=args) :
  (execOp ε ⟨d,.call ⟨.value (.func f),c.toArray,ts⟩,ty,pos,aft,g⟩).run P w=.ok (.enter f args) w∨ε (.func f)≠.func (.func f) #[] #[]:=by
 by_cases h:ε (.func f)=.func (.func f) #[] #[]
 ·exact .inl (jPN (caps:=#[]) h hf ha (by simp))
 ·exact .inr h
theorem jIK {ρ:Env} {f:FuncId} {c:List Operand} {ts:Array TypeId} {args:Array Value} (hf:∀args w,(callFunc f args).run P w=.ok (.enter f args) w) (ha:(c.map (evE ρ)).toArray=args) :
  (execOp (evE ρ) ⟨d,.call ⟨.value (.func f),c.toArray,ts⟩,ty,pos,aft,g⟩).run P w=.ok (.enter f args) w :=
 (x_call hf ha).resolve_right (fun h=>h rfl)
theorem vT {b:Builtin} {c:List Operand} {ts:Array TypeId} {args:Array Value} {s:Sem Value} {v:Value} (ha:(c.map ε).toArray=args) (hb:∀consts,builtin b ts ty consts args=(do pure (.value (← s)))) (hr:s.run P w=.ok v w') :
  (execOp ε ⟨d,.call ⟨.builtin b,c.toArray,ts⟩,ty,pos,aft,g⟩).run P w=.ok (.value v) w':=by
 subst ha
 simp only [execOp,resolve,pure_bind,invoke,List.map_toArray,hb]
 simp [hr]
theorem jFH {T:TypeId} {x i:Operand} {ok:Bool} {m k v:Value} (hx:ε x=m) (hi:ε i=k) (hr:(Instr.lookup T m k ok).run P w=.ok v w):(execOp ε ⟨d,.lookup T x i ok,ty,pos,aft,g⟩).run P w=.ok (.value v) w:=by
 simp [execOp,hx,hi,hr]
theorem jAN {T:TypeId} {x i y:Operand} {m k v:Value} (hx:ε x=m) (hi:ε i=k) (hy:ε y=v) (hr:(Instr.mapUpdate T m k v).run P w=.ok () w'):(execOp ε ⟨d,.mapUpdate T x i y,ty,pos,aft,g⟩).run P w=.ok .skip w':=by
 simp [execOp,hx,hi,hy,hr]
theorem xR {T:TypeId} {x:Operand} {lo hi mx:Option Operand} {s v:Value} {l h m:Option Value} (hx:ε x=s) (hl:lo.map ε=l) (hh:hi.map ε=h) (hm:mx.map ε=m) (hr:(Instr.sliceAt T s l h m).run P w=.ok v w):(execOp ε ⟨d,.slice T x lo hi mx,ty,pos,aft,g⟩).run P w=.ok (.value v) w:=by
 simp only [execOp,hx,hl,hh,hm];simp [hr]
theorem jIJ {T:TypeId} {x i:Operand} {s k v:Value} (hx:ε x=s) (hi:ε i=k) (hr:(Instr.index T s k).run P w=.ok v w):(execOp ε ⟨d,.index T x i,ty,pos,aft,g⟩).run P w=.ok (.value v) w:=by
 simp [execOp,hx,hi,hr]
theorem vL {T:TypeId} {n:Nat} {ps:List (Nat×Operand)} {vs:Array (Nat×Value)} {v:Value} (hp:(ps.map fun p=>(p.1,ε p.2)).toArray=vs) (hr:(Instr.buildSlice T n vs).run P w=.ok v w'):(execOp ε ⟨d,.buildSlice T n ps.toArray,ty,pos,aft,g⟩).run P w=.ok (.value v) w':=by
 subst hp;simp only [execOp,List.map_toArray];simp [hr]
end
end Go.SE
namespace Go.SE
def Has (ρ:Env) (l:List (Nat×Value)):Prop:=l.map (fun p=>ρ p.1)=l.map (·.2)
theorem Has.mk {ρ:Env} {l:List (Nat×Value)} (h:l.map (fun p=>ρ p.1)=l.map (·.2)):Has ρ l:=h
def jDK (ρ:Env):List (Nat×Value)→Env
 | []=>ρ
 | (d,v) :: l=>upd (jDK ρ l) d v
theorem tA {ρ:Env}:∀{l:List (Nat×Value)},Has ρ l→jDK ρ l=ρ
 | [],_=>rfl
 | (d,v) :: l,h=>by
  have h':ρ d=v∧l.map (fun p=>ρ p.1)=l.map (·.2):=by simpa [Has] using h
  have:=tA (ρ:=ρ) (l:=l) h'.2;simp only [jDK,this];funext i;simp only [upd];split
  ·rename_i e;rw [e,h'.1]
  ·rfl
section
variable {P:Program} {n:Nat} {Q:Exit→Env→World→Prop} {ρ:Env} {w w':World}
theorem zV {cx:Cx} {c:Code} {l:List (Nat×Value)} (h:Has ρ l) (hg:wpE (x:=cx) P n c Q (jDK ρ l) w):wpE (x:=cx) P n c Q ρ w:=by rwa [tA h] at hg
theorem jAE {cx:Cx} {c:Operand} {x y:Code} {t:Bool} (hc:evE ρ c=.bool t) (ht:t=true) (h:wpE (x:=cx) P n x Q ρ w):wpE (x:=cx) P n (.cond c x y) Q ρ w:=yH (by rw [hc,ht]) h
structure New (w:World) (o:Obj) (p:Addr) (w':World):Prop where
 at_:p=⟨w.heap.size,0,none⟩
 to:w'=w.alloc o
theorem tR {ops:Array Oper} {Q:Env→World→Prop} {rest:List Oper} {o:Oper} {O:Obj} (v:Addr→Value) (hw:Region.wanted o (zQ ops ρ)=true) (hr:(execOp (evE ρ) o).run P w=.ok (.value (v ⟨w.heap.size,0,none⟩)) (w.alloc O)) (h:∀p w',New w O p w'→wpL P ops Q rest (put ρ o.dst (v p)) w'):wpL P ops Q (o :: rest) ρ w :=
 st hw hr (h _ _ ⟨rfl,rfl⟩)
theorem vU {ops:Array Oper} {Q:Env→World→Prop} {rest:List Oper} {o:Oper} {W:World} (hw:Region.wanted o (zQ ops ρ)=true) (hr:(execOp (evE ρ) o).run P w=.ok .skip W) (h:∀w',w'=W→wpL P ops Q rest (put ρ o.dst undef) w'):wpL P ops Q (o :: rest) ρ w :=
 jDI hw hr (h _ rfl)
section
variable {ops:Array Oper} {C:World→Prop} {loud free:Nat→Bool} {k:Nat} {o:Oper} {K:Env→World→Prop}
theorem qL {O:Obj} (v:Addr→Value) (ho:ops[k]?=some o) (hw:Region.wanted o (zQ ops ρ)=true) (hl:loud k=true) (hr:(execOp (evE ρ) o).run P w=.ok (.value (v ⟨w.heap.size,0,none⟩)) (w.alloc O)) (h:∀p w',New w O p w'→(free k=true∨C w')∧K (put ρ o.dst (v p)) w'):opE P ops C loud free k K ρ w :=
 let hh:=h _ _ ⟨rfl,rfl⟩;sl ho hw hl hr hh.1 hh.2
theorem xL {W:World} (ho:ops[k]?=some o) (hw:Region.wanted o (zQ ops ρ)=true) (hl:loud k=true) (hr:(execOp (evE ρ) o).run P w=.ok .skip W) (h:∀w',w'=W→(free k=true∨C w')∧K (put ρ o.dst undef) w'):opE P ops C loud free k K ρ w :=
 let hh:=h _ rfl;jFP ho hw hl hr hh.1 hh.2
theorem sxQ {W:World} {v:Value} (ho:ops[k]?=some o) (hw:Region.wanted o (zQ ops ρ)=true) (hl:loud k=false) (hr:(execOp (evE ρ) o).run P W=.ok (.value v) W) (h:K (put ρ o.dst v) w):opE P ops (fun x=>x=W) loud free k K ρ w :=
 sx ho hw hl (fun w' e=>by rw [show w'=W from e];exact hr) h
end
theorem uU {cx:Cx} {id:Nat} {l:List Oper} (hm:P.follows .mixedOrders=true) (hd:tE n l=true) (hB:Region.noSelect l.toArray=true) (hg:jJA .any l.toArray (yM []) (yM [])=true)
  (h:∀w',w'=w.drew→wpX P l.toArray (fun x=>x=w') (yM []) (yM []) (fun ρ w=>Q .normal ρ w) l.length (Array.replicate l.length false) ρ w'):wpE (x:=cx) P n (.region id l.toArray true) Q ρ w :=
 jGN (fun x=>x=w.drew) [] [] hm hd hB hg rfl (by simpa using h _ rfl)
theorem jAD {cx:Cx} {id:Nat} {l:List Oper} (C:World→Prop) (loud free:List Nat) (hm:P.follows .mixedOrders=true) (hd:tE n l=true) (hB:Region.noSelect l.toArray=true) (hg:jJA .any l.toArray (yM loud) (yM free)=true)
  (hC:C w.drew)
  (h:∀w',w'=w.drew→wpX P l.toArray C (yM loud) (yM free) (fun ρ w=>Q .normal ρ w) l.length (Array.replicate l.length false) ρ w'):wpE (x:=cx) P n (.region id l.toArray true) Q ρ w :=
 jGN C loud free hm hd hB hg hC (by simpa using h _ rfl)
end
end Go.SE
namespace Go.SE
section
variable {P:Program} {n:Nat} {ρ:Env} {w:World}
def RV (P:Program) (ρ:Env) (w:World):ResultVar→Value→Prop
 | .tmp t,v=>ρ t=v
 | .cell a t,v=>∃A,ρ a=.pointer (some A)∧(loadVar t A).run P w=.ok v w
def RVs (P:Program) (ρ:Env) (w:World):List ResultVar→List Value→Prop
 | [],[]=>True
 | r :: rs,v :: vs=>RV P ρ w r v∧RVs P ρ w rs vs
 | _,_=>False
theorem jGY {T:TypeId} {a:Addr} {n:Nat} {vs:List Value} (hT:(isAgg T).run P w=.ok true w) (hs:(sizeOf T).run P w=.ok n w) (hn:vs.length=n) (hc:Row w a vs):(loadVar T a).run P w=.ok (.agg vs.toArray) w:=by
 have:=tB (P:=P) (w:=w) a vs n 0 #[] (by omega) (fun j _ hj=>hc j hj);simp [loadVar,hT,hs,loadCells,this]
theorem RV.cellA {a:Nat} {A:Addr} {T:TypeId} {vs:List Value} {k:Nat} (ha:ρ a=.pointer (some A)) (hT:(isAgg T).run P w=.ok true w) (hs:(sizeOf T).run P w=.ok k w) (hn:vs.length=k) (hc:Row w A vs):RV P ρ w (.cell a T) (.agg vs.toArray):=⟨A,ha,jGY hT hs hn hc⟩
theorem jIS {fn:Func} {rs:List ResultVar} {vs:List Value} (hr:fn.results=rs.toArray) (h:RVs P ρ w rs vs) {ds:List Deferred} {a:Act} (ha:Rep ds n ρ a) {v:Value} (hv:(if h:vs.toArray.size=1 then vs.toArray[0] else .tuple vs.toArray)=v):(results fn a.tmps).run P w=.ok v w:=by
 have key:∀(f:ResultVar→Sem Value),(∀t,f (.tmp t)=pure (a.tmps.getD t undef))→(∀x t,f (.cell x t)=(do loadVar t (← asAddr (a.tmps.getD x undef))))→∀(rs:List ResultVar) (vs:List Value),RVs P ρ w rs vs→(rs.mapM f).run P w=.ok vs w:=by
  intro f hf hf' rs;induction rs with
  | nil=>intro vs h;cases vs <;> simp only [RVs] at h;rfl
  | cons r rs ih =>
   intro vs h
   cases vs with
   | nil=>simp only [RVs] at h
   | cons v vs =>
    obtain ⟨h1,h2⟩:=h
    have:(f r).run P w=.ok v w:=by
     cases r with
     | tmp t=>rw [hf,ha.get];simp only [RV] at h1;rw [h1];rfl
     | cell x t =>
      obtain ⟨A,hA,hl⟩:=h1
      rw [hf',ha.get,hA]
      simp only [Sem.run_bind,asAddr,Sem.run_pure,Result.andThen]
      exact hl
    rw [List.mapM_cons]
    simp only [Sem.run_bind,Sem.run_pure,Result.andThen,this,ih vs h2]
 unfold results;rw [hr,List.mapM_toArray,Sem.run_bind,Sem.run_map,key _ (fun _=>rfl) (fun _ _=>rfl) rs vs h];simp only [Result.andThen,Sem.run_pure];rw [← hv]
theorem tH {fn:Func} {rs:List ResultVar} {vs:List Value} {v:Value} {R:Ending→World→Prop} {e:Exit} (he:e=.ret∨e=.normal) (hr:fn.results=rs.toArray) (h:RVs P ρ w rs vs) (hv:(if h:vs.toArray.size=1 then vs.toArray[0] else .tuple vs.toArray)=v) (hR:R (.returned v) w):jEN P fn n R e ρ w:=by
 rcases he with rfl | rfl <;> exact ⟨v,fun _ a ha=>jIS hr h ha hv,hR⟩
end
section
variable {P:Program} {ε:Operand→Value} {w w':World} {d:Option Tmp} {ty:TypeId} {pos:String} {aft:Array Edge} {g:Option (Nat×Bool)}
theorem uB {f:FuncId} {x:Operand} {c:List Operand} {ts:Array TypeId} {fs caps args args':Array Value} (hx:ε x=.func (.func f) fs caps) (hf:∀args w,(callFunc f args).run P w=.ok (.enter f args) w) (ha:(c.map ε).toArray=args) (hc:(fs++args)++caps=args') :
  (execOp ε ⟨d,.call ⟨.value x,c.toArray,ts⟩,ty,pos,aft,g⟩).run P w=.ok (.enter f args') w:=by
 subst hc;subst ha
 simp [execOp,resolve,hx,Deferred.ofValue,invoke,hf]
end
end Go.SE
namespace Go.SE
theorem rvT {P:Program} {ρ:Env} {w:World} {t:Nat} {v:Value} (h:ρ t=v):RV P ρ w (.tmp t) v:=h
end Go.SE
namespace Go.SE
theorem zN {o:Oper} {l:List Oper}:(o :: l)[0]?=some o:=rfl
theorem zG {a o:Oper} {l:List Oper} {k:Nat} (h:l[k]?=some o):(a :: l)[k+1]?=some o:=by simpa using h
theorem zO {o:Oper} {l:List Oper} {k:Nat} (h:l[k]?=some o):l.toArray[k]?=some o:=by simpa using h
end Go.SE
namespace Go.SE
theorem jDA {P:Program} {ops:Array Oper} {Q:Env→World→Prop} {ρ:Env} {w:World}:∀(k:Nat) {l:List Oper} {ρ:Env} {w:World},wpL P ops (fun ρ w=>wpL P ops Q (l.drop k) ρ w) (l.take k) ρ w→wpL P ops Q l ρ w
 | 0,l,ρ,w,h=>by simpa [wpL] using h
 | k+1,[],ρ,w,h=>by simpa [wpL] using h
 | k+1,o :: l,ρ,w,h=>by
  simp only [List.take_succ_cons,List.drop_succ_cons] at h;unfold wpL at h ⊢;split
  ·rename_i hw;rw [if_pos hw] at h;exact xJ h fun v w' hh=>jDA (ρ:=ρ) (w:=w) k hh
  ·rename_i hw;rw [if_neg hw] at h;exact jDA (ρ:=ρ) (w:=w) k h
theorem jFK {P:Program} {ops:Array Oper} {Q Q':Env→World→Prop} (hq:∀ρ w,Q ρ w→Q' ρ w):∀{l:List Oper} {ρ:Env} {w:World},wpL P ops Q l ρ w→wpL P ops Q' l ρ w
 | [],ρ,w,h=>by unfold wpL at h ⊢;exact hq _ _ h
 | o :: l,ρ,w,h=>by
  unfold wpL at h ⊢;split
  ·rename_i hw;rw [if_pos hw] at h;exact xJ h fun v w' hh=>jFK hq hh
  ·rename_i hw;rw [if_neg hw] at h;exact jFK hq h
theorem zI {P:Program} {ops:Array Oper} {Q:Env→World→Prop} {ρ:Env} {w:World} {l:List Oper} (k:Nat) (J:Env→World→Prop) (hy:∀ρ w,J ρ w→wpL P ops Q (l.drop k) ρ w) (h:wpL P ops J (l.take k) ρ w):wpL P ops Q l ρ w :=
 jDA (ρ:=ρ) (w:=w) k (jFK hy h)
theorem zM {P:Program} {ops:Array Oper} {Q:Env→World→Prop} {ρ:Env} {w:World} {l:List Oper} {hs:List (Nat×Value)} (h:Has ρ hs) (hg:wpL P ops Q l (jDK ρ hs) w):wpL P ops Q l ρ w:=by rwa [tA h] at hg
end Go.SE
namespace Go.SE
section
variable {P:Program} {ε:Operand→Value} {w w':World} {d:Option Tmp} {ty:TypeId} {pos:String} {aft:Array Edge} {g:Option (Nat×Bool)}
end
end Go.SE
namespace Go.SE
section
variable {P:Program} {ε:Operand→Value} {w w':World} {d:Option Tmp} {ty:TypeId} {pos:String} {aft:Array Edge} {g:Option (Nat×Bool)}
theorem RV.cellAr {ρ:Env} {a:Nat} {A:Addr} {T:TypeId} {vs:Array Value} {k:Nat} (ha:ρ a=.pointer (some A)) (hT:(isAgg T).run P w=.ok true w) (hs:(sizeOf T).run P w=.ok k w) (hc:vs.size=k∧Row w A vs.toList):RV P ρ w (.cell a T) (.agg vs):=by
 have:=RV.cellA (P:=P) ha hT hs (vs:=vs.toList) (by simpa using hc.1) hc.2;simpa using this
end
end Go.SE
end
section
namespace Go.SE
theorem jCC (w:World) (o:Obj) (i:Nat) (h:i<w.heap.size):(w.alloc o).heap[i]?=w.heap[i]?:=by
 show (w.heap.push o)[i]?=w.heap[i]?;rw [Array.getElem?_push,if_neg (Nat.ne_of_lt h)]
structure Ext (F:Nat→Prop) (w w':World):Prop where
 os:w'.os=w.os
 tape:w'.tape=w.tape
 output:w'.output=w.output
 drawn:w.drawn≤w'.drawn
 size:w.heap.size≤w'.heap.size
 keep:∀b,b<w.heap.size→¬ F b→w'.heap[b]?=w.heap[b]?
def None (_:Nat):Prop:=False
abbrev Pure (w w':World):Prop:=Ext None w w'
theorem Ext.refl {F:Nat→Prop} (w:World):Ext F w w:=⟨rfl,rfl,rfl,(by first | exact Nat.le_refl _ | exact Nat.le_succ _),Nat.le_refl _,fun _ _ _=>rfl⟩
theorem Ext.trans' {F G:Nat→Prop} {a b c:World} (h:Ext F a b) (k:Ext G b c) (hG:∀i,i<a.heap.size→G i→F i):Ext F a c :=
 ⟨k.os.trans h.os,k.tape.trans h.tape,k.output.trans h.output,(by first | exact Nat.le_trans h.drawn k.drawn | exact Nat.le_refl _),Nat.le_trans h.size k.size,fun i hi hf=>(k.keep i (Nat.lt_of_lt_of_le hi h.size) (fun hg=>hf (hG i hi hg))).trans (h.keep i hi hf)⟩
theorem Ext.trans {F:Nat→Prop} {a b c:World} (h:Ext F a b) (k:Ext F b c):Ext F a c:=h.trans' k (fun _ _ h=>h)
theorem Ext.mono {F G:Nat→Prop} {a b:World} (h:Ext F a b) (hG:∀i,i<a.heap.size→F i→G i):Ext G a b :=
 ⟨h.os,h.tape,h.output,h.drawn,h.size,fun i hi hf=>h.keep i hi (fun hF=>hf (hG i hi hF))⟩
theorem Ext.pure {F:Nat→Prop} {a b:World} (h:Pure a b):Ext F a b:=h.mono fun _ _ h=>h.elim
theorem Ext.thenPure {F:Nat→Prop} {a b c:World} (h:Ext F a b) (k:Pure b c):Ext F a c:=h.trans k.pure
theorem Ext.below {w w':World} (h:Pure w w'):RowKit.Below w.heap.size w w':=⟨h.os,h.tape,h.output,h.size,fun k hk=>h.keep k hk id⟩
theorem Ext.drew (w:World) {F:Nat→Prop}:Ext F w w.drew:=⟨rfl,rfl,rfl,(by first | exact Nat.le_refl _ | exact Nat.le_succ _),Nat.le_refl _,fun _ _ _=>rfl⟩
theorem uN {w:World} {b:Nat} {o:Obj} (h:w.heap[b]?=some o):b<w.heap.size:=(Array.getElem?_eq_some_iff.1 h).1
theorem Ext.heap {F:Nat→Prop} {w w':World} (h:Ext F w w') {b:Nat} {o:Obj} (hb:w.heap[b]?=some o) (hf:¬ F b):w'.heap[b]?=some o:=by
 rw [h.keep b (uN hb) hf];exact hb
theorem Ext.cell {F:Nat→Prop} {w w':World} (h:Ext F w w') {a:Addr} {v:Value} (ha:w.cell? a=some v) (hf:¬ F a.block):w'.cell? a=some v:=by
 have hlt:a.block<w.heap.size:=World.block_lt_of_cell? w a ha;unfold World.cell? at *;rw [h.keep _ hlt hf];exact ha
theorem Ext.row {F:Nat→Prop} {w w':World} (h:Ext F w w') {a:Addr} {vs:List Value} (ha:Row w a vs) (hf:¬ F a.block):Row w' a vs:=by
 intro i hi;have:=ha i hi;rw [List.getElem?_eq_getElem hi] at this ⊢;refine h.cell this ?_;have:(a.add i).block=a.block:=by unfold Addr.add;split <;> rfl
 rw [this];exact hf
theorem Ext.new {F:Nat→Prop} {w w':World} {o:Obj} {p:Addr} (h:New w o p w'):Ext F w w':=by
 obtain ⟨_,rfl⟩:=h;exact ⟨rfl,rfl,rfl,(by first | exact Nat.le_refl _ | exact Nat.le_succ _),by simp,fun b hb _=>jCC w o b hb⟩
theorem Ext.setCell {w:World} (a:Addr) (v:Value):Ext (·=a.block) w (w.setCell a v) :=
 ⟨rfl,rfl,rfl,(by first | exact Nat.le_refl _ | exact Nat.le_succ _),by simp [World.setCell],fun b _ hf=>heap_setCell_other w a b v hf⟩
theorem zW (a:Addr) (i:Nat):(a.add i).block=a.block:=by unfold Addr.add;split <;> rfl
theorem Ext.storeRowFrom (a:Addr):∀(vs:List Value) (i:Nat) (w:World),Ext (·=a.block) w (storeRowFrom w a i vs)
 | [],_,w=>Ext.refl w
 | v :: vs,i,w=>by
  have h1:Ext (·=a.block) w (w.setCell (a.add i) v):=(Ext.setCell (a.add i) v).mono (fun _ _ h=>by rw [zW] at h;exact h);exact h1.trans (Ext.storeRowFrom a vs (i+1) _)
theorem Ext.storeRow (w:World) (a:Addr) (vs:List Value):Ext (·=a.block) w (SE.storeRow w a vs):=Ext.storeRowFrom a vs 0 w
structure Box (w:World) (p:Addr) (c:List Value) (T:TypeId):Prop where
 addr:p=⟨p.block,0,none⟩
 blk:w.heap[p.block]?=some (.cells c.toArray T (0,0))
theorem Box.of_new {w w':World} {c:List Value} {T:TypeId} {p:Addr} (h:New w (.cells c.toArray T) p w'):Box w' p c T:=by
 obtain ⟨rfl,rfl⟩:=h;exact ⟨rfl,heap_alloc_new w _⟩
theorem New.at_size {w w':World} {o:Obj} {p:Addr} (h:New w o p w'):p.block=w.heap.size:=by rw [h.at_]
theorem New.block_new {w w':World} {o:Obj} {p:Addr} (h:New w o p w'):w'.heap[p.block]?=some o:=by
 obtain ⟨rfl,rfl⟩:=h;exact heap_alloc_new w _
theorem New.ne {w w':World} {o o':Obj} {p:Addr} (h:New w o p w') {b:Nat} (hb:w.heap[b]?=some o'):b≠p.block:=by
 rw [h.at_size];exact Nat.ne_of_lt (uN hb)
theorem Box.lt {w:World} {p:Addr} {c:List Value} {T:TypeId} (h:Box w p c T):p.block<w.heap.size:=uN h.blk
theorem Box.ext {F:Nat→Prop} {w w':World} {p:Addr} {c:List Value} {T:TypeId} (h:Box w p c T) (hE:Ext F w w') (hf:¬ F p.block):Box w' p c T:=⟨h.addr,hE.heap h.blk hf⟩
theorem Box.pure {w w':World} {p:Addr} {c:List Value} {T:TypeId} (h:Box w p c T) (hE:Pure w w'):Box w' p c T:=h.ext hE id
theorem Box.add {w:World} {p:Addr} {c:List Value} {T:TypeId} (h:Box w p c T) (i:Nat):p.add i=⟨p.block,i,none⟩:=by
 rw [h.addr];unfold Addr.add;split <;> simp_all
theorem Box.cell {w:World} {p:Addr} {c:List Value} {T:TypeId} (h:Box w p c T) {i:Nat} {v:Value} (hv:c[i]?=some v):w.cell? (p.add i)=some v:=by
 rw [h.add,cell_of_row w _ _ _ _ _ h.blk];simpa using hv
theorem Box.cell0 {w:World} {p:Addr} {v:Value} {c:List Value} {T:TypeId} (h:Box w p (v :: c) T):w.cell? p=some v:=by
 have:=h.cell (i:=0) (v:=v) rfl;simpa [Addr.add] using this
theorem Box.row {w:World} {p:Addr} {c:List Value} {T:TypeId} (h:Box w p c T):Row w p c:=fun i hi=>by
 rw [List.getElem?_eq_getElem hi];exact h.cell (List.getElem?_eq_getElem hi)
theorem Box.canW {w:World} {p:Addr} {c:List Value} {T:TypeId} (h:Box w p c T) {i:Nat} (hi:i<c.length):vF w (p.add i) :=
 ⟨⟨c[i],h.cell (List.getElem?_eq_getElem hi)⟩,by rw [h.add];exact frozen_of_row w _ _ _ _ h.blk⟩
theorem Box.canW0 {w:World} {p:Addr} {c:List Value} {T:TypeId} (h:Box w p c T) (hi:0<c.length):vF w p:=by
 have:=h.canW hi;simpa [Addr.add] using this
theorem Box.canWs {w:World} {p:Addr} {c:List Value} {T:TypeId} (h:Box w p c T) {n:Nat} (hn:n≤c.length):∀j,j<n→vF w (p.add j):=fun _ hj=>h.canW (by omega)
theorem Box.set {w:World} {p:Addr} {c:List Value} {T:TypeId} (h:Box w p c T) (i:Nat) (v:Value):Box (w.setCell (p.add i) v) p (c.set i v) T:=by
 refine ⟨h.addr,?_⟩;rw [h.add];have:=heap_setCell_same w p.block i c.toArray T v h.blk;rw [this];simp
theorem Box.set0 {w:World} {p:Addr} {u v:Value} {c:List Value} {T:TypeId} (h:Box w p (u :: c) T):Box (w.setCell p v) p (v :: c) T:=by
 have:=h.set 0 v;simpa [Addr.add] using this
theorem Box.storeFrom {p:Addr} {T:TypeId}:∀(vs:List Value) (i:Nat) (w:World) (c:List Value),Box w p c T→i+vs.length=c.length→Box (storeRowFrom w p i vs) p (c.take i++vs) T
 | [],i,w,c,h,hl=>by
  have:c.take i=c:=List.take_of_length_le (by simp at hl;omega);simpa [storeRowFrom,this] using h
 | v :: vs,i,w,c,h,hl=>by
  simp only [List.length_cons] at hl;have:=Box.storeFrom vs (i+1) _ _ (h.set i v) (by simp;omega);simp only [storeRowFrom];have e:(c.set i v).take (i+1)++vs=c.take i++v :: vs:=by
   rw [List.take_succ_eq_append_getElem (by simp;omega),List.take_set_of_le (Nat.le_refl i)];simp
  rwa [e] at this
theorem Box.store {w:World} {p:Addr} {c vs:List Value} {T:TypeId} (h:Box w p c T) (hl:vs.length=c.length):Box (storeRow w p vs) p vs T:=by
 have:=Box.storeFrom vs 0 w c h (by omega);simpa [storeRow] using this
theorem Br.of {c:Bool} {A B:Prop} (h1:c=true→A) (h2:c=false→B):Br c A B:=⟨h1,h2⟩
theorem Br.t {c:Bool} {A B:Prop} (hc:c=true) (h:A):Br c A B:=⟨fun _=>h,fun e=>(by rw [hc] at e;cases e)⟩
theorem Br.f {c:Bool} {A B:Prop} (hc:c=false) (h:B):Br c A B:=⟨fun e=>(by rw [hc] at e;cases e),fun _=>h⟩
end Go.SE
namespace Go.SE
theorem bx (n:Nat) {w:World} {p:Addr} {c vs:List Value} {T:TypeId} (h:Box w p c T) (hn:c.length=n) (hl:vs.length=n) {A:World→Prop} (k:∀w',Box w' p vs T→Ext (·=p.block) w w'→A w'):(∀j,j<n→vF w (p.add j))∧∀w',w'=storeRow w p vs→A w' :=
 ⟨h.canWs (by omega),fun w' e=>by subst e;exact k _ (h.store (by omega)) (Ext.storeRow _ _ _)⟩
theorem Ext.own {w0 w w':World} {p:Addr} (h:Pure w0 w) (hp:w0.heap.size≤p.block) (k:Ext (·=p.block) w w'):Pure w0 w' :=
 h.trans' k (fun i hi e=>by subst e;exact absurd hi (by omega))
theorem New.own {w0 w w':World} {o:Obj} {p:Addr} (h:Pure w0 w) (hn:New w o p w'):w0.heap.size≤p.block:=by rw [hn.at_size];exact h.size
end Go.SE
namespace Go.SE
theorem Box.of_newA {w w':World} {c:Array Value} {T:TypeId} {p:Addr} (h:New w (.cells c T) p w'):Box w' p c.toList T:=by
 obtain ⟨rfl,rfl⟩:=h;exact ⟨rfl,by simpa using heap_alloc_new w (.cells c T)⟩
theorem Box.row_eq {w:World} {p:Addr} {c vs:List Value} {T:TypeId} (h:Box w p c T) (e:c=vs):Row w p vs:=e▸h.row
end Go.SE
end
section
namespace Go.SE
structure Rws (w:World) (e:TypeId) (sz:Nat) (s:Sl) (rs:List (List Value)):Prop where
 each:∀r∈rs,r.length=sz
 len:s.len=rs.length
 own:(s=Sl.nil∧rs=[])∨∃g cur,s.a=some ⟨g,0,none⟩∧w.heap[g]?=some (.cells cur e (0,0))∧rs.length≤s.cap∧s.cap≤maxLen∧cur.size=s.cap*sz∧cur.toList.take (rs.length*sz)=rs.flatten
def Sl.blk (s:Sl) (b:Nat):Prop:=∃a,s.a=some a∧a.block=b
theorem Rws.nil (w:World) (e:TypeId) (sz:Nat):Rws w e sz Sl.nil []:=⟨by simp,rfl,.inl ⟨rfl,rfl⟩⟩
theorem vX {rs:List (List Value)} {sz:Nat} (h:∀r∈rs,r.length=sz):rs.flatten.length=rs.length*sz:=by
 induction rs with
 | nil=>simp
 | cons r rs ih =>
  have h1:=h r (by simp)
  have h2:=ih (fun r hr=>h r (by simp [hr]))
  simp only [List.flatten_cons,List.length_append,h1,h2,List.length_cons,Nat.add_mul,Nat.one_mul]
  omega
theorem jAR {rs:List (List Value)} {sz:Nat} (h:∀r∈rs,r.length=sz) {i:Nat} (hi:i<rs.length) {j:Nat} (hj:j<sz):rs.flatten[i*sz+j]?=rs[i][j]?:=by
 induction rs generalizing i with
 | nil=>simp at hi
 | cons r rs ih =>
  have h1:=h r (by simp)
  cases i with
  | zero=>simp [List.getElem?_append_left (show j<r.length by omega)]
  | succ i =>
   simp only [List.flatten_cons,List.getElem_cons_succ]
   rw [List.getElem?_append_right (by rw [h1,Nat.succ_mul];omega)]
   have:=ih (fun r hr=>h r (by simp [hr])) (i:=i) (by simpa using hi)
   rw [← this]
   congr 1
   rw [h1,Nat.succ_mul];omega
theorem Rws.ext {F:Nat→Prop} {w w':World} {e:TypeId} {sz:Nat} {s:Sl} {rs:List (List Value)} (h:Rws w e sz s rs) (hE:Ext F w w') (hf:∀b,s.blk b→¬ F b):Rws w' e sz s rs:=by
 refine ⟨h.each,h.len,?_⟩;rcases h.own with h' | ⟨g,cur,ha,hg,r⟩
 ·exact .inl h'
 ·exact .inr ⟨g,cur,ha,hE.heap hg (hf g ⟨_,ha,rfl⟩),r⟩
theorem Rws.pure {w w':World} {e:TypeId} {sz:Nat} {s:Sl} {rs:List (List Value)} (h:Rws w e sz s rs) (hE:Pure w w'):Rws w' e sz s rs:=h.ext hE (fun _ _ h=>h)
theorem Rws.lt {w:World} {e:TypeId} {sz:Nat} {s:Sl} {rs:List (List Value)} (h:Rws w e sz s rs) {b:Nat} (hb:s.blk b):b<w.heap.size:=by
 rcases h.own with ⟨rfl,_⟩ | ⟨g,cur,ha,hg,_⟩
 ·obtain ⟨a,ha,_⟩:=hb;cases ha
 ·obtain ⟨a,ha',rfl⟩:=hb;rw [ha] at ha';cases ha';exact uN hg
theorem Rws.at {w:World} {e:TypeId} {sz:Nat} {s:Sl} {rs:List (List Value)} (h:Rws w e sz s rs) {i:Int} (h0:0≤i) (hi:i.toNat<rs.length):∃a,At s i sz a∧Row w a rs[i.toNat]∧s.blk a.block:=by
 rcases h.own with ⟨_,rfl⟩ | ⟨g,cur,ha,hg,hc,_,hs,ht⟩
 ·simp at hi
 ·refine ⟨(⟨g,0,none⟩:Addr).add (i.toNat*sz),⟨h0,by rw [h.len];omega,⟨_,ha,rfl⟩⟩,?_,⟨_,ha,by rw [zW]⟩⟩;intro j hj;have hsz:=h.each _ (List.getElem_mem hi);have hadd:((⟨g,0,none⟩:Addr).add (i.toNat*sz)).add j=⟨g,i.toNat*sz+j,none⟩:=by
   unfold Addr.add;split <;> split <;> simp_all
  rw [hadd,cell_of_row w g _ cur e (0,0) hg,← jAR h.each hi (by omega),← ht,List.getElem?_take];have hlt:i.toNat*sz+j<rs.length*sz:=by
   have:(i.toNat+1)*sz≤rs.length*sz:=Nat.mul_le_mul_right _ hi;rw [Nat.succ_mul] at this;omega
  rw [if_pos hlt];simp
theorem jKW {v:Value} (h:qE v=true):v.oneCell'=true:=by cases v <;> simp_all [qE,Value.oneCell']
structure SlType (P:Program) (t e:TypeId) (sz bytes:Nat):Prop where
 ht:P.underlying t=some (.slice e)
 hi:∃i z,P.info? e=some i∧i.zero=some z∧i.size=sz∧i.bytes=bytes∧z.cells.size=sz
 pos:0<sz
theorem jIT {w:World} {p:Addr} {r:List Value} (hr:Row w p r):∀j u,r[j]?=some u→w.cell? (p.add j)=some u:=fun j u hu=>by
 rw [hr j (List.getElem?_eq_some_iff.1 hu).1,hu]
theorem Rws.grown {w:World} {e:TypeId} {sz:Nat} {rs:List (List Value)} (heach:∀q∈rs,q.length=sz) {cur:Array Value} {z:Value} (hz:z.cells.size=sz) (hcur:cur.toList=rs.flatten) {cap:Nat} (hc:rs.length≤cap) (hm:cap≤maxLen) :
  Rws (w.drew.alloc (.cells (cur++Builtin.zeroCells z.cells (cap - rs.length)) e)) e sz ⟨some ⟨w.heap.size,0,none⟩,rs.length,cap⟩ rs:=by
 refine ⟨heach,rfl,.inr ⟨w.heap.size,_,rfl,heap_alloc_new w.drew _,hc,hm,?_,?_⟩⟩
 ·have:cur.size=rs.length*sz:=by rw [← Array.length_toList,hcur,vX heach]
  rw [Array.size_append,size_zeroCells,hz,this,← Nat.add_mul]
  congr 1
  show rs.length+(cap - rs.length)=cap
  omega
 ·rw [Array.toList_append,hcur]
  have:=vX heach
  rw [← this]
  exact List.take_left
theorem Rws.appends {P:Program} {w:World} {t ty e:TypeId} {sz bytes:Nat} (T:SlType P t e sz bytes) {s:Sl} {rs qs:List (List Value)} (h:Rws w e sz s rs) {p:Addr} {c:Nat} (hr:Row w p qs.flatten) (hl:∀q∈qs,q.length=sz) (h1:∀q∈qs,q.all qE=true) (hq:qs≠[]) (hb:(rs.length+qs.length)*bytes≤140737488355328) (hm:rs.length+qs.length≤maxLen) :
  ∃s' w',(Builtin.append_ #[t,t] ty #[s.v,(Sl.mk (some p) qs.length c).v]).run P w=.ok s'.v w'∧Rws w' e sz s' (rs++qs)∧Ext s.blk w w'∧(∀b,s'.blk b→s.blk b∨w.heap.size≤b):=by
 obtain ⟨i,z,hi,hz,hsz,hby,hzs⟩:=T.hi
 subst hsz;subst hby
 have h1':∀u∈qs.flatten,u.oneCell'=true:=fun u hu=>by
  obtain ⟨q,hq,hu⟩:=List.mem_flatten.1 hu;exact jKW (List.all_eq_true.1 (h1 q hq) u hu)
 have hml:rs.length+qs.length≤9223372036854775807:=by simp only [maxLen] at hm;omega
 have hlq:=vX hl
 have hpos:0<qs.length:=List.length_pos_iff.2 hq
 have heach:∀q∈rs++qs,q.length=i.size:=fun q hq=>(List.mem_append.1 hq).elim (h.each q) (hl q)
 have hfl:=vX h.each
 rcases h.own with ⟨rfl,rfl⟩ | ⟨g,cur,ha,hg,hcap,hcm,hcs,htake⟩
 ·simp only [List.length_nil,Nat.zero_add] at hb hml hm
  have hrun:=run_append_nil (P:=P) w t ty e i z T.ht hi hz p qs.length c qs.flatten hlq (jIT hr) hpos (by omega) (by omega)
  have hg:=Rws.grown (w:=w) (e:=e) (rs:=qs) hl (cur:=qs.flatten.toArray) hzs (by simp) (grownCap_ge w qs.length 0 e) (grownCap_le_maxLen w _ 0 e hm)
  refine ⟨⟨some ⟨w.heap.size,0,none⟩,qs.length,grownCap w qs.length 0 e⟩,(w.drew.alloc (.cells (qs.flatten.toArray++Builtin.zeroCells z.cells (grownCap w qs.length 0 e - qs.length)) e)),hrun,?_,?_,?_⟩
  ·simpa using hg
  ·exact ⟨rfl,rfl,rfl,(by first | exact Nat.le_refl _ | exact Nat.le_succ _),by simp,fun b hb _=>jCC w.drew _ b hb⟩
  ·intro b hb;obtain ⟨a,ha,rfl⟩:=hb;cases ha;right;exact Nat.le_refl _
 ·have hs':s.v=.slice (some ⟨g,0,none⟩) rs.length s.cap:=by unfold Sl.v;rw [ha,h.len]
  by_cases hroom:rs.length+qs.length≤s.cap
  ·have hfit:rs.length*i.size+qs.flatten.length≤cur.size:=by rw [hlq,hcs,← Nat.add_mul];exact Nat.mul_le_mul_right _ hroom
   have hrun:=run_append_room (P:=P) w t ty e i T.ht hi g rs.length s.cap cur hg p qs.length c qs.flatten hlq (jIT hr) h1' hroom hfit
   refine ⟨⟨some ⟨g,0,none⟩,rs.length+qs.length,s.cap⟩,_,by rw [hs'];exact hrun,⟨heach,by simp,.inr ⟨g,_,rfl,setRow_heap w g cur _ e _ hg,by simpa using hroom,hcm,?_,?_⟩⟩,⟨rfl,rfl,rfl,(by first | exact Nat.le_refl _ | exact Nat.le_succ _),by simp,fun b hb hf=>setRow_other w g b _ (fun e=>hf ⟨_,ha,e.symm⟩)⟩,fun b hb=>by obtain ⟨a,ha',rfl⟩:=hb;cases ha';exact .inl ⟨_,ha,rfl⟩⟩
   ·simp only [List.size_toArray,List.length_append,List.length_take,List.length_drop,Array.length_toList]
    omega
   ·rw [htake,List.flatten_append,List.length_append,Nat.add_mul,← hfl,← hlq,← List.length_append]
    exact List.take_left
  ·have holds : ∀ j u, rs.flatten[j]? = some u → w.cell? ((⟨g, 0, none⟩ : Addr).add j) = some u := fun j u hu => by
    have hadd:(⟨g,0,none⟩:Addr).add j=⟨g,j,none⟩:=by unfold Addr.add;split <;> simp_all
    rw [hadd,cell_of_row w g j cur e (0,0) hg];rw [← htake,List.getElem?_take] at hu;split at hu
    ·simpa using hu
    ·cases hu
   have hrun:=run_append_grow (P:=P) w t ty e i z T.ht hi hz ⟨g,0,none⟩ rs.length s.cap rs.flatten hfl holds p qs.length c qs.flatten hlq (jIT hr) (by omega) (by omega) (growslice_fits (by omega) hb)
   have hgr:=Rws.grown (w:=w) (e:=e) (rs:=rs++qs) heach (cur:=rs.flatten.toArray++qs.flatten.toArray) hzs (by simp) (cap:=grownCap w (rs.length+qs.length) s.cap e) (by simpa using grownCap_ge w (rs.length+qs.length) s.cap e) (grownCap_le_maxLen w _ _ e hm)
   refine ⟨⟨some ⟨w.heap.size,0,none⟩,rs.length+qs.length,grownCap w (rs.length+qs.length) s.cap e⟩,(w.drew.alloc (.cells (rs.flatten.toArray++qs.flatten.toArray++Builtin.zeroCells z.cells (grownCap w (rs.length+qs.length) s.cap e - (rs.length+qs.length))) e)),?_,?_,?_,?_⟩
   ·rw [hs'];exact hrun
   ·simpa using hgr
   ·exact ⟨rfl,rfl,rfl,(by first | exact Nat.le_refl _ | exact Nat.le_succ _),by simp,fun b hb _=>jCC w.drew _ b hb⟩
   ·intro b hb;obtain ⟨a,ha,rfl⟩:=hb;cases ha;right;exact Nat.le_refl _
theorem Rws.append {P:Program} {w:World} {t ty e:TypeId} {sz bytes:Nat} (T:SlType P t e sz bytes) {s:Sl} {rs:List (List Value)} (h:Rws w e sz s rs) {p:Addr} {c:Nat} {r:List Value} (hr:Row w p r) (hl:r.length=sz) (h1:r.all qE=true) (hb:(rs.length+1)*bytes≤140737488355328) (hm:rs.length+1≤maxLen) :
  ∃s' w',(Builtin.append_ #[t,t] ty #[s.v,(Sl.mk (some p) 1 c).v]).run P w=.ok s'.v w'∧Rws w' e sz s' (rs++[r])∧Ext s.blk w w'∧(∀b,s'.blk b→s.blk b∨w.heap.size≤b) :=
 Rws.appends T h (qs:=[r]) (by simpa using hr) (by simpa using hl) (by simpa using h1) (by simp) hb hm
end Go.SE
end
section
namespace Go.SE
open Go.Instr
def jQK (k:Value) (es:List MapEntry) (r:Option (Nat×Value)):Prop :=
 (r=.none∧∀e∈es,e.key≠k)∨∃i e,es[i]?=some e∧e.key=k∧r=some (i,e.val)
structure KeyOK (P:Program) (K:TypeId) (S:Value→Prop):Prop where
 check:∀k,S k→∀em w,(checkKey em 10000 K k).run P w=.ok () w
 find:∀k (es:List MapEntry) w,S k→(∀e∈es,S e.key)→∃r,(findKey K k es).run P w=.ok r w∧jQK k es r
 bits:∀k,S k→sameBits 10000 k k=true
structure CMap (w:World) (m:Nat) (es:List (Value×Value)):Prop where
 ex:∃arr clock,w.heap[m]?=some (.map arr clock)∧arr.toList.map (fun e=>(e.key,e.val))=es∧arr.toList.Pairwise (fun a b=>a.born<b.born)∧∀e∈arr.toList,e.born<clock
theorem CMap.ext {F:Nat→Prop} {w w':World} {m:Nat} {es:List (Value×Value)} (h:CMap w m es) (hE:Ext F w w') (hf:¬ F m):CMap w' m es:=by
 obtain ⟨arr,clock,hm,r⟩:=h.ex;exact ⟨arr,clock,hE.heap hm hf,r⟩
theorem CMap.lt {w:World} {m:Nat} {es:List (Value×Value)} (h:CMap w m es):m<w.heap.size:=by
 obtain ⟨arr,clock,hm,r⟩:=h.ex;exact uN hm
theorem CMap.of_new {w w':World} {p:Addr} (h:New w (.map #[] 0) p w'):CMap w' p.block []:=⟨#[],0,h.block_new,rfl,by simp,by simp⟩
theorem tO {P:Program} {K:TypeId} {k:Value} {w:World}:∀(es:List MapEntry) (i:Nat),(∀e∈es,∃b,(Op.equal K k e.key).run P w=.ok b w∧(b=true↔e.key=k)) →
  ∃r,(findAsking K k es i).run P w=.ok r w∧((r=.none∧∀e∈es,e.key≠k)∨∃j e,es[j]?=some e∧e.key=k∧r=some (i+j,e.val))
 | [],i,_=>⟨.none,rfl,.inl ⟨rfl,by simp⟩⟩
 | e :: es,i,h=>by
  obtain ⟨b,hb,hbk⟩:=h e (by simp);cases b with
  | true =>
   refine ⟨some (i,e.val),?_,.inr ⟨0,e,rfl,hbk.1 rfl,rfl⟩⟩
   simp [findAsking,hb]
  | false =>
   obtain ⟨r,hr,hf⟩:=tO es (i+1) (fun e he=>h e (by simp [he]))
   refine ⟨r,?_,?_⟩
   ·simp [findAsking,hb,hr]
   ·rcases hf with ⟨h1,h2⟩ | ⟨j,e',h1,h2,h3⟩
    ·left
     refine ⟨h1,fun e' he'=>?_⟩
     rcases List.mem_cons.1 he' with rfl | he'
     ·intro hk;have:=hbk.2 hk;cases this
     ·exact h2 e' he'
    ·exact .inr ⟨j+1,e',by simpa using h1,h2,by rw [h3,Nat.add_assoc,Nat.add_comm 1 j]⟩
theorem jEL {fs:Array Field} {k:Value}:∀(es:List MapEntry) (i:Nat),es≠[]→findNow (.struct fs) k es i=.none
 | [],_,h=>absurd rfl h
 | e :: es,i,_=>by simp [findNow,sameNow]
theorem KeyOK.of_struct {P:Program} {K:TypeId} {S:Value→Prop} {fs:Array Field} (hK:P.underlying K=some (.struct fs)) (hc:∀k,S k→∀em w,(checkKey em 10000 K k).run P w=.ok () w)
  (he:∀k k' w,S k→S k'→∃b,(Op.equal K k k').run P w=.ok b w∧(b=true↔k'=k)) (hb:∀k,S k→sameBits 10000 k k=true):KeyOK P K S:=by
 refine ⟨hc,fun k es w hk hes=>?_,hb⟩
 unfold findKey
 simp only [Sem.run_bind,run_underlying hK,Result.andThen_ok]
 by_cases h0:es=[]
 ·subst h0;exact ⟨.none,by simp [findNow],.inl ⟨rfl,by simp⟩⟩
 ·rw [jEL es 0 h0]
  obtain ⟨r,hr,hf⟩:=tO (P:=P) (K:=K) (k:=k) (w:=w) es 0 (fun e he'=>he k e.key w hk (hes e he'))
  exact ⟨r,hr,by simpa [jQK] using hf⟩
theorem jEG {q:IntKind} {k:Int}:∀(es:List MapEntry) (i:Nat),(∀e∈es,∃n,e.key=.int q n)→∃r,findNow (.int q) (.int q k) es i=some r∧((r=.none∧∀e∈es,e.key≠.int q k)∨∃j e,es[j]?=some e∧e.key=.int q k∧r=some (i+j,e.val))
 | [],i,_=>⟨.none,rfl,.inl ⟨rfl,by simp⟩⟩
 | e :: es,i,h=>by
  obtain ⟨n,hn⟩:=h e (by simp);by_cases hk:k=n
  ·subst hk;exact ⟨some (i,e.val),by simp [findNow,sameNow,hn],.inr ⟨0,e,rfl,hn,rfl⟩⟩
  ·obtain ⟨r,hr,hf⟩:=jEG (q:=q) (k:=k) es (i+1) (fun e he=>h e (by simp [he]));have hkn:(k == n)=false:=by simpa using hk
   refine ⟨r,by simp [findNow,sameNow,hn,hkn,hr],?_⟩;rcases hf with ⟨h1,h2⟩ | ⟨j,e',h1,h2,h3⟩
   ·left;refine ⟨h1,fun e' he'=>?_⟩;rcases List.mem_cons.1 he' with rfl | he'
    ·rw [hn];intro h;cases h;exact hk rfl
    ·exact h2 e' he'
   ·exact .inr ⟨j+1,e',by simpa using h1,h2,by rw [h3,Nat.add_assoc,Nat.add_comm 1 j]⟩
theorem jHQ {P:Program} {K:TypeId} {q:IntKind} (hK:P.underlying K=some (.int q)) (n:Int) (em:Bool) (w:World) (d:Nat):(checkKey em (d+1) K (.int q n)).run P w=.ok () w:=by
 simp [checkKey,run_underlying hK]
theorem jGW (q:IntKind) (n:Int) (d:Nat):sameBits d (.int q n) (.int q n)=true:=by
 cases d <;> simp [sameBits]
theorem KeyOK.of_int {P:Program} {K:TypeId} {q:IntKind} (hK:P.underlying K=some (.int q)):KeyOK P K (fun k=>∃n,k=.int q n):=by
 refine ⟨?_,?_,?_⟩
 ·rintro _ ⟨n,rfl⟩ em w;exact jHQ hK n em w 9999
 ·rintro _ es w ⟨n,rfl⟩ hes;obtain ⟨r,hr,hf⟩:=jEG (q:=q) (k:=n) es 0 hes;exact ⟨r,by simp [findKey,run_underlying hK,hr],by simpa [jQK] using hf⟩
 ·rintro _ ⟨n,rfl⟩;exact jGW q n 10000
section
variable {P:Program} {T K E:TypeId} {S:Value→Prop} {w:World} {m:Nat} {es:List (Value×Value)}
theorem CMap.lookup (h:CMap w m es) (hT:P.underlying T=some (.map K E)) (hK:KeyOK P K S) (hS:∀p∈es,S p.1) {k z:Value} (hk:S k) (hz:(zeroValue E).run P w=.ok z w) (ok:Bool) :
  ((∀p∈es,p.1≠k)∧(Instr.lookup T (.map (some m)) k ok).run P w=.ok (if ok then .tuple #[z,.bool false] else z) w) ∨
  ∃(i:Nat) (v:Value),es[i]?=some (k,v)∧(Instr.lookup T (.map (some m)) k ok).run P w=.ok (if ok then .tuple #[v,.bool true] else v) w:=by
 obtain ⟨arr,clock,hm,rfl,_,_⟩:=h.ex
 obtain ⟨r,hr,hf⟩:=hK.find k arr.toList w hk (fun e he=>hS _ (List.mem_map.2 ⟨e,he,rfl⟩))
 have hc:=hK.check k hk arr.isEmpty w
 have hg:(getObj m).run P w=.ok (.map arr clock) w:=by simp [getObj,Sem.run,hm]
 rcases hf with ⟨rfl,hn⟩ | ⟨i,e,hi,rfl,rfl⟩
 ·left
  refine ⟨fun p hp=>?_,?_⟩
  ·obtain ⟨e,he,rfl⟩:=List.mem_map.1 hp;exact hn e he
  ·cases ok <;> simp [Instr.lookup,run_underlying hT,hg,hc,hr,hz]
 ·right
  refine ⟨i,e.val,by simp [hi],?_⟩
  cases ok <;> simp [Instr.lookup,run_underlying hT,hg,hc,hr]
theorem CMap.insert (h:CMap w m es) (hT:P.underlying T=some (.map K E)) (hK:KeyOK P K S) (hS:∀p∈es,S p.1) {k v:Value} (hk:S k) (hn:∀p∈es,p.1≠k) :
  ∃w',(Instr.mapUpdate T (.map (some m)) k v).run P w=.ok () w'∧CMap w' m (es++[(k,v)])∧Ext (·=m) w w':=by
 obtain ⟨arr,clock,hm,rfl,hp,hb⟩:=h.ex
 obtain ⟨r,hr,hf⟩:=hK.find k arr.toList w hk (fun e he=>hS _ (List.mem_map.2 ⟨e,he,rfl⟩))
 have hc:=hK.check k hk false w
 have hg:(getObj m).run P w=.ok (.map arr clock) w:=by simp [getObj,Sem.run,hm]
 have hlt:=uN hm
 rcases hf with ⟨rfl,_⟩ | ⟨i,e,hi,rfl,rfl⟩
 ·refine ⟨{ w with heap:=w.heap.setIfInBounds m (.map (arr.push { key:=k,val:=v,born:=clock }) (clock+1)) },?_,⟨arr.push { key:=k,val:=v,born:=clock },clock+1,by simp [hlt],by simp,?_,?_⟩,⟨rfl,rfl,rfl,(by first | exact Nat.le_refl _ | exact Nat.le_succ _),by simp,fun b _ hf=>by simp [Array.getElem?_setIfInBounds_ne (Ne.symm hf)]⟩⟩
  ·simp [Instr.mapUpdate,run_underlying hT,hg,hc,hr,setObj,Sem.run,hm]
  ·simp only [Array.toList_push,List.pairwise_append,List.pairwise_cons,List.mem_singleton]
   exact ⟨hp,⟨by simp,List.Pairwise.nil⟩,fun a ha b hb'=>by subst hb';exact hb a ha⟩
  ·intro e he
   simp only [Array.toList_push,List.mem_append,List.mem_singleton] at he
   rcases he with he | rfl
   ·have:=hb e he;omega
   ·simp
 ·exact absurd rfl (hn _ (List.mem_map.2 ⟨e,List.mem_of_getElem? hi,rfl⟩))
theorem jBK {α β:Type} (f:α→β):∀(l:List α) (i:Nat),(l.eraseIdx i).map f=(l.map f).eraseIdx i
 | [],i=>by simp
 | a :: l,0=>by simp
 | a :: l,i+1=>by simp [jBK f l i]
theorem CMap.delete (h:CMap w m es) (hT:P.underlying T=some (.map K E)) (hK:KeyOK P K S) (hS:∀p∈es,S p.1) {k v:Value} (hk:S k) {i:Nat} (hi:es[i]?=some (k,v)) (hu:∀j u,es[j]?=some (k,u)→j=i) {Q:TypeId} {z:TypeId} :
  ∃w',(Builtin.delete_ #[T,Q] z #[.map (some m),k]).run P w=.ok (.tuple #[]) w'∧CMap w' m (es.eraseIdx i)∧Ext (·=m) w w':=by
 obtain ⟨arr,clock,hm,rfl,hp,hb⟩:=h.ex
 obtain ⟨r,hr,hf⟩:=hK.find k arr.toList w hk (fun e he=>hS _ (List.mem_map.2 ⟨e,he,rfl⟩))
 have hc:=hK.check k hk arr.isEmpty w
 have hg:(getObj m).run P w=.ok (.map arr clock) w:=by simp [getObj,Sem.run,hm]
 have hlt:=uN hm
 rcases hf with ⟨rfl,hn⟩ | ⟨j,e,hj,rfl,rfl⟩
 ·have:=List.mem_of_getElem? hi
  obtain ⟨e,he,h2⟩:=List.mem_map.1 this
  exact absurd (congrArg Prod.fst h2) (hn e he)
 ·have hji:j=i:=hu j e.val (by simp [hj])
  subst hji
  have hja:j<arr.size:=by
   have:=List.getElem?_eq_some_iff.1 hj;obtain ⟨h,_⟩:=this;simpa using h
  have hl:(arr.eraseIdxIfInBounds j).toList=arr.toList.eraseIdx j:=by
   simp [Array.eraseIdxIfInBounds,hja,Array.toList_eraseIdx]
  refine ⟨{ w with heap:=w.heap.setIfInBounds m (.map (arr.eraseIdxIfInBounds j) clock) },?_,⟨arr.eraseIdxIfInBounds j,clock,by simp [hlt],?_,?_,?_⟩,⟨rfl,rfl,rfl,(by first | exact Nat.le_refl _ | exact Nat.le_succ _),by simp,fun b _ hf=>by simp [Array.getElem?_setIfInBounds_ne (Ne.symm hf)]⟩⟩
  ·simp [Builtin.delete_,run_underlying hT,hg,hc,hr,setObj,Sem.run,hm]
  ·rw [hl];exact jBK _ _ _
  ·rw [hl];exact hp.sublist (List.eraseIdx_sublist _ _)
  ·rw [hl];intro e he;exact hb e ((List.eraseIdx_sublist _ _).subset he)
theorem CMap.update (h:CMap w m es) (hT:P.underlying T=some (.map K E)) (hK:KeyOK P K S) (hS:∀p∈es,S p.1) {k v v':Value} (hk:S k) {i:Nat} (hi:es[i]?=some (k,v)) (hu:∀j u,es[j]?=some (k,u)→j=i) :
  ∃w',(Instr.mapUpdate T (.map (some m)) k v').run P w=.ok () w'∧CMap w' m (es.set i (k,v'))∧Ext (·=m) w w':=by
 obtain ⟨arr,clock,hm,rfl,hp,hb⟩:=h.ex
 obtain ⟨r,hr,hf⟩:=hK.find k arr.toList w hk (fun e he=>hS _ (List.mem_map.2 ⟨e,he,rfl⟩))
 have hc:=hK.check k hk false w
 have hg:(getObj m).run P w=.ok (.map arr clock) w:=by simp [getObj,Sem.run,hm]
 have hlt:=uN hm
 rcases hf with ⟨rfl,hn⟩ | ⟨j,e,hj,hek,rfl⟩
 ·have:=List.mem_of_getElem? hi
  obtain ⟨e,he,h2⟩:=List.mem_map.1 this
  exact absurd (congrArg Prod.fst h2) (hn e he)
 ·have hji:j=i:=hu j e.val (by simp [hj,hek])
  subst hji
  obtain ⟨hja,hje⟩:=List.getElem?_eq_some_iff.1 hj
  have hja':j<arr.size:=by simpa using hja
  have hje':arr[j]?=some e:=by simpa using hj
  have hje2:arr[j]=e:=by simpa using hje
  have hl:(arr.modify j fun e=>{ e with key:=k,val:=v' }).toList=arr.toList.set j { e with key:=k,val:=v' }:=by
   rw [Array.toList_modify];apply List.ext_getElem?;intro n;rw [List.getElem?_modify,List.getElem?_set];by_cases hn:j=n
   ·subst hn;simp [hja',hje',hje2]
   ·simp [hn]
  have hpw:(arr.toList.map (·.born)).Pairwise (·<·):=List.pairwise_map.2 hp
  have hborn:(arr.toList.set j { e with key:=k,val:=v' }).map (·.born)=arr.toList.map (·.born):=by
   rw [List.map_set];apply List.ext_getElem?;intro n;rw [List.getElem?_set];by_cases hn:j=n
   ·subst hn;simp [hja',hje',hje2]
   ·simp [hn]
  have hbits:=hK.bits k hk
  refine ⟨{ w with heap:=w.heap.setIfInBounds m (.map (arr.modify j fun e=>{ e with key:=k,val:=v' }) clock) },?_,⟨arr.modify j fun e=>{ e with key:=k,val:=v' },clock,by simp [hlt],?_,?_,?_⟩,⟨rfl,rfl,rfl,(by first | exact Nat.le_refl _ | exact Nat.le_succ _),by simp,fun b _ hf=>by simp [Array.getElem?_setIfInBounds_ne (Ne.symm hf)]⟩⟩
  ·simp [Instr.mapUpdate,run_underlying hT,hg,hc,hr,setObj,Sem.run,hm,keyThatStays,hje',hek,hbits]
  ·rw [hl,List.map_set]
  ·rw [hl];exact List.pairwise_map.1 (by rw [hborn];exact hpw)
  ·rw [hl];intro e' he'
   have:e'.born∈arr.toList.map (·.born):=by rw [← hborn];exact List.mem_map.2 ⟨e',he',rfl⟩
   obtain ⟨e'',h1,h2⟩:=List.mem_map.1 this
   rw [← h2];exact hb e'' h1
end
end Go.SE
end
section
namespace Go.SE
structure Lst (S:Nat→Prop) (w:World) (sz:Nat) (s:Sl) (rs:List (List Value)):Prop where
 len:s.len=rs.length
 at_:∀i (h:i<rs.length),∃a,At s i sz a∧S a.block∧Row w a rs[i]
theorem Lst.ext {S F:Nat→Prop} {w w':World} {sz:Nat} {s:Sl} {rs:List (List Value)} (h:Lst S w sz s rs) (hE:Ext F w w') (hd:∀b,S b→¬ F b):Lst S w' sz s rs :=
 ⟨h.len,fun i hi=>let ⟨a,h1,h2,h3⟩:=h.at_ i hi;⟨a,h1,h2,hE.row h3 (hd _ h2)⟩⟩
theorem Lst.pure {S:Nat→Prop} {w w':World} {sz:Nat} {s:Sl} {rs:List (List Value)} (h:Lst S w sz s rs) (hE:Pure w w'):Lst S w' sz s rs:=h.ext hE (fun _ _ h=>h)
theorem Rws.lst {w:World} {e:TypeId} {sz:Nat} {s:Sl} {rs:List (List Value)} (h:Rws w e sz s rs):Lst s.blk w sz s rs :=
 ⟨h.len,fun i hi=>let ⟨a,h1,h2,h3⟩:=h.at (i:=i) (by omega) (by simpa using hi);⟨a,h1,h3,h2⟩⟩
theorem uP (a:Addr) (i j:Nat):(a.add i).add j=a.add (i+j):=by
 unfold Addr.add;repeat' split
 all_goals simp_all
 all_goals omega
section
variable {P:Program} {t e:TypeId} {sz bytes:Nat}
theorem SlType.sizeOf (T:SlType P t e sz bytes) (w:World):(Go.sizeOf e).run P w=.ok sz w:=by
 obtain ⟨i,z,hi,_,hs,_⟩:=T.hi;simp [Go.sizeOf,Go.typeInfo,Sem.run,program,hi,hs,bind,pure,Sem.bind,Sem.pure]
theorem Rws.hi (T:SlType P t e sz bytes) {w:World} {s:Sl} {rs:List (List Value)} (h:Rws w e sz s rs) {k:IntKind} {n:Int} (h0:0≤n) (hn:n≤rs.length) :
  ∃s':Sl,(Instr.sliceAt t s.v none (some (.int k n)) none).run P w=.ok s'.v w∧Rws w e sz s' (rs.take n.toNat)∧∀b,s'.blk b↔s.blk b:=by
 rcases h.own with ⟨rfl,rfl⟩ | ⟨g,cur,ha,hg,hc,hm,hs,ht⟩
 ·have:n=0:=by simpa using (show n=0 by simp at hn;omega)
  subst this
  refine ⟨Sl.nil,?_,by simpa using Rws.nil w e sz,fun _=>Iff.rfl⟩
  simp [Instr.sliceAt,Instr.slice,Sl.v,Sl.nil,run_underlying T.ht,Instr.sliceBounds,Instr.sliceBound,asIntOf,T.sizeOf]
 ·refine ⟨⟨some ⟨g,0,none⟩,n.toNat,s.cap⟩,?_,⟨fun r hr=>h.each r (List.mem_of_mem_take hr),by simp;omega,.inr ⟨g,cur,rfl,hg,by simp;omega,hm,hs,?_⟩⟩,fun b=>?_⟩
  ·have hle:n≤(s.cap:Int):=by omega
   by_cases hz:s.cap=0
   ·have:n=0:=by omega
    subst this
    simp [Instr.sliceAt,Instr.slice,Sl.v,run_underlying T.ht,Instr.sliceBounds,Instr.sliceBound,asIntOf,T.sizeOf,ha,hz]
   ·simp [Instr.sliceAt,Instr.slice,Sl.v,run_underlying T.ht,Instr.sliceBounds,Instr.sliceBound,asIntOf,T.sizeOf,h0,hle,ha,hz,Addr.add]
  ·have hl:(rs.take n.toNat).length=n.toNat:=by simp;omega
   have e1:rs=rs.take n.toNat++rs.drop n.toNat:=(List.take_append_drop _ _).symm
   have e2:((rs.take n.toNat).flatten).length=n.toNat*sz:=by rw [vX (fun r hr=>h.each r (List.mem_of_mem_take hr)),hl]
   have h3:n.toNat*sz≤rs.length*sz:=Nat.mul_le_mul_right _ (by omega)
   calc cur.toList.take ((rs.take n.toNat).length*sz)=(cur.toList.take (rs.length*sz)).take (n.toNat*sz):=by rw [hl,List.take_take,Nat.min_eq_left h3]
    _=((rs.take n.toNat).flatten++(rs.drop n.toNat).flatten).take (n.toNat*sz):=by rw [ht,← List.flatten_append,← e1]
    _=(rs.take n.toNat).flatten:=by rw [← e2,List.take_left]
  ·simp [Sl.blk,ha]
theorem Lst.lo {S:Nat→Prop} (T:SlType P t e sz bytes) {w:World} {s:Sl} {rs:List (List Value)} (h:Lst S w sz s rs) (hcap:s.len≤s.cap) {k:IntKind} {n:Int} (h0:0≤n) (hn:n≤rs.length) :
  ∃s':Sl,(Instr.sliceAt t s.v (some (.int k n)) none none).run P w=.ok s'.v w∧Lst S w sz s' (rs.drop n.toNat):=by
 have hle:n≤(s.len:Int):=by rw [h.len];exact hn
 refine ⟨⟨if s.cap=n.toNat then s.a else s.a.map (·.add (n.toNat*sz)),s.len - n.toNat,s.cap - n.toNat⟩,?_,⟨by simp [h.len],fun i hi=>?_⟩⟩
 ·simp [Instr.sliceAt,Instr.slice,Sl.v,run_underlying T.ht,Instr.sliceBounds,Instr.sliceBound,asIntOf,T.sizeOf,h0,hle]
 ·have hi':n.toNat+i<rs.length:=by simp at hi;omega
  obtain ⟨a,⟨_,hlt,p,hp,rfl⟩,hS,hr⟩:=h.at_ (n.toNat+i) hi'
  refine ⟨_,⟨by omega,by simp only [h.len];omega,p.add (n.toNat*sz),?_,rfl⟩,?_,?_⟩
  ·rw [if_neg (by rw [h.len] at hcap;omega),hp];rfl
  ·simpa [zW] using hS
  ·have : (p.add (n.toNat * sz)).add ((i : Int).toNat * sz) = p.add (((n.toNat + i : Nat) : Int).toNat * sz) := by
    rw [uP,Int.toNat_natCast,Int.toNat_natCast,Nat.add_mul]
   rw [this,List.getElem_drop];exact hr
end
theorem Box.storeAt {p:Addr} {T:TypeId}:∀(vs:List Value) (i off:Nat) (w:World) (c:List Value),Box w p c T→off+i+vs.length≤c.length →
  Box (storeRowFrom w (p.add off) i vs) p (c.take (off+i)++vs++c.drop (off+i+vs.length)) T
 | [],i,off,w,c,h,hl=>by simpa [storeRowFrom] using h
 | v :: vs,i,off,w,c,h,hl=>by
  simp only [storeRowFrom];have h1:=h.set (off+i) v;rw [← uP] at h1;have h2:=Box.storeAt vs (i+1) off _ _ h1 (by simp at hl ⊢;omega);have e:(c.set (off+i) v).take (off+(i+1))++vs++(c.set (off+i) v).drop (off+(i+1)+vs.length)=c.take (off+i)++(v :: vs)++c.drop (off+i+(v :: vs).length):=by
   have hlt:off+i<c.length:=by simp at hl;omega
   rw [List.drop_set_of_lt (by omega),← Nat.add_assoc,List.take_succ_eq_append_getElem (by simp;omega),List.getElem_set_self,List.take_set_of_le (Nat.le_refl _)];simp only [List.length_cons,List.append_assoc,List.cons_append,List.nil_append];congr 4;omega
  rw [e] at h2;exact h2
theorem Rws.set {w:World} {e:TypeId} {sz:Nat} {s:Sl} {rs:List (List Value)} (h:Rws w e sz s rs) {i:Nat} (hi:i<rs.length) {r:List Value} (hr:r.length=sz) {k:Int} (hk:k=i) :
  ∃a,At s k sz a∧(∀j,j<sz→vF w (a.add j))∧∀w',w'=storeRow w a r→Rws w' e sz s (rs.set i r)∧Ext s.blk w w':=by
 subst hk
 rcases h.own with ⟨_,rfl⟩ | ⟨g,cur,ha,hg,hc,hm,hs,ht⟩
 ·simp at hi
 ·have B:Box w ⟨g,0,none⟩ cur.toList e:=⟨rfl,by simpa using hg⟩
  have hle:(i+1)*sz≤rs.length*sz:=Nat.mul_le_mul_right _ hi
  have hle2:rs.length*sz≤s.cap*sz:=Nat.mul_le_mul_right _ hc
  have hlen:cur.toList.length=s.cap*sz:=by simpa using hs
  rw [Nat.succ_mul] at hle
  refine ⟨(⟨g,0,none⟩:Addr).add (i*sz),⟨by omega,by rw [h.len];omega,⟨_,ha,by simp⟩⟩,fun j hj=>?_,?_⟩
  ·rw [uP];exact B.canW (by omega)
  ·intro w' hw'
   have B2:=Box.storeAt r 0 (i*sz) w _ B (by rw [hr];omega)
   have hE:Ext (·=g) w w':=by
    rw [hw'];have:=Ext.storeRow w ((⟨g,0,none⟩:Addr).add (i*sz)) r;rw [zW] at this;exact this
   have hw2:storeRowFrom w ((⟨g,0,none⟩:Addr).add (i*sz)) 0 r=w':=hw'.symm
   rw [hw2] at B2
   refine ⟨⟨?_,by rw [List.length_set];exact h.len,.inr ⟨g,_,ha,B2.blk,by rw [List.length_set];exact hc,hm,?_,?_⟩⟩,hE.mono (fun b _ hb=>⟨_,ha,hb.symm⟩)⟩
   ·intro q hq
    rcases List.mem_or_eq_of_mem_set hq with h' | rfl
    ·exact h.each q h'
    ·exact hr
   ·simp only [List.size_toArray,List.length_append,List.length_take,List.length_drop,hr,hlen];omega
   ·have hse : ∀ q ∈ rs.set i r, q.length = sz := by
     intro q hq;rcases List.mem_or_eq_of_mem_set hq with h' | rfl
     ·exact h.each q h'
     ·exact hr
    have e1:rs=rs.take i++rs[i] :: rs.drop (i+1):=by rw [← List.drop_eq_getElem_cons hi,List.take_append_drop]
    have e2:rs.set i r=rs.take i++r :: rs.drop (i+1):=by
     rw [List.set_eq_take_append_cons_drop,if_pos hi]
    have l1:(rs.take i).flatten.length=i*sz:=by rw [vX (fun r hr=>h.each r (List.mem_of_mem_take hr)),List.length_take,Nat.min_eq_left (by omega)]
    have l2:rs[i].length=sz:=h.each _ (List.getElem_mem hi)
    have l3:(rs.drop (i+1)).flatten.length=(rs.length - (i+1))*sz:=by rw [vX (fun r hr=>h.each r (List.mem_of_mem_drop hr)),List.length_drop]
    have hcur:cur.toList=rs.flatten++cur.toList.drop (rs.length*sz):=by rw [← ht,List.take_append_drop]
    have hfl:rs.flatten=(rs.take i).flatten++(rs[i]++(rs.drop (i+1)).flatten):=by
     calc rs.flatten=(rs.take i++rs[i] :: rs.drop (i+1)).flatten:=by rw [← e1]
      _=_:=by rw [List.flatten_append,List.flatten_cons]
    have t1:cur.toList.take (i*sz)=(rs.take i).flatten:=by
     rw [hcur,hfl,List.append_assoc,← l1,List.take_left]
    have t2:cur.toList.drop (i*sz+sz)=(rs.drop (i+1)).flatten++cur.toList.drop (rs.length*sz):=by
     conv=>lhs;rw [hcur,hfl]
     have:i*sz+sz=((rs.take i).flatten++rs[i]).length:=by rw [List.length_append,l1,l2]
     rw [← List.append_assoc,List.append_assoc,this,List.drop_left]
    have tot:((rs.set i r).flatten).length=(rs.set i r).length*sz:=vX hse
    have hf2:(rs.set i r).flatten=(rs.take i).flatten++(r++(rs.drop (i+1)).flatten):=by rw [e2,List.flatten_append,List.flatten_cons]
    have e3:(rs.take i).flatten++r++((rs.drop (i+1)).flatten++cur.toList.drop (rs.length*sz))=(rs.set i r).flatten++cur.toList.drop (rs.length*sz):=by
     rw [hf2];simp only [List.append_assoc]
    rw [← tot,Nat.add_zero,hr,t1,t2,e3]
    exact List.take_left
section
variable {P:Program} {t e:TypeId} {sz bytes:Nat}
theorem Rws.make (T:SlType P t e sz bytes) {zr:List Value} (hz:∀i z,P.info? e=some i→i.zero=some z→z.cells=zr.toArray) {k k':IntKind} {n:Nat} (hb:bytes*n≤281474976710656) (hm:n≤maxLen) (w:World) :
  ∃w',(Instr.makeSlice t (.int k (n:Int)) (.int k' (n:Int))).run P w=.ok (Sl.mk (some ⟨w.heap.size,0,none⟩) n n).v w'∧Rws w' e sz ⟨some ⟨w.heap.size,0,none⟩,n,n⟩ (List.replicate n zr)∧Pure w w':=by
 obtain ⟨i,z,hi,h0,hs,hby,hzs⟩:=T.hi
 have hzr:=hz i z hi h0
 have hzl:zr.length=sz:=by rw [← hzs,hzr];simp
 have hm':(n:Int)≤9223372036854775807:=by simp only [maxLen] at hm;omega
 have hb':(i.bytes:Int)*(n:Int)≤281474976710656:=by
  have h:((i.bytes*n:Nat):Int)≤281474976710656:=by rw [hby];omega
  rwa [Int.natCast_mul] at h
 have hr:=run_make (P:=P) w t e i z T.ht hi h0 k k' n n (by omega) (Int.le_refl _) hb' hm'
 simp only [Int.toNat_natCast,hs] at hr
 have hN:New w (.cells (madeCells z.cells (n*sz)) e) ⟨w.heap.size,0,none⟩ (w.alloc (.cells (madeCells z.cells (n*sz)) e)):=⟨rfl,rfl⟩
 refine ⟨_,hr,⟨fun r hr=>by rw [(List.mem_replicate.1 hr).2,hzl],by simp,.inr ⟨w.heap.size,_,rfl,hN.block_new,by simp,hm,by simp [size_madeCells],?_⟩⟩,Ext.new hN⟩
 have hpos:=T.pos
 have he:∀r∈List.replicate n zr,r.length=sz:=fun r hr=>by rw [(List.mem_replicate.1 hr).2,hzl]
 rw [List.take_of_length_le (by simp [size_madeCells])]
 apply List.ext_getElem?
 intro j
 by_cases hj:j<n*sz
 ·have hq:j / sz<n:=Nat.div_lt_of_lt_mul (by rw [Nat.mul_comm];exact hj)
  have hmod:j % sz<sz:=Nat.mod_lt _ hpos
  have e1:=jAR he (i:=j / sz) (by simpa using hq) (j:=j % sz) hmod
  have e2:j / sz*sz+j % sz=j:=by rw [Nat.mul_comm];exact Nat.div_add_mod j sz
  rw [e2] at e1
  rw [e1]
  have hsz:z.cells.size=sz:=hzs
  simp only [madeCells,hzr,Array.getElem?_toList,Array.getElem?_map,Array.getElem?_range,hj,List.size_toArray,hzl,List.getElem_replicate,if_true,Option.map_some]
  rw [List.getElem?_eq_getElem (by omega)]
  simp [hzl,hmod]
 ·rw [List.getElem?_eq_none (by simp [size_madeCells];omega),List.getElem?_eq_none (by rw [vX he];simp;omega)]
end
end Go.SE
end
section
namespace Go.SE
open Go.Instr
structure CEnt (w:World) (m:Nat) (z:Int) (i:Nat) (es:List (Value×Value)):Prop where
 ex:∃arr clock,w.heap[m]?=some (.map arr clock)∧arr.toList.map (fun e=>(e.key,e.val))=es∧arr.toList.Pairwise (fun a b=>a.born<b.born)∧(∀e∈arr.toList,e.born<clock)∧∃e,arr.toList[i]?=some e∧(e.born:Int)=z
theorem CEnt.ext {F:Nat→Prop} {w w':World} {m:Nat} {z:Int} {i:Nat} {es:List (Value×Value)} (h:CEnt w m z i es) (hE:Ext F w w') (hf:¬ F m):CEnt w' m z i es:=by
 obtain ⟨arr,clock,hm,r⟩:=h.ex;exact ⟨arr,clock,hE.heap hm hf,r⟩
section
variable {P:Program} {T K E:TypeId} {S:Value→Prop} {w:World} {m:Nat} {es:List (Value×Value)}
theorem CEnt.store {z:Int} {i:Nat} (h:CEnt w m z i es) {k v0 v:Value} (hi:es[i]?=some (k,v0)) :
  ∃w',(Instr.entryStore T (.map (some m)) (.int .i64 z) v).run P w=.ok () w'∧CMap w' m (es.set i (k,v))∧Ext (·=m) w w':=by
 obtain ⟨arr,clock,hm,rfl,hp,hb,e,he,rfl⟩:=h.ex
 have hg:(getObj m).run P w=.ok (.map arr clock) w:=by simp [getObj,Sem.run,hm]
 have hlt:=uN hm
 obtain ⟨hja,hje⟩:=List.getElem?_eq_some_iff.1 he
 have hja':i<arr.size:=by simpa using hja
 have hje':arr[i]?=some e:=by simpa using he
 have hje2:arr[i]=e:=by simpa using hje
 have hke:e.key=k:=by
  rw [List.getElem?_map,he] at hi;have:=Option.some.inj hi;exact congrArg Prod.fst this
 have hfi:arr.findIdx? (fun e'=>(e'.born:Int) == (e.born:Int))=some i:=by
  rw [Array.findIdx?_eq_some_iff_getElem];refine ⟨hja',by simp [hje2],fun j hj=>?_⟩;have:=List.pairwise_iff_getElem.1 hp j i (by simp;omega) (by simpa using hja') hj;simp only [Array.getElem_toList,hje2] at this;simp only [beq_iff_eq];omega
 have hl:(arr.modify i fun e=>{ e with val:=v }).toList=arr.toList.set i { e with val:=v }:=by
  rw [Array.toList_modify];apply List.ext_getElem?;intro n;rw [List.getElem?_modify,List.getElem?_set];by_cases hn:i=n
  ·subst hn;simp [hja',hje2]
  ·simp [hn]
 have hpw:(arr.toList.map (·.born)).Pairwise (·<·):=List.pairwise_map.2 hp
 have hborn:(arr.toList.set i { e with val:=v }).map (·.born)=arr.toList.map (·.born):=by
  rw [List.map_set];apply List.ext_getElem?;intro n;rw [List.getElem?_set];by_cases hn:i=n
  ·subst hn;simp [hja',hje2]
  ·simp [hn]
 refine ⟨{ w with heap:=w.heap.setIfInBounds m (.map (arr.modify i fun e=>{ e with val:=v }) clock) },?_,⟨arr.modify i fun e=>{ e with val:=v },clock,by simp [hlt],?_,?_,?_⟩,⟨rfl,rfl,rfl,(by first | exact Nat.le_refl _ | exact Nat.le_succ _),by simp,fun b _ hf=>by simp [Array.getElem?_setIfInBounds_ne (Ne.symm hf)]⟩⟩
 ·simp [Instr.entryStore,hg,asInt,asIntOf,hfi,setObj,Sem.run,hm]
 ·rw [hl,List.map_set,hke]
 ·rw [hl];exact List.pairwise_map.1 (by rw [hborn];exact hpw)
 ·rw [hl];intro e' he'
  have:e'.born∈arr.toList.map (·.born):=by rw [← hborn];exact List.mem_map.2 ⟨e',he',rfl⟩
  obtain ⟨e'',h1,h2⟩:=List.mem_map.1 this
  rw [← h2];exact hb e'' h1
end
end Go.SE
end
section
namespace Go.SE
abbrev HBx:=Addr×List Value×TypeId
def isCl:Obj→Bool
 | .cells ..=>true
 | _=>false
structure HBZ (Z:List (Nat×Obj)) (H:Nat→Prop) (w:World) (l:List HBx):Prop where
 box:∀x∈l,Box w x.1 x.2.1 x.2.2
 hid:∀x∈l,H x.1.block
 ne:l.Pairwise (fun x y=>x.1.block≠y.1.block)
 fz:∀x∈Z,H x.1∧w.heap[x.1]?=some x.2∧isCl x.2=false
abbrev HB (H:Nat→Prop) (w:World) (l:List HBx):Prop:=HBZ [] H w l
structure Hst (w0:World) (H:Nat→Prop) (w:World) (H':Nat→Prop) (w':World):Prop where
 ext:Ext H' w w'
 sub:∀b,H b→H' b
 new:∀b,H' b→H b∨w.heap.size≤b
 old:∀b,H' b→w0.heap.size≤b
 lt:∀b,H' b→b<w'.heap.size
 base:w0.heap.size≤w'.heap.size
structure Kept (H:Nat→Prop) (w w':World):Prop where
 size:w.heap.size≤w'.heap.size
 keep:∀b,b<w.heap.size→H b→w'.heap[b]?=w.heap[b]?
theorem Ext.kept {F H:Nat→Prop} {w w':World} (h:Ext F w w') (hd:∀b,H b→¬ F b):Kept H w w':=⟨h.size,fun b hb hH=>h.keep b hb (hd b hH)⟩
theorem Ext.keptP {H:Nat→Prop} {w w':World} (h:Pure w w'):Kept H w w':=h.kept (fun _ _ h=>h)
theorem Kept.refl {H:Nat→Prop} (w:World):Kept H w w:=⟨Nat.le_refl _,fun _ _ _=>rfl⟩
section
variable {w0 w w1 w2 wv:World} {H H1 H2 Hv:Nat→Prop} {Z:List (Nat×Obj)} {l l':List HBx}
theorem Hst.start (w0:World):Hst w0 None w0 None w0:=⟨Ext.refl _,fun _ h=>h,fun _ h=>.inl h,fun _ h=>h.elim,fun _ h=>h.elim,Nat.le_refl _⟩
theorem HB.nil (H:Nat→Prop) (w:World):HB H w []:=⟨fun _ h=>(by cases h),fun _ h=>(by cases h),List.Pairwise.nil,fun _ h=>(by cases h)⟩
theorem Hst.here (h:Hst w0 Hv wv H w):Hst w0 H w H w:=⟨Ext.refl _,fun _ h=>h,fun _ h=>.inl h,h.old,h.lt,h.base⟩
theorem Hst.again (h:Hst w0 Hv wv H w) (hk:Kept H w w1):Hst w0 H w1 H w1 :=
 ⟨Ext.refl _,fun _ h=>h,fun _ h=>.inl h,h.old,fun b hb=>Nat.lt_of_lt_of_le (h.lt b hb) hk.size,Nat.le_trans h.base hk.size⟩
theorem Hst.trans (h:Hst w0 Hv wv H w) (k:Hst w0 H w H1 w1):Hst w0 Hv wv H1 w1 :=
 ⟨(h.ext.mono (fun b _ hb=>k.sub b hb)).trans k.ext,fun b hb=>k.sub b (h.sub b hb),fun b hb=>(k.new b hb).elim (fun hb=>h.new b hb) (fun hb=>.inr (Nat.le_trans h.ext.size hb)),k.old,k.lt,k.base⟩
theorem Hst.pure (h:Hst w0 Hv wv H w) (E:Pure w w1):Hst w0 Hv wv H w1 :=
 ⟨h.ext.thenPure E,h.sub,h.new,h.old,fun b hb=>Nat.lt_of_lt_of_le (h.lt b hb) E.size,Nat.le_trans h.base E.size⟩
theorem Hst.drew (h:Hst w0 Hv wv H w):Hst w0 Hv wv H w.drew:=h.pure (Ext.drew w)
theorem HBZ.kept (hb:HBZ Z H w l) (hk:Kept H w w1):HBZ Z H w1 l :=
 ⟨fun x hx=>⟨(hb.box x hx).addr,by rw [hk.keep _ (hb.box x hx).lt (hb.hid x hx)];exact (hb.box x hx).blk⟩,hb.hid,hb.ne,fun x hx=>⟨(hb.fz x hx).1,by rw [hk.keep _ (uN (hb.fz x hx).2.1) (hb.fz x hx).1];exact (hb.fz x hx).2.1,(hb.fz x hx).2.2⟩⟩
theorem HBZ.pure (hb:HBZ Z H w l) (E:Pure w w1):HBZ Z H w1 l:=hb.kept E.keptP
theorem HBZ.drew (hb:HBZ Z H w l):HBZ Z H w.drew l:=hb.pure (Ext.drew w)
theorem HBZ.sub (hb:HBZ Z H w l) (hl:l'.Sublist l):HBZ Z H w l':=⟨fun x hx=>hb.box x (hl.subset hx),fun x hx=>hb.hid x (hl.subset hx),hb.ne.sublist hl,hb.fz⟩
theorem Hst.alloc {c:List Value} {T:TypeId} {p:Addr} (h:Hst w0 Hv wv H w) (hb:HBZ Z H w l) (hn:New w (.cells c.toArray T) p w1):∃H1,Hst w0 Hv wv H1 w1∧HBZ Z H1 w1 ((p,c,T) :: l):=by
 have E:Pure w w1:=Ext.new hn;have hp:p.block=w.heap.size:=hn.at_size;have B:=Box.of_new hn;refine ⟨fun b=>H b∨b=p.block,⟨(h.ext.thenPure E).mono (fun b _ hb=>.inl hb),fun b hb=>.inl (h.sub b hb),?_,?_,?_,Nat.le_trans h.base E.size⟩,?_⟩
 ·rintro b (hb | rfl)
  ·exact h.new b hb
  ·right;rw [hp];exact h.ext.size
 ·rintro b (hb | rfl)
  ·exact h.old b hb
  ·rw [hp];exact h.base
 ·rintro b (hb | rfl)
  ·exact Nat.lt_of_lt_of_le (h.lt b hb) E.size
  ·exact B.lt
 ·have hb':=hb.pure E;refine ⟨?_,?_,?_,fun x hx=>⟨.inl (hb'.fz x hx).1,(hb'.fz x hx).2⟩⟩
  ·intro x hx;rcases List.mem_cons.1 hx with rfl | hx
   ·exact B
   ·exact hb'.box x hx
  ·intro x hx;rcases List.mem_cons.1 hx with rfl | hx
   ·exact .inr rfl
   ·exact .inl (hb'.hid x hx)
  ·refine List.pairwise_cons.2 ⟨fun x hx=>?_,hb'.ne⟩;have:=(hb.box x hx).lt;show p.block≠x.1.block;omega
theorem HBZ.at (hb:HBZ Z H w l) {i:Nat} {p:Addr} {c:List Value} {T:TypeId} (hi:l[i]?=some (p,c,T)):Box w p c T:=hb.box _ (List.mem_of_getElem? hi)
theorem HBZ.cell (hb:HBZ Z H w l) (i j:Nat) {p:Addr} {c:List Value} {T:TypeId} {v:Value} (hi:l[i]?=some (p,c,T)) (hv:c[j]?=some v):w.cell? (p.add j)=some v:=(hb.at hi).cell hv
theorem HBZ.cell0 (hb:HBZ Z H w l) (i:Nat) {p:Addr} {c:List Value} {T:TypeId} {v:Value} (hi:l[i]?=some (p,c,T)) (hv:c[0]?=some v):w.cell? p=some v:=by
 have:=hb.cell i 0 hi hv;simpa [Addr.add] using this
theorem HBZ.row (hb:HBZ Z H w l) (i j n:Nat) {p:Addr} {c vs:List Value} {T:TypeId} (hi:l[i]?=some (p,c,T)) (hv:(c.drop j).take n=vs):Row w (p.add j) vs:=by
 intro k hk;subst hv;have hlt:k<n∧j+k<c.length:=by simp at hk;omega
 rw [uP,List.getElem?_take,if_pos hlt.1,List.getElem?_drop,List.getElem?_eq_getElem hlt.2];exact (hb.at hi).cell (List.getElem?_eq_getElem hlt.2)
theorem HBZ.row0 (hb:HBZ Z H w l) (i n:Nat) {p:Addr} {c vs:List Value} {T:TypeId} (hi:l[i]?=some (p,c,T)) (hv:c.take n=vs):Row w p vs:=by
 intro k hk;subst hv;have hlt:k<n∧k<c.length:=by simp at hk;omega
 rw [List.getElem?_take,if_pos hlt.1,List.getElem?_eq_getElem hlt.2];exact (hb.at hi).cell (List.getElem?_eq_getElem hlt.2)
theorem HBZ.canW (hb:HBZ Z H w l) (i j:Nat) {p:Addr} {c:List Value} {T:TypeId} (hi:l[i]?=some (p,c,T)) (hj:decide (j<c.length)=true):vF w (p.add j):=(hb.at hi).canW (of_decide_eq_true hj)
theorem HBZ.canW0 (hb:HBZ Z H w l) (i:Nat) {p:Addr} {c:List Value} {T:TypeId} (hi:l[i]?=some (p,c,T)) (hj:decide (0<c.length)=true):vF w p:=(hb.at hi).canW0 (of_decide_eq_true hj)
theorem HBZ.canWs (hb:HBZ Z H w l) (i j n:Nat) {p:Addr} {c:List Value} {T:TypeId} (hi:l[i]?=some (p,c,T)) (hj:decide (j+n≤c.length)=true):∀k,k<n→vF w ((p.add j).add k):=fun k hk=>by
 rw [uP];exact (hb.at hi).canW (by have:=of_decide_eq_true hj;omega)
theorem HBZ.canWs0 (hb:HBZ Z H w l) (i n:Nat) {p:Addr} {c:List Value} {T:TypeId} (hi:l[i]?=some (p,c,T)) (hj:decide (n≤c.length)=true):∀k,k<n→vF w (p.add k):=fun k hk=>(hb.at hi).canW (by have:=of_decide_eq_true hj;omega)
theorem HBZ.put {i:Nat} {p:Addr} {c c':List Value} {T:TypeId} (hb:HBZ Z H w l) (h:Hst w0 Hv wv H w) (hi:l[i]?=some (p,c,T)) (hB:Box w1 p c' T) (hE:Ext (·=p.block) w w1) (hl:l.set i (p,c',T)=l'):Hst w0 Hv wv H w1∧HBZ Z H w1 l':=by
 have hmem:=List.mem_of_getElem? hi;refine ⟨⟨h.ext.trans' hE (fun b _ e=>by subst e;exact hb.hid _ hmem),h.sub,h.new,h.old,fun b hb=>Nat.lt_of_lt_of_le (h.lt b hb) hE.size,Nat.le_trans h.base hE.size⟩,?_⟩;subst hl;obtain ⟨hlt,hget⟩:=List.getElem?_eq_some_iff.1 hi;have hset:∀k x,(l.set i (p,c',T))[k]?=some x→(k=i∧x=(p,c',T))∨(k≠i∧l[k]?=some x):=by
  intro k x hx;rw [List.getElem?_set] at hx;by_cases hk:i=k
  ·subst hk;simp [hlt] at hx;exact .inl ⟨rfl,hx.symm⟩
  ·rw [if_neg hk] at hx;exact .inr ⟨fun e=>hk e.symm,hx⟩
 have hne:∀k x,k≠i→l[k]?=some x→x.1.block≠p.block:=by
  intro k x hk hx;obtain ⟨hk1,hk2⟩:=List.getElem?_eq_some_iff.1 hx;have hp:=List.pairwise_iff_getElem.1 hb.ne;rcases Nat.lt_or_gt_of_ne hk with h' | h'
  ·have:=hp k i hk1 hlt h';rw [hk2,hget] at this;exact this
  ·have:=hp i k hlt hk1 h';rw [hk2,hget] at this;exact fun e=>this e.symm
 refine ⟨?_,?_,?_,fun x hx=>⟨(hb.fz x hx).1,hE.heap (hb.fz x hx).2.1 (fun e=>?_),(hb.fz x hx).2.2⟩⟩
 ·intro x hx;obtain ⟨k,hk⟩:=List.getElem?_of_mem hx;rcases hset k x hk with ⟨_,rfl⟩ | ⟨hk',hx'⟩
  ·exact hB
  ·exact (hb.box x (List.mem_of_getElem? hx')).ext hE (hne k x hk' hx')
 ·intro x hx;obtain ⟨k,hk⟩:=List.getElem?_of_mem hx;rcases hset k x hk with ⟨_,rfl⟩ | ⟨hk',hx'⟩
  ·have:=hb.hid _ hmem;exact this
  ·exact hb.hid x (List.mem_of_getElem? hx')
 ·have e : (l.set i (p, c', T)).map (fun x => x.1.block) = l.map (fun x => x.1.block) := by
   rw [List.map_set];apply List.ext_getElem?;intro k;rw [List.getElem?_set];by_cases hk:i=k
   ·subst hk;simp [hlt,hget]
   ·simp [hk]
  have:=List.pairwise_map.2 hb.ne;exact List.pairwise_map.1 (e▸this)
 ·have h1:=(hb.box _ hmem).blk;have h2:=(hb.fz x hx).2;simp only at h1;rw [e,h1] at h2;have h3:=Option.some.inj h2.1;rw [← h3] at h2;cases h2.2
theorem HBZ.set {i:Nat} (j:Nat) {p:Addr} {c:List Value} {v:Value} {T:TypeId} (hb:HBZ Z H w l) (h:Hst w0 Hv wv H w) (hi:l[i]?=some (p,c,T)) (hl:l.set i (p,c.set j v,T)=l'):Hst w0 Hv wv H (w.setCell (p.add j) v)∧HBZ Z H (w.setCell (p.add j) v) l' :=
 hb.put h hi ((hb.at hi).set j v) (by have:=Ext.setCell (w:=w) (p.add j) v;rw [zW] at this;exact this) hl
theorem HBZ.set0 {i:Nat} {p:Addr} {c:List Value} {v:Value} {T:TypeId} (hb:HBZ Z H w l) (h:Hst w0 Hv wv H w) (hi:l[i]?=some (p,c,T)) (hl:l.set i (p,c.set 0 v,T)=l'):Hst w0 Hv wv H (w.setCell p v)∧HBZ Z H (w.setCell p v) l':=by
 have:=hb.set 0 (v:=v) h hi hl;simpa [Addr.add] using this
theorem HBZ.store {i:Nat} (j:Nat) {p:Addr} {c vs:List Value} {T:TypeId} (hb:HBZ Z H w l) (h:Hst w0 Hv wv H w) (hi:l[i]?=some (p,c,T)) (hj:decide (j+vs.length≤c.length)=true) (hl:l.set i (p,c.take j++vs++c.drop (j+vs.length),T)=l'):Hst w0 Hv wv H (storeRow w (p.add j) vs)∧HBZ Z H (storeRow w (p.add j) vs) l' :=
 hb.put h hi (by have:=Box.storeAt vs 0 j w c (hb.at hi) (by have:=of_decide_eq_true hj;omega);simpa [storeRow] using this) (by have:=Ext.storeRow w (p.add j) vs;rw [zW] at this;exact this) hl
theorem HBZ.store0 {i:Nat} {p:Addr} {c vs:List Value} {T:TypeId} (hb:HBZ Z H w l) (h:Hst w0 Hv wv H w) (hi:l[i]?=some (p,c,T)) (hj:decide (vs.length≤c.length)=true) (hl:l.set i (p,vs++c.drop vs.length,T)=l'):Hst w0 Hv wv H (storeRow w p vs)∧HBZ Z H (storeRow w p vs) l':=by
 have:=hb.store 0 (vs:=vs) h hi (by simpa using hj) (by simpa using hl);simpa [Addr.add] using this
theorem Ext.hst {F:Nat→Prop} (E:Ext F w0 w) (h:Hst w0 H w H1 w1):Ext F w0 w1:=E.trans' h.ext (fun b hb hF=>absurd (h.old b hF) (by omega))
theorem Hst.disj (h:Hst w0 H w H1 w1) {G:Nat→Prop} (hG:∀b,G b→b<w.heap.size∧¬ H b):∀b,G b→¬ H1 b:=fun b hb h1=>(h.new b h1).elim (hG b hb).2 (fun h2=>by have:=(hG b hb).1;omega)
theorem Hst.disj0 (h:Hst w0 H w H1 w1) {G:Nat→Prop} (hG:∀b,G b→b<w0.heap.size):∀b,G b→¬ H1 b:=fun b hb h1=>by have:=hG b hb;have:=h.old b h1;omega
end
end Go.SE
namespace Go.SE
section
variable {H:Nat→Prop} {w:World} {a:Addr}
theorem Kept.setCell {v:Value} (h:¬ H a.block):Kept H w (w.setCell a v):=(Ext.setCell a v).kept (fun b hb e=>h (e▸hb))
theorem Kept.storeRow {vs:List Value} (h:¬ H a.block):Kept H w (SE.storeRow w a vs):=(Ext.storeRow w a vs).kept (fun b hb e=>h (e▸hb))
theorem HBZ.drop {Z:List (Nat×Obj)} {l:List HBx} (hb:HBZ Z H w l) (n:Nat):HBZ Z H w (l.drop n):=hb.sub (List.drop_sublist n l)
theorem vN {cx:Cx} {P:Program} {n:Nat} {c:Code} {Q:Exit→Env→World→Prop} {ρ:Env} (J:Env→World→Prop) (h:wpE (x:=cx) P n c (jBW J (fun _ _ _=>False)) ρ w) (hJ:∀ρ w,J ρ w→Q .normal ρ w):wpE (x:=cx) P n c Q ρ w :=
 jFL (fun e ρ w hq=>by cases e <;> first | exact hJ _ _ hq | exact hq.elim) h
theorem vE {Q:Exit→Env→World→Prop} {ρ:Env} {l:List (Nat×Value)} (h:Has ρ l) (hg:Q .normal (jDK ρ l) w):Q .normal ρ w:=by rwa [tA h] at hg
end
end Go.SE
namespace Go.SE
theorem gZ {α:Type} {o:α} {l:List α}:(o :: l)[0]?=some o:=rfl
theorem gS {α:Type} {a o:α} {l:List α} {k:Nat} (h:l[k]?=some o):(a :: l)[k+1]?=some o:=by simpa using h
end Go.SE
end
section
namespace Go.SE
structure Own (H:Nat→Prop) (w:World) (e:TypeId) (sz:Nat) (s:Sl) (rs:List (List Value)):Prop where
 rows:Rws w e sz s rs
 vis:∀b,s.blk b→¬ H b
section
variable {w0 w w1 w2 wv:World} {H H1 Hv:Nat→Prop} {e:TypeId} {sz:Nat} {s:Sl} {rs:List (List Value)}
theorem Own.hst (h:Own H w e sz s rs) (hs:Hst w0 H w H1 w1):Own H1 w1 e sz s rs :=
 have hv:∀b,s.blk b→¬ H1 b:=hs.disj fun b hb=>⟨h.rows.lt hb,h.vis b hb⟩
 ⟨h.rows.ext hs.ext hv,hv⟩
theorem Own.pure (h:Own H w e sz s rs) (E:Pure w w1):Own H w1 e sz s rs:=⟨h.rows.pure E,h.vis⟩
theorem Own.ext {F:Nat→Prop} (h:Own H w e sz s rs) (E:Ext F w w1) (hd:∀b,s.blk b→¬ F b):Own H w1 e sz s rs:=⟨h.rows.ext E hd,h.vis⟩
theorem Own.nil (H:Nat→Prop) (w:World):Own H w e sz Sl.nil []:=⟨Rws.nil _ _ _,fun b h=>by obtain ⟨a,h,_⟩:=h;cases h⟩
theorem Own.len (h:Own H w e sz s rs):s.len=rs.length:=h.rows.len
theorem Rws.nth {α:Type} {f:α→List Value} {xs:List α} (h:Rws w e sz s (xs.map f)) {j:Nat} (hj:j<xs.length):∃a,At s j sz a∧Row w a (f xs[j]):=by
 obtain ⟨a,h1,h2,_⟩:=h.at (i:=j) (by omega) (by simpa using hj);exact ⟨a,h1,by simpa using h2⟩
theorem Own.nth {α:Type} {f:α→List Value} {xs:List α} (h:Own H w e sz s (xs.map f)) {j:Nat} (hj:j<xs.length):∃a,At s j sz a∧Row w a (f xs[j]):=h.rows.nth hj
theorem Lst.nth {S:Nat→Prop} {α:Type} {f:α→List Value} {xs:List α} (h:Lst S w sz s (xs.map f)) {j:Nat} (hj:j<xs.length):∃a,At s j sz a∧S a.block∧Row w a (f xs[j]):=by
 obtain ⟨a,h1,h2,h3⟩:=h.at_ j (by simpa using hj);exact ⟨a,h1,h2,by simpa using h3⟩
theorem jCT {a:Addr} {v:Value} (h:Row w a [v]):w.cell? a=some v:=by
 have:=h 0 (by simp);simpa [Addr.add] using this
theorem Lst.hst {S:Nat→Prop} (h:Lst S w sz s rs) (hs:Hst w0 H w H1 w1) (hd:∀b,S b→b<w0.heap.size):Lst S w1 sz s rs:=h.ext hs.ext (fun b hb h1=>by have:=hd b hb;have:=hs.old b h1;omega)
theorem Hst.first (h:Hst w0 None w0 H1 w1):Pure w0 w1:=(Ext.refl w0).hst h
theorem Own.append {P:Program} {t ty:TypeId} {bytes:Nat} (T:SlType P t e sz bytes) (h:Own H w e sz s rs) (hs:Hst w0 Hv wv H w) {p:Addr} {c:Nat} {r:List Value} (hr:Row w p r) (hl:r.length=sz) (h1:r.all qE=true) (hb:(rs.length+1)*bytes≤140737488355328) (hm:rs.length+1≤maxLen) :
  ∃s' w',(Builtin.append_ #[t,t] ty #[s.v,(Sl.mk (some p) 1 c).v]).run P w=.ok s'.v w'∧Own H w' e sz s' (rs++[r])∧Ext s.blk w w'∧Kept H w w'∧(∀b,s'.blk b→s.blk b∨w.heap.size≤b):=by
 obtain ⟨s',w',hr',hR,hE,hb'⟩:=h.rows.append T (ty:=ty) (c:=c) hr hl h1 hb hm
 exact ⟨s',w',hr',⟨hR,fun b hb=>(hb' b hb).elim (h.vis b) (fun hge hH=>by have:=hs.lt b hH;omega)⟩,hE,hE.kept (fun b hH hS=>h.vis b hS hH),hb'⟩
end
theorem vM {j n:Nat} (h:j<n) (hn:n≤9223372036854775807):IntKind.i64.wrap ((j:Int)+1)=((j+1:Nat):Int):=by
 rw [IntWalk.i64_in _ (by omega)];omega
theorem uA {j n:Nat} (h:j<n):((n:Int) - ((j+1:Nat):Int)).toNat<((n:Int) - (j:Int)).toNat:=by omega
theorem qI {j n m:Nat} (hm:m=n) (h:decide ((j:Int)<(m:Int))=true):j<n:=by have h:=of_decide_eq_true h;omega
theorem qK {j n m:Nat} (hm:m=n) (hj:j≤n) (h:decide ((j:Int)<(m:Int))=false):j=n:=by have h:=of_decide_eq_false h;omega
end Go.SE
namespace Go.SE
theorem qT {cx:Cx} {P:Program} {n:Nat} {c:Code} {Q:Exit→Env→World→Prop} {ρ:Env} {w:World} {N:Env→World→Prop} (J:Env→World→Prop) (hy:∀ρ w,J ρ w→N ρ w) (h:wpE (x:=cx) P n c (jBW J Q) ρ w):wpE (x:=cx) P n c (jBW N Q) ρ w :=
 jFL (fun e ρ w hq=>by cases e <;> first | exact hy _ _ hq | exact hq) h
end Go.SE
namespace Go.SE
section
variable {w0 w w1:World} {H H1:Nat→Prop}
theorem jKH {a:Addr} {v:Value} (h:w.cell? a=some v) (hn:¬ H a.block) (hs:Hst w0 H w H1 w1):w1.cell? a=some v :=
 hs.ext.cell h (fun h1=>(hs.new _ h1).elim hn (fun h2=>by have:=World.block_lt_of_cell? w a h;omega))
theorem jMB {a:Addr} {v:Value} {vs:List Value} (h:Row w a (v :: vs)) (hn:¬ H a.block) (hs:Hst w0 H w H1 w1):Row w1 a (v :: vs) :=
 hs.ext.row h (fun h1=>(hs.new _ h1).elim hn (fun h2=>by
  have h0:=h 0 (by simp);have:=World.block_lt_of_cell? w (a.add 0) h0;rw [zW] at this;omega))
theorem jBB {P:Program} {ops:Array Oper} {C:World→Prop} {loud free:Nat→Bool} {Q Q':Env→World→Prop} (hq:∀ρ w,Q ρ w→Q' ρ w):∀{fuel:Nat} {listed:Array Bool} {ρ:Env} {w:World},wpX P ops C loud free Q fuel listed ρ w→wpX P ops C loud free Q' fuel listed ρ w
 | 0,_,_,_,h=>⟨h.1,hq _ _ h.2⟩
 | fuel+1,listed,ρ,w,h=>by
  have key:∀i ρ w,opE P ops C loud free i (wpX P ops C loud free Q fuel (listed.setIfInBounds i true)) ρ w→opE P ops C loud free i (wpX P ops C loud free Q' fuel (listed.setIfInBounds i true)) ρ w:=by
   intro i ρ w h;unfold opE at h ⊢;split
   ·rename_i ho;simp only [ho] at h;exact jBB hq h
   ·rename_i o ho;simp only [ho] at h;split
    ·rename_i hw;rw [if_pos hw] at h;split
     ·rename_i hl;rw [if_pos hl] at h;exact xJ h fun v w' ⟨hc,hk⟩=>⟨hc,jBB hq hk⟩
     ·rename_i hl;rw [if_neg hl] at h;obtain ⟨v,h1,h2⟩:=h;exact ⟨v,h1,jBB hq h2⟩
    ·rename_i hw;rw [if_neg hw] at h;exact jBB hq h
  rcases h with ⟨i,h1,h2,h3,h4⟩ | ⟨h0,h⟩
  ·exact .inl ⟨i,h1,h2,h3,key _ _ _ h4⟩
  ·exact .inr ⟨fun e=>hq _ _ (h0 e),fun i hi=>key _ _ _ (h i hi)⟩
theorem jPO {P:Program} {ops:Array Oper} {C:World→Prop} {loud free:Nat→Bool} {Q:Env→World→Prop} {ρ:Env} {fuel:Nat} {listed:Array Bool} (J:Env→World→Prop) (h:wpX P ops C loud free J fuel listed ρ w) (hJ:∀ρ w,J ρ w→Q ρ w):wpX P ops C loud free Q fuel listed ρ w:=jBB hJ h
theorem q_has {Q:Env→World→Prop} {ρ:Env} {l:List (Nat×Value)} (h:Has ρ l) (hg:Q (jDK ρ l) w):Q ρ w:=by rwa [tA h] at hg
end
end Go.SE
namespace Go.SE
section
variable {P:Program} {t e:TypeId} {sz bytes:Nat}
theorem Rws.hiA (T:SlType P t e sz bytes) {w:World} {s:Sl} {rs:List (List Value)} (h:Rws w e sz s rs) {k:IntKind} {n:Int} (h0:0≤n) (hn:n≤rs.length) :
  ∃s':Sl,(∀w:World,(Instr.sliceAt t s.v none (some (.int k n)) none).run P w=.ok s'.v w)∧Rws w e sz s' (rs.take n.toNat)∧∀b,s'.blk b↔s.blk b:=by
 rcases h.own with ⟨rfl,rfl⟩ | ⟨g,cur,ha,hg,hc,hm,hs,ht⟩
 ·have:n=0:=by simpa using (show n=0 by simp at hn;omega)
  subst this
  refine ⟨Sl.nil,fun w=>?_,by simpa using Rws.nil w e sz,fun _=>Iff.rfl⟩
  simp [Instr.sliceAt,Instr.slice,Sl.v,Sl.nil,run_underlying T.ht,Instr.sliceBounds,Instr.sliceBound,asIntOf,T.sizeOf]
 ·refine ⟨⟨some ⟨g,0,none⟩,n.toNat,s.cap⟩,fun w=>?_,⟨fun r hr=>h.each r (List.mem_of_mem_take hr),by simp;omega,.inr ⟨g,cur,rfl,hg,by simp;omega,hm,hs,?_⟩⟩,fun b=>?_⟩
  ·have hle:n≤(s.cap:Int):=by omega
   by_cases hz:s.cap=0
   ·have:n=0:=by omega
    subst this
    simp [Instr.sliceAt,Instr.slice,Sl.v,run_underlying T.ht,Instr.sliceBounds,Instr.sliceBound,asIntOf,T.sizeOf,ha,hz]
   ·simp [Instr.sliceAt,Instr.slice,Sl.v,run_underlying T.ht,Instr.sliceBounds,Instr.sliceBound,asIntOf,T.sizeOf,h0,hle,ha,hz,Addr.add]
  ·have hl:(rs.take n.toNat).length=n.toNat:=by simp;omega
   have e1:rs=rs.take n.toNat++rs.drop n.toNat:=(List.take_append_drop _ _).symm
   have e2:((rs.take n.toNat).flatten).length=n.toNat*sz:=by rw [vX (fun r hr=>h.each r (List.mem_of_mem_take hr)),hl]
   have h3:n.toNat*sz≤rs.length*sz:=Nat.mul_le_mul_right _ (by omega)
   calc cur.toList.take ((rs.take n.toNat).length*sz)=(cur.toList.take (rs.length*sz)).take (n.toNat*sz):=by rw [hl,List.take_take,Nat.min_eq_left h3]
    _=((rs.take n.toNat).flatten++(rs.drop n.toNat).flatten).take (n.toNat*sz):=by rw [ht,← List.flatten_append,← e1]
    _=(rs.take n.toNat).flatten:=by rw [← e2,List.take_left]
  ·simp [Sl.blk,ha]
end
end Go.SE
end
section
namespace Go.SE
open Go.Instr
section
variable {P:Program} {T K E:TypeId} {S:Value→Prop} {w:World} {m:Nat} {es:List (Value×Value)}
structure CntMap (w:World) (m:Nat) (ks:List Value) (B:Int):Prop where
 ex:∃es,CMap w m es∧es.map Prod.fst=ks∧∀p∈es,∃n,p.2=.int .i64 n∧1≤n∧n≤B
 nodup:ks.Nodup
theorem CntMap.ext {F:Nat→Prop} {w w':World} {m:Nat} {ks:List Value} {B:Int} (h:CntMap w m ks B) (hE:Ext F w w') (hf:¬ F m):CntMap w' m ks B :=
 ⟨let ⟨es,h1,h2⟩:=h.ex;⟨es,h1.ext hE hf,h2⟩,h.nodup⟩
theorem CntMap.lt {w:World} {m:Nat} {ks:List Value} {B:Int} (h:CntMap w m ks B):m<w.heap.size:=let ⟨_,h1,_⟩:=h.ex;h1.lt
theorem CntMap.of_new {w w':World} {p:Addr} (h:New w (.map #[] 0) p w') (B:Int):CntMap w' p.block [] B:=⟨⟨[],CMap.of_new h,rfl,by simp⟩,List.nodup_nil⟩
theorem CntMap.mono {w:World} {m:Nat} {ks:List Value} {B B':Int} (h:CntMap w m ks B) (hB:B≤B'):CntMap w m ks B' :=
 ⟨let ⟨es,h1,h2,h3⟩:=h.ex;⟨es,h1,h2,fun p hp=>let ⟨n,h4,h5,h6⟩:=h3 p hp;⟨n,h4,h5,by omega⟩⟩,h.nodup⟩
theorem CntMap.look {ks:List Value} {B:Int} (h:CntMap w m ks B) (hT:P.underlying T=some (.map K E)) (hK:KeyOK P K S) (hS:∀k∈ks,S k) {k:Value} (hk:S k) (hz:∀w,(zeroValue E).run P w=.ok (.int .i64 0) w) :
  ∃v,(Instr.lookup T (.map (some m)) k false).run P w=.ok (.int .i64 v) w∧((k∈ks∧1≤v∧v≤B)∨(k ∉ ks∧v=0)):=by
 obtain ⟨es,hM,rfl,hc⟩:=h.ex
 rcases hM.lookup hT hK (fun p hp=>hS _ (List.mem_map.2 ⟨p,hp,rfl⟩)) hk (hz w) false with ⟨hn,hr⟩ | ⟨i,v,hi,hr⟩
 ·refine ⟨0,hr,.inr ⟨fun hm=>?_,rfl⟩⟩
  obtain ⟨p,hp,rfl⟩:=List.mem_map.1 hm
  exact hn p hp rfl
 ·obtain ⟨n,rfl,h1,h2⟩:=hc _ (List.mem_of_getElem? hi)
  exact ⟨n,hr,.inl ⟨List.mem_map.2 ⟨_,List.mem_of_getElem? hi,rfl⟩,h1,h2⟩⟩
end
end Go.SE
end
section
namespace Go.SE
section
variable {P:Program} {ops:Array Oper} {Q:Env→World→Prop} {ρ:Env} {w:World} {rest:List Oper} {o:Oper}
theorem yD (d:Nat) {j:Nat} {c t:Bool} (hc:c=t) (hd:(ops[j]?).bind (·.dst)=some d:=by kernel_rfl) (hv:ρ d=.bool c:=by kernel_rfl):zQ ops ρ j=some t:=yE hd hv hc
theorem q0 (v:Value) (h:wpL P ops Q rest (put ρ o.dst v) w) (hw:Region.wanted o (zQ ops ρ)=true:=by kernel_rfl) (hr:(execOp (evE ρ) o).run P w=.ok (.value v) w:=by kernel_rfl):wpL P ops Q (o :: rest) ρ w:=stp hw hr h
theorem q1 (v:Value) (hw:Region.wanted o (zQ ops ρ)=true) (h:wpL P ops Q rest (put ρ o.dst v) w) (hr:(execOp (evE ρ) o).run P w=.ok (.value v) w:=by kernel_rfl):wpL P ops Q (o :: rest) ρ w:=stp hw hr h
theorem q2 (v:Value) (hr:(execOp (evE ρ) o).run P w=.ok (.value v) w) (h:wpL P ops Q rest (put ρ o.dst v) w) (hw:Region.wanted o (zQ ops ρ)=true:=by kernel_rfl):wpL P ops Q (o :: rest) ρ w:=stp hw hr h
variable {C:World→Prop} {loud free:Nat→Bool} {fuel:Nat} {listed:Array Bool}
theorem qx (k:Nat) (v:Value) (ho:ops[k]?=some o) (h:wpX P ops C loud free Q fuel (listed.setIfInBounds k true) (put ρ o.dst v) w) (hg:jOJ ops listed loud k=true:=by kernel_rfl) (hw:Region.wanted o (zQ ops ρ)=true:=by kernel_rfl) (hl:loud k=false:=by kernel_rfl) (hr:∀w',(execOp (evE ρ) o).run P w'=.ok (.value v) w':=by intro _;kernel_rfl):wpX P ops C loud free Q (fuel+1) listed ρ w :=
 qgo hg (sx ho hw hl (fun w' _=>hr w') h)
theorem qw (k:Nat) (v:Value) (ho:ops[k]?=some o) (hw:Region.wanted o (zQ ops ρ)=true) (h:wpX P ops C loud free Q fuel (listed.setIfInBounds k true) (put ρ o.dst v) w) (hg:jOJ ops listed loud k=true:=by kernel_rfl) (hl:loud k=false:=by kernel_rfl) (hr:∀w',(execOp (evE ρ) o).run P w'=.ok (.value v) w':=by intro _;kernel_rfl):wpX P ops C loud free Q (fuel+1) listed ρ w :=
 qgo hg (sx ho hw hl (fun w' _=>hr w') h)
theorem qz (k:Nat) (v:Value) (ho:ops[k]?=some o) (hr:∀w',C w'→(execOp (evE ρ) o).run P w'=.ok (.value v) w') (h:wpX P ops C loud free Q fuel (listed.setIfInBounds k true) (put ρ o.dst v) w) (hg:jOJ ops listed loud k=true:=by kernel_rfl) (hw:Region.wanted o (zQ ops ρ)=true:=by kernel_rfl) (hl:loud k=false:=by kernel_rfl):wpX P ops C loud free Q (fuel+1) listed ρ w :=
 qgo hg (sx ho hw hl hr h)
theorem qn (k:Nat) (ho:ops[k]?=some o) (hw:Region.wanted o (zQ ops ρ)=false) (h:wpX P ops C loud free Q fuel (listed.setIfInBounds k true) (put ρ o.dst undef) w) (hg:jOJ ops listed loud k=true:=by kernel_rfl):wpX P ops C loud free Q (fuel+1) listed ρ w :=
 qgo hg (xZ ho hw h)
theorem qq {W:World} (k:Nat) (v:Value) (ho:ops[k]?=some o) (h:wpX P ops (fun x=>x=W) loud free Q fuel (listed.setIfInBounds k true) (put ρ o.dst v) w) (hg:jOJ ops listed loud k=true:=by kernel_rfl) (hw:Region.wanted o (zQ ops ρ)=true:=by kernel_rfl) (hl:loud k=false:=by kernel_rfl) (hr:(execOp (evE ρ) o).run P W=.ok (.value v) W:=by kernel_rfl):wpX P ops (fun x=>x=W) loud free Q (fuel+1) listed ρ w :=
 qgo hg (sxQ ho hw hl hr h)
theorem qr {W:World} (k:Nat) (v:Value) (ho:ops[k]?=some o) (hr:(execOp (evE ρ) o).run P W=.ok (.value v) W) (h:wpX P ops (fun x=>x=W) loud free Q fuel (listed.setIfInBounds k true) (put ρ o.dst v) w) (hg:jOJ ops listed loud k=true:=by kernel_rfl) (hw:Region.wanted o (zQ ops ρ)=true:=by kernel_rfl) (hl:loud k=false:=by kernel_rfl):wpX P ops (fun x=>x=W) loud free Q (fuel+1) listed ρ w :=
 qgo hg (sxQ ho hw hl hr h)
end
section
variable {P:Program} {n:Nat} {Q:Exit→Env→World→Prop} {ρ:Env} {w:World}
theorem rg {cx:Cx} {id:Nat} {l:List Oper} (h:wpL P l.toArray (fun ρ w=>Q .normal ρ w) l ρ w) (hd:tE n l=true:=by kernel_rfl):wpE (x:=cx) P n (.region id l.toArray false) Q ρ w:=jKP hd h
end
section
variable {α:Type} {x0 x1 x2 x3 x4 x5 x6 x7 x8 x9 o:α} {l:List α}
theorem Kp0:(o :: l).toArray[0]?=some o:=rfl
theorem Kp1:(x0 :: o :: l).toArray[1]?=some o:=rfl
theorem Kp2:(x0 :: x1 :: o :: l).toArray[2]?=some o:=rfl
theorem Kp3:(x0 :: x1 :: x2 :: o :: l).toArray[3]?=some o:=rfl
theorem Kp4:(x0 :: x1 :: x2 :: x3 :: o :: l).toArray[4]?=some o:=rfl
theorem Kp5:(x0 :: x1 :: x2 :: x3 :: x4 :: o :: l).toArray[5]?=some o:=rfl
theorem Kp6:(x0 :: x1 :: x2 :: x3 :: x4 :: x5 :: o :: l).toArray[6]?=some o:=rfl
theorem Kp7:(x0 :: x1 :: x2 :: x3 :: x4 :: x5 :: x6 :: o :: l).toArray[7]?=some o:=rfl
theorem Kp8:(x0 :: x1 :: x2 :: x3 :: x4 :: x5 :: x6 :: x7 :: o :: l).toArray[8]?=some o:=rfl
theorem Kp9:(x0 :: x1 :: x2 :: x3 :: x4 :: x5 :: x6 :: x7 :: x8 :: o :: l).toArray[9]?=some o:=rfl
end
end Go.SE
end
section
namespace Go.SE
section
variable {α:Type} {a b c d e f g h o:α} {l:List α} {k:Nat}
theorem S4 (x:l[k]?=some o):(a :: b :: c :: d :: l)[k+4]?=some o:=by simpa using x
theorem S8 (x:l[k]?=some o):(a :: b :: c :: d :: e :: f :: g :: h :: l)[k+8]?=some o:=by simpa using x
end
section
variable {P:Program} {ε:Operand→Value} {w w':World} {d:Option Tmp} {ty:TypeId} {pos:String} {aft:Array Edge} {g:Option (Nat×Bool)}
theorem xl {T:TypeId} {x:Operand} {a:Addr} {v:Value} (hT:(isAgg T).run P w=.ok false w) (hc:w.cell? a=some v) (hx:ε x=.pointer (some a):=by kernel_rfl):(execOp ε ⟨d,.load T x,ty,pos,aft,g⟩).run P w=.ok (.value v) w:=jOX hx hT hc
theorem xT {c x y:Operand} {b:Bool} {v:Value} (hb:b=true) (hc:ε c=.bool b:=by kernel_rfl) (hx:ε x=v:=by kernel_rfl):(execOp ε ⟨d,.pick c x y,ty,pos,aft,g⟩).run P w=.ok (.value v) w:=jPL hc hb hx
theorem xF {c x y:Operand} {b:Bool} {v:Value} (hb:b=false) (hc:ε c=.bool b:=by kernel_rfl) (hy:ε y=v:=by kernel_rfl):(execOp ε ⟨d,.pick c x y,ty,pos,aft,g⟩).run P w=.ok (.value v) w:=jPM hc hb hy
theorem xb {T:TypeId} {x:Operand} {cs:Array Value} (hc:(ε x).cells=cs:=by kernel_rfl):(execOp ε ⟨d,.box T x,ty,pos,aft,g⟩).run P w=.ok (.value (.pointer (some ⟨w.heap.size,0,none⟩))) (w.alloc (.cells cs T)):=x_box hc
theorem xs {T:TypeId} {x y:Operand} {a:Addr} {v:Value} (hs:(sizeOf T).run P w=.ok 1 w) (hc:vF w a) (hx:ε x=.pointer (some a):=by kernel_rfl) (hy:ε y=v:=by kernel_rfl) (h1:qE v=true:=by rfl):(execOp ε ⟨d,.store T x y,ty,pos,aft,g⟩).run P w=.ok .skip (w.setCell a v):=uZ hx hy h1 hs hc
end
section
variable {P:Program} {ρ:Env} {w w':World} {ty:TypeId} {pos:String} {aft:Array Edge} {g:Option (Nat×Bool)} {d:Option Tmp}
theorem xc {f:FuncId} {c:List Operand} {ts:Array TypeId} {args:Array Value} (hf:∀args w,(callFunc f args).run P w=.ok (.enter f args) w) (ha:(c.map (evE ρ)).toArray=args:=by kernel_rfl) :
  (execOp (evE ρ) ⟨d,.call ⟨.value (.func f),c.toArray,ts⟩,ty,pos,aft,g⟩).run P w=.ok (.enter f args) w:=jIK hf ha
end
section
variable {P:Program} {ops:Array Oper} {Q:Env→World→Prop} {ρ:Env} {w w':World} {rest:List Oper} {o:Oper} {v:Value}
theorem sn {O:Obj} (hr:(execOp (evE ρ) o).run P w=.ok (.value (.pointer (some ⟨w.heap.size,0,none⟩))) (w.alloc O)) (h:∀p w',New w O p w'→wpL P ops Q rest (put ρ o.dst (.pointer (some p))) w') (hw:Region.wanted o (zQ ops ρ)=true:=by kernel_rfl):wpL P ops Q (o :: rest) ρ w:=tR (fun p=>.pointer (some p)) hw hr h
end
section
variable {H:Nat→Prop} {w:World} {l:List HBx}
theorem HBZ.c {Z:List (Nat×Obj)} (hb:HBZ Z H w l) (i j:Nat) {p:Addr} {c:List Value} {T:TypeId} {v:Value} (hi:l[i]?=some (p,c,T)) (hv:c[j]?=some v:=by kernel_rfl):w.cell? (p.add j)=some v:=hb.cell i j hi hv
theorem HBZ.c0 {Z:List (Nat×Obj)} (hb:HBZ Z H w l) (i:Nat) {p:Addr} {c:List Value} {T:TypeId} {v:Value} (hi:l[i]?=some (p,c,T)) (hv:c[0]?=some v:=by kernel_rfl):w.cell? p=some v:=hb.cell0 i hi hv
end
abbrev vi (n:Int):Value:=.int .i64 n
abbrev vu (n:Int):Value:=.int .u64 n
abbrev vs (n:ByteArray):Value:=.string n
abbrev vb (n:Bool):Value:=.bool n
abbrev vp (n:Option Addr):Value:=.pointer n
end Go.SE
namespace Go.SE
theorem Kept.hh {w0 wv w w1:World} {Hv H:Nat→Prop} {Z:List (Nat×Obj)} {l:List HBx} (hk:Kept H w w1) (hs:Hst w0 Hv wv H w) (hb:HBZ Z H w l):Hst w0 H w1 H w1∧HBZ Z H w1 l:=⟨hs.again hk,hb.kept hk⟩
end Go.SE
namespace Go.SE
section
variable {P:Program} {ops:Array Oper} {C:World→Prop} {loud free:Nat→Bool} {K:Env→World→Prop} {ρ:Env} {w w' W:World} {o:Oper} {v:Value} {k:Nat}
theorem sy (ho:ops[k]?=some o) (hr:∀w',C w'→(execOp (evE ρ) o).run P w'=.ok (.value v) w') (h:K (put ρ o.dst v) w) (hw:Region.wanted o (zQ ops ρ)=true:=by kernel_rfl) (hl:loud k=false:=by kernel_rfl):opE P ops C loud free k K ρ w:=sx ho hw hl hr h
theorem sz (ho:ops[k]?=some o) (hw:Region.wanted o (zQ ops ρ)=true) (hr:∀w',C w'→(execOp (evE ρ) o).run P w'=.ok (.value v) w') (h:K (put ρ o.dst v) w) (hl:loud k=false:=by kernel_rfl):opE P ops C loud free k K ρ w:=sx ho hw hl hr h
theorem jPS (ho:ops[k]?=some o) (hr:(execOp (evE ρ) o).run P w=.ok .skip W) (h:∀w',w'=W→(free k=true∨C w')∧K (put ρ o.dst undef) w') (hw:Region.wanted o (zQ ops ρ)=true:=by kernel_rfl) (hl:loud k=true:=by kernel_rfl):opE P ops C loud free k K ρ w:=xL ho hw hl hr h
variable {Q:Env→World→Prop} {fuel:Nat} {listed:Array Bool}
theorem qg (k:Nat) (h:opE P ops C loud free k (wpX P ops C loud free Q fuel (listed.setIfInBounds k true)) ρ w) (hg:jOJ ops listed loud k=true:=by kernel_rfl):wpX P ops C loud free Q (fuel+1) listed ρ w:=qgo hg h
theorem lg (k:Nat) (h:opE P ops C loud free k (wpX P ops C loud free Q fuel (listed.setIfInBounds k true)) ρ w) (hr:Region.ready .any ops listed=[k]:=by kernel_rfl):wpX P ops C loud free Q (fuel+1) listed ρ w:=lgo hr h
variable {ε:Operand→Value} {d:Option Tmp} {ty:TypeId} {pos:String} {aft:Array Edge} {g:Option (Nat×Bool)}
theorem xi {T E:TypeId} {x ix:Operand} {s:Sl} {i:Int} {n:Nat} {a:Addr} (hT:(underlying T).run P w=.ok (.slice E) w) (hs:(sizeOf E).run P w=.ok n w) (ha:At s i n a) (hx:ε x=s.v:=by kernel_rfl) (hi:ε ix=.int .i64 i:=by kernel_rfl):(execOp ε ⟨d,.indexAddr T x ix,ty,pos,aft,g⟩).run P w=.ok (.value (.pointer (some a))) w:=jCZ hx hi hT hs ha
theorem hm {l:List (Nat×Value)} (h:l.map (fun p=>ρ p.1)=l.map (·.2):=by kernel_rfl):Has ρ l:=Has.mk h
theorem wn {Q:Env→World→Prop} {listed:Array Bool} (h:Q ρ w) (h0:Region.ready .any ops listed=[]:=by kernel_rfl):wpX P ops C loud free Q 0 listed ρ w:=jPP h0 h
theorem sm {rest:List Oper} (h:wpL P ops Q rest (put ρ o.dst undef) w) (hw:Region.wanted o (zQ ops ρ)=false:=by kernel_rfl):wpL P ops Q (o :: rest) ρ w:=jOY hw h
theorem sc {rest:List Oper} {f:FuncId} {c:List Operand} {ts:Array TypeId} {args:Array Value} (hf:∀args w,(callFunc f args).run P w=.ok (.enter f args) w) (h:Calls P f args w fun e w''=>∃v,e=.returned v∧wpL P ops Q rest (put ρ d v) w'') (hw:Region.wanted ⟨d,.call ⟨.value (.func f),c.toArray,ts⟩,ty,pos,aft,g⟩ (zQ ops ρ)=true:=by kernel_rfl) (ha:(c.map (evE ρ)).toArray=args:=by kernel_rfl) :
  wpL P ops Q (⟨d,.call ⟨.value (.func f),c.toArray,ts⟩,ty,pos,aft,g⟩ :: rest) ρ w:=vA hw (jIK hf ha) h
theorem cw {n:Nat} {f:FuncId} {fn:Func} {c:Code} {args:List Value} {R:Ending→World→Prop} (hf:P.funcs[f]?=some fn) (hn:fn.ntmps=n) (h:wpE (x:=⟨none,[]⟩) P n c (jEN P fn n R) (jOW args) w) (hb:fn.body=some c:=by exact rfl) (hl:args.length≤n:=by exact Nat.le_of_ble_eq_true rfl):Calls P f args.toArray w R:=jHR hf hb hn hl h
theorem rs1 {n:Nat} {fn:Func} {t:Nat} {v:Value} {R:Ending→World→Prop} {e:Exit} (hr:fn.results=#[.tmp t]) (h:R (.returned v) w) (hv:ρ t=v:=by kernel_rfl) (he:e=.ret∨e=.normal:=by exact .inl rfl):jEN P fn n R e ρ w:=res1 he hr hv h
end
end Go.SE
namespace Go.SE
theorem Kept.sc {H:Nat→Prop} {w w':World} {a:Addr} {v:Value} (h:¬ H a.block) (e:w'=w.setCell a v):Kept H w w':=by rw [e];exact Kept.setCell h
end Go.SE
namespace Go.SE
section
variable {P:Program} {n:Nat} {Q:Exit→Env→World→Prop} {ρ:Env} {w:World}
theorem ln {ops:Array Oper} {next:Env→World→Prop} (h:next ρ w):wpL P ops (fun ρ w=>jBW next Q .normal ρ w) [] ρ w:=h
theorem eg {cx:Cx} {id:Nat} {l:List Oper} {y:Code} (h:wpL P l.toArray (fun ρ w=>jBW (fun ρ w=>wpE (x:=cx) P n y Q ρ w) Q .normal ρ w) l ρ w) (hd:tE n l=true:=by kernel_rfl):wpE (x:=cx) P n (.seq (.region id l.toArray false) y) Q ρ w:=zA (rg h hd)
theorem er {x:Cx} (h:Q .ret ρ w):wpE (x:=x) P n .ret Q ρ w:=jPQ h
theorem wy {ops:Array Oper} {o:Oper} (d:Nat) {j:Nat} {c t:Bool} (hc:c=t) (hg:o.guard=some (j,t):=by rfl) (hd:(ops[j]?).bind (·.dst)=some d:=by kernel_rfl) (hv:ρ d=.bool c:=by kernel_rfl):Region.wanted o (zQ ops ρ)=true:=jBV hg (yE hd hv hc)
variable {ε:Operand→Value} {w':World} {d:Option Tmp} {ty:TypeId} {pos:String} {aft:Array Edge} {g:Option (Nat×Bool)}
theorem xo {T:TypeId} {x y:Operand} {n:Nat} (a:Addr) (vs:List Value) (hs:(sizeOf T).run P w=.ok n w) (hc:∀j,j<vs.length→vF w (a.add j)) (hx:ε x=.pointer (some a):=by kernel_rfl) (hy:ε y=.agg vs.toArray:=by kernel_rfl) (h1:vs.all qE=true:=by rfl) (hn:vs.length=n:=by rfl) :
  (execOp ε ⟨d,.store T x y,ty,pos,aft,g⟩).run P w=.ok .skip (storeRow w a vs):=jCR hx hy h1 hs hn hc
theorem xa {T:TypeId} {x:Operand} {n:Nat} (a:Addr) (vs:List Value) (hT:(isAgg T).run P w=.ok true w) (hs:(sizeOf T).run P w=.ok n w) (hc:Row w a vs) (hx:ε x=.pointer (some a):=by kernel_rfl) (hn:vs.length=n:=by rfl) :
  (execOp ε ⟨d,.load T x,ty,pos,aft,g⟩).run P w=.ok (.value (.agg vs.toArray)) w:=jLK hx hT hs hn hc
theorem rva {a:Nat} {A:Addr} {T:TypeId} {vs:List Value} {k:Nat} (hT:(isAgg T).run P w=.ok true w) (hs:(sizeOf T).run P w=.ok k w) (hc:Row w A vs) (ha:ρ a=.pointer (some A):=by kernel_rfl) (hn:vs.length=k:=by rfl):RV P ρ w (.cell a T) (.agg vs.toArray):=RV.cellA ha hT hs hn hc
end
section
variable {H Hv:Nat→Prop} {w0 wv w w':World} {l l':List HBx} {Z:List (Nat×Obj)} {p:Addr} {c vs:List Value} {T:TypeId}
theorem HBZ.r0 (hb:HBZ Z H w l) (i n:Nat) (hi:l[i]?=some (p,c,T)) (hv:c.take n=vs:=by kernel_rfl):Row w p vs:=hb.row0 i n hi hv
theorem HBZ.k0 (hb:HBZ Z H w l) (i n:Nat) (hi:l[i]?=some (p,c,T)) (hj:decide (n≤c.length)=true:=by kernel_rfl):∀k,k<n→vF w (p.add k):=hb.canWs0 i n hi hj
theorem HBZ.s0 (hb:HBZ Z H w l) (i:Nat) (vs:List Value) (h:Hst w0 Hv wv H w) (hw:w'=storeRow w p vs) (hi:l[i]?=some (p,c,T)) (hj:decide (vs.length≤c.length)=true:=by kernel_rfl) (hl:l.set i (p,vs++c.drop vs.length,T)=l':=by kernel_rfl):Hst w0 Hv wv H w'∧HBZ Z H w' l':=by
 subst hw;exact hb.store0 h hi hj hl
end
end Go.SE
namespace Go.SE
abbrev ve:Value:=.string ⟨#[]⟩
theorem bte (b:Bool):b=true∨b=false:=Bool.eq_false_or_eq_true b
section
variable {P:Program} {ops:Array Oper} {Q:Env→World→Prop} {C:World→Prop} {loud free:Nat→Bool} {K:Env→World→Prop} {ρ:Env} {w:World} {k:Nat} {d:Option Tmp} {ty:TypeId} {pos:String} {aft:Array Edge} {g:Option (Nat×Bool)}
theorem slc {f:FuncId} {c:List Operand} {ts:Array TypeId} {args:Array Value} (ho:ops[k]?=some ⟨d,.call ⟨.value (.func f),c.toArray,ts⟩,ty,pos,aft,g⟩) (hf:∀args w,(callFunc f args).run P w=.ok (.enter f args) w) (h:Calls P f args w fun e w''=>∃v,e=.returned v∧(free k=true∨C w'')∧K (put ρ d v) w'') (hg:g=none:=by rfl) (hl:loud k=true:=by kernel_rfl) (ha:(c.map (evE ρ)).toArray=args:=by kernel_rfl):opE P ops C loud free k K ρ w:=jBX ho (zR hg) hl (jIK hf ha) h
theorem ss {rest:List Oper} {o:Oper} {W:World} (hr:(execOp (evE ρ) o).run P w=.ok .skip W) (h:∀w',w'=W→wpL P ops Q rest (put ρ o.dst undef) w') (hg:o.guard=none:=by rfl):wpL P ops Q (o :: rest) ρ w:=vU (zR hg) hr h
variable {ε:Operand→Value}
theorem xn {x:Operand} {p:Option Addr} {a:Addr} (hp:p=some a) (hx:ε x=.pointer p:=by kernel_rfl):(execOp ε ⟨d,.nilCheck x,ty,pos,aft,g⟩).run P w=.ok (.value (.pointer (some a))) w:=jEO hx hp
end
end Go.SE
namespace Go.SE
def rv:Result Next→Value
 | .ok (.value v) _=>v
 | _=>undef
def sv (P:Program) (o:Oper) (ρ:Env) (w:World):Env:=put ρ o.dst (rv ((execOp (evE ρ) o).run P w))
def isv:Result Next→Bool
 | .ok (.value _) _=>true
 | _=>false
def wof (w:World):Result Next→World
 | .ok _ w'=>w'
 | _=>w
theorem jPA {r:Result Next} {w w0:World} (h:isv r=true) (hw:wof w0 r=w):r=.ok (.value (rv r)) w:=by
 cases r with
 | ok a w' =>
  cases a with
  | value v=>simp [rv,wof] at hw ⊢;exact hw
  | _=>simp [isv] at h
 | _=>simp [isv] at h
def okl (P:Program) (ops:Array Oper) (o:Oper) (ρ:Env) (w:World):Bool×World:=(Region.wanted o (zQ ops ρ) && isv ((execOp (evE ρ) o).run P w),wof w ((execOp (evE ρ) o).run P w))
theorem okq {P:Program} {ops:Array Oper} {o:Oper} {ρ:Env} {w:World} (h:okl P ops o ρ w=(true,w)):Region.wanted o (zQ ops ρ)=true∧(execOp (evE ρ) o).run P w=.ok (.value (rv ((execOp (evE ρ) o).run P w))) w:=by
 have h1:=congrArg Prod.fst h;have h2:=congrArg Prod.snd h;simp only [okl,Bool.and_eq_true] at h1 h2;exact ⟨h1.1,jPA h1.2 h2⟩
def okv (P:Program) (o:Oper) (ρ:Env) (w:World):Bool×World:=(isv ((execOp (evE ρ) o).run P w),wof w ((execOp (evE ρ) o).run P w))
theorem okw {P:Program} {o:Oper} {ρ:Env} {w:World} (h:okv P o ρ w=(true,w)):(execOp (evE ρ) o).run P w=.ok (.value (rv ((execOp (evE ρ) o).run P w))) w:=jPA (congrArg Prod.fst h) (congrArg Prod.snd h)
section
variable {P:Program} {ops:Array Oper} {Q:Env→World→Prop} {ρ:Env} {w:World} {rest:List Oper} {o o1 o2 o3 o4 o5:Oper}
theorem q (h:wpL P ops Q rest (sv P o ρ w) w) (h0:okl P ops o ρ w=(true,w):=by kernel_rfl):wpL P ops Q (o :: rest) ρ w:=stp (okq h0).1 (okq h0).2 h
theorem qb (h:wpL P ops Q rest (sv P o1 (sv P o ρ w) w) w) (h0:okl P ops o ρ w=(true,w):=by kernel_rfl) (h1:okl P ops o1 (sv P o ρ w) w=(true,w):=by kernel_rfl):wpL P ops Q (o :: o1 :: rest) ρ w:=q (q h h1) h0
theorem qc (h:wpL P ops Q rest (sv P o2 (sv P o1 (sv P o ρ w) w) w) w) (h0:okl P ops o ρ w=(true,w):=by kernel_rfl) (h1:okl P ops o1 (sv P o ρ w) w=(true,w):=by kernel_rfl) (h2:okl P ops o2 (sv P o1 (sv P o ρ w) w) w=(true,w):=by kernel_rfl):wpL P ops Q (o :: o1 :: o2 :: rest) ρ w:=q (q (q h h2) h1) h0
theorem qd (h:wpL P ops Q rest (sv P o3 (sv P o2 (sv P o1 (sv P o ρ w) w) w) w) w) (h0:okl P ops o ρ w=(true,w):=by kernel_rfl) (h1:okl P ops o1 (sv P o ρ w) w=(true,w):=by kernel_rfl) (h2:okl P ops o2 (sv P o1 (sv P o ρ w) w) w=(true,w):=by kernel_rfl) (h3:okl P ops o3 (sv P o2 (sv P o1 (sv P o ρ w) w) w) w=(true,w):=by kernel_rfl):wpL P ops Q (o :: o1 :: o2 :: o3 :: rest) ρ w:=qb (qb h h2 h3) h0 h1
theorem qk (d:Nat) {j:Nat} {c t:Bool} (hc:c=t) (h:wpL P ops Q rest (sv P o ρ w) w) (hg:o.guard=some (j,t):=by rfl) (hd:(ops[j]?).bind (·.dst)=some d:=by kernel_rfl) (hv:ρ d=.bool c:=by kernel_rfl) (hr:okv P o ρ w=(true,w):=by kernel_rfl):wpL P ops Q (o :: rest) ρ w:=stp (jBV hg (yE hd hv hc)) (okw hr) h
theorem stq {v:Value} (hw:Region.wanted o (zQ ops ρ)=true) (hr:(execOp (evE ρ) o).run P w=.ok (.value v) w) (h:wpL P ops Q rest (put ρ o.dst v) w):wpL P ops Q (o :: rest) ρ w:=Go.SE.stp hw hr h
theorem q3 {v:Value} (hr:(execOp (evE ρ) o).run P w=.ok (.value v) w) (h:wpL P ops Q rest (put ρ o.dst v) w) (hw:Region.wanted o (zQ ops ρ)=true:=by kernel_rfl):wpL P ops Q (o :: rest) ρ w:=stp hw hr h
theorem q4 {v:Value} (d:Nat) {j:Nat} {c t:Bool} (hc:c=t) (hr:(execOp (evE ρ) o).run P w=.ok (.value v) w) (h:wpL P ops Q rest (put ρ o.dst v) w) (hg:o.guard=some (j,t):=by rfl) (hd:(ops[j]?).bind (·.dst)=some d:=by kernel_rfl) (hv:ρ d=.bool c:=by kernel_rfl):wpL P ops Q (o :: rest) ρ w:=stp (jBV hg (yE hd hv hc)) hr h
theorem sj (d:Nat) {j:Nat} {c t u:Bool} (hc:c=u) (h:wpL P ops Q rest (put ρ o.dst undef) w) (hg:o.guard=some (j,t):=by rfl) (hne:(u == t)=false:=by rfl) (hd:(ops[j]?).bind (·.dst)=some d:=by kernel_rfl) (hv:ρ d=.bool c:=by kernel_rfl):wpL P ops Q (o :: rest) ρ w:=jOY (qA hg (yE hd hv hc) hne) h
theorem sj2 (d:Nat) {j0 j1:Nat} {c u t0 t1:Bool} (hc:c=u) (h:wpL P ops Q rest (put (put ρ o.dst undef) o1.dst undef) w) (g0:o.guard=some (j0,t0):=by rfl) (n0:(u == t0)=false:=by rfl) (d0:(ops[j0]?).bind (·.dst)=some d:=by kernel_rfl) (v0:ρ d=.bool c:=by kernel_rfl) (g1:o1.guard=some (j1,t1):=by rfl) (n1:(u == t1)=false:=by rfl) (d1:(ops[j1]?).bind (·.dst)=some d:=by kernel_rfl) (v1:(put ρ o.dst undef) d=.bool c:=by kernel_rfl):wpL P ops Q (o :: o1 :: rest) ρ w:=sj d hc (sj d hc (h) g1 n1 d1 v1) g0 n0 d0 v0
theorem sj3 (d:Nat) {j0 j1 j2:Nat} {c u t0 t1 t2:Bool} (hc:c=u) (h:wpL P ops Q rest (put (put (put ρ o.dst undef) o1.dst undef) o2.dst undef) w) (g0:o.guard=some (j0,t0):=by rfl) (n0:(u == t0)=false:=by rfl) (d0:(ops[j0]?).bind (·.dst)=some d:=by kernel_rfl) (v0:ρ d=.bool c:=by kernel_rfl) (g1:o1.guard=some (j1,t1):=by rfl) (n1:(u == t1)=false:=by rfl) (d1:(ops[j1]?).bind (·.dst)=some d:=by kernel_rfl) (v1:(put ρ o.dst undef) d=.bool c:=by kernel_rfl) (g2:o2.guard=some (j2,t2):=by rfl) (n2:(u == t2)=false:=by rfl) (d2:(ops[j2]?).bind (·.dst)=some d:=by kernel_rfl) (v2:(put (put ρ o.dst undef) o1.dst undef) d=.bool c:=by kernel_rfl):wpL P ops Q (o :: o1 :: o2 :: rest) ρ w:=sj d hc (sj d hc (sj d hc (h) g2 n2 d2 v2) g1 n1 d1 v1) g0 n0 d0 v0
theorem sj4 (d:Nat) {j0 j1 j2 j3:Nat} {c u t0 t1 t2 t3:Bool} (hc:c=u) (h:wpL P ops Q rest (put (put (put (put ρ o.dst undef) o1.dst undef) o2.dst undef) o3.dst undef) w) (g0:o.guard=some (j0,t0):=by rfl) (n0:(u == t0)=false:=by rfl) (d0:(ops[j0]?).bind (·.dst)=some d:=by kernel_rfl) (v0:ρ d=.bool c:=by kernel_rfl) (g1:o1.guard=some (j1,t1):=by rfl) (n1:(u == t1)=false:=by rfl) (d1:(ops[j1]?).bind (·.dst)=some d:=by kernel_rfl) (v1:(put ρ o.dst undef) d=.bool c:=by kernel_rfl) (g2:o2.guard=some (j2,t2):=by rfl) (n2:(u == t2)=false:=by rfl) (d2:(ops[j2]?).bind (·.dst)=some d:=by kernel_rfl) (v2:(put (put ρ o.dst undef) o1.dst undef) d=.bool c:=by kernel_rfl) (g3:o3.guard=some (j3,t3):=by rfl) (n3:(u == t3)=false:=by rfl) (d3:(ops[j3]?).bind (·.dst)=some d:=by kernel_rfl) (v3:(put (put (put ρ o.dst undef) o1.dst undef) o2.dst undef) d=.bool c:=by kernel_rfl):wpL P ops Q (o :: o1 :: o2 :: o3 :: rest) ρ w:=sj d hc (sj d hc (sj d hc (sj d hc (h) g3 n3 d3 v3) g2 n2 d2 v2) g1 n1 d1 v1) g0 n0 d0 v0
theorem sj5 (d:Nat) {j0 j1 j2 j3 j4:Nat} {c u t0 t1 t2 t3 t4:Bool} (hc:c=u) (h:wpL P ops Q rest (put (put (put (put (put ρ o.dst undef) o1.dst undef) o2.dst undef) o3.dst undef) o4.dst undef) w) (g0:o.guard=some (j0,t0):=by rfl) (n0:(u == t0)=false:=by rfl) (d0:(ops[j0]?).bind (·.dst)=some d:=by kernel_rfl) (v0:ρ d=.bool c:=by kernel_rfl) (g1:o1.guard=some (j1,t1):=by rfl) (n1:(u == t1)=false:=by rfl) (d1:(ops[j1]?).bind (·.dst)=some d:=by kernel_rfl) (v1:(put ρ o.dst undef) d=.bool c:=by kernel_rfl) (g2:o2.guard=some (j2,t2):=by rfl) (n2:(u == t2)=false:=by rfl) (d2:(ops[j2]?).bind (·.dst)=some d:=by kernel_rfl) (v2:(put (put ρ o.dst undef) o1.dst undef) d=.bool c:=by kernel_rfl) (g3:o3.guard=some (j3,t3):=by rfl) (n3:(u == t3)=false:=by rfl) (d3:(ops[j3]?).bind (·.dst)=some d:=by kernel_rfl) (v3:(put (put (put ρ o.dst undef) o1.dst undef) o2.dst undef) d=.bool c:=by kernel_rfl) (g4:o4.guard=some (j4,t4):=by rfl) (n4:(u == t4)=false:=by rfl) (d4:(ops[j4]?).bind (·.dst)=some d:=by kernel_rfl) (v4:(put (put (put (put ρ o.dst undef) o1.dst undef) o2.dst undef) o3.dst undef) d=.bool c:=by kernel_rfl):wpL P ops Q (o :: o1 :: o2 :: o3 :: o4 :: rest) ρ w:=sj d hc (sj d hc (sj d hc (sj d hc (sj d hc (h) g4 n4 d4 v4) g3 n3 d3 v3) g2 n2 d2 v2) g1 n1 d1 v1) g0 n0 d0 v0
variable {d:Option Tmp} {ty:TypeId} {pos:String} {aft:Array Edge} {g:Option (Nat×Bool)}
theorem ql {τ:Type} {F:τ→Value} {R:τ→Prop} {T:TypeId} {x:Operand} {a:Addr} (hT:(isAgg T).run P w=.ok false w) (h:∃v,w.cell? a=some (F v)∧R v) (k:∀v,R v→wpL P ops Q rest (put ρ d (F v)) w) (hx:evE ρ x=.pointer (some a):=by kernel_rfl) (hw:Region.wanted ⟨d,.load T x,ty,pos,aft,g⟩ (zQ ops ρ)=true:=by kernel_rfl):wpL P ops Q (⟨d,.load T x,ty,pos,aft,g⟩ :: rest) ρ w:=by
 obtain ⟨v,hv,h⟩:=h;exact q2 _ (jOX hx hT hv) (k v h) hw
theorem qm {R:Addr→Prop} {x:Operand} {p:Option Addr} (h:∃a,p=some a∧R a) (k:∀a,R a→wpL P ops Q rest (put ρ d (.pointer (some a))) w) (hx:evE ρ x=.pointer p:=by kernel_rfl) (hw:Region.wanted ⟨d,.nilCheck x,ty,pos,aft,g⟩ (zQ ops ρ)=true:=by kernel_rfl):wpL P ops Q (⟨d,.nilCheck x,ty,pos,aft,g⟩ :: rest) ρ w:=by
 obtain ⟨a,ha,h⟩:=h;exact q2 _ (jEO hx ha) (k a h) hw
theorem qi {R:Addr→Prop} {T E:TypeId} {x ix:Operand} {s:Sl} {i:Int} {n:Nat} (hT:(underlying T).run P w=.ok (.slice E) w) (hs:(sizeOf E).run P w=.ok n w) (h:∃a,At s i n a∧R a) (k:∀a,R a→wpL P ops Q rest (put ρ d (.pointer (some a))) w) (hx:evE ρ x=s.v:=by kernel_rfl) (hi:evE ρ ix=.int .i64 i:=by kernel_rfl) (hw:Region.wanted ⟨d,.indexAddr T x ix,ty,pos,aft,g⟩ (zQ ops ρ)=true:=by kernel_rfl):wpL P ops Q (⟨d,.indexAddr T x ix,ty,pos,aft,g⟩ :: rest) ρ w:=by
 obtain ⟨a,ha,h⟩:=h;exact q2 _ (jCZ hx hi hT hs ha) (k a h) hw
theorem qa {T:TypeId} {x:Operand} {n:Nat} {a:Addr} {vs:List Value} (hT:(isAgg T).run P w=.ok true w) (hs:(sizeOf T).run P w=.ok n w) (hc:Row w a vs) (h:wpL P ops Q rest (put ρ d (.agg vs.toArray)) w) (hx:evE ρ x=.pointer (some a):=by kernel_rfl) (hn:vs.length=n:=by rfl) (hw:Region.wanted ⟨d,.load T x,ty,pos,aft,g⟩ (zQ ops ρ)=true:=by kernel_rfl):wpL P ops Q (⟨d,.load T x,ty,pos,aft,g⟩ :: rest) ρ w:=q2 _ (jLK hx hT hs hn hc) h hw
theorem sro {R:World→Prop} {T:TypeId} {x y:Operand} {n m:Nat} {a:Addr} {vs:List Value} (hs:(sizeOf T).run P w=.ok n w) (h:(∀j,j<m→vF w (a.add j))∧∀w',w'=storeRow w a vs→R w') (k:∀w',R w'→wpL P ops Q rest (put ρ d undef) w') (hx:evE ρ x=.pointer (some a):=by kernel_rfl) (hy:evE ρ y=.agg vs.toArray:=by kernel_rfl) (h1:vs.all qE=true:=by rfl) (hn:vs.length=n:=by rfl) (hm:vs.length=m:=by rfl) (hw:Region.wanted ⟨d,.store T x y,ty,pos,aft,g⟩ (zQ ops ρ)=true:=by kernel_rfl):wpL P ops Q (⟨d,.store T x y,ty,pos,aft,g⟩ :: rest) ρ w:=by
 subst hm;exact jDI hw (jCR hx hy h1 hs hn h.1) (k _ (h.2 _ rfl))
theorem st1 {R:World→Prop} {T:TypeId} {x y:Operand} {a:Addr} {v:Value} (hs:(sizeOf T).run P w=.ok 1 w) (h:vF w a∧∀w',w'=w.setCell a v→R w') (k:∀w',R w'→wpL P ops Q rest (put ρ d undef) w') (hx:evE ρ x=.pointer (some a):=by kernel_rfl) (hy:evE ρ y=v:=by kernel_rfl) (h1:qE v=true:=by rfl) (hw:Region.wanted ⟨d,.store T x y,ty,pos,aft,g⟩ (zQ ops ρ)=true:=by kernel_rfl):wpL P ops Q (⟨d,.store T x y,ty,pos,aft,g⟩ :: rest) ρ w :=
 jDI hw (uZ hx hy h1 hs h.1) (k _ (h.2 _ rfl))
variable {H Hv:Nat→Prop} {w0 wv:World} {l:List HBx} {Z:List (Nat×Obj)}
theorem st2 {R:World→Prop} {T:TypeId} {x y:Operand} {a:Addr} {v:Value} (hs:(sizeOf T).run P w=.ok 1 w) (hst:Hst w0 Hv wv H w) (hb:HBZ Z H w l) (h:vF w a∧¬ H a.block∧∀w',w'=w.setCell a v→R w') (k:∀w',Hst w0 H w' H w'→HBZ Z H w' l→R w'→wpL P ops Q rest (put ρ d undef) w') (hx:evE ρ x=.pointer (some a):=by kernel_rfl) (hy:evE ρ y=v:=by kernel_rfl) (h1:qE v=true:=by rfl) (hw:Region.wanted ⟨d,.store T x y,ty,pos,aft,g⟩ (zQ ops ρ)=true:=by kernel_rfl):wpL P ops Q (⟨d,.store T x y,ty,pos,aft,g⟩ :: rest) ρ w :=
 jDI hw (uZ hx hy h1 hs h.1) (by obtain ⟨hst,hb⟩:=(Kept.setCell h.2.1).hh hst hb;exact k _ hst hb (h.2.2 _ rfl))
theorem nw1 {R:Addr→World→Prop} {O:Obj} (h:∀p w',New w O p w'→R p w') (hr:(execOp (evE ρ) o).run P w=.ok (.value (.pointer (some ⟨w.heap.size,0,none⟩))) (w.alloc O)) (k:∀p w',R p w'→wpL P ops Q rest (put ρ o.dst (.pointer (some p))) w') (hw:Region.wanted o (zQ ops ρ)=true:=by kernel_rfl):wpL P ops Q (o :: rest) ρ w:=sn hr (fun p w' hn=>k p w' (h p w' hn)) hw
theorem nw2 {R:Addr→World→Prop} {O:Obj} (hst:Hst w0 Hv wv H w) (hb:HBZ Z H w l) (h:∀p w',New w O p w'→R p w') (hr:(execOp (evE ρ) o).run P w=.ok (.value (.pointer (some ⟨w.heap.size,0,none⟩))) (w.alloc O)) (k:∀p w',Hst w0 H w' H w'→HBZ Z H w' l→R p w'→wpL P ops Q rest (put ρ o.dst (.pointer (some p))) w') (hw:Region.wanted o (zQ ops ρ)=true:=by kernel_rfl):wpL P ops Q (o :: rest) ρ w:=sn hr (fun p w' hn=>by
 obtain ⟨hst,hb⟩:=(Ext.new (F:=None) hn).keptP.hh hst hb;exact k p w' hst hb (h p w' hn)) hw
theorem nw3 (c:List Value) (T:TypeId) (hst:Hst w0 Hv wv H w) (hb:HBZ Z H w l) (hr:(execOp (evE ρ) o).run P w=.ok (.value (.pointer (some ⟨w.heap.size,0,none⟩))) (w.alloc (.cells c.toArray T))) (k:∀p w' H',Hst w0 Hv wv H' w'→HBZ Z H' w' ((p,c,T) :: l)→wpL P ops Q rest (put ρ o.dst (.pointer (some p))) w') (hw:Region.wanted o (zQ ops ρ)=true:=by kernel_rfl):wpL P ops Q (o :: rest) ρ w:=sn hr (fun p w' hn=>by
 obtain ⟨H1,hst,hb⟩:=hst.alloc hb hn;exact k p w' H1 hst hb) hw
theorem sbx (i:Nat) (vs:List Value) {p:Addr} {c:List Value} {T U:TypeId} {x y:Operand} {n:Nat} (hs:(sizeOf T).run P w=.ok n w) (hst:Hst w0 Hv wv H w) (hb:HBZ Z H w l) (hi:l[i]?=some (p,c,U)) (k:∀w',Hst w0 Hv wv H w'→HBZ Z H w' (l.set i (p,vs++c.drop vs.length,U))→wpL P ops Q rest (put ρ d undef) w') (hx:evE ρ x=.pointer (some p):=by kernel_rfl) (hy:evE ρ y=.agg vs.toArray:=by kernel_rfl) (h1:vs.all qE=true:=by rfl) (hn:vs.length=n:=by rfl) (hj:decide (vs.length≤c.length)=true:=by kernel_rfl) (hw:Region.wanted ⟨d,.store T x y,ty,pos,aft,g⟩ (zQ ops ρ)=true:=by kernel_rfl):wpL P ops Q (⟨d,.store T x y,ty,pos,aft,g⟩ :: rest) ρ w :=
 jDI hw (jCR hx hy h1 hs hn (hb.canWs0 i _ hi hj)) (by obtain ⟨a,b⟩:=hb.store0 (vs:=vs) hst hi hj rfl;exact k _ a b)
end
section
variable {H Hv:Nat→Prop} {w0 wv w w':World} {l l':List HBx} {Z:List (Nat×Obj)} {p:Addr} {c vs:List Value} {T:TypeId}
theorem HBZ.st1 (hb:HBZ Z H w l) (i:Nat) (h:Hst w0 Hv wv H w) (hw:w'=storeRow w p vs) (hi:l[i]?=some (p,c,T)) (hj:decide (vs.length≤c.length)=true:=by kernel_rfl):Hst w0 Hv wv H w'∧HBZ Z H w' (l.set i (p,vs++c.drop vs.length,T)):=by
 subst hw;exact hb.store0 h hi hj rfl
theorem HBZ.d (hb:HBZ Z H w l) (i j:Nat) {p:Addr} {c:List Value} {T:TypeId} (hi:l[i]?=some (p,c,T)) (hv:c[j]?=some (c.getD j undef):=by kernel_rfl):w.cell? (p.add j)=some (c.getD j undef):=hb.cell i j hi hv
theorem HBZ.d0 (hb:HBZ Z H w l) (i:Nat) {p:Addr} {c:List Value} {T:TypeId} (hi:l[i]?=some (p,c,T)) (hv:c[0]?=some (c.getD 0 undef):=by kernel_rfl):w.cell? p=some (c.getD 0 undef):=hb.cell0 i hi hv
theorem Hst.nw {O:Obj} {p:Addr} (h:Hst w0 Hv wv H w) (hb:HBZ Z H w l) (hn:New w O p w'):Hst w0 H w' H w'∧HBZ Z H w' l:=(Ext.new (F:=None) hn).keptP.hh h hb
theorem Hst.pp (h:Hst w0 Hv wv H w) (hb:HBZ Z H w l) (E:Pure w w'):Hst w0 Hv wv H w'∧HBZ Z H w' l:=⟨h.pure E,hb.pure E⟩
theorem Hst.hr {R:Prop} (hs:Hst w0 Hv wv H w) (h:Hst w0 Hv wv H w→R):R∧Hst w0 H w H w:=⟨h hs,hs.here⟩
theorem st0 (w0:World):Hst w0 None w0 None w0∧HB None w0 []:=⟨Hst.start w0,HB.nil None w0⟩
end
theorem Br.br {c:Bool} {A B:Prop} (h:Br c A B):(c=true∧A)∨(c=false∧B):=by
 cases c
 ·exact .inr ⟨rfl,h.2 rfl⟩
 ·exact .inl ⟨rfl,h.1 rfl⟩
section
variable {P:Program} {n:Nat} {Q:Exit→Env→World→Prop} {ρ:Env} {w:World}
theorem cbr {cx:Cx} {c:Operand} {y z:Code} {t:Bool} {A B:Prop} (h:Br t A B) (ht:A→wpE (x:=cx) P n y Q ρ w) (hf:B→wpE (x:=cx) P n z Q ρ w) (hc:evE ρ c=.bool t:=by kernel_rfl):wpE (x:=cx) P n (.cond c y z) Q ρ w:=vI hc (fun e=>ht (h.1 e)) (fun e=>hf (h.2 e))
theorem cbr' {cx:Cx} {c:Operand} {y z:Code} {t:Bool} {A B:Prop} (h:Br t A B) (ht:t=true→A→wpE (x:=cx) P n y Q ρ w) (hf:t=false→B→wpE (x:=cx) P n z Q ρ w) (hc:evE ρ c=.bool t:=by kernel_rfl):wpE (x:=cx) P n (.cond c y z) Q ρ w:=vI hc (fun e=>ht e (h.1 e)) (fun e=>hf e (h.2 e))
theorem gg1 {fn:Func} {r:ResultVar} {v:Value} {R:Ending→World→Prop} {e:Exit} (hr:fn.results=#[r]) (h:RV P ρ w r v) (hR:R (.returned v) w) (he:e=.ret∨e=.normal:=by exact .inl rfl):jEN P fn n R e ρ w:=tH he (rs:=[r]) (vs:=[v]) hr ⟨h,trivial⟩ rfl hR
theorem gg2 {fn:Func} {r s:ResultVar} {v u:Value} {R:Ending→World→Prop} {e:Exit} (hr:fn.results=#[r,s]) (h:RV P ρ w r v) (h':RV P ρ w s u) (hR:R (.returned (.tuple #[v,u])) w) (he:e=.ret∨e=.normal:=by exact .inl rfl):jEN P fn n R e ρ w:=tH he (rs:=[r,s]) (vs:=[v,u]) hr ⟨h,h',trivial⟩ rfl hR
theorem rvU {t:Nat} (v:Value) (h:ρ t=v:=by kernel_rfl):RV P ρ w (.tmp t) v:=h
end
end Go.SE
namespace Go.SE
section
variable {P:Program} {ops:Array Oper} {Q:Env→World→Prop} {ρ:Env} {w:World} {rest:List Oper} {o:Oper}
variable {H Hv:Nat→Prop} {w0 wv:World} {l:List HBx} {Z:List (Nat×Obj)}
theorem nw4 {R:Addr→World→Prop} {O:Obj} (v:Addr→Value) (h:∀p w',New w O p w'→R p w') (k:∀p w',R p w'→wpL P ops Q rest (put ρ o.dst (v p)) w') (hr:(execOp (evE ρ) o).run P w=.ok (.value (v ⟨w.heap.size,0,none⟩)) (w.alloc O):=by kernel_rfl) (hw:Region.wanted o (zQ ops ρ)=true:=by kernel_rfl):wpL P ops Q (o :: rest) ρ w:=tR v hw hr (fun p w' hn=>k p w' (h p w' hn))
theorem nw5 {R:Addr→World→Prop} {O:Obj} (v:Addr→Value) (hst:Hst w0 Hv wv H w) (hb:HBZ Z H w l) (h:∀p w',New w O p w'→R p w') (k:∀p w',Hst w0 H w' H w'→HBZ Z H w' l→R p w'→wpL P ops Q rest (put ρ o.dst (v p)) w') (hr:(execOp (evE ρ) o).run P w=.ok (.value (v ⟨w.heap.size,0,none⟩)) (w.alloc O):=by kernel_rfl) (hw:Region.wanted o (zQ ops ρ)=true:=by kernel_rfl):wpL P ops Q (o :: rest) ρ w:=tR v hw hr (fun p w' hn=>by
 obtain ⟨hst,hb⟩:=hst.nw hb hn;exact k p w' hst hb (h p w' hn))
end
section
variable {P:Program} {ops:Array Oper} {C:World→Prop} {loud free:Nat→Bool} {K:Env→World→Prop} {ρ:Env} {w:World} {k:Nat}
variable {d:Option Tmp} {ty:TypeId} {pos:String} {aft:Array Edge} {g:Option (Nat×Bool)}
theorem slo {R:World→Prop} {T:TypeId} {x y:Operand} {n m:Nat} {a:Addr} {vs:List Value} (ho:ops[k]?=some ⟨d,.store T x y,ty,pos,aft,g⟩) (hs:(sizeOf T).run P w=.ok n w) (h:(∀j,j<m→vF w (a.add j))∧∀w',w'=storeRow w a vs→R w') (kk:∀w',R w'→(free k=true∨C w')∧K (put ρ d undef) w') (hx:evE ρ x=.pointer (some a):=by kernel_rfl) (hy:evE ρ y=.agg vs.toArray:=by kernel_rfl) (h1:vs.all qE=true:=by rfl) (hn:vs.length=n:=by rfl) (hm:vs.length=m:=by rfl) (hw:Region.wanted ⟨d,.store T x y,ty,pos,aft,g⟩ (zQ ops ρ)=true:=by kernel_rfl) (hl:loud k=true:=by kernel_rfl):opE P ops C loud free k K ρ w:=by
 subst hm;exact xL ho hw hl (jCR hx hy h1 hs hn h.1) (fun w' e=>kk w' (h.2 w' e))
end
section
variable {P:Program} {n:Nat} {Q:Exit→Env→World→Prop} {ρ:Env} {w:World}
variable {H Hv:Nat→Prop} {w0 wv:World} {l':List HBx} {Z:List (Nat×Obj)}
theorem dr1 {R:World→Prop} {cx:Cx} {id:Nat} {l:List Oper} (C:World→Prop) (loud free:List Nat) (hC:C w.drew) (h:∀w',w'=w.drew→R w') (k:∀w',R w'→wpX P l.toArray C (yM loud) (yM free) (fun ρ w=>Q .normal ρ w) l.length (Array.replicate l.length false) ρ w') (hm:P.follows .mixedOrders=true:=by kernel_rfl) (hd:tE n l=true:=by kernel_rfl) (hB:Region.noSelect l.toArray=true:=by kernel_rfl) (hg:jJA .any l.toArray (yM loud) (yM free)=true:=by kernel_rfl):wpE (x:=cx) P n (.region id l.toArray true) Q ρ w:=jAD C loud free hm hd hB hg hC (fun w' e=>k w' (h w' e))
theorem dr2 {R:World→Prop} {cx:Cx} {id:Nat} {l:List Oper} (C:World→Prop) (loud free:List Nat) (hC:C w.drew) (h:∀w',w'=w.drew→R w') (hs:Hst w0 Hv wv H w) (hb:HBZ Z H w l') (k:∀w',Hst w0 Hv wv H w'→HBZ Z H w' l'→R w'→wpX P l.toArray C (yM loud) (yM free) (fun ρ w=>Q .normal ρ w) l.length (Array.replicate l.length false) ρ w') (hm:P.follows .mixedOrders=true:=by kernel_rfl) (hd:tE n l=true:=by kernel_rfl) (hB:Region.noSelect l.toArray=true:=by kernel_rfl) (hg:jJA .any l.toArray (yM loud) (yM free)=true:=by kernel_rfl):wpE (x:=cx) P n (.region id l.toArray true) Q ρ w:=jAD C loud free hm hd hB hg hC (fun w' e=>k w' (e▸hs.drew) (e▸hb.drew) (h w' e))
end
end Go.SE
namespace Go.SE
abbrev Aa (x0:Int) (x1:Int) (x2:Int) (x3:Int) (x4:ByteArray) (x5:Sl):Value:=.agg #[vi x0,vi x1,vi x2,vu x3,vs x4,x5.v]
abbrev Ab (x0:Int) (x1:Int) (x2:Int) (x3:Int) (x4:ByteArray) (x5:Sl):List Value:=[vi x0,vi x1,vi x2,vu x3,vs x4,x5.v]
abbrev Ac (x0:Int) (x1:Int) (x2:Int) (x3:ByteArray) (x4:Bool):List Value:=[vi x0,vi x1,vu x2,vs x3,vb x4]
abbrev Ad (x0:Int) (x1:Int) (x2:Int) (x3:Int) (x4:ByteArray) (x5:Int) (x6:Int):List Value:=[vi x0,vi x1,vi x2,vu x3,vs x4,vi x5,vi x6]
abbrev Ae (x0:Int) (x1:Int) (x2:Int) (x3:Int) (x4:ByteArray) (x5:Int) (x6:Int):Value:=.agg #[vi x0,vi x1,vi x2,vu x3,vs x4,vi x5,vi x6]
abbrev Af (x0:Int) (x1:Int) (x2:Int) (x3:ByteArray) (x4:Bool):Value:=.agg #[vi x0,vi x1,vu x2,vs x3,vb x4]
abbrev Ag (x0:Int) (x1:Int) (x2:Int) (x4:Bool):List Value:=[vi x0,vi x1,vu x2,ve,vb x4]
abbrev Ah (x0:Int) (x1:Int) (x2:Int) (x4:Bool):Value:=.agg #[vi x0,vi x1,vu x2,ve,vb x4]
abbrev Ai (x0:Bool) (x1:Bool) (x2:Bool) (x3:Bool) (x4:Int):List Value:=[vb x0,vb x1,vb x2,vb x3,vi x4]
abbrev Aj (x0:Int) (x1:Int) (x2:Int) (x3:ByteArray):Value:=.agg #[vi x0,vi x1,vu x2,vs x3]
abbrev Ak (x0:Int) (x1:Int) (x2:Int) (x3:ByteArray):List Value:=[vi x0,vi x1,vu x2,vs x3]
abbrev Al (x0:Int) (x1:Int) (x2:Int) (x3:Int) (x5:Int) (x6:Int):List Value:=[vi x0,vi x1,vi x2,vu x3,ve,vi x5,vi x6]
abbrev Am (x0:Bool) (x1:Bool) (x2:Bool) (x3:Bool) (x4:Int):Value:=.agg #[vb x0,vb x1,vb x2,vb x3,vi x4]
abbrev An (x0:Bool) (x1:Bool) (x2:Bool) (x3:Bool) (x4:Int) (x5:Bool) (x6:Bool) (x7:Bool) (x8:Bool) (x9:Int) (x10:Bool) (x11:Bool) (x12:Bool) (x13:Bool) (x14:Int) (x15:Bool) (x16:Bool) (x17:Bool) (x18:Bool) (x19:Int) (x20:Bool) (x21:Bool) (x22:Bool) (x23:Bool) (x24:Int) (x25:Bool) (x26:Bool) (x27:Bool) (x28:Bool) (x29:Int) (x30:Bool) (x31:Bool) (x32:Bool) (x33:Bool) (x34:Int) (x35:Bool) (x36:Bool) (x37:Bool) (x38:Bool) (x39:Int) (x40:Bool) (x41:Bool) (x42:Bool) (x43:Bool) (x44:Int) (x45:Bool) (x46:Bool) (x47:Bool) (x48:Bool) (x49:Int):List Value:=[vb x0,vb x1,vb x2,vb x3,vi x4,vb x5,vb x6,vb x7,vb x8,vi x9,vb x10,vb x11,vb x12,vb x13,vi x14,vb x15,vb x16,vb x17,vb x18,vi x19,vb x20,vb x21,vb x22,vb x23,vi x24,vb x25,vb x26,vb x27,vb x28,vi x29,vb x30,vb x31,vb x32,vb x33,vi x34,vb x35,vb x36,vb x37,vb x38,vi x39,vb x40,vb x41,vb x42,vb x43,vi x44,vb x45,vb x46,vb x47,vb x48,vi x49]
end Go.SE
end
section
open Go Go.SE
open Go.IntKind renaming i64 → q6
namespace Go.Proofs
open Tryz
set_option maxRecDepth 100000
set_option maxHeartbeats 4000000
attribute [local irreducible] wpL wpX opE wpE Calls
def m_F1_l1 (p1:Option Addr) (p2 p4:Addr) (r2:Sl) (x1:Int) (wl1:World) (Kc1:Int→WP) (K:Int→Int→Int→Int→ByteArray→Sl→WP):Prop :=Br (decide (x1<(r2.len:Int))) (∃a1:Addr,At r2 x1 1 a1∧∃v6,wl1.cell? a1=some (vi v6)∧∃C1:WP,C1 wl1.drew∧∀w9,w9=wl1.drew→∃v7:Sl,(∀w',C1 w'→w'.cell? (p4.add 5)=some v7.v)∧Calls prog 48 #[(vp p1),(vi v6)] w9 (fun e w10=>∃cM cN cO cP cQ cR,e=.returned (Aa cM cN cO cP cQ cR)∧C1 w10∧∀p5 w11,New w10 (.cells #[(vi cM),(vi cN),(vi cO),(vu cP),(vs cQ),cR.v] 107) p5 w11→C1 w11∧∃s1:Sl,∃w12:World,(Builtin.append_ #[66,66] 66 #[v7.v,(Sl.mk (some p5) 1 1).v]).run prog w11=.ok s1.v w12∧C1 w12∧vF w12 (p4.add 5)∧∀w13,w13=w12.setCell (p4.add 5) s1.v→Kc1 (q6.wrap (x1+1)) w13)) (∃aA aB aC aD aE bG,Row wl1 p4 (Ab aA aB aC aD aE bG)∧(∀j,j<6→vF wl1 (p2.add j))∧∀w14,w14=storeRow wl1 p2 (Ab aA aB aC aD aE bG)→∃bZ cA cB cC cD cI,Row w14 p2 (Ab bZ cA cB cC cD cI)∧K bZ cA cB cC cD cI w14)
def m_F1 (p1:Option Addr) (t1:Int) (w:World) (K:Int→Int→Int→Int→ByteArray→Sl→WP):Prop :=∀p2 w1,New w (.cells #[(vi 0),(vi 0),(vi 0),(vu 0),ve,Sl.nil.v] 107) p2 w1→Calls prog 102 #[(vp p1),(vi t1)] w1 (fun e w2=>∃aT aU aV aW aX aY aZ r1,e=.returned (.tuple #[(Ae aT aU aV aW aX aY aZ),(vb r1)])∧∀p3 w3,New w2 (.cells #[(vi 0),(vi 0),(vi 0),(vu 0),ve,(vi 0),(vi 0)] 176) p3 w3→(∀j,j<7→vF w3 (p3.add j))∧∀w4,w4=storeRow w3 p3 (Ad aT aU aV aW aX aY aZ)→Br (!r1) ((∀j,j<6→vF w4 (p2.add j))∧∀w5,w5=storeRow w4 p2 [(vi 0),(vi 0),(vi 0),(vu 0),ve,Sl.nil.v]→∃bH bI bJ bK bL cJ,Row w5 p2 (Ab bH bI bJ bK bL cJ)∧K bH bI bJ bK bL cJ w5) (∃v1,w4.cell? p3=some (vi v1)∧∃v2,w4.cell? (p3.add 1)=some (vi v2)∧∃v3,w4.cell? (p3.add 2)=some (vi v3)∧∃v4,w4.cell? (p3.add 3)=some (vu v4)∧∃v5,w4.cell? (p3.add 4)=some (vs v5)∧∀p4 w6,New w4 (.cells #[(vi 0),(vi 0),(vi 0),(vu 0),ve,Sl.nil.v] 107) p4 w6→(∀j,j<6→vF w6 (p4.add j))∧∀w7,w7=storeRow w6 p4 [(vi v1),(vi v2),(vi v3),(vu v4),(vs v5),Sl.nil.v]→Calls prog 103 #[(vp p1),(vi t1)] w7 (fun e w8=>∃r2:Sl,e=.returned r2.v∧∃(I1:Int→WP) (mu1:Int→World→Nat),I1 0 w8∧∀(x1:Int) (wl1:World),I1 x1 wl1→m_F1_l1 p1 p2 p4 r2 x1 wl1 (fun y'0 w'=>I1 y'0 w'∧mu1 y'0 w'<mu1 x1 wl1) K)))
theorem w_F1 (p1 t1 w K) (h:m_F1 p1 t1 w K):
  Calls prog 48 #[(vp p1),(vi t1)] w (fun e w'=>∃cV cW cX cY cZ dA,e=.returned (Aa cV cW cX cY cZ dA)∧K cV cW cX cY cZ dA w'):=by
 refine cw (args:=[(vp p1),(vi t1)]) func48 ntmps48 (eg (sn (O:=(.cells #[(vi 0),(vi 0),(vi 0),(vu 0),ve,Sl.nil.v] 107)) (zH (zeroValue107 _) rfl) ?_))
 intro p2 w1 hn9
 have h:=h p2 w1 hn9
 refine ln (eg (qb (sc call102 (h.mono fun e w2 ⟨aT,aU,aV,aW,aX,aY,aZ,r1,k,h⟩=>⟨_,k,?_⟩))))
 refine qc (nw1 h (zH (zeroValue176 _) rfl) fun p3 w3 h=>sro (sizeOf176 _) h fun w4 h=>q (ln (zA (eg (qb (ln (cbr h ?_ ?_)))))))<;>intro h
 refine eg (q (sro (sizeOf107 _) h fun w5 h=>ln (er (zX ?_))))
 obtain ⟨bH,bI,bJ,bK,bL,cJ,hv1,h⟩:=h
 refine gg1 results48 (rva (isAgg107 _) (sizeOf107 _) hv1) ⟨bH,bI,bJ,bK,bL,cJ,rfl,h⟩
 refine zB (zL (eg (q (ql (isAgg3 _) h fun v1 h=>q (ql (isAgg3 _) h fun v2 h=>q (ql (isAgg3 _) h fun v3 h=>q (ql (isAgg23 _) h fun v4 h=>q (ql (isAgg9 _) h fun v5 h=>q (sn (O:=(.cells #[(vi 0),(vi 0),(vi 0),(vu 0),ve,Sl.nil.v] 107)) (zH (zeroValue107 _) rfl) ?_)))))))))
 intro p4 w6 hn7
 have h:=h p4 w6 hn7
 refine sro (sizeOf107 _) h fun w7 h=>ln (zA (eg (qb (sc call103 (h.mono fun e w8 ⟨r2,k,h⟩=>⟨_,k,?_⟩)))))
 refine qb (ln (zK ?_))
 obtain ⟨I1,mu1,h0,hr⟩:=h
 refine vQ (σ:=Int×World) (fun s ρ w=>w=s.2∧Has ρ [(0,(vp p1)),(4,(vp (some p2))),(7,(vp (some p4))),(32,r2.v),(33,(vi (r2.len:Int))),(34,(vi s.1))]∧I1 s.1 s.2) (fun s=>mu1 s.1 s.2) (0,w8) ⟨rfl,hm,h0⟩ ?_
 rintro ⟨x1,wl1⟩ ρ w ⟨hw,hH,hI⟩
 dsimp only at hw hH;subst w
 have h:=hr x1 wl1 hI
 refine zV hH (eg (q (ln (zA (cbr h ?_ ?_)))))<;>intro h
 refine zB (zL (zA (zK (eg (qi (runUnderlying46 _) (sizeOf78 _) h fun a1 h=>ql (isAgg78 _) h fun v6 h=>q (ln ?_))))))
 obtain ⟨C1,hC,h⟩:=h
 refine dr1 C1 [4,5,6,8] [8] hC h fun w9 h=>qx 0 (vp (some (p4.add 5))) Kp0 (qg 1 ?_)
 obtain ⟨v7,hv3,h⟩:=h
 refine sy Kp1 (fun _ k=>xl (isAgg66 _) (hv3 _ k)) (qx 2 (vp p1) Kp2 (qx 3 (vi v6) Kp3 (lg 4 (slc Kp4 call48 (h.mono ?_)))))
 rintro e w10 ⟨cM,cN,cO,cP,cQ,cR,rfl,hC,h⟩
 refine ⟨_,rfl,.inr hC,?_⟩
 refine lg 5 (qL (O:=(.cells #[(vi cM),(vi cN),(vi cO),(vu cP),(vs cQ),cR.v] 107)) (fun p=>(Sl.mk (some p) 1 1).v) Kp5 (zR rfl) (by kernel_rfl) (vL (vs:=#[(0,(Aa cM cN cO cP cQ cR))]) (by kernel_rfl) (by kernel_rfl)) ?_)
 intro p5 w11 hn5
 have h:=h p5 w11 hn5
 refine ⟨.inr h.1,?_⟩
 have h:=h.2
 refine lg 6 ?_
 obtain ⟨s1,w12,hv2,hC,h⟩:=h
 refine sl (v:=s1.v) Kp6 (zR rfl) (by kernel_rfl) (vT (args:=#[v7.v,(Sl.mk (some p5) 1 1).v]) (by kernel_rfl) (fun _=>rfl) hv2) (.inr hC) (qx 7 (vp (some (p4.add 5))) Kp7 (lg 8 ?_))
 obtain ⟨hp4,h⟩:=h
 refine jPS Kp8 (xs (v:=s1.v) (sizeOf66 _) hp4) ?_
 intro w13 hn4
 have h:=h w13 hn4
 refine ⟨.inl (by kernel_rfl),?_⟩
 refine wn (uM (zL (rg (qb (ln ⟨((q6.wrap (x1+1)),w13),⟨rfl,hm,h.1⟩,h.2⟩)))))
 refine vO (uI (uI (uD (zL (eg ?_)))))
 obtain ⟨aA,aB,aC,aD,aE,bG,hv7,h⟩:=h
 refine qa (isAgg107 _) (sizeOf107 _) hv7 (sro (sizeOf107 _) h fun w14 h=>ln (er ?_))
 obtain ⟨bZ,cA,cB,cC,cD,cI,hv6,h⟩:=h
 refine gg1 results48 (rva (isAgg107 _) (sizeOf107 _) hv6) ⟨bZ,cA,cB,cC,cD,cI,rfl,h⟩
def m_M2  (w:World) (K:(Option Addr)→WP):Prop :=∀p1 w1,New w (.map #[] 0) p1 w1→∀p2 w2,New w1 (.cells #[Sl.nil.v,(.map (some p1.block))] 169) p2 w2→K (some p2) w2
theorem w_M2  (w:World) (K:(Option Addr)→WP) (h:m_M2  w K) :
  Calls prog 61 #[] w (fun e w'=>∃r1,e=.returned (vp r1)∧K r1 w'):=by
 refine cw (args:=[]) func61 ntmps61 (eg (q0 (vp none) (ln (eg (tR (O:=(.map #[] 0)) (fun p=>.map (some p.block)) (zR rfl) (by kernel_rfl) ?_)))))
 intro p1 w1 hn2
 have h:=h p1 w1 hn2
 refine q (nw1 h xb fun p2 w2 h=>q (ln (er (rs1 results61 ⟨(some p2),rfl,h⟩))))
def m_X1 (p1:Option Addr) (bA bB:Int) (bC bD:Int) (bE:ByteArray) (bF:Sl) (w:World) (K:Int→Int→WP):Prop :=∀p2 w1,New w (.cells #[(vi bA),(vi bB),(vi bC),(vu bD),(vs bE),bF.v] 107) p2 w1→Br (Option.isNone p1) (K 0 0 w1) (∀p3 w2,New w1 (.cells #[(vi 0)] 3) p3 w2→vF w2 p3∧∀w3,w3=w2.setCell p3 (vi 0)→∃aA aB aC aD aE bG,Row w3 p2 (Ab aA aB aC aD aE bG)∧Calls prog 144 #[(.agg #[(vi aA),(vi aB),(vi aC),(vu aD),(vs aE),bG.v]),(vi 0),(vp (some p3))] w3 (fun e w4=>∃r1,e=.returned (vi r1)∧Br (r1 != 0) (K 0 r1 w4) (∃a1,p1=some a1∧∃v1:Sl,w4.cell? a1=some v1.v∧∃aO aP aQ aR aS bR,Row w4 p2 (Ab aO aP aQ aR aS bR)∧Calls prog 145 #[(vp p1),(.agg #[(vi aO),(vi aP),(vi aQ),(vu aR),(vs aS),bR.v])] w4 (fun e w5=>∃r2 r3,e=.returned (.tuple #[(vi r2),(vi r3)])∧Br (r3 != 0) (Calls prog 146 #[(vp p1),(vi (v1.len:Int))] w5 (fun e w6=>e=.returned (.tuple #[])∧K 0 r3 w6)) (K r2 0 w5)))))
theorem w_X1 (p1 bA bB bC bD bE bF w K) (h:m_X1 p1 bA bB bC bD bE bF w K):
  Calls prog 77 #[(vp p1),(.agg #[(vi bA),(vi bB),(vi bC),(vu bD),(vs bE),bF.v])] w (fun e w'=>∃r4 r5,e=.returned (.tuple #[(vi r4),(vi r5)])∧K r4 r5 w'):=by
 refine cw (args:=[(vp p1),(Aa bA bB bC bD bE bF)]) func77 ntmps77 (eg (sn (O:=(.cells #[(vi bA),(vi bB),(vi bC),(vu bD),(vs bE),bF.v] 107)) xb ?_))
 intro p2 w1 hn3
 have h:=h p2 w1 hn3
 refine qb (ln (zA (eg (q (q2 (vb (Option.isNone p1)) (tI (by kernel_rfl) rfl underlying68) (ln (cbr h ?_ ?_)))))))<;>intro h
 refine eg (qb (ln (er (zX (xA (.inl rfl) results77 (v:=(vi 0)) (by kernel_rfl) (v':=(vi 0)) (by kernel_rfl) ⟨0,0,rfl,h⟩)))))
 refine zB (zL (eg (nw1 h (zH (zeroValue3 _) rfl) fun p3 w2 h=>st1 (sizeOf3 _) h fun w3 h=>ln (zA (eg ?_)))))
 obtain ⟨aA,aB,aC,aD,aE,bG,hv3,h⟩:=h
 refine qa (isAgg107 _) (sizeOf107 _) hv3 (sc call144 (h.mono fun e w4 ⟨r1,k,h⟩=>⟨_,k,?_⟩))
 refine q (ln (eg (qb (ln (cbr h ?_ ?_)))))<;>intro h
 refine eg (qc (ln (er (zX (xA (.inl rfl) results77 (v:=(vi 0)) (by kernel_rfl) (v':=(vi r1)) (by kernel_rfl) ⟨0,r1,rfl,h⟩)))))
 refine zB (zL (eg (q (qm h fun a1 h=>q (ql (isAgg166 _) h fun v1 h=>qb (ln (eg (q ?_))))))))
 obtain ⟨aO,aP,aQ,aR,aS,bR,hv1,h⟩:=h
 refine qa (isAgg107 _) (sizeOf107 _) hv1 (sc call145 (h.mono fun e w5 ⟨r2,r3,k,h⟩=>⟨_,k,?_⟩))
 refine q (qd (ln (zA (eg (qb (ln (cbr h ?_ ?_)))))))<;>intro h
 refine eg (qb (sc call146 (h.mono fun e w6 ⟨k,h⟩=>⟨_,k,?_⟩)))
 refine ln (eg (qc (ln (er (zX (xA (.inl rfl) results77 (v:=(vi 0)) (by kernel_rfl) (v':=(vi r3)) (by kernel_rfl) ⟨0,r3,rfl,h⟩))))))
 refine zB (zL (eg (qc (ln (er (xA (.inl rfl) results77 (v:=(vi r2)) (by kernel_rfl) (v':=(vi 0)) (by kernel_rfl) ⟨r2,0,rfl,h⟩))))))
def m_N2 (p1:Option Addr) (a1 b1:Int) (w:World) (K:Int→Int→WP):Prop :=Calls prog 161 #[(vp p1),(.agg #[(vi 4),(vi 0),(vi 0),(vu 0),ve,(vi a1),(vi b1)])] w (fun e w1=>∃r1 r2,e=.returned (.tuple #[(vi r1),(vi r2)])∧K r1 r2 w1)
theorem w_N2 (p1 a1 b1 w K) (h:m_N2 p1 a1 b1 w K):
  Calls prog 91 #[(vp p1),(vi a1),(vi b1)] w (fun e w'=>∃r3 r4,e=.returned (.tuple #[(vi r3),(vi r4)])∧K r3 r4 w'):=by
 refine cw (args:=[(vp p1),(vi a1),(vi b1)]) func91 ntmps91 (eg (q0 (vi 0) (q0 (vi 0) (ln (eg (q0 (vp p1) (q0 (vi a1) (q0 (vi b1) ?_))))))))
 refine q (sc call161 (h.mono fun e w1 ⟨r1,r2,k,h⟩=>⟨_,k,?_⟩))
 refine qd (ln (er (xA (.inl rfl) results91 (v:=(vi r1)) (by kernel_rfl) (v':=(vi r2)) (by kernel_rfl) ⟨r1,r2,rfl,h⟩)))
def m_O2 (p1:Option Addr) (s1:ByteArray) (w:World) (K:Int→Int→WP):Prop :=Calls prog 161 #[(vp p1),(.agg #[(vi 3),(vi 0),(vi 0),(vu 0),(vs s1),(vi 0),(vi 0)])] w (fun e w1=>∃r1 r2,e=.returned (.tuple #[(vi r1),(vi r2)])∧K r1 r2 w1)
theorem w_O2 (p1 s1 w K) (h:m_O2 p1 s1 w K):
  Calls prog 92 #[(vp p1),(vs s1)] w (fun e w'=>∃r3 r4,e=.returned (.tuple #[(vi r3),(vi r4)])∧K r3 r4 w'):=by
 refine cw (args:=[(vp p1),(vs s1)]) func92 ntmps92 (eg (q0 (vi 0) (q0 (vi 0) (ln (eg (q0 (vp p1) (q0 (vs s1) (q0 (Ae 3 0 0 0 s1 0 0) ?_))))))))
 refine sc call161 (h.mono fun e w1 ⟨r1,r2,k,h⟩=>⟨_,k,?_⟩)
 refine qd (ln (er (xA (.inl rfl) results92 (v:=(vi r1)) (by kernel_rfl) (v':=(vi r2)) (by kernel_rfl) ⟨r1,r2,rfl,h⟩)))
def m_P2 (p1:Option Addr) (n1 a1:Int) (w:World) (K:Int→Int→WP):Prop :=Calls prog 161 #[(vp p1),(.agg #[(vi 7),(vi n1),(vi 0),(vu 0),ve,(vi a1),(vi 0)])] w (fun e w1=>∃r1 r2,e=.returned (.tuple #[(vi r1),(vi r2)])∧K r1 r2 w1)
theorem w_P2 (p1 n1 a1 w K) (h:m_P2 p1 n1 a1 w K):
  Calls prog 93 #[(vp p1),(vi n1),(vi a1)] w (fun e w'=>∃r3 r4,e=.returned (.tuple #[(vi r3),(vi r4)])∧K r3 r4 w'):=by
 refine cw (args:=[(vp p1),(vi n1),(vi a1)]) func93 ntmps93 (eg (q0 (vi 0) (q0 (vi 0) (ln (eg (q0 (vp p1) (q0 (vi n1) (q0 (vi a1) ?_))))))))
 refine q (sc call161 (h.mono fun e w1 ⟨r1,r2,k,h⟩=>⟨_,k,?_⟩))
 refine qd (ln (er (xA (.inl rfl) results93 (v:=(vi r1)) (by kernel_rfl) (v':=(vi r2)) (by kernel_rfl) ⟨r1,r2,rfl,h⟩)))
def m_T1 (p1:Option Addr) (t1:Int) (w:World) (K:Int→Int→Int→Int→ByteArray→Int→Int→Bool→WP):Prop :=∀p2 w1,New w (.cells #[(vi 0),(vi 0),(vi 0),(vu 0),ve,(vi 0),(vi 0)] 176) p2 w1→Calls prog 168 #[(vp p1),(vi t1)] w1 (fun e w2=>∃r1,e=.returned (vb r1)∧Br (!r1) ((∀j,j<7→vF w2 (p2.add j))∧∀w3,w3=storeRow w2 p2 (Al 0 0 0 0 0 0)→∃bH bI bJ bK bL cE cF,Row w3 p2 (Ad bH bI bJ bK bL cE cF)∧K bH bI bJ bK bL cE cF false w3) (∃a1,p1=some a1∧∃v1:Sl,w2.cell? a1=some v1.v∧∃a2:Addr,At v1 (q6.wrap (t1 - 1)) 9 a2∧∃aA aB aC aD aE aF aG,Row w2 a2 (Ad aA aB aC aD aE aF aG)∧(∀j,j<7→vF w2 (p2.add j))∧∀w4,w4=storeRow w2 p2 (Ad aA aB aC aD aE aF aG)→∃bZ cA cB cC cD cK cL,Row w4 p2 (Ad bZ cA cB cC cD cK cL)∧K bZ cA cB cC cD cK cL true w4))
theorem w_T1 (p1 t1 w K) (h:m_T1 p1 t1 w K):
  Calls prog 102 #[(vp p1),(vi t1)] w (fun e w'=>∃aT aU aV aW aX aY aZ r2,e=.returned (.tuple #[(Ae aT aU aV aW aX aY aZ),(vb r2)])∧K aT aU aV aW aX aY aZ r2 w'):=by
 refine cw (args:=[(vp p1),(vi t1)]) func102 ntmps102 (eg (sn (O:=(.cells #[(vi 0),(vi 0),(vi 0),(vu 0),ve,(vi 0),(vi 0)] 176)) (zH (zeroValue176 _) rfl) ?_))
 intro p2 w1 hn3
 have h:=h p2 w1 hn3
 refine q (ln (zA (eg (qb (sc call168 (h.mono fun e w2 ⟨r1,k,h⟩=>⟨_,k,?_⟩))))))
 refine q (ln (cbr h ?_ ?_))<;>intro h
 refine eg (q (sro (sizeOf176 _) h fun w3 h=>q (ln (er (zX ?_)))))
 obtain ⟨bH,bI,bJ,bK,bL,cE,cF,hv1,h⟩:=h
 refine gg2 results102 (rva (isAgg176 _) (sizeOf176 _) hv1) (rvU (vb false)) ⟨bH,bI,bJ,bK,bL,cE,cF,false,rfl,h⟩
 refine zB (zL (eg (q (qm h fun a1 h=>q (ql (isAgg166 _) h fun v1 h=>qb (qi (runUnderlying166 _) (sizeOf250 _) h fun a2 h=>q ?_))))))
 obtain ⟨aA,aB,aC,aD,aE,aF,aG,hv3,h⟩:=h
 refine qa (isAgg176 _) (sizeOf176 _) hv3 (sro (sizeOf176 _) h fun w4 h=>q (ln (er ?_)))
 obtain ⟨bZ,cA,cB,cC,cD,cK,cL,hv2,h⟩:=h
 refine gg2 results102 (rva (isAgg176 _) (sizeOf176 _) hv2) (rvU (vb true)) ⟨bZ,cA,cB,cC,cD,cK,cL,true,rfl,h⟩
def m_Q2 (p1:Option Addr) (t1:Int) (w:World) (K:Sl→WP):Prop :=Calls prog 102 #[(vp p1),(vi t1)] w (fun e w1=>∃aT aU aV aW aX aY aZ r1,e=.returned (.tuple #[(Ae aT aU aV aW aX aY aZ),(vb r1)])∧∀p2 w2,New w1 (.cells #[(vi 0),(vi 0),(vi 0),(vu 0),ve,(vi 0),(vi 0)] 176) p2 w2→(∀j,j<7→vF w2 (p2.add j))∧∀w3,w3=storeRow w2 p2 (Ad aT aU aV aW aX aY aZ)→∃v1,w3.cell? p2=some (vi v1)∧Calls prog 169 #[(vi v1)] w3 (fun e w4=>∃rfrom1 rto1 rnum1 rtext1 rkids1 r2,e=.returned (.tuple #[(Am rfrom1 rto1 rnum1 rtext1 rkids1),(vb r2)])∧∀p3 w5,New w4 (.cells #[(vb false),(vb false),(vb false),(vb false),(vi 0)] 252) p3 w5→(∀j,j<5→vF w5 (p3.add j))∧∀w6,w6=storeRow w5 p3 (Ai rfrom1 rto1 rnum1 rtext1 rkids1)→∃v2,w6.cell? (p2.add 5)=some (vi v2)∧∃v3,w6.cell? (p2.add 6)=some (vi v3)∧∀p4 w7,New w6 (.cells #[(vi v2),(vi v3)] 78) p4 w7→∃v4,w7.cell? (p3.add 4)=some (vi v4)∧∃s1:Sl,(Instr.sliceAt 46 (Sl.mk (some p4) 2 2).v none (some (vi v4)) none).run prog w7=.ok s1.v w7∧K s1 w7))
theorem w_Q2 (p1 t1 w K) (h:m_Q2 p1 t1 w K):
  Calls prog 103 #[(vp p1),(vi t1)] w (fun e w'=>∃r3:Sl,e=.returned r3.v∧K r3 w'):=by
 refine cw (args:=[(vp p1),(vi t1)]) func103 ntmps103 (eg (q0 Sl.nil.v (ln (eg (q0 (vp p1) (q0 (vi t1) ?_))))))
 refine sc call102 (h.mono fun e w1 ⟨aT,aU,aV,aW,aX,aY,aZ,r1,k,h⟩=>⟨_,k,?_⟩)
 refine qc (nw1 h (zH (zeroValue176 _) rfl) fun p2 w2 h=>sro (sizeOf176 _) h fun w3 h=>q (ln (eg (q (ql (isAgg3 _) h fun v1 h=>sc call169 (h.mono fun e w4 ⟨rfrom1,rto1,rnum1,rtext1,rkids1,r2,k,h⟩=>⟨_,k,?_⟩))))))
 refine qc (nw1 h (zH (zeroValue252 _) rfl) fun p3 w5 h=>sro (sizeOf252 _) h fun w6 h=>q (ln (eg (q (ql (isAgg78 _) h fun v2 h=>q (ql (isAgg78 _) h fun v3 h=>tR (O:=(.cells #[(vi v2),(vi v3)] 78)) (fun p=>(Sl.mk (some p) 2 2).v) (zR rfl) (vL (vs:=#[(0,(vi v2)),(1,(vi v3))]) (by kernel_rfl) (by kernel_rfl)) ?_))))))
 intro p4 w7 hn3
 have h:=h p4 w7 hn3
 refine q (ql (isAgg3 _) h fun v4 h=>?_)
 obtain ⟨s1,hv1,h⟩:=h
 refine q2 s1.v (xR (by kernel_rfl) (by kernel_rfl) (by kernel_rfl) (by kernel_rfl) hv1) (q (ln (er (rs1 results103 ⟨s1,rfl,h⟩))))
def m_I_l4 (inside1:Int) (seen1:Option Addr) (p1:Addr) (e3 i1:Int) (wl1:World) (Kc4:Int→Int→WP) (K:Int→WP):Prop :=∃v2:Sl,wl1.cell? (p1.add 5)=some v2.v∧Br (decide (i1<(v2.len:Int))) (Br (e3 == 0) (∃v3:Sl,wl1.cell? (p1.add 5)=some v3.v∧∃a3:Addr,At v3 i1 6 a3∧∃bM bN bO bP bQ bR,Row wl1 a3 (Ab bM bN bO bP bQ bR)∧Calls prog 144 #[(.agg #[(vi bM),(vi bN),(vi bO),(vu bP),(vs bQ),bR.v]),(vi (q6.wrap (inside1+1))),(vp seen1)] wl1 (fun e w9=>∃r2,e=.returned (vi r2)∧Kc4 r2 (q6.wrap (i1+1)) w9)) (K e3 wl1)) (K e3 wl1)
def m_I_j3 (inside1:Int) (seen1:Option Addr) (p1:Addr) (e2:Int) (w:World) (K:Int→WP):Prop :=∃(I1:Int→Int→WP) (mu1:Int→Int→World→Nat),I1 e2 0 w∧∀(e3 i1:Int) (wl1:World),I1 e3 i1 wl1→m_I_l4 inside1 seen1 p1 e3 i1 wl1 (fun y'0 y'1 w'=>I1 y'0 y'1 w'∧mu1 y'0 y'1 w'<mu1 e3 i1 wl1) K
def m_I_j2 (inside1:Int) (seen1:Option Addr) (p1 p2 p3:Addr) (e1:Int) (w:World) (K:Int→WP):Prop :=Br (e1 == 0) (∃vfrom1 vto1 vnum1 vtext1 vkids1,Row w p3 (Ai vfrom1 vto1 vnum1 vtext1 vkids1)∧∃bS bT bU bV bW bX bY,Row w p2 (Ad bS bT bU bV bW bX bY)∧Calls prog 202 #[(.agg #[(vb vfrom1),(vb vto1),(vb vnum1),(vb vtext1),(vi vkids1)]),(.agg #[(vi bS),(vi bT),(vi bU),(vu bV),(vs bW),(vi bX),(vi bY)])] w (fun e w10=>∃r3,e=.returned (vi r3)∧m_I_j3 inside1 seen1 p1 r3 w10 K)) (m_I_j3 inside1 seen1 p1 e1 w K)
def m_I_j1 (inside1:Int) (seen1:Option Addr) (p1:Addr) (w:World) (K:Int→WP):Prop :=∃a1,seen1=some a1∧∃v1,w.cell? a1=some (vi v1)∧∃a2,seen1=some a2∧vF w a2∧∀w2,w2=w.setCell a2 (vi (q6.wrap (v1+1)))→∃aA aB aC aD aE bG,Row w2 p1 (Ab aA aB aC aD aE bG)∧Calls prog 200 #[(.agg #[(vi aA),(vi aB),(vi aC),(vu aD),(vs aE),bG.v])] w2 (fun e w3=>∃aT aU aV aW aX aY aZ,e=.returned (Ae aT aU aV aW aX aY aZ)∧∀p2 w4,New w3 (.cells #[(vi 0),(vi 0),(vi 0),(vu 0),ve,(vi 0),(vi 0)] 176) p2 w4→(∀j,j<7→vF w4 (p2.add j))∧∀w5,w5=storeRow w4 p2 (Ad aT aU aV aW aX aY aZ)→∃aO aP aQ aR aS aF aG,Row w5 p2 (Ad aO aP aQ aR aS aF aG)∧Calls prog 201 #[(.agg #[(vi aO),(vi aP),(vi aQ),(vu aR),(vs aS),(vi aF),(vi aG)])] w5 (fun e w6=>∃rfrom1 rto1 rnum1 rtext1 rkids1 r1,e=.returned (.tuple #[(Am rfrom1 rto1 rnum1 rtext1 rkids1),(vi r1)])∧∀p3 w7,New w6 (.cells #[(vb false),(vb false),(vb false),(vb false),(vi 0)] 252) p3 w7→(∀j,j<5→vF w7 (p3.add j))∧∀w8,w8=storeRow w7 p3 (Ai rfrom1 rto1 rnum1 rtext1 rkids1)→Br (r1 == 0) (∃v4:Sl,w8.cell? (p1.add 5)=some v4.v∧∃v5,w8.cell? (p3.add 4)=some (vi v5)∧Br (((v4.len:Int):Int) != v5) (m_I_j2 inside1 seen1 p1 p2 p3 53 w8 K) (m_I_j2 inside1 seen1 p1 p2 p3 r1 w8 K)) (m_I_j2 inside1 seen1 p1 p2 p3 r1 w8 K)))
def m_I (bA bB:Int) (bC bD:Int) (bE:ByteArray) (bF:Sl) (inside1:Int) (seen1:Option Addr) (w:World) (K:Int→WP):Prop :=∀p1 w1,New w (.cells #[(vi bA),(vi bB),(vi bC),(vu bD),(vs bE),bF.v] 107) p1 w1→∃a4,seen1=some a4∧∃v6,w1.cell? a4=some (vi v6)∧Br (decide (v6≥4096)) (K 52 w1) (Br (decide (inside1≥64)) (K 52 w1) (m_I_j1 inside1 seen1 p1 w1 K))
theorem w_I (bA bB bC bD bE bF inside1 seen1 w K) (h:m_I bA bB bC bD bE bF inside1 seen1 w K):
  Calls prog 144 #[(.agg #[(vi bA),(vi bB),(vi bC),(vu bD),(vs bE),bF.v]),(vi inside1),(vp seen1)] w (fun e w'=>∃r4,e=.returned (vi r4)∧K r4 w'):=by
 refine cw (args:=[(Aa bA bB bC bD bE bF),(vi inside1),(vp seen1)]) func144 ntmps144 (eg (sn (O:=(.cells #[(vi bA),(vi bB),(vi bC),(vu bD),(vs bE),bF.v] 107)) xb ?_))
 intro p1 w1 hn6
 have h:=h p1 w1 hn6
 refine q (ln (qM (fun ρ w=>Has ρ [(1,(vi inside1)),(2,(vp seen1)),(3,(vp (some p1)))]∧m_I_j1 inside1 seen1 p1 w K) ?_ ?_))
 rintro ρ w ⟨hH,h⟩
 refine zV hH (eg (q (qm h fun a1 h=>ql (isAgg3 _) h fun v1 h=>q (qm h fun a2 h=>st1 (sizeOf3 _) h fun w2 h=>ln (eg ?_)))))
 obtain ⟨aA,aB,aC,aD,aE,bG,hv10,h⟩:=h
 refine qa (isAgg107 _) (sizeOf107 _) hv10 (sc call200 (h.mono fun e w3 ⟨aT,aU,aV,aW,aX,aY,aZ,k,h⟩=>⟨_,k,?_⟩))
 refine nw1 h (zH (zeroValue176 _) rfl) fun p2 w4 h=>sro (sizeOf176 _) h fun w5 h=>ln (eg ?_)
 obtain ⟨aO,aP,aQ,aR,aS,aF,aG,hv9,h⟩:=h
 refine qa (isAgg176 _) (sizeOf176 _) hv9 (sc call201 (h.mono fun e w6 ⟨rfrom1,rto1,rnum1,rtext1,rkids1,r1,k,h⟩=>⟨_,k,?_⟩))
 refine qc (nw1 h (zH (zeroValue252 _) rfl) fun p3 w7 h=>sro (sizeOf252 _) h fun w8 h=>q (ln (qM (fun ρ w=>∃e1,Has ρ [(1,(vi inside1)),(2,(vp seen1)),(3,(vp (some p1))),(7,(vp (some p2))),(8,(vp (some p3))),(9,(vi e1))]∧m_I_j2 inside1 seen1 p1 p2 p3 e1 w K) ?_ ?_)))
 rintro ρ w ⟨e1,hH,h⟩
 refine zV hH (qM (fun ρ w=>∃e2,Has ρ [(1,(vi inside1)),(2,(vp seen1)),(3,(vp (some p1))),(9,(vi e2))]∧m_I_j3 inside1 seen1 p1 e2 w K) ?_ ?_)
 rintro ρ w ⟨e2,hH,h⟩
 refine zV hH (zA (eg (q (ln (zK ?_)))))
 obtain ⟨I1,mu1,h0,hr⟩:=h
 refine vQ (σ:=Int×Int×World) (fun s ρ w=>w=s.2.2∧Has ρ [(1,(vi inside1)),(2,(vp seen1)),(3,(vp (some p1))),(9,(vi s.1)),(10,(vi s.2.1))]∧I1 s.1 s.2.1 s.2.2) (fun s=>mu1 s.1 s.2.1 s.2.2) (e2,0,w) ⟨rfl,hm,h0⟩ ?_
 rintro ⟨e3,i1,wl1⟩ ρ w ⟨hw,hH,hI⟩
 dsimp only at hw hH;subst w
 have h:=hr e3 i1 wl1 hI
 refine zV hH (zA (eg (qb (ql (isAgg66 _) h fun v2 h=>qc ?_))))
 obtain ⟨hg1,h⟩|⟨hg1,h⟩:=h.br
 refine qk 51 hg1 (qk 51 hg1 (q2 (vb (e3 == 0)) (xT hg1) (ln (cbr h ?_ ?_))))<;>intro h
 refine zB (zL (zA (zK (rg (q (ql (isAgg66 _) h fun v3 h=>q (qi (runUnderlying66 _) (sizeOf107 _) h fun a3 h=>?_)))))))
 obtain ⟨bM,bN,bO,bP,bQ,bR,hv1,h⟩:=h
 refine qa (isAgg107 _) (sizeOf107 _) hv1 (qc (sc call144 (h.mono fun e w9 ⟨r2,k,h⟩=>⟨_,k,?_⟩)))
 refine q (zC (uM (zL (rg (qc (ln ⟨(r2,(q6.wrap (i1+1)),w9),⟨rfl,hm,h.1⟩,h.2⟩))))))
 refine vO (uI (uI (uD (zL (eg (q0 (vi e3) (q0 (vi e3) (ln (er (rs1 results144 ⟨e3,rfl,h⟩))))))))))
 refine sj2 51 hg1 (q2 (vb false) (xF hg1) (ln (yU (by kernel_rfl) (vO (uI (uI (uD (zL (zA (rg (qb (ln (er (rs1 results144 ⟨e3,rfl,h⟩))))))))))))))
 refine eg (qb (ln (cbr h ?_ ?_)))<;>intro h
 refine rg ?_
 obtain ⟨vfrom1,vto1,vnum1,vtext1,vkids1,hv6,h⟩:=h
 refine qa (isAgg252 _) (sizeOf252 _) hv6 ?_
 obtain ⟨bS,bT,bU,bV,bW,bX,bY,hv5,h⟩:=h
 refine qa (isAgg176 _) (sizeOf176 _) hv5 (sc call202 (h.mono fun e w10 ⟨r3,k,h⟩=>⟨_,k,?_⟩))
 refine q (ln ⟨r3,hm,h⟩)
 refine zB (zL ⟨e1,hm,h⟩)
 refine eg (qc ?_)
 obtain ⟨hg2,h⟩|⟨hg2,h⟩:=h.br
 refine qk 33 hg2 ?_
 obtain ⟨v4,hv8,h⟩:=h
 refine q4 33 hg2 (xl (isAgg66 _) hv8) (qk 33 hg2 (qk 33 hg2 ?_))
 obtain ⟨v5,hv7,h⟩:=h
 refine q4 33 hg2 (xl (isAgg3 _) hv7) (qk 33 hg2 (q2 (vb (((v4.len:Int):Int) != v5)) (xT hg2) (ln (cbr h ?_ ?_))))<;>intro h
 refine rg (q (ln ⟨53,hm,h⟩))
 refine zB (zL ⟨r1,hm,h⟩)
 refine sj 33 hg2 (sj5 33 hg2 (q2 (vb false) (xF hg2) (ln (yU (by kernel_rfl) (zB (zL ⟨r1,hm,h⟩))))))
 refine eg (q (qm h fun a4 h=>ql (isAgg3 _) h fun v6 h=>qb ?_))
 obtain ⟨hg3,h⟩|⟨hg3,h⟩:=h.br
 refine sj2 15 hg3 (q2 (vb true) (xT hg3) (ln (yH (by kernel_rfl) (eg (q0 (vi 52) (ln (er (zX (rs1 results144 ⟨52,rfl,h⟩)))))))))
 refine qk 15 hg3 (qk 15 hg3 (q2 (vb (decide (inside1≥64))) (xF hg3) (ln (cbr h ?_ ?_))))<;>intro h
 refine eg (q (ln (er (zX (rs1 results144 ⟨52,rfl,h⟩)))))
 refine zB (zL ⟨hm,h⟩)
def m_G1_l1 (p1:Option Addr) (p3 p4:Addr) (v1:Sl) (x1:Int) (wl1:World) (Kc1:Int→WP) (K:Int→Int→WP):Prop :=Br (decide (x1<(v1.len:Int))) (∃a1:Addr,At v1 x1 6 a1∧∃aO aP aQ aR aS bR,Row wl1 a1 (Ab aO aP aQ aR aS bR)∧∀p5 w6,New wl1 (.cells #[(vi 0),(vi 0),(vi 0),(vu 0),ve,Sl.nil.v] 107) p5 w6→(∀j,j<6→vF w6 (p5.add j))∧∀w7,w7=storeRow w6 p5 (Ab aO aP aQ aR aS bR)→∃bM bN bO bP bQ cS,Row w7 p5 (Ab bM bN bO bP bQ cS)∧Calls prog 145 #[(vp p1),(.agg #[(vi bM),(vi bN),(vi bO),(vu bP),(vs bQ),cS.v])] w7 (fun e w8=>∃r1 r2,e=.returned (.tuple #[(vi r1),(vi r2)])∧Br (r2 != 0) (K 0 r2 w8) (∃a2:Addr,At (Sl.mk (some p4) 2 2) x1 1 a2∧∃v2,w8.cell? a2=some (vp v2)∧∃a3,v2=some a3∧vF w8 a3∧∀w9,w9=w8.setCell a3 (vi r1)→Kc1 (q6.wrap (x1+1)) w9))) (∃bS bT bU bV bW aF aG,Row wl1 p3 (Ad bS bT bU bV bW aF aG)∧Calls prog 161 #[(vp p1),(.agg #[(vi bS),(vi bT),(vi bU),(vu bV),(vs bW),(vi aF),(vi aG)])] wl1 (fun e w10=>∃r3 r4,e=.returned (.tuple #[(vi r3),(vi r4)])∧K r3 r4 w10))
def m_G1 (p1:Option Addr) (bA bB:Int) (bC bD:Int) (bE:ByteArray) (bF:Sl) (w:World) (K:Int→Int→WP):Prop :=∀p2 w1,New w (.cells #[(vi bA),(vi bB),(vi bC),(vu bD),(vs bE),bF.v] 107) p2 w1→∃aA aB aC aD aE bG,Row w1 p2 (Ab aA aB aC aD aE bG)∧Calls prog 200 #[(.agg #[(vi aA),(vi aB),(vi aC),(vu aD),(vs aE),bG.v])] w1 (fun e w2=>∃aT aU aV aW aX aY aZ,e=.returned (Ae aT aU aV aW aX aY aZ)∧∀p3 w3,New w2 (.cells #[(vi 0),(vi 0),(vi 0),(vu 0),ve,(vi 0),(vi 0)] 176) p3 w3→(∀j,j<7→vF w3 (p3.add j))∧∀w4,w4=storeRow w3 p3 (Ad aT aU aV aW aX aY aZ)→∀p4 w5,New w4 (.cells #[(vp (some (p3.add 5))),(vp (some (p3.add 6)))] 309) p4 w5→∃v1:Sl,w5.cell? (p2.add 5)=some v1.v∧∃(I1:Int→WP) (mu1:Int→World→Nat),I1 0 w5∧∀(x1:Int) (wl1:World),I1 x1 wl1→m_G1_l1 p1 p3 p4 v1 x1 wl1 (fun y'0 w'=>I1 y'0 w'∧mu1 y'0 w'<mu1 x1 wl1) K)
theorem w_G1 (p1 bA bB bC bD bE bF w K) (h:m_G1 p1 bA bB bC bD bE bF w K):
  Calls prog 145 #[(vp p1),(.agg #[(vi bA),(vi bB),(vi bC),(vu bD),(vs bE),bF.v])] w (fun e w'=>∃r5 r6,e=.returned (.tuple #[(vi r5),(vi r6)])∧K r5 r6 w'):=by
 refine cw (args:=[(vp p1),(Aa bA bB bC bD bE bF)]) func145 ntmps145 (eg (sn (O:=(.cells #[(vi bA),(vi bB),(vi bC),(vu bD),(vs bE),bF.v] 107)) xb ?_))
 intro p2 w1 hn7
 have h:=h p2 w1 hn7
 refine qb (ln (eg ?_))
 obtain ⟨aA,aB,aC,aD,aE,bG,hv8,h⟩:=h
 refine qa (isAgg107 _) (sizeOf107 _) hv8 (sc call200 (h.mono fun e w2 ⟨aT,aU,aV,aW,aX,aY,aZ,k,h⟩=>⟨_,k,?_⟩))
 refine nw1 h (zH (zeroValue176 _) rfl) fun p3 w3 h=>sro (sizeOf176 _) h fun w4 h=>ln (eg (qb (nw4 (fun p=>(Sl.mk (some p) 2 2).v) h fun p4 w5 h=>q (ln (zA (eg (q (ql (isAgg66 _) h fun v1 h=>qb (ln (zK ?_))))))))))
 obtain ⟨I1,mu1,h0,hr⟩:=h
 refine vQ (σ:=Int×World) (fun s ρ w=>w=s.2∧Has ρ [(0,(vp p1)),(6,(vp (some p3))),(7,(Sl.mk (some p4) 2 2).v),(18,v1.v),(19,(vi (v1.len:Int))),(20,(vi s.1))]∧I1 s.1 s.2) (fun s=>mu1 s.1 s.2) (0,w5) ⟨rfl,hm,h0⟩ ?_
 rintro ⟨x1,wl1⟩ ρ w ⟨hw,hH,hI⟩
 dsimp only at hw hH;subst w
 have h:=hr x1 wl1 hI
 refine zV hH (eg (q (ln (zA (cbr h ?_ ?_)))))<;>intro h
 refine zB (zL (zA (zK (eg (q (qi (runUnderlying66 _) (sizeOf107 _) h fun a1 h=>?_))))))
 obtain ⟨aO,aP,aQ,aR,aS,bR,hv4,h⟩:=h
 refine qa (isAgg107 _) (sizeOf107 _) hv4 (nw1 h (zH (zeroValue107 _) rfl) fun p5 w6 h=>q (sro (sizeOf107 _) h fun w7 h=>ln (eg (q ?_))))
 obtain ⟨bM,bN,bO,bP,bQ,cS,hv3,h⟩:=h
 refine qa (isAgg107 _) (sizeOf107 _) hv3 (sc call145 (h.mono fun e w8 ⟨r1,r2,k,h⟩=>⟨_,k,?_⟩))
 refine q (qd (ln (zA (eg (qb (ln (cbr h ?_ ?_)))))))<;>intro h
 refine eg (qc (ln (er (zX (qW (zX (zX (qW (zX (xA (.inl rfl) results145 (v:=(vi 0)) (by kernel_rfl) (v':=(vi r2)) (by kernel_rfl) ⟨0,r2,rfl,h⟩))))))))))
 refine zB (zL (rg (qb (qi (runUnderlying310 _) (sizeOf309 _) h fun a2 h=>ql (isAgg309 _) h fun v2 h=>q (qm h fun a3 h=>st1 (sizeOf78 _) h fun w9 h=>zC (uM (zL (rg (qb (ln ⟨((q6.wrap (x1+1)),w9),⟨rfl,hm,h.1⟩,h.2⟩))))))))))
 refine vO (uI (uI (uD (zL (eg (q0 (vp p1) ?_))))))
 obtain ⟨bS,bT,bU,bV,bW,aF,aG,hv6,h⟩:=h
 refine qa (isAgg176 _) (sizeOf176 _) hv6 (sc call161 (h.mono fun e w10 ⟨r3,r4,k,h⟩=>⟨_,k,?_⟩))
 refine qd (ln (er (xA (.inl rfl) results145 (v:=(vi r3)) (by kernel_rfl) (v':=(vi r4)) (by kernel_rfl) ⟨r3,r4,rfl,h⟩)))
def m_H1_l1 (p1:Option Addr) (n1:Int) (s1:Sl) (x1:Int) (wl1:World) (Kc1:Int→WP) (K:WP):Prop :=Br (decide (x1<(s1.len:Int))) (∃a2:Addr,At s1 x1 9 a2∧∃vnodeKind1 vnodeFrom1 vnodeTo1 vnodeNum1 vnodeText1 vnodeA1 vnodeB1 vsize1 vdepth1,Row wl1 a2 [(vi vnodeKind1),(vi vnodeFrom1),(vi vnodeTo1),(vu vnodeNum1),(vs vnodeText1),(vi vnodeA1),(vi vnodeB1),(vi vsize1),(vi vdepth1)]∧∀p2 w1,New wl1 (.cells #[(vi 0),(vi 0),(vi 0),(vu 0),ve,(vi 0),(vi 0),(vi 0),(vi 0)] 250) p2 w1→(∀j,j<9→vF w1 (p2.add j))∧∀w2,w2=storeRow w1 p2 [(vi vnodeKind1),(vi vnodeFrom1),(vi vnodeTo1),(vu vnodeNum1),(vs vnodeText1),(vi vnodeA1),(vi vnodeB1),(vi vsize1),(vi vdepth1)]→∃C1:WP,C1 w2.drew∧∀w3,w3=w2.drew→∃a3,p1=some a3∧∃v2:Option Nat,(∀w',C1 w'→w'.cell? (a3.add 1)=some (.map v2))∧∃aA aB aC aD aE aF aG,(∀w',C1 w'→Row w' p2 (Ad aA aB aC aD aE aF aG))∧∃w4:World,(Builtin.delete_ #[167,176] 0 #[(.map v2),(Ae aA aB aC aD aE aF aG)]).run prog w3=.ok (.tuple #[]) w4∧Kc1 (q6.wrap (x1+1)) w4) (∃a4,p1=some a4∧∃v3:Sl,wl1.cell? a4=some v3.v∧∃s2:Sl,(Instr.sliceAt 166 v3.v none (some (vi n1)) none).run prog wl1=.ok s2.v wl1∧∃a5,p1=some a5∧vF wl1 a5∧∀w5,w5=wl1.setCell a5 s2.v→K w5)
def m_H1 (p1:Option Addr) (n1:Int) (w:World) (K:WP):Prop :=∃a1,p1=some a1∧∃v1:Sl,w.cell? a1=some v1.v∧∃s1:Sl,(Instr.sliceAt 166 v1.v (some (vi n1)) none none).run prog w=.ok s1.v w∧∃(I1:Int→WP) (mu1:Int→World→Nat),I1 0 w∧∀(x1:Int) (wl1:World),I1 x1 wl1→m_H1_l1 p1 n1 s1 x1 wl1 (fun y'0 w'=>I1 y'0 w'∧mu1 y'0 w'<mu1 x1 wl1) K
theorem w_H1 (p1 n1 w K) (h:m_H1 p1 n1 w K):
  Calls prog 146 #[(vp p1),(vi n1)] w (fun e w'=>e=.returned (.tuple #[])∧K  w'):=by
 refine cw (args:=[(vp p1),(vi n1)]) func146 ntmps146 (zA (eg (q0 (vp p1) ?_)))
 refine qm h fun a1 h=>q (ql (isAgg166 _) h fun v1 h=>q ?_)
 obtain ⟨s1,hv8,h⟩:=h
 refine q2 s1.v (xR (by kernel_rfl) (by kernel_rfl) (by kernel_rfl) (by kernel_rfl) hv8) (qb (ln (zK ?_)))
 obtain ⟨I1,mu1,h0,hr⟩:=h
 refine vQ (σ:=Int×World) (fun s ρ w=>w=s.2∧Has ρ [(0,(vp p1)),(1,(vi n1)),(11,s1.v),(12,(vi (s1.len:Int))),(13,(vi s.1))]∧I1 s.1 s.2) (fun s=>mu1 s.1 s.2) (0,w) ⟨rfl,hm,h0⟩ ?_
 rintro ⟨x1,wl1⟩ ρ w ⟨hw,hH,hI⟩
 dsimp only at hw hH;subst w
 have h:=hr x1 wl1 hI
 refine zV hH (eg (q (ln (zA (cbr h ?_ ?_)))))<;>intro h
 refine zB (zL (zA (zK (eg (qi (runUnderlying166 _) (sizeOf250 _) h fun a2 h=>?_)))))
 obtain ⟨vnodeKind1,vnodeFrom1,vnodeTo1,vnodeNum1,vnodeText1,vnodeA1,vnodeB1,vsize1,vdepth1,hv4,h⟩:=h
 refine qa (isAgg250 _) (sizeOf250 _) hv4 (nw1 h (zH (zeroValue250 _) rfl) fun p2 w1 h=>sro (sizeOf250 _) h fun w2 h=>ln ?_)
 obtain ⟨C1,hC,h⟩:=h
 refine dr1 C1 [6] [6] hC h fun w3 h=>qx 0 (vp p1) Kp0 (qg 1 ?_)
 obtain ⟨a3,hp3,h⟩:=h
 refine sy Kp1 (fun _ _=>xn hp3) (qx 2 (vp (some (a3.add 1))) Kp2 (qg 3 ?_))
 obtain ⟨v2,hv3,h⟩:=h
 refine sy Kp3 (fun _ k=>xl (isAgg167 _) (hv3 _ k)) (qx 4 (vp (some p2)) Kp4 (qg 5 ?_))
 obtain ⟨aA,aB,aC,aD,aE,aF,aG,hv2,h⟩:=h
 refine sy (v:=(Ae aA aB aC aD aE aF aG)) Kp5 (fun w' hw'=>(xa p2 (Ad aA aB aC aD aE aF aG) (isAgg176 _) (sizeOf176 _) (hv2 w' hw'))) (lg 6 ?_)
 obtain ⟨w4,hv1,h⟩:=h
 refine sl (v:=(.tuple #[])) Kp6 (zR rfl) (by kernel_rfl) (vT (args:=#[(.map v2),(Ae aA aB aC aD aE aF aG)]) (by kernel_rfl) (fun _=>rfl) hv1) (.inl (by kernel_rfl)) (wn (uM (zL (rg (q0 (vi (q6.wrap (x1+1))) (q0 (vi (q6.wrap (x1+1))) (ln ⟨((q6.wrap (x1+1)),w4),⟨rfl,hm,h.1⟩,h.2⟩)))))))
 refine vO (uI (uI (uD (zL (rg (q0 (vp p1) (q0 (vp p1) (qm h fun a4 h=>q (ql (isAgg166 _) h fun v3 h=>q ?_)))))))))
 obtain ⟨s2,hv6,h⟩:=h
 refine q2 s2.v (xR (by kernel_rfl) (by kernel_rfl) (by kernel_rfl) (by kernel_rfl) hv6) (qm h fun a5 h=>q (st1 (sizeOf166 _) h fun w5 h=>zC (jPD (.inr rfl) results146 ⟨rfl,h⟩)))
def m_R2 (p1:Option Addr) (t1:Int) (w:World) (K:Int→WP):Prop :=Calls prog 168 #[(vp p1),(vi t1)] w (fun e w1=>∃r1,e=.returned (vb r1)∧Br (!r1) (K 0 w1) (∃a1,p1=some a1∧∃v1:Sl,w1.cell? a1=some v1.v∧∃a2:Addr,At v1 (q6.wrap (t1 - 1)) 9 a2∧∃v2,w1.cell? (a2.add 7)=some (vi v2)∧K v2 w1))
theorem w_R2 (p1 t1 w K) (h:m_R2 p1 t1 w K):
  Calls prog 160 #[(vp p1),(vi t1)] w (fun e w'=>∃r2,e=.returned (vi r2)∧K r2 w'):=by
 refine cw (args:=[(vp p1),(vi t1)]) func160 ntmps160 (eg (q0 (vi 0) (ln (zA (eg (q0 (vp p1) (q0 (vi t1) ?_)))))))
 refine sc call168 (h.mono fun e w1 ⟨r1,k,h⟩=>⟨_,k,?_⟩)
 refine q (ln (cbr h ?_ ?_))<;>intro h
 refine eg (q (ln (er (zX (rs1 results160 ⟨0,rfl,h⟩)))))
 refine zB (zL (eg (q (qm h fun a1 h=>q (ql (isAgg166 _) h fun v1 h=>qb (qi (runUnderlying166 _) (sizeOf250 _) h fun a2 h=>q (ql (isAgg3 _) h fun v2 h=>q (ln (er (rs1 results160 ⟨v2,rfl,h⟩))))))))))
def m_Y1 (p1:Option Addr) (aH aI:Int) (aJ aK:Int) (aL:ByteArray) (aM aN:Int) (w:World) (K:Int→Int→WP):Prop :=∀p2 w1,New w (.cells #[(vi aH),(vi aI),(vi aJ),(vu aK),(vs aL),(vi aM),(vi aN)] 176) p2 w1→Br (Option.isNone p1) (K 0 0 w1) (∃aA aB aC aD aE aF aG,Row w1 p2 (Ad aA aB aC aD aE aF aG)∧Calls prog 219 #[(vp p1),(.agg #[(vi aA),(vi aB),(vi aC),(vu aD),(vs aE),(vi aF),(vi aG)])] w1 (fun e w2=>∃r1 r2 r3,e=.returned (.tuple #[(vi r1),(vi r2),(vi r3)])∧Br (r3 != 0) (K 0 r3 w2) (∀w3,w3=w2.drew→∃a1,p1=some a1∧∃v1:Option Nat,w3.cell? (a1.add 1)=some (.map v1)∧∃aO aP aQ aR aS bX bY,Row w3 p2 (Ad aO aP aQ aR aS bX bY)∧∃v2 ok1,(Instr.lookup 167 (.map v1) (.agg #[(vi aO),(vi aP),(vi aQ),(vu aR),(vs aS),(vi bX),(vi bY)]) true).run prog w3=.ok (.tuple #[(vi v2),(vb ok1)]) w3∧Br ok1 (K v2 0 w3) (∃a2,p1=some a2∧∃v3:Sl,w3.cell? a2=some v3.v∧Br (decide ((v3.len:Int)≥65536)) (K 0 6 w3) (∃C1:WP,C1 w3.drew∧∀w4,w4=w3.drew→∃a3,p1=some a3∧∃v4:Sl,(∀w',C1 w'→w'.cell? a3=some v4.v)∧∃bM bN bO bP bQ cG cH,(∀w',C1 w'→Row w' p2 (Ad bM bN bO bP bQ cG cH))∧∀p3 w5,New w4 (.cells #[(vi bM),(vi bN),(vi bO),(vu bP),(vs bQ),(vi cG),(vi cH),(vi r1),(vi r2)] 250) p3 w5→C1 w5∧∃s1:Sl,∃w6:World,(Builtin.append_ #[166,166] 166 #[v4.v,(Sl.mk (some p3) 1 1).v]).run prog w5=.ok s1.v w6∧C1 w6∧∃a4,p1=some a4∧vF w6 a4∧∀w7,w7=w6.setCell a4 s1.v→∃a5,p1=some a5∧∃v5:Sl,w7.cell? a5=some v5.v∧∃C2:WP,C2 w7.drew∧∀w8,w8=w7.drew→∃a6,p1=some a6∧∃v6:Option Nat,(∀w',C2 w'→w'.cell? (a6.add 1)=some (.map v6))∧∃bS bT bU bV bW cT cU,(∀w',C2 w'→Row w' p2 (Ad bS bT bU bV bW cT cU))∧∃w9:World,(Instr.mapUpdate 167 (.map v6) (.agg #[(vi bS),(vi bT),(vi bU),(vu bV),(vs bW),(vi cT),(vi cU)]) (vi (v5.len:Int))).run prog w8=.ok () w9∧K (v5.len:Int) 0 w9)))))
theorem w_Y1 (p1 aH aI aJ aK aL aM aN w K) (h:m_Y1 p1 aH aI aJ aK aL aM aN w K):
  Calls prog 161 #[(vp p1),(.agg #[(vi aH),(vi aI),(vi aJ),(vu aK),(vs aL),(vi aM),(vi aN)])] w (fun e w'=>∃r4 r5,e=.returned (.tuple #[(vi r4),(vi r5)])∧K r4 r5 w'):=by
 refine cw (args:=[(vp p1),(Ae aH aI aJ aK aL aM aN)]) func161 ntmps161 (eg (sn (O:=(.cells #[(vi aH),(vi aI),(vi aJ),(vu aK),(vs aL),(vi aM),(vi aN)] 176)) xb ?_))
 intro p2 w1 hn3
 have h:=h p2 w1 hn3
 refine qb (ln (zA (eg (q (q2 (vb (Option.isNone p1)) (tI (by kernel_rfl) rfl underlying68) (ln (cbr h ?_ ?_)))))))<;>intro h
 refine eg (qb (ln (er (zX (xA (.inl rfl) results161 (v:=(vi 0)) (by kernel_rfl) (v':=(vi 0)) (by kernel_rfl) ⟨0,0,rfl,h⟩)))))
 refine zB (zL (eg (q ?_)))
 obtain ⟨aA,aB,aC,aD,aE,aF,aG,hv12,h⟩:=h
 refine qa (isAgg176 _) (sizeOf176 _) hv12 (sc call219 (h.mono fun e w2 ⟨r1,r2,r3,k,h⟩=>⟨_,k,?_⟩))
 refine qc (qd (ln (zA (eg (qb (ln (cbr h ?_ ?_)))))))<;>intro h
 refine eg (qc (ln (er (zX (xA (.inl rfl) results161 (v:=(vi 0)) (by kernel_rfl) (v':=(vi r3)) (by kernel_rfl) ⟨0,r3,rfl,h⟩)))))
 refine zB (zL (zA (zA (uU (by kernel_rfl) (by kernel_rfl) (by kernel_rfl) (by kernel_rfl) ?_))))
 intro w3 hw3
 have h:=h w3 hw3
 refine qq 0 (vp p1) Kp0 (qg 1 ?_)
 obtain ⟨a1,hp1,h⟩:=h
 refine sxQ Kp1 (zR rfl) rfl (xn hp1) (qq 2 (vp (some (a1.add 1))) Kp2 (qg 3 ?_))
 obtain ⟨v1,hv11,h⟩:=h
 refine sxQ Kp3 (zR rfl) rfl (xl (isAgg167 _) hv11) (qg 4 ?_)
 obtain ⟨aO,aP,aQ,aR,aS,bX,bY,hv10,h⟩:=h
 refine sxQ (v:=(Ae aO aP aQ aR aS bX bY)) Kp4 (zR rfl) rfl (xa p2 (Ad aO aP aQ aR aS bX bY) (isAgg176 _) (sizeOf176 _) hv10) (qg 5 ?_)
 obtain ⟨v2,ok1,hv9,h⟩:=h
 refine sxQ (v:=(.tuple #[(vi v2),(vb ok1)])) Kp5 (zR rfl) rfl (jFH (by kernel_rfl) (by kernel_rfl) hv9) (qq 6 (.tuple #[(vi v2),(vb ok1)]) Kp6 (qq 7 (vi v2) Kp7 (qq 8 (vb ok1) Kp8 (qq 9 (vi v2) Kp9 (qq 10 (vb ok1) (zO (S8 (zG (zG zN)))) (wn (zL (eg (q (zC (zL (cbr h ?_ ?_))))))))))))<;>intro h
 refine eg (qc (ln (er (zX (xA (.inl rfl) results161 (v:=(vi v2)) (by kernel_rfl) (v':=(vi 0)) (by kernel_rfl) ⟨v2,0,rfl,h⟩)))))
 refine zB (zL (zA (eg (q (qm h fun a2 h=>q (ql (isAgg166 _) h fun v3 h=>qb (ln (cbr h ?_ ?_))))))))<;>intro h
 refine eg (qb (ln (er (zX (xA (.inl rfl) results161 (v:=(vi 0)) (by kernel_rfl) (v':=(vi 6)) (by kernel_rfl) ⟨0,6,rfl,h⟩)))))
 refine zB (zL (zA ?_))
 obtain ⟨C1,hC,h⟩:=h
 refine dr1 C1 [9,10,13] [13] hC h fun w4 h=>qx 0 (vp p1) Kp0 (qx 1 (vp p1) Kp1 (qg 2 ?_))
 obtain ⟨a3,hp3,h⟩:=h
 refine sy Kp2 (fun _ _=>xn hp3) (qx 3 (vp (some a3)) Kp3 (qg 4 ?_))
 obtain ⟨v4,hv7,h⟩:=h
 refine sy Kp4 (fun _ k=>xl (isAgg166 _) (hv7 _ k)) (qg 5 ?_)
 obtain ⟨bM,bN,bO,bP,bQ,cG,cH,hv6,h⟩:=h
 refine sy (v:=(Ae bM bN bO bP bQ cG cH)) Kp5 (fun w' hw'=>(xa p2 (Ad bM bN bO bP bQ cG cH) (isAgg176 _) (sizeOf176 _) (hv6 w' hw'))) (qx 6 (vi r1) Kp6 (qx 7 (vi r2) Kp7 (qx 8 (.agg #[(vi bM),(vi bN),(vi bO),(vu bP),(vs bQ),(vi cG),(vi cH),(vi r1),(vi r2)]) Kp8 (lg 9 (qL (O:=(.cells #[(vi bM),(vi bN),(vi bO),(vu bP),(vs bQ),(vi cG),(vi cH),(vi r1),(vi r2)] 250)) (fun p=>(Sl.mk (some p) 1 1).v) Kp9 (zR rfl) (by kernel_rfl) (vL (vs:=#[(0,(.agg #[(vi bM),(vi bN),(vi bO),(vu bP),(vs bQ),(vi cG),(vi cH),(vi r1),(vi r2)]))]) (by kernel_rfl) (by kernel_rfl)) ?_)))))
 intro p3 w5 hn2
 have h:=h p3 w5 hn2
 refine ⟨.inr h.1,?_⟩
 have h:=h.2
 refine lg 10 ?_
 obtain ⟨s1,w6,hv5,hC,h⟩:=h
 refine sl (v:=s1.v) (zO (S8 (zG (zG zN)))) (zR rfl) (by kernel_rfl) (vT (args:=#[v4.v,(Sl.mk (some p3) 1 1).v]) (by kernel_rfl) (fun _=>rfl) hv5) (.inr hC) (qg 11 ?_)
 obtain ⟨a4,hp4,h⟩:=h
 refine sy (zO (S8 (zG (zG (zG zN))))) (fun _ _=>xn hp4) (qx 12 (vp (some a4)) (zO (S8 (S4 zN))) (lg 13 ?_))
 obtain ⟨hp5,h⟩:=h
 refine jPS (zO (S8 (S4 (zG zN)))) (xs (v:=s1.v) (sizeOf166 _) hp5) ?_
 intro w7 hn1
 have h:=h w7 hn1
 refine ⟨.inl (by kernel_rfl),?_⟩
 refine wn (zL (eg (q (qm h fun a5 h=>q (ql (isAgg166 _) h fun v5 h=>qb (ln (zA ?_)))))))
 obtain ⟨C2,hC,h⟩:=h
 refine dr1 C2 [6] [6] hC h fun w8 h=>qx 0 (vp p1) Kp0 (qg 1 ?_)
 obtain ⟨a6,hp7,h⟩:=h
 refine sy Kp1 (fun _ _=>xn hp7) (qx 2 (vp (some (a6.add 1))) Kp2 (qg 3 ?_))
 obtain ⟨v6,hv3,h⟩:=h
 refine sy Kp3 (fun _ k=>xl (isAgg167 _) (hv3 _ k)) (qg 4 ?_)
 obtain ⟨bS,bT,bU,bV,bW,cT,cU,hv2,h⟩:=h
 refine sy (v:=(Ae bS bT bU bV bW cT cU)) Kp4 (fun w' hw'=>(xa p2 (Ad bS bT bU bV bW cT cU) (isAgg176 _) (sizeOf176 _) (hv2 w' hw'))) (qx 5 (vi (v5.len:Int)) Kp5 (lg 6 ?_))
 obtain ⟨w9,hv1,h⟩:=h
 refine jFP Kp6 (zR rfl) (by kernel_rfl) (jAN (by kernel_rfl) (by kernel_rfl) (by kernel_rfl) hv1) (.inl (by kernel_rfl)) (wn (zL (eg (q0 (vi (v5.len:Int)) (q0 (vi (v5.len:Int)) (q0 (vi 0) (ln (er (xA (.inl rfl) results161 (v:=(vi (v5.len:Int))) (by kernel_rfl) (v':=(vi 0)) (by kernel_rfl) ⟨(v5.len:Int),0,rfl,h⟩)))))))))
def m_R_j1 (p1:Option Addr) (t1:Int) (x1:Bool) (w:World) (K:Bool→WP):Prop :=Br x1 (∃a1,p1=some a1∧∃v1:Sl,w.cell? a1=some v1.v∧K (decide (t1≤(v1.len:Int))) w) (K false w)
def m_R (p1:Option Addr) (t1:Int) (w:World) (K:Bool→WP):Prop :=Br (!(Option.isNone p1)) (m_R_j1 p1 t1 (decide (t1≥1)) w K) (m_R_j1 p1 t1 false w K)
theorem w_R (p1 t1 w K) (h:m_R p1 t1 w K):
  Calls prog 168 #[(vp p1),(vi t1)] w (fun e w'=>∃r1,e=.returned (vb r1)∧K r1 w'):=by
 refine cw (args:=[(vp p1),(vi t1)]) func168 ntmps168 (eg (q0 (vb false) (ln (eg (q0 (vp p1) (q2 (vb (!(Option.isNone p1))) (jNS (by kernel_rfl) rfl underlying68) (q0 (vb (!(Option.isNone p1))) ?_)))))))
 refine zI 3 (fun ρ w=>∃x1,Has ρ [(0,(vp p1)),(1,(vi t1)),(10,(vb x1))]∧m_R_j1 p1 t1 x1 w K) ?_ ?_
 rintro ρ w ⟨x1,hH,h⟩
 refine zM hH (q ?_)
 obtain ⟨hg1,h⟩|⟨hg1,h⟩:=h.br
 refine qk 11 hg1 (qk 11 hg1 ?_)
 obtain ⟨a1,hp1,h⟩:=h
 refine q4 11 hg1 (xn hp1) (qk 11 hg1 ?_)
 obtain ⟨v1,hv1,h⟩:=h
 refine q4 11 hg1 (xl (isAgg166 _) hv1) (qk 11 hg1 (qk 11 hg1 (q2 (vb (decide (t1≤(v1.len:Int)))) (xT hg1) (q (ln (er (rs1 results168 ⟨(decide (t1≤(v1.len:Int))),rfl,h⟩)))))))
 refine sj2 11 hg1 (sj5 11 hg1 (q2 (vb false) (xF hg1) (q (ln (er (rs1 results168 ⟨false,rfl,h⟩))))))
 obtain ⟨hg2,h⟩|⟨hg2,h⟩:=h.br
 refine qk 7 hg2 (qk 7 hg2 (q2 (vb (decide (t1≥1))) (xT hg2) (zC ⟨(decide (t1≥1)),hm,h⟩)))
 refine sj2 7 hg2 (q2 (vb false) (xF hg2) (zC ⟨false,hm,h⟩))
def m_S2 (kind1:Int) (w:World) (K:Bool→Bool→Bool→Bool→Int→Bool→WP):Prop :=∀p1 w1,New w (.cells #[(vb false),(vb false),(vb false),(vb false),(vi 0)] 252) p1 w1→Br (decide (kind1<1)) ((∀j,j<5→vF w1 (p1.add j))∧∀w2,w2=storeRow w1 p1 (Ai false false false false 0)→∃qfrom1 qto1 qnum1 qtext1 qkids1,Row w2 p1 (Ai qfrom1 qto1 qnum1 qtext1 qkids1)∧K qfrom1 qto1 qnum1 qtext1 qkids1 false w2) (Br (decide (kind1>9)) ((∀j,j<5→vF w1 (p1.add j))∧∀w3,w3=storeRow w1 p1 (Ai false false false false 0)→∃qfrom2 qto2 qnum2 qtext2 qkids2,Row w3 p1 (Ai qfrom2 qto2 qnum2 qtext2 qkids2)∧K qfrom2 qto2 qnum2 qtext2 qkids2 false w3) (Calls prog 220 #[] w1 (fun e w4=>∃r1:Array Value,e=.returned (.agg r1)∧∃efrom1 eto1 enum1 etext1 ekids1,(Instr.index 325 (.agg r1) (vi kind1)).run prog w4=.ok (.agg #[(vb efrom1),(vb eto1),(vb enum1),(vb etext1),(vi ekids1)]) w4∧(∀j,j<5→vF w4 (p1.add j))∧∀w5,w5=storeRow w4 p1 (Ai efrom1 eto1 enum1 etext1 ekids1)→∃qfrom3 qto3 qnum3 qtext3 qkids3,Row w5 p1 (Ai qfrom3 qto3 qnum3 qtext3 qkids3)∧K qfrom3 qto3 qnum3 qtext3 qkids3 true w5)))
theorem w_S2 (kind1 w K) (h:m_S2 kind1 w K):
  Calls prog 169 #[(vi kind1)] w (fun e w'=>∃rfrom1 rto1 rnum1 rtext1 rkids1 r2,e=.returned (.tuple #[(Am rfrom1 rto1 rnum1 rtext1 rkids1),(vb r2)])∧K rfrom1 rto1 rnum1 rtext1 rkids1 r2 w'):=by
 refine cw (args:=[(vi kind1)]) func169 ntmps169 (eg (sn (O:=(.cells #[(vb false),(vb false),(vb false),(vb false),(vi 0)] 252)) (zH (zeroValue252 _) rfl) ?_))
 intro p1 w1 hn4
 have h:=h p1 w1 hn4
 refine q (ln (zA (eg (qc ?_))))
 obtain ⟨hg1,h⟩|⟨hg1,h⟩:=h.br
 refine sj2 6 hg1 (q2 (vb true) (xT hg1) (ln (yH (by kernel_rfl) (eg (q0 (Am false false false false 0) (sro (sizeOf252 _) h fun w2 h=>q (ln (er (zX ?_)))))))))
 obtain ⟨qfrom1,qto1,qnum1,qtext1,qkids1,hv1,h⟩:=h
 refine gg2 results169 (rva (isAgg252 _) (sizeOf252 _) hv1) (rvU (vb false)) ⟨qfrom1,qto1,qnum1,qtext1,qkids1,false,rfl,h⟩
 refine qk 6 hg1 (qk 6 hg1 (q2 (vb (decide (kind1>9))) (xF hg1) (ln (cbr h ?_ ?_))))<;>intro h
 refine eg (q (sro (sizeOf252 _) h fun w3 h=>q (ln (er (zX ?_)))))
 obtain ⟨qfrom2,qto2,qnum2,qtext2,qkids2,hv2,h⟩:=h
 refine gg2 results169 (rva (isAgg252 _) (sizeOf252 _) hv2) (rvU (vb false)) ⟨qfrom2,qto2,qnum2,qtext2,qkids2,false,rfl,h⟩
 refine zB (zL (eg (sc call220 (h.mono fun e w4 ⟨r1,k,h⟩=>⟨_,k,?_⟩))))
 refine q ?_
 obtain ⟨efrom1,eto1,enum1,etext1,ekids1,hv4,h⟩:=h
 refine q2 (Am efrom1 eto1 enum1 etext1 ekids1) (jIJ (by kernel_rfl) (by kernel_rfl) hv4) (sro (sizeOf252 _) h fun w5 h=>q (ln (er ?_)))
 obtain ⟨qfrom3,qto3,qnum3,qtext3,qkids3,hv3,h⟩:=h
 refine gg2 results169 (rva (isAgg252 _) (sizeOf252 _) hv3) (rvU (vb true)) ⟨qfrom3,qto3,qnum3,qtext3,qkids3,true,rfl,h⟩
def m_T2 (bA bB:Int) (bC bD:Int) (bE:ByteArray) (bF:Sl) (w:World) (K:Int→Int→Int→Int→ByteArray→Int→Int→WP):Prop :=∀p1 w1,New w (.cells #[(vi bA),(vi bB),(vi bC),(vu bD),(vs bE),bF.v] 107) p1 w1→∀p2 w2,New w1 (.cells #[(vi 0),(vi 0),(vi 0),(vu 0),ve,(vi 0),(vi 0)] 176) p2 w2→∃v1,w2.cell? p1=some (vi v1)∧∃v2,w2.cell? (p1.add 1)=some (vi v2)∧∃v3,w2.cell? (p1.add 2)=some (vi v3)∧∃v4,w2.cell? (p1.add 3)=some (vu v4)∧∃v5,w2.cell? (p1.add 4)=some (vs v5)∧(∀j,j<7→vF w2 (p2.add j))∧∀w3,w3=storeRow w2 p2 (Ad v1 v2 v3 v4 v5 0 0)→∃bH bI bJ bK bL cE cF,Row w3 p2 (Ad bH bI bJ bK bL cE cF)∧K bH bI bJ bK bL cE cF w3
theorem w_T2 (bA bB bC bD bE bF w K) (h:m_T2 bA bB bC bD bE bF w K):
  Calls prog 200 #[(.agg #[(vi bA),(vi bB),(vi bC),(vu bD),(vs bE),bF.v])] w (fun e w'=>∃aT aU aV aW aX aY aZ,e=.returned (Ae aT aU aV aW aX aY aZ)∧K aT aU aV aW aX aY aZ w'):=by
 refine cw (args:=[(Aa bA bB bC bD bE bF)]) func200 ntmps200 (eg (sn (O:=(.cells #[(vi bA),(vi bB),(vi bC),(vu bD),(vs bE),bF.v] 107)) xb ?_))
 intro p1 w1 hn3
 have h:=h p1 w1 hn3
 refine nw1 h (zH (zeroValue176 _) rfl) fun p2 w2 h=>ln (eg (q (ql (isAgg3 _) h fun v1 h=>q (ql (isAgg3 _) h fun v2 h=>q (ql (isAgg3 _) h fun v3 h=>q (ql (isAgg23 _) h fun v4 h=>q (ql (isAgg9 _) h fun v5 h=>q (sro (sizeOf176 _) h fun w3 h=>ln (er ?_)))))))))
 obtain ⟨bH,bI,bJ,bK,bL,cE,cF,hv1,h⟩:=h
 refine gg1 results200 (rva (isAgg176 _) (sizeOf176 _) hv1) ⟨bH,bI,bJ,bK,bL,cE,cF,rfl,h⟩
def m_E_j3 (p1 p2 p3:Addr) (x3:Bool) (w:World) (K:Bool→Bool→Bool→Bool→Int→Int→WP):Prop :=Br x3 (∃vfrom1 vto1 vnum1 vtext1 vkids1,Row w p3 (Ai vfrom1 vto1 vnum1 vtext1 vkids1)∧(∀j,j<5→vF w (p2.add j))∧∀w6,w6=storeRow w p2 (Ai vfrom1 vto1 vnum1 vtext1 vkids1)→∃qfrom1 qto1 qnum1 qtext1 qkids1,Row w6 p2 (Ai qfrom1 qto1 qnum1 qtext1 qkids1)∧K qfrom1 qto1 qnum1 qtext1 qkids1 53 w6) (∃v2,w.cell? (p3.add 3)=some (vb v2)∧Br (!v2) (∃v3,w.cell? (p1.add 4)=some (vs v3)∧Br (!(decide (v3=⟨#[]⟩))) (∃vfrom2 vto2 vnum2 vtext2 vkids2,Row w p3 (Ai vfrom2 vto2 vnum2 vtext2 vkids2)∧(∀j,j<5→vF w (p2.add j))∧∀w7,w7=storeRow w p2 (Ai vfrom2 vto2 vnum2 vtext2 vkids2)→∃qfrom2 qto2 qnum2 qtext2 qkids2,Row w7 p2 (Ai qfrom2 qto2 qnum2 qtext2 qkids2)∧K qfrom2 qto2 qnum2 qtext2 qkids2 53 w7) (∃vfrom3 vto3 vnum3 vtext3 vkids3,Row w p3 (Ai vfrom3 vto3 vnum3 vtext3 vkids3)∧(∀j,j<5→vF w (p2.add j))∧∀w8,w8=storeRow w p2 (Ai vfrom3 vto3 vnum3 vtext3 vkids3)→∃qfrom3 qto3 qnum3 qtext3 qkids3,Row w8 p2 (Ai qfrom3 qto3 qnum3 qtext3 qkids3)∧K qfrom3 qto3 qnum3 qtext3 qkids3 0 w8)) (∃vfrom4 vto4 vnum4 vtext4 vkids4,Row w p3 (Ai vfrom4 vto4 vnum4 vtext4 vkids4)∧(∀j,j<5→vF w (p2.add j))∧∀w9,w9=storeRow w p2 (Ai vfrom4 vto4 vnum4 vtext4 vkids4)→∃qfrom4 qto4 qnum4 qtext4 qkids4,Row w9 p2 (Ai qfrom4 qto4 qnum4 qtext4 qkids4)∧K qfrom4 qto4 qnum4 qtext4 qkids4 0 w9))
def m_E_j4 (p1 p2 p3:Addr) (x2 x4:Bool) (w:World) (K:Bool→Bool→Bool→Bool→Int→Int→WP):Prop :=Br x2 (m_E_j3 p1 p2 p3 true w K) (m_E_j3 p1 p2 p3 x4 w K)
def m_E_j2 (p1 p2 p3:Addr) (x2:Bool) (w:World) (K:Bool→Bool→Bool→Bool→Int→Int→WP):Prop :=Br x2 (m_E_j3 p1 p2 p3 true w K) (∃v4,w.cell? (p3.add 2)=some (vb v4)∧Br (!v4) (∃v5,w.cell? (p1.add 3)=some (vu v5)∧m_E_j4 p1 p2 p3 x2 (v5 != 0) w K) (m_E_j4 p1 p2 p3 x2 false w K))
def m_E_j5 (p1 p2 p3:Addr) (x1 x5:Bool) (w:World) (K:Bool→Bool→Bool→Bool→Int→Int→WP):Prop :=Br x1 (m_E_j2 p1 p2 p3 true w K) (m_E_j2 p1 p2 p3 x5 w K)
def m_E_j1 (p1 p2 p3:Addr) (x1:Bool) (w:World) (K:Bool→Bool→Bool→Bool→Int→Int→WP):Prop :=Br x1 (m_E_j2 p1 p2 p3 true w K) (∃v6,w.cell? (p3.add 1)=some (vb v6)∧Br (!v6) (∃v7,w.cell? (p1.add 2)=some (vi v7)∧m_E_j5 p1 p2 p3 x1 (v7 != 0) w K) (m_E_j5 p1 p2 p3 x1 false w K))
def m_E_j6 (p1 p2:Addr) (r1:Bool) (p3:Addr) (x6:Bool) (w:World) (K:Bool→Bool→Bool→Bool→Int→Int→WP):Prop :=Br (!r1) (m_E_j1 p1 p2 p3 true w K) (m_E_j1 p1 p2 p3 x6 w K)
def m_E (aH aI:Int) (aJ aK:Int) (aL:ByteArray) (aM aN:Int) (w:World) (K:Bool→Bool→Bool→Bool→Int→Int→WP):Prop :=∀p1 w1,New w (.cells #[(vi aH),(vi aI),(vi aJ),(vu aK),(vs aL),(vi aM),(vi aN)] 176) p1 w1→∀p2 w2,New w1 (.cells #[(vb false),(vb false),(vb false),(vb false),(vi 0)] 252) p2 w2→∃v1,w2.cell? p1=some (vi v1)∧Calls prog 169 #[(vi v1)] w2 (fun e w3=>∃rfrom1 rto1 rnum1 rtext1 rkids1 r1,e=.returned (.tuple #[(Am rfrom1 rto1 rnum1 rtext1 rkids1),(vb r1)])∧∀p3 w4,New w3 (.cells #[(vb false),(vb false),(vb false),(vb false),(vi 0)] 252) p3 w4→(∀j,j<5→vF w4 (p3.add j))∧∀w5,w5=storeRow w4 p3 (Ai rfrom1 rto1 rnum1 rtext1 rkids1)→Br (!r1) (m_E_j1 p1 p2 p3 true w5 K) (∃v8,w5.cell? p3=some (vb v8)∧Br (!v8) (∃v9,w5.cell? (p1.add 1)=some (vi v9)∧m_E_j6 p1 p2 r1 p3 (v9 != 0) w5 K) (m_E_j6 p1 p2 r1 p3 false w5 K)))
theorem w_E (aH aI aJ aK aL aM aN w K) (h:m_E aH aI aJ aK aL aM aN w K):
  Calls prog 201 #[(.agg #[(vi aH),(vi aI),(vi aJ),(vu aK),(vs aL),(vi aM),(vi aN)])] w (fun e w'=>∃rfrom2 rto2 rnum2 rtext2 rkids2 r2,e=.returned (.tuple #[(Am rfrom2 rto2 rnum2 rtext2 rkids2),(vi r2)])∧K rfrom2 rto2 rnum2 rtext2 rkids2 r2 w'):=by
 refine cw (args:=[(Ae aH aI aJ aK aL aM aN)]) func201 ntmps201 (eg (sn (O:=(.cells #[(vi aH),(vi aI),(vi aJ),(vu aK),(vs aL),(vi aM),(vi aN)] 176)) xb ?_))
 intro p1 w1 hn8
 have h:=h p1 w1 hn8
 refine nw1 h (zH (zeroValue252 _) rfl) fun p2 w2 h=>q (ln (eg (q (ql (isAgg3 _) h fun v1 h=>sc call169 (h.mono fun e w3 ⟨rfrom1,rto1,rnum1,rtext1,rkids1,r1,k,h⟩=>⟨_,k,?_⟩)))))
 refine qc (nw1 h (zH (zeroValue252 _) rfl) fun p3 w4 h=>sro (sizeOf252 _) h fun w5 h=>q (ln (zA (eg (qc (zI 9 (fun ρ w=>∃x1,Has ρ [(1,(vp (some p1))),(2,(vp (some p2))),(4,(vp (some p3))),(23,(vb x1))]∧m_E_j1 p1 p2 p3 x1 w K) ?_ ?_))))))
 rintro ρ w ⟨x1,hH,h⟩
 refine zM hH (q (zI 9 (fun ρ w=>∃x2,Has ρ [(1,(vp (some p1))),(2,(vp (some p2))),(4,(vp (some p3))),(33,(vb x2))]∧m_E_j2 p1 p2 p3 x2 w K) ?_ ?_))
 rintro ρ w ⟨x2,hH,h⟩
 refine zM hH (q (zI 9 (fun ρ w=>∃x3,Has ρ [(1,(vp (some p1))),(2,(vp (some p2))),(4,(vp (some p3))),(43,(vb x3))]∧m_E_j3 p1 p2 p3 x3 w K) ?_ ?_))
 rintro ρ w ⟨x3,hH,h⟩
 refine zM hH (q ?_)
 obtain ⟨hg1,h⟩|⟨hg1,h⟩:=h.br
 refine sj4 44 hg1 (sm (sm (sm (sj 44 hg1 (q2 (vb true) (xT hg1) (ln (yH (by kernel_rfl) (eg ?_))))))))
 obtain ⟨vfrom1,vto1,vnum1,vtext1,vkids1,hv2,h⟩:=h
 refine qa (isAgg252 _) (sizeOf252 _) hv2 (sro (sizeOf252 _) h fun w6 h=>q (ln (er (zX ?_))))
 obtain ⟨qfrom1,qto1,qnum1,qtext1,qkids1,hv1,h⟩:=h
 refine gg2 results201 (rva (isAgg252 _) (sizeOf252 _) hv1) (rvU (vi 53)) ⟨qfrom1,qto1,qnum1,qtext1,qkids1,53,rfl,h⟩
 refine qk 44 hg1 ?_
 obtain ⟨v2,hv10,h⟩:=h
 refine q4 44 hg1 (xl (isAgg4 _) hv10) (qk 44 hg1 (qk 44 hg1 ?_))
 obtain ⟨hg2,h⟩|⟨hg2,h⟩:=h.br
 refine qk 48 hg2 ?_
 obtain ⟨v3,hv7,h⟩:=h
 refine q4 48 hg2 (xl (isAgg9 _) hv7) (stq (v:=(vb (!(decide (v3=⟨#[]⟩))))) (wy 48 hg2) (uE (by kernel_rfl) (by kernel_rfl)) (stq (v:=(vb (!(decide (v3=⟨#[]⟩))))) (wy 44 hg1) (xT hg2) (q2 (vb (!(decide (v3=⟨#[]⟩)))) (xF hg1) (ln (cbr h ?_ ?_)))))<;>intro h
 refine eg ?_
 obtain ⟨vfrom2,vto2,vnum2,vtext2,vkids2,hv4,h⟩:=h
 refine qa (isAgg252 _) (sizeOf252 _) hv4 (sro (sizeOf252 _) h fun w7 h=>q (ln (er (zX ?_))))
 obtain ⟨qfrom2,qto2,qnum2,qtext2,qkids2,hv3,h⟩:=h
 refine gg2 results201 (rva (isAgg252 _) (sizeOf252 _) hv3) (rvU (vi 53)) ⟨qfrom2,qto2,qnum2,qtext2,qkids2,53,rfl,h⟩
 refine zB (zL (eg ?_))
 obtain ⟨vfrom3,vto3,vnum3,vtext3,vkids3,hv6,h⟩:=h
 refine qa (isAgg252 _) (sizeOf252 _) hv6 (sro (sizeOf252 _) h fun w8 h=>q (ln (er ?_)))
 obtain ⟨qfrom3,qto3,qnum3,qtext3,qkids3,hv5,h⟩:=h
 refine gg2 results201 (rva (isAgg252 _) (sizeOf252 _) hv5) (rvU (vi 0)) ⟨qfrom3,qto3,qnum3,qtext3,qkids3,0,rfl,h⟩
 refine sj3 48 hg2 (stq (v:=(vb false)) (wy 44 hg1) (xF hg2) (q2 (vb false) (xF hg1) (ln (yU (by kernel_rfl) (zB (zL (eg ?_)))))))
 obtain ⟨vfrom4,vto4,vnum4,vtext4,vkids4,hv9,h⟩:=h
 refine qa (isAgg252 _) (sizeOf252 _) hv9 (sro (sizeOf252 _) h fun w9 h=>q (ln (er ?_)))
 obtain ⟨qfrom4,qto4,qnum4,qtext4,qkids4,hv8,h⟩:=h
 refine gg2 results201 (rva (isAgg252 _) (sizeOf252 _) hv8) (rvU (vi 0)) ⟨qfrom4,qto4,qnum4,qtext4,qkids4,0,rfl,h⟩
 obtain ⟨hg3,h⟩|⟨hg3,h⟩:=h.br
 refine sj4 34 hg3 (sm (sm (sm (sj 34 hg3 (q2 (vb true) (xT hg3) (zC ⟨true,hm,h⟩))))))
 refine qk 34 hg3 ?_
 obtain ⟨v4,hv12,h⟩:=h
 refine q4 34 hg3 (xl (isAgg4 _) hv12) (qk 34 hg3 (qk 34 hg3 (zI 4 (fun ρ w=>∃x4,Has ρ [(1,(vp (some p1))),(2,(vp (some p2))),(4,(vp (some p3))),(34,(vb x2)),(42,(vb x4))]∧m_E_j4 p1 p2 p3 x2 x4 w K) ?_ ?_)))
 rintro ρ w ⟨x4,hH,h⟩
 refine zM hH ?_
 obtain ⟨hg4,h⟩|⟨hg4,h⟩:=h.br
 refine q2 (vb true) (xT hg4) (zC ⟨true,hm,h⟩)
 refine q2 (vb x4) (xF hg4) (zC ⟨x4,hm,h⟩)
 obtain ⟨hg5,h⟩|⟨hg5,h⟩:=h.br
 refine qk 38 hg5 ?_
 obtain ⟨v5,hv11,h⟩:=h
 refine q4 38 hg5 (xl (isAgg23 _) hv11) (qk 38 hg5 (stq (v:=(vb (v5 != 0))) (wy 34 hg3) (xT hg5) (zC ⟨(v5 != 0),hm,h⟩)))
 refine sj3 38 hg5 (stq (v:=(vb false)) (wy 34 hg3) (xF hg5) (zC ⟨false,hm,h⟩))
 obtain ⟨hg6,h⟩|⟨hg6,h⟩:=h.br
 refine sj4 24 hg6 (sm (sm (sm (sj 24 hg6 (q2 (vb true) (xT hg6) (zC ⟨true,hm,h⟩))))))
 refine qk 24 hg6 ?_
 obtain ⟨v6,hv14,h⟩:=h
 refine q4 24 hg6 (xl (isAgg4 _) hv14) (qk 24 hg6 (qk 24 hg6 (zI 4 (fun ρ w=>∃x5,Has ρ [(1,(vp (some p1))),(2,(vp (some p2))),(4,(vp (some p3))),(24,(vb x1)),(32,(vb x5))]∧m_E_j5 p1 p2 p3 x1 x5 w K) ?_ ?_)))
 rintro ρ w ⟨x5,hH,h⟩
 refine zM hH ?_
 obtain ⟨hg7,h⟩|⟨hg7,h⟩:=h.br
 refine q2 (vb true) (xT hg7) (zC ⟨true,hm,h⟩)
 refine q2 (vb x5) (xF hg7) (zC ⟨x5,hm,h⟩)
 obtain ⟨hg8,h⟩|⟨hg8,h⟩:=h.br
 refine qk 28 hg8 ?_
 obtain ⟨v7,hv13,h⟩:=h
 refine q4 28 hg8 (xl (isAgg3 _) hv13) (qk 28 hg8 (stq (v:=(vb (v7 != 0))) (wy 24 hg6) (xT hg8) (zC ⟨(v7 != 0),hm,h⟩)))
 refine sj3 28 hg8 (stq (v:=(vb false)) (wy 24 hg6) (xF hg8) (zC ⟨false,hm,h⟩))
 obtain ⟨hg9,h⟩|⟨hg9,h⟩:=h.br
 refine sj4 14 hg9 (sm (sm (sm (sj 14 hg9 (q2 (vb true) (xT hg9) (zC ⟨true,hm,h⟩))))))
 refine qk 14 hg9 ?_
 obtain ⟨v8,hv16,h⟩:=h
 refine q4 14 hg9 (xl (isAgg4 _) hv16) (qk 14 hg9 (qk 14 hg9 (zI 4 (fun ρ w=>∃x6,Has ρ [(1,(vp (some p1))),(2,(vp (some p2))),(4,(vp (some p3))),(14,(vb (!r1))),(22,(vb x6))]∧m_E_j6 p1 p2 r1 p3 x6 w K) ?_ ?_)))
 rintro ρ w ⟨x6,hH,h⟩
 refine zM hH ?_
 obtain ⟨hg10,h⟩|⟨hg10,h⟩:=h.br
 refine q2 (vb true) (xT hg10) (zC ⟨true,hm,h⟩)
 refine q2 (vb x6) (xF hg10) (zC ⟨x6,hm,h⟩)
 obtain ⟨hg11,h⟩|⟨hg11,h⟩:=h.br
 refine qk 18 hg11 ?_
 obtain ⟨v9,hv15,h⟩:=h
 refine q4 18 hg11 (xl (isAgg3 _) hv15) (qk 18 hg11 (stq (v:=(vb (v9 != 0))) (wy 14 hg9) (xT hg11) (zC ⟨(v9 != 0),hm,h⟩)))
 refine sj3 18 hg11 (stq (v:=(vb false)) (wy 14 hg9) (xF hg11) (zC ⟨false,hm,h⟩))
def m_B1_j1 (p1 p2:Addr) (x1:Bool) (w:World) (K:Int→WP):Prop :=Br x1 (K 50 w) (∃v1,w.cell? (p1.add 1)=some (vb v1)∧Br v1 (∃v2,w.cell? (p2.add 2)=some (vi v2)∧Calls prog 282 #[(vi v2)] w (fun e w3=>∃r1,e=.returned (vb r1)∧Br (!r1) (K 50 w3) (∃v3,w3.cell? (p2.add 2)=some (vi v3)∧∃v4,w3.cell? (p2.add 1)=some (vi v4)∧Br (v3 == v4) (K 50 w3) (∃v5,w3.cell? (p2.add 4)=some (vs v5)∧Br (decide ((v5.size:Int)>64)) (K 1 w3) (K 0 w3))))) (∃v6,w.cell? (p2.add 4)=some (vs v6)∧Br (decide ((v6.size:Int)>64)) (K 1 w) (K 0 w)))
def m_B1 (sfrom1 sto1:Bool) (snum1 stext1:Bool) (skids1 aH:Int) (aI aJ aK:Int) (aL:ByteArray) (aM aN:Int) (w:World) (K:Int→WP):Prop :=∀p1 w1,New w (.cells #[(vb sfrom1),(vb sto1),(vb snum1),(vb stext1),(vi skids1)] 252) p1 w1→∀p2 w2,New w1 (.cells #[(vi aH),(vi aI),(vi aJ),(vu aK),(vs aL),(vi aM),(vi aN)] 176) p2 w2→∃v7,w2.cell? p1=some (vb v7)∧Br v7 (∃v8,w2.cell? (p2.add 1)=some (vi v8)∧Calls prog 282 #[(vi v8)] w2 (fun e w4=>∃r2,e=.returned (vb r2)∧m_B1_j1 p1 p2 (!r2) w4 K)) (m_B1_j1 p1 p2 false w2 K)
theorem w_B1 (sfrom1 sto1 snum1 stext1 skids1 aH aI aJ aK aL aM aN w K) (h:m_B1 sfrom1 sto1 snum1 stext1 skids1 aH aI aJ aK aL aM aN w K):
  Calls prog 202 #[(.agg #[(vb sfrom1),(vb sto1),(vb snum1),(vb stext1),(vi skids1)]),(.agg #[(vi aH),(vi aI),(vi aJ),(vu aK),(vs aL),(vi aM),(vi aN)])] w (fun e w'=>∃r3,e=.returned (vi r3)∧K r3 w'):=by
 refine cw (args:=[(Am sfrom1 sto1 snum1 stext1 skids1),(Ae aH aI aJ aK aL aM aN)]) func202 ntmps202 (eg (sn (O:=(.cells #[(vb sfrom1),(vb sto1),(vb snum1),(vb stext1),(vi skids1)] 252)) xb ?_))
 intro p1 w1 hn2
 have h:=h p1 w1 hn2
 refine nw1 h xb fun p2 w2 h=>q (ln (zA (zK (zA (qM (fun ρ w=>∃x1,Has ρ [(2,(vp (some p1))),(3,(vp (some p2))),(5,(vb x1))]∧m_B1_j1 p1 p2 x1 w K) ?_ ?_)))))
 rintro ρ w ⟨x1,hH,h⟩
 refine zV hH (cbr' h (fun hc1 h=>?_) (fun hc1 h=>?_))
 refine zB (zL (jAE (t:=x1) (by kernel_rfl) hc1 (eg (q0 (vi 50) (ln (er (qW (zX (rs1 results202 ⟨50,rfl,h⟩)))))))))
 refine rg (q (ql (isAgg4 _) h fun v1 h=>q ?_))
 obtain ⟨hg1,h⟩|⟨hg1,h⟩:=h.br
 refine qk 16 hg1 ?_
 obtain ⟨v2,hv4,h⟩:=h
 refine q4 16 hg1 (xl (isAgg3 _) hv4) (vA (wy 16 hg1) (xc call282) (h.mono ?_))
 rintro e w3 ⟨r1,rfl,h⟩
 refine ⟨_,rfl,?_⟩
 refine qk 16 hg1 (qk 16 hg1 ?_)
 obtain ⟨hg2,h⟩|⟨hg2,h⟩:=h.br
 refine sj5 21 hg2 (stq (v:=(vb true)) (wy 16 hg1) (xT hg2) (q2 (vb true) (xT hg1) (q (ln (yH (by kernel_rfl) (zA (rg (q (ln (er (qW (zX (rs1 results202 ⟨50,rfl,h⟩)))))))))))))
 refine qk 21 hg2 ?_
 obtain ⟨v3,hv3,h⟩:=h
 refine q4 21 hg2 (xl (isAgg3 _) hv3) (qk 21 hg2 ?_)
 obtain ⟨v4,hv2,h⟩:=h
 refine q4 21 hg2 (xl (isAgg3 _) hv2) (qk 21 hg2 (stq (v:=(vb (v3 == v4))) (wy 16 hg1) (xF hg2) (q2 (vb (v3 == v4)) (xT hg1) (q (ln (cbr h ?_ ?_))))))<;>intro h
 refine eg (q (ln (er (qW (zX (rs1 results202 ⟨50,rfl,h⟩))))))
 refine eg (q (ql (isAgg9 _) h fun v5 h=>qc (ln (cbr h ?_ ?_))))<;>intro h
 refine eg (q (ln (er (qW (zX (rs1 results202 ⟨1,rfl,h⟩))))))
 refine zB (uM (zL (eg (q (ln (er (rs1 results202 ⟨0,rfl,h⟩)))))))
 refine sj5 16 hg1 (sm (sm (sm (sm (sm (sj 16 hg1 (q2 (vb false) (xF hg1) (q (ln (yU (by kernel_rfl) (eg (q0 (vp (some (p2.add 4))) (ql (isAgg9 _) h fun v6 h=>qc (ln (cbr h ?_ ?_)))))))))))))))<;>intro h
 refine eg (q (ln (er (qW (zX (rs1 results202 ⟨1,rfl,h⟩))))))
 refine zB (uM (zL (eg (q (ln (er (rs1 results202 ⟨0,rfl,h⟩)))))))
 refine rg (q (ql (isAgg4 _) h fun v7 h=>q ?_))
 obtain ⟨hg3,h⟩|⟨hg3,h⟩:=h.br
 refine qk 8 hg3 ?_
 obtain ⟨v8,hv7,h⟩:=h
 refine q4 8 hg3 (xl (isAgg3 _) hv7) (vA (wy 8 hg3) (xc call282) (h.mono ?_))
 rintro e w4 ⟨r2,rfl,h⟩
 refine ⟨_,rfl,?_⟩
 refine qk 8 hg3 (q2 (vb (!r2)) (xT hg3) (q (ln ⟨(!r2),hm,h⟩)))
 refine sj4 8 hg3 (q2 (vb false) (xF hg3) (q (ln ⟨false,hm,h⟩)))
def m_F_l3 (p1:Option Addr) (s1:Sl) (size1 depth1 x1:Int) (wl1:World) (Kc3:Int→Int→Int→WP) (K:Int→Int→Int→WP):Prop :=Br (decide (x1<(s1.len:Int))) (∃a1:Addr,At s1 x1 1 a1∧∃v4,wl1.cell? a1=some (vi v4)∧Calls prog 168 #[(vp p1),(vi v4)] wl1 (fun e w6=>∃r2,e=.returned (vb r2)∧Br (!r2) (K 0 0 51 w6) (Calls prog 160 #[(vp p1),(vi v4)] w6 (fun e w7=>∃r3,e=.returned (vi r3)∧Calls prog 290 #[(vp p1),(vi v4)] w7 (fun e w8=>∃r4,e=.returned (vi r4)∧∃z1,(Builtin.max_ #[3,3] 3 #[(vi depth1),(vi r4)]).run prog w8=.ok (vi z1) w8∧Kc3 (q6.wrap (size1+r3)) z1 (q6.wrap (x1+1)) w8))))) (Br (decide (size1>4096)) (K 0 0 52 wl1) (Br (decide ((q6.wrap (depth1+1))>64)) (K 0 0 52 wl1) (K size1 (q6.wrap (depth1+1)) 0 wl1)))
def m_F_j2 (p1:Option Addr) (p2 p3:Addr) (e2:Int) (w:World) (K:Int→Int→Int→WP):Prop :=Br (e2 != 0) (K 0 0 e2 w) (∃v1,w.cell? (p2.add 5)=some (vi v1)∧∃v2,w.cell? (p2.add 6)=some (vi v2)∧∀p4 w5,New w (.cells #[(vi v1),(vi v2)] 78) p4 w5→∃v3,w5.cell? (p3.add 4)=some (vi v3)∧∃s1:Sl,(Instr.sliceAt 46 (Sl.mk (some p4) 2 2).v none (some (vi v3)) none).run prog w5=.ok s1.v w5∧∃(I1:Int→Int→Int→WP) (mu1:Int→Int→Int→World→Nat),I1 1 0 0 w5∧∀(size1 depth1 x1:Int) (wl1:World),I1 size1 depth1 x1 wl1→m_F_l3 p1 s1 size1 depth1 x1 wl1 (fun y'0 y'1 y'2 w'=>I1 y'0 y'1 y'2 w'∧mu1 y'0 y'1 y'2 w'<mu1 size1 depth1 x1 wl1) K)
def m_F_j1 (p1:Option Addr) (p2 p3:Addr) (e1:Int) (w:World) (K:Int→Int→Int→WP):Prop :=Br (e1 == 0) (∃vfrom1 vto1 vnum1 vtext1 vkids1,Row w p3 (Ai vfrom1 vto1 vnum1 vtext1 vkids1)∧∃aO aP aQ aR aS bX bY,Row w p2 (Ad aO aP aQ aR aS bX bY)∧Calls prog 202 #[(.agg #[(vb vfrom1),(vb vto1),(vb vnum1),(vb vtext1),(vi vkids1)]),(.agg #[(vi aO),(vi aP),(vi aQ),(vu aR),(vs aS),(vi bX),(vi bY)])] w (fun e w9=>∃r5,e=.returned (vi r5)∧m_F_j2 p1 p2 p3 r5 w9 K)) (m_F_j2 p1 p2 p3 e1 w K)
def m_F_j5 (p1:Option Addr) (p2:Addr) (r1:Int) (p3:Addr) (x2 x3:Bool) (w:World) (K:Int→Int→Int→WP):Prop :=Br (r1 == 0) (Br x2 (m_F_j1 p1 p2 p3 53 w K) (Br x3 (m_F_j1 p1 p2 p3 53 w K) (m_F_j1 p1 p2 p3 r1 w K))) (m_F_j1 p1 p2 p3 r1 w K)
def m_F_j4 (p1:Option Addr) (p2:Addr) (r1:Int) (p3:Addr) (x2:Bool) (w:World) (K:Int→Int→Int→WP):Prop :=Br (r1 == 0) (Br x2 (m_F_j1 p1 p2 p3 53 w K) (∃v6,w.cell? (p3.add 4)=some (vi v6)∧Br (decide (v6<2)) (∃v7,w.cell? (p2.add 6)=some (vi v7)∧m_F_j5 p1 p2 r1 p3 x2 (v7 != 0) w K) (m_F_j5 p1 p2 r1 p3 x2 false w K))) (m_F_j1 p1 p2 p3 r1 w K)
def m_F (p1:Option Addr) (aH aI:Int) (aJ aK:Int) (aL:ByteArray) (aM aN:Int) (w:World) (K:Int→Int→Int→WP):Prop :=∀p2 w1,New w (.cells #[(vi aH),(vi aI),(vi aJ),(vu aK),(vs aL),(vi aM),(vi aN)] 176) p2 w1→∃aA aB aC aD aE aF aG,Row w1 p2 (Ad aA aB aC aD aE aF aG)∧Calls prog 201 #[(.agg #[(vi aA),(vi aB),(vi aC),(vu aD),(vs aE),(vi aF),(vi aG)])] w1 (fun e w2=>∃rfrom1 rto1 rnum1 rtext1 rkids1 r1,e=.returned (.tuple #[(Am rfrom1 rto1 rnum1 rtext1 rkids1),(vi r1)])∧∀p3 w3,New w2 (.cells #[(vb false),(vb false),(vb false),(vb false),(vi 0)] 252) p3 w3→(∀j,j<5→vF w3 (p3.add j))∧∀w4,w4=storeRow w3 p3 (Ai rfrom1 rto1 rnum1 rtext1 rkids1)→Br (r1 == 0) (∃v5,w4.cell? (p3.add 4)=some (vi v5)∧Br (decide (v5<1)) (∃v8,w4.cell? (p2.add 5)=some (vi v8)∧m_F_j4 p1 p2 r1 p3 (v8 != 0) w4 K) (m_F_j4 p1 p2 r1 p3 false w4 K)) (m_F_j1 p1 p2 p3 r1 w4 K))
theorem w_F (p1 aH aI aJ aK aL aM aN w K) (h:m_F p1 aH aI aJ aK aL aM aN w K):
  Calls prog 219 #[(vp p1),(.agg #[(vi aH),(vi aI),(vi aJ),(vu aK),(vs aL),(vi aM),(vi aN)])] w (fun e w'=>∃r6 r7 r8,e=.returned (.tuple #[(vi r6),(vi r7),(vi r8)])∧K r6 r7 r8 w'):=by
 refine cw (args:=[(vp p1),(Ae aH aI aJ aK aL aM aN)]) func219 ntmps219 (eg (sn (O:=(.cells #[(vi aH),(vi aI),(vi aJ),(vu aK),(vs aL),(vi aM),(vi aN)] 176)) xb ?_))
 intro p2 w1 hn4
 have h:=h p2 w1 hn4
 refine qc (ln (eg ?_))
 obtain ⟨aA,aB,aC,aD,aE,aF,aG,hv14,h⟩:=h
 refine qa (isAgg176 _) (sizeOf176 _) hv14 (sc call201 (h.mono fun e w2 ⟨rfrom1,rto1,rnum1,rtext1,rkids1,r1,k,h⟩=>⟨_,k,?_⟩))
 refine qc (nw1 h (zH (zeroValue252 _) rfl) fun p3 w3 h=>sro (sizeOf252 _) h fun w4 h=>q (ln (qM (fun ρ w=>∃e1,Has ρ [(0,(vp p1)),(3,(vp (some p2))),(7,(vp (some p3))),(8,(vi e1))]∧m_F_j1 p1 p2 p3 e1 w K) ?_ ?_)))
 rintro ρ w ⟨e1,hH,h⟩
 refine zV hH (qM (fun ρ w=>∃e2,Has ρ [(0,(vp p1)),(3,(vp (some p2))),(7,(vp (some p3))),(8,(vi e2))]∧m_F_j2 p1 p2 p3 e2 w K) ?_ ?_)
 rintro ρ w ⟨e2,hH,h⟩
 refine zV hH (zA (eg (qb (ln (cbr h ?_ ?_)))))<;>intro h
 refine eg (qd (ln (er (zX (jPC (.inl rfl) results219 (v:=(vi 0)) (by kernel_rfl) (v':=(vi 0)) (by kernel_rfl) (v'':=(vi e2)) (by kernel_rfl) ⟨0,0,e2,rfl,h⟩)))))
 refine zB (zL (eg (qb (ln (zA (eg (q (ql (isAgg78 _) h fun v1 h=>q (ql (isAgg78 _) h fun v2 h=>tR (O:=(.cells #[(vi v1),(vi v2)] 78)) (fun p=>(Sl.mk (some p) 2 2).v) (zR rfl) (vL (vs:=#[(0,(vi v1)),(1,(vi v2))]) (by kernel_rfl) (by kernel_rfl)) ?_)))))))))
 intro p4 w5 hn2
 have h:=h p4 w5 hn2
 refine q (ql (isAgg3 _) h fun v3 h=>?_)
 obtain ⟨s1,hv4,h⟩:=h
 refine q2 s1.v (xR (by kernel_rfl) (by kernel_rfl) (by kernel_rfl) (by kernel_rfl) hv4) (qb (ln (zK ?_)))
 obtain ⟨I1,mu1,h0,hr⟩:=h
 refine vQ (σ:=Int×Int×Int×World) (fun s ρ w=>w=s.2.2.2∧Has ρ [(0,(vp p1)),(9,(vi s.1)),(10,(vi s.2.1)),(55,s1.v),(56,(vi (s1.len:Int))),(57,(vi s.2.2.1))]∧I1 s.1 s.2.1 s.2.2.1 s.2.2.2) (fun s=>mu1 s.1 s.2.1 s.2.2.1 s.2.2.2) (1,0,0,w5) ⟨rfl,hm,h0⟩ ?_
 rintro ⟨size1,depth1,x1,wl1⟩ ρ w ⟨hw,hH,hI⟩
 dsimp only at hw hH;subst w
 have h:=hr size1 depth1 x1 wl1 hI
 refine zV hH (eg (q (ln (zA (cbr h ?_ ?_)))))<;>intro h
 refine zB (zL (zA (zK (eg (qi (runUnderlying46 _) (sizeOf78 _) h fun a1 h=>ql (isAgg78 _) h fun v4 h=>q (ln (zA (eg (qb (sc call168 (h.mono fun e w6 ⟨r2,k,h⟩=>⟨_,k,?_⟩)))))))))))
 refine q (ln (cbr h ?_ ?_))<;>intro h
 refine eg (qc (ln (er (zX (qW (zX (zX (qW (zX (jPC (.inl rfl) results219 (v:=(vi 0)) (by kernel_rfl) (v':=(vi 0)) (by kernel_rfl) (v'':=(vi 51)) (by kernel_rfl) ⟨0,0,51,rfl,h⟩))))))))))
 refine zB (zL (eg (qc (sc call160 (h.mono fun e w7 ⟨r3,k,h⟩=>⟨_,k,?_⟩)))))
 refine qb (ln (rg (qc (sc call290 (h.mono fun e w8 ⟨r4,k,h⟩=>⟨_,k,?_⟩)))))
 obtain ⟨z1,hv1,h⟩:=h
 refine q2 (vi z1) (vT (args:=#[(vi depth1),(vi r4)]) (by kernel_rfl) (fun _=>rfl) hv1) (q (zC (uM (zL (rg (qb (ln ⟨((q6.wrap (size1+r3)),z1,(q6.wrap (x1+1)),w8),⟨rfl,hm,h.1⟩,h.2⟩)))))))
 refine vO (uI (uI (uD (zL (eg (q0 (vi depth1) (q0 (vi (q6.wrap (depth1+1))) (q0 (vi (q6.wrap (depth1+1))) (ln (zA (eg (qc ?_))))))))))))
 obtain ⟨hg1,h⟩|⟨hg1,h⟩:=h.br
 refine sj2 80 hg1 (q2 (vb true) (xT hg1) (ln (yH (by kernel_rfl) (eg (q0 (vi 0) (q0 (vi 0) (q0 (vi 52) (zC (zL (er (zX (jPC (.inl rfl) results219 (v:=(vi 0)) (by kernel_rfl) (v':=(vi 0)) (by kernel_rfl) (v'':=(vi 52)) (by kernel_rfl) ⟨0,0,52,rfl,h⟩))))))))))))
 refine qk 80 hg1 (qk 80 hg1 (q2 (vb (decide ((q6.wrap (depth1+1))>64))) (xF hg1) (ln (cbr h ?_ ?_))))<;>intro h
 refine eg (qc (ln (er (zX (jPC (.inl rfl) results219 (v:=(vi 0)) (by kernel_rfl) (v':=(vi 0)) (by kernel_rfl) (v'':=(vi 52)) (by kernel_rfl) ⟨0,0,52,rfl,h⟩)))))
 refine zB (zL (eg (q (qd (ln (er (jPC (.inl rfl) results219 (v:=(vi size1)) (by kernel_rfl) (v':=(vi (q6.wrap (depth1+1)))) (by kernel_rfl) (v'':=(vi 0)) (by kernel_rfl) ⟨size1,(q6.wrap (depth1+1)),0,rfl,h⟩)))))))
 refine eg (qb (ln (cbr h ?_ ?_)))<;>intro h
 refine rg ?_
 obtain ⟨vfrom1,vto1,vnum1,vtext1,vkids1,hv9,h⟩:=h
 refine qa (isAgg252 _) (sizeOf252 _) hv9 ?_
 obtain ⟨aO,aP,aQ,aR,aS,bX,bY,hv8,h⟩:=h
 refine qa (isAgg176 _) (sizeOf176 _) hv8 (sc call202 (h.mono fun e w9 ⟨r5,k,h⟩=>⟨_,k,?_⟩))
 refine q (ln ⟨r5,hm,h⟩)
 refine zB (zL ⟨e1,hm,h⟩)
 refine eg (qc ?_)
 obtain ⟨hg2,h⟩|⟨hg2,h⟩:=h.br
 refine qk 20 hg2 ?_
 obtain ⟨v5,hv13,h⟩:=h
 refine q4 20 hg2 (xl (isAgg3 _) hv13) (qk 20 hg2 (qk 20 hg2 (zI 4 (fun ρ w=>∃x2,Has ρ [(0,(vp p1)),(3,(vp (some p2))),(7,(vp (some p3))),(8,(vi r1)),(20,(vb (r1 == 0))),(28,(vb x2))]∧m_F_j4 p1 p2 r1 p3 x2 w K) ?_ ?_)))
 rintro ρ w ⟨x2,hH,h⟩
 refine zM hH ?_
 obtain ⟨hg3,h⟩|⟨hg3,h⟩:=h.br
 refine qk 20 hg3 ?_
 obtain ⟨hg4,h⟩|⟨hg4,h⟩:=h.br
 refine sj4 29 hg4 (sm (sm (sm (sj 29 hg4 (stq (v:=(vb true)) (wy 20 hg3) (xT hg4) (q2 (vb true) (xT hg3) (ln (yH (by kernel_rfl) (rg (q0 (vi 53) (ln ⟨53,hm,h⟩)))))))))))
 refine qk 29 hg4 ?_
 obtain ⟨v6,hv11,h⟩:=h
 refine q4 29 hg4 (xl (isAgg3 _) hv11) (qk 29 hg4 (qk 29 hg4 (zI 4 (fun ρ w=>∃x3,Has ρ [(0,(vp p1)),(3,(vp (some p2))),(7,(vp (some p3))),(8,(vi r1)),(20,(vb (r1 == 0))),(29,(vb x2)),(37,(vb x3))]∧m_F_j5 p1 p2 r1 p3 x2 x3 w K) ?_ ?_)))
 rintro ρ w ⟨x3,hH,h⟩
 refine zM hH ?_
 obtain ⟨hg5,h⟩|⟨hg5,h⟩:=h.br
 obtain ⟨hg6,h⟩|⟨hg6,h⟩:=h.br
 refine stq (v:=(vb true)) (wy 20 hg5) (xT hg6) (q2 (vb true) (xT hg5) (ln (yH (by kernel_rfl) (rg (q0 (vi 53) (ln ⟨53,hm,h⟩))))))
 refine stq (v:=(vb x3)) (wy 20 hg5) (xF hg6) (q2 (vb x3) (xT hg5) (ln (cbr h ?_ ?_)))<;>intro h
 refine rg (q (ln ⟨53,hm,h⟩))
 refine zB (zL ⟨r1,hm,h⟩)
 refine sj 20 hg5 (q2 (vb false) (xF hg5) (ln (yU (by kernel_rfl) (zB (zL ⟨r1,hm,h⟩)))))
 obtain ⟨hg7,h⟩|⟨hg7,h⟩:=h.br
 refine qk 33 hg7 ?_
 obtain ⟨v7,hv10,h⟩:=h
 refine q4 33 hg7 (xl (isAgg78 _) hv10) (qk 33 hg7 (stq (v:=(vb (v7 != 0))) (wy 29 hg4) (xT hg7) (zC ⟨(v7 != 0),hm,h⟩)))
 refine sj3 33 hg7 (stq (v:=(vb false)) (wy 29 hg4) (xF hg7) (zC ⟨false,hm,h⟩))
 refine sj 20 hg3 (sm (sm (sm (sm (sm (sm (sm (sm (sj 20 hg3 (q2 (vb false) (xF hg3) (zC (zL (yU (by kernel_rfl) (zB (zL ⟨r1,hm,h⟩)))))))))))))))
 obtain ⟨hg8,h⟩|⟨hg8,h⟩:=h.br
 refine qk 24 hg8 ?_
 obtain ⟨v8,hv12,h⟩:=h
 refine q4 24 hg8 (xl (isAgg78 _) hv12) (qk 24 hg8 (stq (v:=(vb (v8 != 0))) (wy 20 hg2) (xT hg8) (zC ⟨(v8 != 0),hm,h⟩)))
 refine sj3 24 hg8 (stq (v:=(vb false)) (wy 20 hg2) (xF hg8) (zC ⟨false,hm,h⟩))
 refine sj4 20 hg2 (sm (sm (sm (sj2 20 hg2 (sm (sm (sm (sm (sm (sm (sm (sm (sj 20 hg2 (q2 (vb false) (xF hg2) (ln (yU (by kernel_rfl) (zB (zL ⟨r1,hm,h⟩))))))))))))))))))
def m_U2  (w:World) (K:(Array Value)→WP):Prop :=∀p1 w1,New w (.cells #[(vb false),(vb false),(vb false),(vb false),(vi 0),(vb false),(vb false),(vb false),(vb false),(vi 0),(vb false),(vb false),(vb false),(vb false),(vi 0),(vb false),(vb false),(vb false),(vb false),(vi 0),(vb false),(vb false),(vb false),(vb false),(vi 0),(vb false),(vb false),(vb false),(vb false),(vi 0),(vb false),(vb false),(vb false),(vb false),(vi 0),(vb false),(vb false),(vb false),(vb false),(vi 0),(vb false),(vb false),(vb false),(vb false),(vi 0),(vb false),(vb false),(vb false),(vb false),(vi 0)] 325) p1 w1→(∀j,j<50→vF w1 (p1.add j))∧∀w2,w2=storeRow w1 p1 (An false false false false 0 true false false false 0 false false true false 0 false false false true 0 false false false false 2 false false false false 1 true false false false 0 true false false false 1 true true false false 1 true true false false 1)→∃q1:Array Value,(q1.size=50∧Row w2 p1 q1.toList)∧K q1 w2
theorem w_U2  (w:World) (K:(Array Value)→WP) (h:m_U2  w K) :
  Calls prog 220 #[] w (fun e w'=>∃r1:Array Value,e=.returned (.agg r1)∧K r1 w'):=by
 refine cw (args:=[]) func220 ntmps220 (eg (sn (O:=(.cells #[(vb false),(vb false),(vb false),(vb false),(vi 0),(vb false),(vb false),(vb false),(vb false),(vi 0),(vb false),(vb false),(vb false),(vb false),(vi 0),(vb false),(vb false),(vb false),(vb false),(vi 0),(vb false),(vb false),(vb false),(vb false),(vi 0),(vb false),(vb false),(vb false),(vb false),(vi 0),(vb false),(vb false),(vb false),(vb false),(vi 0),(vb false),(vb false),(vb false),(vb false),(vi 0),(vb false),(vb false),(vb false),(vb false),(vi 0),(vb false),(vb false),(vb false),(vb false),(vi 0)] 325)) (zH (zeroValue325 _) rfl) ?_))
 intro p1 w1 hn2
 have h:=h p1 w1 hn2
 refine ln (eg (qd (qd (qb (sro (sizeOf325 _) h fun w2 h=>ln (er ?_))))))
 obtain ⟨q1,hv1,h⟩:=h
 refine gg1 results220 (RV.cellAr (A:=p1) (vs:=q1) (by kernel_rfl) (isAgg325 _) (sizeOf325 _) hv1) ⟨q1,rfl,h⟩
def m_V2 (n1:Int) (w:World) (K:Bool→WP):Prop :=Br (decide (n1≥0)) (K (decide (n1<16)) w) (K false w)
theorem w_V2 (n1 w K) (h:m_V2 n1 w K):
  Calls prog 282 #[(vi n1)] w (fun e w'=>∃r1,e=.returned (vb r1)∧K r1 w'):=by
 refine cw (args:=[(vi n1)]) func282 ntmps282 (eg (q0 (vb false) (ln (eg (q0 (vi n1) (q0 (vb (decide (n1≥0))) (q0 (vb (decide (n1≥0))) ?_)))))))
 obtain ⟨hg1,h⟩|⟨hg1,h⟩:=h.br
 refine qk 5 hg1 (qk 5 hg1 (q2 (vb (decide (n1<16))) (xT hg1) (q (ln (er (rs1 results282 ⟨(decide (n1<16)),rfl,h⟩))))))
 refine sj2 5 hg1 (q2 (vb false) (xF hg1) (q (ln (er (rs1 results282 ⟨false,rfl,h⟩)))))
def m_W2 (p1:Option Addr) (t1:Int) (w:World) (K:Int→WP):Prop :=Calls prog 168 #[(vp p1),(vi t1)] w (fun e w1=>∃r1,e=.returned (vb r1)∧Br (!r1) (K 0 w1) (∃a1,p1=some a1∧∃v1:Sl,w1.cell? a1=some v1.v∧∃a2:Addr,At v1 (q6.wrap (t1 - 1)) 9 a2∧∃v2,w1.cell? (a2.add 8)=some (vi v2)∧K v2 w1))
theorem w_W2 (p1 t1 w K) (h:m_W2 p1 t1 w K):
  Calls prog 290 #[(vp p1),(vi t1)] w (fun e w'=>∃r2,e=.returned (vi r2)∧K r2 w'):=by
 refine cw (args:=[(vp p1),(vi t1)]) func290 ntmps290 (eg (q0 (vi 0) (ln (zA (eg (q0 (vp p1) (q0 (vi t1) ?_)))))))
 refine sc call168 (h.mono fun e w1 ⟨r1,k,h⟩=>⟨_,k,?_⟩)
 refine q (ln (cbr h ?_ ?_))<;>intro h
 refine eg (q (ln (er (zX (rs1 results290 ⟨0,rfl,h⟩)))))
 refine zB (zL (eg (q (qm h fun a1 h=>q (ql (isAgg166 _) h fun v1 h=>qb (qi (runUnderlying166 _) (sizeOf250 _) h fun a2 h=>q (ql (isAgg3 _) h fun v2 h=>q (ln (er (rs1 results290 ⟨v2,rfl,h⟩))))))))))
end Go.Proofs
end
section
namespace Go.Sp
structure Node where
 kind:Int
 frm:Int
 to:Int
 num:Int
 text:ByteArray
 a:Int
 b:Int
deriving DecidableEq
structure Shape where
 frm:Bool
 to:Bool
 num:Bool
 text:Bool
 kids:Int
deriving DecidableEq
def noShape:Shape:=⟨false,false,false,false,0⟩
def shapeOf (k:Int):Shape :=
 if k=1 then ⟨true,false,false,false,0⟩ else if k=2 then ⟨false,false,true,false,0⟩ else if k=3 then ⟨false,false,false,true,0⟩
 else if k=4 then ⟨false,false,false,false,2⟩ else if k=5 then ⟨false,false,false,false,1⟩ else if k=6 then ⟨true,false,false,false,0⟩
 else if k=7 then ⟨true,false,false,false,1⟩ else if k=8 then ⟨true,true,false,false,1⟩ else if k=9 then ⟨true,true,false,false,1⟩ else noShape
def isKind (k:Int):Bool:=decide (1≤k) && decide (k≤9)
def jAM (n:Int):Bool:=decide (0≤n) && decide (n<16)
def vC (n:Node):Int :=
 let s:=shapeOf n.kind
 if !isKind n.kind || (!s.frm && n.frm != 0) || (!s.to && n.to != 0) || (!s.num && n.num != 0) || (!s.text && !decide (n.text=⟨#[]⟩)) then 53 else 0
def vB (s:Shape) (n:Node):Int :=
 if (s.frm && !jAM n.frm) || (s.to && (!jAM n.to || n.to == n.frm)) then 50 else if n.text.size>64 then 1 else 0
end Go.Sp
end
section
open Go Go.SE
namespace Go.Proofs
open Tryz
attribute [local irreducible] Calls
theorem jKJ (n:Int) (w:World):Calls prog 282 #[.int .i64 n] w (fun e w'=>∃r,e=.returned (.bool r)∧(r=Sp.jAM n∧w'=w)):=by
 refine w_V2 n w (fun r w'=>r=Sp.jAM n∧w'=w) ?_;unfold m_V2;refine ⟨fun h=>⟨?_,rfl⟩,fun h=>⟨?_,rfl⟩⟩
 ·have:0≤n:=by simpa using h
  simp [Sp.jAM,this]
 ·have:¬ 0≤n:=by simpa using h
  simp [Sp.jAM,this]
theorem jKK (s1 s2 s3 s4:Bool) (s5 k f t u:Int) (x:ByteArray) (a b:Int) (w:World) :
  Calls prog 202 #[.agg #[.bool s1,.bool s2,.bool s3,.bool s4,.int .i64 s5],.agg #[.int .i64 k,.int .i64 f,.int .i64 t,.int .u64 u,.string x,.int .i64 a,.int .i64 b]] w
   (fun e w'=>∃r,e=.returned (.int .i64 r)∧(r=Sp.vB ⟨s1,s2,s3,s4,s5⟩ ⟨k,f,t,u,x,a,b⟩∧Pure w w')):=by
 refine w_B1 _ _ _ _ _ _ _ _ _ _ _ _ w (fun r w'=>r=Sp.vB ⟨s1,s2,s3,s4,s5⟩ ⟨k,f,t,u,x,a,b⟩∧Pure w w') ?_
 unfold m_B1
 intro p1 w1 h1 p2 w2 h2
 have b1:=(Box.of_new h1).pure (Ext.new h2)
 have b2:=Box.of_new h2
 have E:Pure w w2:=(Ext.new h1).trans (Ext.new h2)
 have J:∀c:Bool,c=(s1 && !Sp.jAM f)→m_B1_j1 p1 p2 c w2 (fun r w'=>r=Sp.vB ⟨s1,s2,s3,s4,s5⟩ ⟨k,f,t,u,x,a,b⟩∧Pure w w'):=by
  intro c hc;unfold m_B1_j1;refine ⟨fun h=>⟨?_,E⟩,fun h=>⟨_,b1.cell rfl,fun h'=>⟨_,b2.cell rfl,?_⟩,fun h'=>⟨_,b2.cell rfl,fun h3=>⟨?_,E⟩,fun h3=>⟨?_,E⟩⟩⟩⟩
  ·rw [hc] at h;simp [Sp.vB,h]
  ·refine (jKJ _ _).mono ?_;rintro _ _ ⟨r,rfl,rfl,rfl⟩;rw [hc] at h;refine ⟨_,rfl,fun h2=>⟨?_,E⟩,fun h2=>⟨_,b2.cell rfl,_,b2.cell rfl,fun h3=>⟨?_,E⟩,fun h3=>⟨_,b2.cell rfl,fun h4=>⟨?_,E⟩,fun h4=>⟨?_,E⟩⟩⟩⟩
   ·simp [Sp.vB,h',h2]
   ·simp [Sp.vB,h',h3]
   ·simp only [Sp.vB,h,h',h3];simp at h2 h4;simp [h2];omega
   ·simp only [Sp.vB,h,h',h3];simp at h2 h4;simp [h2];omega
  ·rw [hc] at h;simp only [Sp.vB,h,h'];simp at h3;simp;omega
  ·rw [hc] at h;simp only [Sp.vB,h,h'];simp at h3;simp;omega
 refine ⟨_,b1.cell0,fun h=>⟨_,b2.cell rfl,?_⟩,fun h=>J _ (by simp [h])⟩
 refine (jKJ _ _).mono ?_
 rintro _ _ ⟨r,rfl,rfl,rfl⟩
 exact ⟨_,rfl,J _ (by simp [h])⟩
def jIR:Array Value:=#[.bool false,.bool false,.bool false,.bool false,.int .i64 0,.bool true,.bool false,.bool false,.bool false,.int .i64 0,.bool false,.bool false,.bool true,.bool false,.int .i64 0,.bool false,.bool false,.bool false,.bool true,.int .i64 0,.bool false,.bool false,.bool false,.bool false,.int .i64 2,.bool false,.bool false,.bool false,.bool false,.int .i64 1,.bool true,.bool false,.bool false,.bool false,.int .i64 0,.bool true,.bool false,.bool false,.bool false,.int .i64 1,.bool true,.bool true,.bool false,.bool false,.int .i64 1,.bool true,.bool true,.bool false,.bool false,.int .i64 1]
theorem jOQ (w:World):Calls prog 220 #[] w (fun e w'=>∃r,e=.returned (.agg r)∧(r=jIR∧Pure w w')):=by
 refine w_U2 w (fun r w'=>r=jIR∧Pure w w') ?_;unfold m_U2;intro p1 w1 h1;have E1:Pure w w1:=Ext.new h1;have hp:=New.own (Ext.refl w) h1;have b1:=Box.of_newA h1;clear h1;refine bx 50 b1 (by kernel_rfl) (by kernel_rfl) (fun w' b E=>?_);refine ⟨jIR,⟨by kernel_rfl,b.row_eq (by kernel_rfl)⟩,rfl,E1.own hp E⟩
theorem jHT (k:Int) (w:World):Calls prog 169 #[.int .i64 k] w (fun e w'=>∃r1:Bool,∃r2:Bool,∃r3:Bool,∃r4:Bool,∃r5:Int,∃r:Bool,e=.returned (.tuple #[.agg #[.bool r1,.bool r2,.bool r3,.bool r4,.int .i64 r5],.bool r])∧(((⟨r1,r2,r3,r4,r5⟩:Sp.Shape)=Sp.shapeOf k∧r=Sp.isKind k)∧Pure w w')):=by
 refine w_S2 k w (fun r1 r2 r3 r4 r5 r w'=>((⟨r1,r2,r3,r4,r5⟩:Sp.Shape)=Sp.shapeOf k∧r=Sp.isKind k)∧Pure w w') ?_;unfold m_S2;intro p1 w1 h1;have E1:Pure w w1:=Ext.new h1;have b1:=Box.of_new h1;have hp:=New.own (Ext.refl w) h1;refine ⟨fun h=>bx 5 b1 rfl rfl (fun w' b E=>⟨_,_,_,_,_,b.row,⟨?_,?_⟩,E1.own hp E⟩),fun h=>⟨fun h2=>bx 5 b1 rfl rfl (fun w' b E=>⟨_,_,_,_,_,b.row,⟨?_,?_⟩,E1.own hp E⟩),fun h2=>?_⟩⟩
 ·have:k<1:=by simpa using h
  simp only [Sp.shapeOf,Sp.noShape];repeat rw [if_neg (by omega)]
 ·have:k<1:=by simpa using h
  simp [Sp.isKind];omega
 ·have:9<k:=by simpa using h2
  simp only [Sp.shapeOf,Sp.noShape];repeat rw [if_neg (by omega)]
 ·have:9<k:=by simpa using h2
  simp [Sp.isKind];omega
 ·have h3:¬ k<1:=by simpa using h
  have h4:¬ 9<k:=by simpa using h2
  refine (jOQ _).mono ?_;rintro _ w4 ⟨_,rfl,rfl,E4⟩;refine ⟨_,rfl,?_⟩;have b4:=b1.pure E4;have E5:Pure w w4:=E1.trans E4;have hk:k=1∨k=2∨k=3∨k=4∨k=5∨k=6∨k=7∨k=8∨k=9:=by omega
  rcases hk with rfl | rfl | rfl | rfl | rfl | rfl | rfl | rfl | rfl
  ·exact ⟨true,false,false,false,0,by kernel_rfl,bx 5 b4 rfl rfl (fun w' b E=>⟨_,_,_,_,_,b.row,⟨by decide,by decide⟩,E5.own hp E⟩)⟩
  ·exact ⟨false,false,true,false,0,by kernel_rfl,bx 5 b4 rfl rfl (fun w' b E=>⟨_,_,_,_,_,b.row,⟨by decide,by decide⟩,E5.own hp E⟩)⟩
  ·exact ⟨false,false,false,true,0,by kernel_rfl,bx 5 b4 rfl rfl (fun w' b E=>⟨_,_,_,_,_,b.row,⟨by decide,by decide⟩,E5.own hp E⟩)⟩
  ·exact ⟨false,false,false,false,2,by kernel_rfl,bx 5 b4 rfl rfl (fun w' b E=>⟨_,_,_,_,_,b.row,⟨by decide,by decide⟩,E5.own hp E⟩)⟩
  ·exact ⟨false,false,false,false,1,by kernel_rfl,bx 5 b4 rfl rfl (fun w' b E=>⟨_,_,_,_,_,b.row,⟨by decide,by decide⟩,E5.own hp E⟩)⟩
  ·exact ⟨true,false,false,false,0,by kernel_rfl,bx 5 b4 rfl rfl (fun w' b E=>⟨_,_,_,_,_,b.row,⟨by decide,by decide⟩,E5.own hp E⟩)⟩
  ·exact ⟨true,false,false,false,1,by kernel_rfl,bx 5 b4 rfl rfl (fun w' b E=>⟨_,_,_,_,_,b.row,⟨by decide,by decide⟩,E5.own hp E⟩)⟩
  ·exact ⟨true,true,false,false,1,by kernel_rfl,bx 5 b4 rfl rfl (fun w' b E=>⟨_,_,_,_,_,b.row,⟨by decide,by decide⟩,E5.own hp E⟩)⟩
  ·exact ⟨true,true,false,false,1,by kernel_rfl,bx 5 b4 rfl rfl (fun w' b E=>⟨_,_,_,_,_,b.row,⟨by decide,by decide⟩,E5.own hp E⟩)⟩
theorem jNE (k f t u:Int) (x:ByteArray) (a b:Int) (w:World) :
  Calls prog 201 #[.agg #[.int .i64 k,.int .i64 f,.int .i64 t,.int .u64 u,.string x,.int .i64 a,.int .i64 b]] w
   (fun e w'=>∃r1:Bool,∃r2:Bool,∃r3:Bool,∃r4:Bool,∃r5:Int,∃r:Int,e=.returned (.tuple #[.agg #[.bool r1,.bool r2,.bool r3,.bool r4,.int .i64 r5],.int .i64 r])∧(((⟨r1,r2,r3,r4,r5⟩:Sp.Shape)=Sp.shapeOf k∧r=Sp.vC ⟨k,f,t,u,x,a,b⟩)∧Pure w w')):=by
 suffices key:∀K:Bool→Bool→Bool→Bool→Int→Int→WP,(∀r1 r2 r3 r4 r5 r w',((⟨r1,r2,r3,r4,r5⟩:Sp.Shape)=Sp.shapeOf k∧r=Sp.vC ⟨k,f,t,u,x,a,b⟩)∧Pure w w'→K r1 r2 r3 r4 r5 r w')→m_E k f t u x a b w K from
  w_E _ _ _ _ _ _ _ w _ (key _ (fun _ _ _ _ _ _ _ h=>h))
 intro K hK
 unfold m_E
 intro p1 w1 h1 p2 w2 h2
 have a1:=(Box.of_new h1).pure (Ext.new h2)
 have a2:=Box.of_new h2
 have E2:Pure w w2:=(Ext.new h1).trans (Ext.new h2)
 have o2:=New.own (Ext.new h1:Pure w w1) h2
 have n12:p1.block≠p2.block:=New.ne h2 (Box.of_new h1).blk
 refine ⟨_,a1.cell0,?_⟩
 refine (jHT _ _).mono ?_
 rintro _ w3 ⟨s1,s2,s3,s4,s5,ok,rfl,⟨hs,hok⟩,E3⟩
 refine ⟨_,_,_,_,_,_,rfl,?_⟩
 intro p3 w4 h3
 have E4:Pure w w4:=(E2.trans E3).trans (Ext.new h3)
 have o3:=New.own (E2.trans E3) h3
 have n13:p1.block≠p3.block:=New.ne h3 (a1.pure E3).blk
 have n23:p2.block≠p3.block:=New.ne h3 (a2.pure E3).blk
 refine bx 5 (Box.of_new h3) rfl rfl (fun w5 b3 E=>?_)
 have b1:=((a1.pure E3).pure (Ext.new h3)).ext E n13
 have b2:=((a2.pure E3).pure (Ext.new h3)).ext E n23
 have E5:=E4.own o3 E
 clear E E4 E3 E2 a1 a2 h1 h2 h3
 have fin : ∀ v : Int, v = Sp.vC ⟨k, f, t, u, x, a, b⟩ → (∀ j, j < 5 → vF w5 (p2.add j)) ∧ ∀ w', w' = storeRow w5 p2 [.bool s1, .bool s2, .bool s3, .bool s4, .int .i64 s5] →
   ∃q1:Bool,∃q2:Bool,∃q3:Bool,∃q4:Bool,∃q5:Int,Row w' p2 [.bool q1,.bool q2,.bool q3,.bool q4,.int .i64 q5]∧K q1 q2 q3 q4 q5 v w':=fun v hv =>
  bx 5 b2 rfl rfl (fun w' b E=>⟨_,_,_,_,_,b.row,hK _ _ _ _ _ _ _ ⟨⟨hs,hv⟩,E5.own o2 E⟩⟩)
 obtain ⟨e1,e2,e3,e4,e5⟩:s1=(Sp.shapeOf k).frm∧s2=(Sp.shapeOf k).to∧s3=(Sp.shapeOf k).num∧s4=(Sp.shapeOf k).text∧s5=(Sp.shapeOf k).kids:=by rw [← hs];simp
 have J3:∀c:Bool,c=(!ok || (!s1 && f != 0) || (!s2 && t != 0) || (!s3 && u != 0))→m_E_j3 p1 p2 p3 c w5 K:=by
  intro c hc;unfold m_E_j3;refine ⟨fun h=>⟨_,_,_,_,_,b3.row,fin _ ?_⟩,fun h=>⟨_,b3.cell rfl,fun h4=>⟨_,b1.cell rfl,fun h5=>⟨_,_,_,_,_,b3.row,fin _ ?_⟩,fun h5=>⟨_,_,_,_,_,b3.row,fin _ ?_⟩⟩,fun h4=>⟨_,_,_,_,_,b3.row,fin _ ?_⟩⟩⟩
  ·rw [h] at hc;simp only [Sp.vC,← e1,← e2,← e3,← e4,← hok,← hc];simp
  ·rw [h] at hc;simp only [Sp.vC,← e1,← e2,← e3,← e4,← hok,← hc];simp at h4 h5;simp [h4,h5]
  ·rw [h] at hc;simp only [Sp.vC,← e1,← e2,← e3,← e4,← hok,← hc];simp at h4 h5;simp [h4,h5]
  ·rw [h] at hc;simp only [Sp.vC,← e1,← e2,← e3,← e4,← hok,← hc];simp at h4;simp [h4]
 have J2:∀c:Bool,c=(!ok || (!s1 && f != 0) || (!s2 && t != 0))→m_E_j2 p1 p2 p3 c w5 K:=by
  intro c hc;have J4:∀d:Bool,d=(!s3 && u != 0)→m_E_j4 p1 p2 p3 c d w5 K:=fun d hd=>⟨fun h=>J3 _ (by rw [← hc,h];rfl),fun h=>J3 _ (by rw [← hc,h];simpa using hd)⟩;exact ⟨fun h=>J3 _ (by rw [← hc,h];rfl),fun h=>⟨_,b3.cell rfl,fun h4=>⟨_,b1.cell rfl,J4 _ (by rw [h4];rfl)⟩,fun h4=>J4 _ (by rw [h4];rfl)⟩⟩
 have J1:∀c:Bool,c=(!ok || (!s1 && f != 0))→m_E_j1 p1 p2 p3 c w5 K:=by
  intro c hc;have J5:∀d:Bool,d=(!s2 && t != 0)→m_E_j5 p1 p2 p3 c d w5 K:=fun d hd=>⟨fun h=>J2 _ (by rw [← hc,h];rfl),fun h=>J2 _ (by rw [← hc,h];simpa using hd)⟩;exact ⟨fun h=>J2 _ (by rw [← hc,h];rfl),fun h=>⟨_,b3.cell rfl,fun h4=>⟨_,b1.cell rfl,J5 _ (by rw [h4];rfl)⟩,fun h4=>J5 _ (by rw [h4];rfl)⟩⟩
 have J6:∀d:Bool,d=(!s1 && f != 0)→m_E_j6 p1 p2 ok p3 d w5 K:=fun d hd=>⟨fun h=>J1 _ (by rw [h];rfl),fun h=>J1 _ (by rw [h];simpa using hd)⟩
 exact ⟨fun h=>J1 _ (by rw [h];rfl),fun h=>⟨_,b3.cell0,fun h4=>⟨_,b1.cell rfl,J6 _ (by rw [h4];rfl)⟩,fun h4=>J6 _ (by rw [h4];rfl)⟩⟩
end Go.Proofs
end
section
namespace Go.Sp
structure Ent where
 node:Node
 size:Int
 depth:Int
deriving DecidableEq
abbrev Pool:=List Ent
def inP (L:Pool) (t:Int):Bool:=decide (1≤t) && decide (t≤L.length)
def get (L:Pool) (t:Int):Option Ent:=if inP L t then L[(t - 1).toNat]? else none
def sizeOf (L:Pool) (t:Int):Int:=((get L t).map (·.size)).getD 0
def depthOf (L:Pool) (t:Int):Int:=((get L t).map (·.depth)).getD 0
def jCG:Node:=⟨0,0,0,0,⟨#[]⟩,0,0⟩
def zD (L:Pool) (t:Int):Node:=((get L t).map (·.node)).getD jCG
def zS (n:Node):List Int:=[n.a,n.b].take (shapeOf n.kind).kids.toNat
def check (L:Pool) (n:Node):Int×Int×Int :=
 let s:=shapeOf n.kind
 if vC n≠0 then (0,0,vC n)
 else if (decide (s.kids<1) && n.a != 0) || (decide (s.kids<2) && n.b != 0) then (0,0,53)
 else if vB s n≠0 then (0,0,vB s n)
 else if (zS n).any (fun t=>!inP L t) then (0,0,51)
 else
  let sz:=1+((zS n).map (sizeOf L)).sum
  let d:=(zS n).foldl (fun d t=>max d (depthOf L t)) 0+1
  if sz>4096∨d>64 then (0,0,52) else (sz,d,0)
def find (L:Pool) (n:Node):Option Nat:=L.findIdx? (fun e=>e.node=n)
def make (L:Pool) (n:Node):Int×Int×Pool :=
 let c:=check L n
 if c.2.2≠0 then (0,c.2.2,L)
 else match find L n with
  | some i=>(i+1,0,L)
  | none=>if 65536≤L.length then (0,6,L) else (L.length+1,0,L++[⟨n,c.1,c.2.1⟩])
structure Ok (L:Pool):Prop where
 few:L.length≤65536
 nodup:(L.map (·.node)).Nodup
 size:∀e∈L,1≤e.size∧e.size≤4096
 depth:∀e∈L,1≤e.depth∧e.depth≤64
theorem qC {L:Pool} {t:Int}:inP L t=true↔1≤t∧t≤L.length:=by simp [inP]
theorem jCW {L:Pool} {t:Int} (h:inP L t=true):∃e,get L t=some e∧e∈L∧∃hi:(t - 1).toNat<L.length,L[(t - 1).toNat]=e:=by
 obtain ⟨h1,h2⟩:=qC.1 h;have hi:(t - 1).toNat<L.length:=by omega
 exact ⟨L[(t - 1).toNat],by simp [get,h],List.getElem_mem hi,hi,rfl⟩
theorem uS {L:Pool} {t:Int} (h:inP L t=false):get L t=none:=by simp [get,h]
theorem Ok.sizeOf {L:Pool} (h:Ok L) (t:Int):0≤sizeOf L t∧sizeOf L t≤4096:=by
 cases ht:inP L t with
 | true=>obtain ⟨e,he,hm,_⟩:=jCW ht;have:=h.size e hm;simp [Sp.sizeOf,he];omega
 | false=>simp [Sp.sizeOf,uS ht]
theorem Ok.depthOf {L:Pool} (h:Ok L) (t:Int):0≤depthOf L t∧depthOf L t≤64:=by
 cases ht:inP L t with
 | true=>obtain ⟨e,he,hm,_⟩:=jCW ht;have:=h.depth e hm;simp [Sp.depthOf,he];omega
 | false=>simp [Sp.depthOf,uS ht]
theorem Ok.nil:Ok []:=⟨by simp,by simp,by simp,by simp⟩
theorem tM (k:Int):(shapeOf k).kids=0∨(shapeOf k).kids=1∨(shapeOf k).kids=2:=by
 unfold shapeOf noShape;repeat' split
 all_goals simp
end Go.Sp
end
section
open Go Go.SE
namespace Go.Proofs
open Tryz
attribute [local irreducible] Calls
def jBR (n:Sp.Node):List Value:=[.int .i64 n.kind,.int .i64 n.frm,.int .i64 n.to,.int .u64 n.num,.string n.text,.int .i64 n.a,.int .i64 n.b]
def jLH (e:Sp.Ent):List Value:=jBR e.node++[.int .i64 e.size,.int .i64 e.depth]
def jEB (n:Sp.Node):Value:=.agg (jBR n).toArray
def tK (L:Sp.Pool):List (Value×Value):=L.zipIdx.map fun p=>(jEB p.1.node,.int .i64 (p.2+1:Nat))
structure PoolS (w:World) (p:Addr) (L:Sp.Pool) (s:Sl) (m:Nat):Prop where
 box:Box w p [s.v,.map (some m)] 169
 rows:Rws w 250 9 s (L.map jLH)
 map:CMap w m (tK L)
 n1:m≠p.block
 n2:¬ s.blk p.block
 n3:¬ s.blk m
def vD (w:World) (p:Addr) (L:Sp.Pool) (F:NP):Prop:=∃s m,PoolS w p L s m∧∀b,F b↔(b=p.block∨s.blk b∨b=m)
theorem vD.ext {G:NP} {w w':World} {p:Addr} {L:Sp.Pool} {F:NP} (h:vD w p L F) (hE:Ext G w w') (hd:∀b,F b→¬ G b):vD w' p L F:=by
 obtain ⟨s,m,h,hF⟩:=h;exact ⟨s,m,⟨h.box.ext hE (hd _ ((hF _).2 (.inl rfl))),h.rows.ext hE (fun b hb=>hd _ ((hF _).2 (.inr (.inl hb)))),h.map.ext hE (hd _ ((hF _).2 (.inr (.inr rfl)))),h.n1,h.n2,h.n3⟩,hF⟩
theorem vD.pure {w w':World} {p:Addr} {L:Sp.Pool} {F:NP} (h:vD w p L F) (hE:Pure w w'):vD w' p L F:=h.ext hE (fun _ _ h=>h)
theorem vD.lt {w:World} {p:Addr} {L:Sp.Pool} {F:NP} (h:vD w p L F) {b:Nat} (hb:F b):b<w.heap.size:=by
 obtain ⟨s,m,h,hF⟩:=h;rcases (hF b).1 hb with rfl | hb | rfl
 ·exact h.box.lt
 ·exact h.rows.lt hb
 ·exact h.map.lt
theorem i64 {n:Int} (h:-9223372036854775808≤n) (h':n≤9223372036854775807):IntKind.i64.wrap n=n:=IntWalk.i64_in n ⟨h,h'⟩
theorem c_in (p:Addr) (t:Int) (w:World) {L:Sp.Pool} {F:NP} (hP:vD w p L F):Calls prog 168 #[.pointer (some p),.int .i64 t] w (fun e w'=>∃r,e=.returned (.bool r)∧(r=Sp.inP L t∧w=w')):=by
 obtain ⟨s,m,h,_⟩:=hP;refine w_R (some p) t w (fun r w'=>r=Sp.inP L t∧w=w') ?_;unfold m_R;have hl:(s.len:Int)=L.length:=by rw [h.rows.len];simp
 refine Br.t rfl ⟨fun h1=>⟨p,rfl,s,h.box.cell0,?_,rfl⟩,fun h1=>⟨?_,rfl⟩⟩
 ·have:1≤t:=by simpa using h1
  simp [Sp.inP,hl,this]
 ·have:¬ 1≤t:=by simpa using h1
  simp [Sp.inP,this]
theorem PoolS.at {w:World} {p:Addr} {L:Sp.Pool} {s:Sl} {m:Nat} (h:PoolS w p L s m) {t:Int} (ht:Sp.inP L t=true) (hok:Sp.Ok L):∃a e,At s (IntKind.i64.wrap (t - 1)) 9 a∧Row w a (jLH e)∧s.blk a.block∧Sp.get L t=some e:=by
 obtain ⟨h1,h2⟩:=Sp.qC.1 ht;obtain ⟨e,hg,_,hi,he⟩:=Sp.jCW ht;have:=hok.few;rw [i64 (by omega) (by omega)];obtain ⟨a,hat,hr,hb⟩:=h.rows.at (i:=t - 1) (by omega) (by simpa using hi);exact ⟨a,e,hat,(by rw [List.getElem_map,he] at hr;exact hr),hb,hg⟩
theorem jNK (p:Addr) (t:Int) (w:World) {L:Sp.Pool} {F:NP} (hP:vD w p L F) (hok:Sp.Ok L):Calls prog 160 #[.pointer (some p),.int .i64 t] w (fun e w'=>∃r,e=.returned (.int .i64 r)∧(r=Sp.sizeOf L t∧w=w')):=by
 refine w_R2 (some p) t w (fun r w'=>r=Sp.sizeOf L t∧w=w') ?_;unfold m_R2;refine (c_in p t w hP).mono ?_;rintro _ _ ⟨_,rfl,rfl,rfl⟩;obtain ⟨s,m,h,_⟩:=hP;refine ⟨_,rfl,fun h1=>⟨?_,rfl⟩,fun h1=>?_⟩
 ·simp [Sp.sizeOf,Sp.uS (show Sp.inP L t=false by simpa using h1)]
 ·obtain ⟨a,e,hat,hr,_,hg⟩:=h.at (show Sp.inP L t=true by simpa using h1) hok;exact ⟨p,rfl,s,h.box.cell0,a,hat,e.size,hr 7 (by simp [jLH,jBR]),by simp [Sp.sizeOf,hg],rfl⟩
theorem jQH (p:Addr) (t:Int) (w:World) {L:Sp.Pool} {F:NP} (hP:vD w p L F) (hok:Sp.Ok L):Calls prog 290 #[.pointer (some p),.int .i64 t] w (fun e w'=>∃r,e=.returned (.int .i64 r)∧(r=Sp.depthOf L t∧w=w')):=by
 refine w_W2 (some p) t w (fun r w'=>r=Sp.depthOf L t∧w=w') ?_;unfold m_W2;refine (c_in p t w hP).mono ?_;rintro _ _ ⟨_,rfl,rfl,rfl⟩;obtain ⟨s,m,h,_⟩:=hP;refine ⟨_,rfl,fun h1=>⟨?_,rfl⟩,fun h1=>?_⟩
 ·simp [Sp.depthOf,Sp.uS (show Sp.inP L t=false by simpa using h1)]
 ·obtain ⟨a,e,hat,hr,_,hg⟩:=h.at (show Sp.inP L t=true by simpa using h1) hok;exact ⟨p,rfl,s,h.box.cell0,a,hat,e.depth,hr 8 (by simp [jLH,jBR]),by simp [Sp.depthOf,hg],rfl⟩
theorem jFE (p:Addr) (t:Int) (w:World) {L:Sp.Pool} {F:NP} (hP:vD w p L F) (hok:Sp.Ok L):Calls prog 102 #[.pointer (some p),.int .i64 t] w
  (fun e w'=>∃k:Int,∃f:Int,∃t':Int,∃u:Int,∃x:ByteArray,∃a:Int,∃b:Int,∃r:Bool,e=.returned (.tuple #[.agg #[.int .i64 k,.int .i64 f,.int .i64 t',.int .u64 u,.string x,.int .i64 a,.int .i64 b],.bool r])∧(((⟨k,f,t',u,x,a,b⟩:Sp.Node)=Sp.zD L t∧r=Sp.inP L t)∧Pure w w')):=by
 refine w_T1 (some p) t w (fun k f t' u x a b r w'=>((⟨k,f,t',u,x,a,b⟩:Sp.Node)=Sp.zD L t∧r=Sp.inP L t)∧Pure w w') ?_
 unfold m_T1
 intro p1 w1 h1
 have E1:Pure w w1:=Ext.new h1
 have b1:=Box.of_new h1
 have hp:=New.own (Ext.refl w) h1
 refine (c_in p t w1 (hP.pure E1)).mono ?_
 rintro _ _ ⟨_,rfl,rfl,rfl⟩
 obtain ⟨s,m,h,_⟩:=hP.pure E1
 refine ⟨_,rfl,fun h1=>bx 7 b1 rfl rfl (fun w' b E=>⟨_,_,_,_,_,_,_,b.row,⟨?_,?_⟩,E1.own hp E⟩),fun h1=>?_⟩
 ·simp [Sp.zD,Sp.uS (show Sp.inP L t=false by simpa using h1),Sp.jCG]
 ·symm;simpa using h1
 ·have ht:Sp.inP L t=true:=by simpa using h1
  obtain ⟨a,e,hat,hr,_,hg⟩:=h.at ht hok
  have hn:Row w1 a (jBR e.node):=fun i hi=>by
   have:=hr i (by simp [jLH];omega);rw [this];unfold jLH;rw [List.getElem?_append_left hi]
  exact ⟨p,rfl,s,h.box.cell0,a,hat,_,_,_,_,_,_,_,hn,bx 7 b1 rfl rfl (fun w' b E=>⟨_,_,_,_,_,_,_,b.row,⟨by simp [Sp.zD,hg],ht.symm⟩,E1.own hp E⟩)⟩
theorem jJX (p:Addr) (k:Int) (w:World) (hk:k=0∨k=1∨k=2):(Instr.sliceAt 46 (Sl.mk (some p) 2 2).v .none (some (.int .i64 k)) .none).run prog w=.ok (Sl.mk (some p) k.toNat 2).v w:=by
 rcases hk with rfl | rfl | rfl <;> kernel_rfl
theorem jQG (p:Addr) (k f t u:Int) (x:ByteArray) (a b:Int) (w:World) {L:Sp.Pool} {F:NP} (hP:vD w p L F) (hok:Sp.Ok L) :
  Calls prog 219 #[.pointer (some p),.agg #[.int .i64 k,.int .i64 f,.int .i64 t,.int .u64 u,.string x,.int .i64 a,.int .i64 b]] w
   (fun e w'=>∃r1:Int,∃r2:Int,∃r3:Int,e=.returned (.tuple #[.int .i64 r1,.int .i64 r2,.int .i64 r3])∧((r1,r2,r3)=Sp.check L ⟨k,f,t,u,x,a,b⟩∧Pure w w')):=by
 suffices key:∀K:Int→Int→Int→WP,(∀r1 r2 r3 w',(r1,r2,r3)=Sp.check L ⟨k,f,t,u,x,a,b⟩∧Pure w w'→K r1 r2 r3 w')→m_F (some p) k f t u x a b w K from
  w_F _ _ _ _ _ _ _ _ w _ (key _ (fun _ _ _ _ h=>h))
 intro K hK
 unfold m_F
 intro p2 w1 h1
 have b1:=Box.of_new h1
 have E1:Pure w w1:=Ext.new h1
 refine ⟨_,_,_,_,_,_,_,b1.row,?_⟩
 refine (jNE _ _ _ _ _ _ _ _).mono ?_
 rintro _ w2 ⟨s1,s2,s3,s4,s5,pe,rfl,⟨hs,hpe⟩,E2⟩
 refine ⟨_,_,_,_,_,_,rfl,?_⟩
 intro p3 w3 h3
 have b2:=(b1.pure E2).pure (Ext.new h3)
 have n23:p2.block≠p3.block:=New.ne h3 (b1.pure E2).blk
 have E3:Pure w w3:=(E1.trans E2).trans (Ext.new h3)
 have o3:=New.own (E1.trans E2) h3
 refine bx 5 (Box.of_new h3) rfl rfl (fun w4 b3 E=>?_)
 have b2:=b2.ext E n23
 have E4:Pure w w4:=E3.own o3 E
 clear E E3 E2 E1 b1 h1 h3
 have hsh:Sp.shapeOf k=⟨s1,s2,s3,s4,s5⟩:=hs.symm
 have hk5:s5=0∨s5=1∨s5=2:=by have:=Sp.tM k;rw [hsh] at this;exact this
 generalize hn:(⟨k,f,t,u,x,a,b⟩:Sp.Node)=n at *
 have hnk:n.kind=k:=by rw [← hn]
 have hna:n.a=a:=by rw [← hn]
 have hnb:n.b=b:=by rw [← hn]
 have J2:∀e2 w',Pure w4 w'→(e2≠0→Sp.check L n=(0,0,e2))→(e2=0→pe=0∧((decide (s5<1) && a != 0) || (decide (s5<2) && b != 0))=false∧Sp.vB ⟨s1,s2,s3,s4,s5⟩ n=0)→m_F_j2 (some p) p2 p3 e2 w' K:=by
  intro e2 w' E' hne heq;have b2:=b2.pure E';have b3:=b3.pure E';have E5:=E4.trans E';have hP':=hP.pure E5;unfold m_F_j2;refine ⟨fun h=>hK _ _ _ _ ⟨(hne (by simpa using h)).symm,E5⟩,fun h=>⟨_,b2.cell rfl,_,b2.cell rfl,?_⟩⟩;intro p4 w5 h5;obtain ⟨hp0,hc0,hf0⟩:=heq (by simpa using h);have b4:=Box.of_new h5;have E6:=E5.trans (Ext.new h5);have hP6:=hP.pure E6;refine ⟨_,(b3.pure (Ext.new h5)).cell rfl,_,jJX p4 s5 w5 hk5,?_⟩;have hks:Sp.zS n=[a,b].take s5.toNat:=by simp [Sp.zS,hnk,hsh,hna,hnb]
  have hlen:(Sp.zS n).length=s5.toNat:=by rw [hks];rcases hk5 with rfl | rfl | rfl <;> rfl
  have hget:∀j (hj:j<(Sp.zS n).length),w5.cell? (p4.add (j*1))=some (.int .i64 (Sp.zS n)[j]):=by
   intro j hj;have hj2:j<s5.toNat:=by omega
   have:(Sp.zS n)[j]=[a,b][j]'(by simp;omega):=by simp only [hks,List.getElem_take]
   rw [this,Nat.mul_one];refine b4.cell ?_;have h2:j=0∨j=1:=by omega
   rcases h2 with rfl | rfl <;> rfl
  have hrest:Sp.check L n=if (Sp.zS n).any (fun t=>!Sp.inP L t) then (0,0,51) else if 1+((Sp.zS n).map (Sp.sizeOf L)).sum>4096∨(Sp.zS n).foldl (fun d t=>max d (Sp.depthOf L t)) 0+1>64 then (0,0,52) else (1+((Sp.zS n).map (Sp.sizeOf L)).sum,(Sp.zS n).foldl (fun d t=>max d (Sp.depthOf L t)) 0+1,0):=by
   unfold Sp.check;simp only [hnk,hsh,hna,hnb,← hpe,hp0,hc0,hf0];simp
  generalize hkk:Sp.zS n=ks at *;have hl2:ks.length≤2:=by omega
  have hsum:∀j,0≤((ks.take j).map (Sp.sizeOf L)).sum∧((ks.take j).map (Sp.sizeOf L)).sum≤4096*(ks.take j).length:=by
   intro j;generalize ks.take j=l;induction l with
   | nil=>simp
   | cons y l ih=>have:=hok.sizeOf y;simp only [List.map_cons,List.sum_cons,List.length_cons];omega
  have hdep:∀(l:List Int) (d:Int),0≤d→d≤64→0≤l.foldl (fun d t=>max d (Sp.depthOf L t)) d∧l.foldl (fun d t=>max d (Sp.depthOf L t)) d≤64:=by
   intro l;induction l with
   | nil=>intro d h1 h2;exact ⟨h1,h2⟩
   | cons y l ih=>intro d h1 h2;have:=hok.depthOf y;exact ih (max d (Sp.depthOf L y)) (by omega) (by omega)
  refine ⟨fun sz d x w'=>∃j:Nat,x=j∧j≤ks.length∧sz=1+((ks.take j).map (Sp.sizeOf L)).sum∧d=(ks.take j).foldl (fun d t=>max d (Sp.depthOf L t)) 0∧(ks.take j).any (fun t=>!Sp.inP L t)=false∧w5=w',fun _ _ x _=>(2 - x).toNat,⟨0,rfl,Nat.zero_le _,by simp,by simp,by simp,rfl⟩,?_⟩;rintro sz d _ _ ⟨j,rfl,hj,rfl,rfl,hin,rfl⟩;unfold m_F_l3;have hs1:=hsum j;have hd1:=hdep (ks.take j) 0 (by omega) (by omega);have htl:(ks.take j).length≤2:=by rw [List.length_take];omega
  refine ⟨fun h=>?_,fun h=>?_⟩
  ·have hlt:j<ks.length:=by have h:=of_decide_eq_true h;simp only at h;omega
   refine ⟨p4.add (j*1),⟨by omega,of_decide_eq_true h,p4,rfl,by simp⟩,ks[j],hget j hlt,?_⟩;have htk:ks.take (j+1)=ks.take j++[ks[j]]:=List.take_succ_eq_append_getElem hlt;refine (c_in p _ w5 hP6).mono ?_;rintro _ _ ⟨_,rfl,rfl,rfl⟩;refine ⟨_,rfl,fun h=>?_,fun h=>?_⟩
   ·refine hK _ _ _ _ ⟨?_,E6⟩;rw [hrest,if_pos];exact List.any_eq_true.2 ⟨ks[j],List.getElem_mem hlt,h⟩
   ·refine (jNK p _ w5 hP6 hok).mono ?_;rintro _ _ ⟨_,rfl,rfl,rfl⟩;refine ⟨_,rfl,?_⟩;refine (jQH p _ w5 hP6 hok).mono ?_;rintro _ _ ⟨_,rfl,rfl,rfl⟩;refine ⟨_,rfl,_,run_max_int2 _ _ _ _ _ _ _,⟨j+1,?_,hlt,?_,?_,?_,rfl⟩,?_⟩
    ·rw [i64 (by omega) (by omega)];omega
    ·have:=hok.sizeOf ks[j];rw [i64 (by omega) (by omega),htk,List.map_append,List.sum_append];simp only [List.map_cons,List.map_nil,List.sum_cons,List.sum_nil];omega
    ·rw [htk,List.foldl_append];simp only [List.foldl_cons,List.foldl_nil];split <;> omega
    ·rw [htk,List.any_append,hin];simpa using h
    ·show (2 - IntKind.i64.wrap ((j:Int)+1)).toNat<(2 - (j:Int)).toNat;rw [i64 (by omega) (by omega)];omega
  ·have hge:j=ks.length:=by have h:=of_decide_eq_false h;simp only at h;omega
   subst hge;rw [List.take_length] at hs1 hd1 hin ⊢;have hlt:(ks.length:Int)≤2:=by omega
   refine ⟨fun h=>hK _ _ _ _ ⟨?_,E6⟩,fun h=>?_⟩
   ·rw [hrest,hin,if_neg (by simp),if_pos (.inl (by simpa using h))]
   ·rw [i64 (by omega) (by omega)];refine ⟨fun h'=>hK _ _ _ _ ⟨?_,E6⟩,fun h'=>hK _ _ _ _ ⟨?_,E6⟩⟩
    ·rw [hrest,hin,if_neg (by simp),if_pos (.inr (by simpa using h'))]
    ·rw [hrest,hin,if_neg (by simp),if_neg (by simp at h h';omega)]
 have J1:∀e1,(e1≠0→Sp.check L n=(0,0,e1))→(e1=0→pe=0∧((decide (s5<1) && a != 0) || (decide (s5<2) && b != 0))=false)→m_F_j1 (some p) p2 p3 e1 w4 K:=by
  intro e1 hne heq;unfold m_F_j1;refine ⟨fun h=>⟨_,_,_,_,_,b3.row,_,_,_,_,_,_,_,b2.row,?_⟩,fun h=>J2 _ _ (Ext.refl _) hne (fun e=>by rw [e] at h;cases h)⟩;obtain ⟨hp0,hc0⟩:=heq (by simpa using h);refine (jKK _ _ _ _ _ _ _ _ _ _ _ _ _).mono ?_;rintro _ w9 ⟨_,rfl,rfl,E9⟩;rw [hn];refine ⟨_,rfl,J2 _ _ E9 (fun hf=>?_) (fun hf=>⟨hp0,hc0,hf⟩)⟩;unfold Sp.check;simp only [hnk,hsh,hna,hnb,← hpe,hp0,hc0];simp [hf]
 have J53:pe=0→((decide (s5<1) && a != 0) || (decide (s5<2) && b != 0))=true→m_F_j1 (some p) p2 p3 53 w4 K:=fun hp0 hc=>J1 53 (fun _=>by
  unfold Sp.check;simp only [hnk,hsh,hna,hnb,← hpe,hp0,hc];simp) (fun e=>by cases e)
 have Jpe:pe≠0→m_F_j1 (some p) p2 p3 pe w4 K:=fun hp=>J1 pe (fun _=>by
  unfold Sp.check;simp only [← hpe];rw [if_pos hp]) (fun e=>absurd e hp)
 have J5:∀x2 x3,x2=(decide (s5<1) && a != 0)→x3=(decide (s5<2) && b != 0)→m_F_j5 (some p) p2 pe p3 x2 x3 w4 K:=by
  intro x2 x3 h2 h3;unfold m_F_j5;refine ⟨fun h=>⟨fun hx=>J53 (by simpa using h) (by rw [← h2,hx];rfl),fun hx=>⟨fun hy=>J53 (by simpa using h) (by rw [← h2,← h3,hy];simp),fun hy=>J1 pe (fun e=>absurd (by simpa using h) e) (fun e=>⟨e,by rw [← h2,← h3,hx,hy];rfl⟩)⟩⟩,fun h=>Jpe (by simpa using h)⟩
 have J4:∀x2,x2=(decide (s5<1) && a != 0)→m_F_j4 (some p) p2 pe p3 x2 w4 K:=by
  intro x2 h2;unfold m_F_j4;refine ⟨fun h=>⟨fun hx=>J53 (by simpa using h) (by rw [← h2,hx];rfl),fun hx=>⟨_,b3.cell rfl,fun h5=>⟨_,b2.cell rfl,J5 _ _ h2 (by rw [h5];rfl)⟩,fun h5=>J5 _ _ h2 (by rw [h5];rfl)⟩⟩,fun h=>Jpe (by simpa using h)⟩
 exact ⟨fun h=>⟨_,b3.cell rfl,fun h5=>⟨_,b2.cell rfl,J4 _ (by rw [h5];rfl)⟩,fun h5=>J4 _ (by rw [h5];rfl)⟩,fun h=>Jpe (by simpa using h)⟩
end Go.Proofs
end
