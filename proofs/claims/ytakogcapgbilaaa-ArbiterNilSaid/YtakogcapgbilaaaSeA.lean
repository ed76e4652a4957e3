/- Symbolic execution, part A: a region of operations, walked once in the order of its text, also where the model draws the order. -/
import Derived.Orders
import Derived.Still
namespace Go.SE

/-- One operation ends in a value and a world of R; nothing panics. -/
def yld (P : Program) (o : Oper) (ε : Operand → Value) (w : World) (R : Value → World → Prop) : Prop :=
  match (execOp ε o).run P w with
  | .ok (.value v) w' => R v w'
  | .ok .skip w' => R undef w'
  | .ok (.enter f args) w' => Calls P f args w' (fun e w'' => ∃ v, e = .returned v ∧ R v w'')
  | .ok (.row row args) w' => Rows P row args w' R
  | _ => False

section
variable {P : Program} {ops : Array Oper} {md : Region.Mode} {C : World → Prop}

theorem yld_mono {o : Oper} {ε : Operand → Value} {w : World} {R R' : Value → World → Prop} (h : yld P o ε w R) (hr : ∀ v w', R v w' → R' v w') : yld P o ε w R' := by
  unfold yld at *
  generalize (execOp ε o).run P w = r at *
  cases r with
  | ok n w' =>
    cases n <;> simp only at h ⊢ <;> first
      | exact hr _ _ h
      | exact h.mono fun e w'' ⟨v, he, hR⟩ => ⟨v, he, hr _ _ hR⟩
      | exact h.mono hr
  | halt x w' => exact h

theorem Rows.witness {row : String} {args : Array Value} {w : World} {R : Value → World → Prop} (h : Rows P row args w R) : ∃ v w', R v w' := by
  obtain ⟨v, w', r, _⟩ := h default []
  exact ⟨v, w', r⟩

theorem Calls.witness {f : FuncId} {args : Array Value} {w : World} {R : Ending → World → Prop} (h : Calls P f args w R) : ∃ e w', R e w' := by
  obtain ⟨e, w', fr, r, _⟩ := h []
  exact ⟨e, w', r⟩

theorem yld_witness {o : Oper} {ε : Operand → Value} {w : World} {R : Value → World → Prop} (h : yld P o ε w R) : ∃ v w', R v w' := by
  unfold yld at h
  generalize (execOp ε o).run P w = r at *
  cases r with
  | ok n w' =>
    cases n <;> simp only at h <;> first
      | exact h.elim
      | exact ⟨_, _, h⟩
      | (obtain ⟨e, w'', v, _, hR⟩ := Calls.witness h; exact ⟨v, w'', hR⟩)
      | exact Rows.witness h
  | halt x w' => exact h.elim

theorem wp_of_yld {o : Oper} {a : Act} {w : World} {K : Act → World → Prop} {Q : Exit → Act → World → Prop} (h : yld P o a.eval w (fun v w' => K (a.put o.dst v) w')) : o.wp P a w K Q := by
  unfold yld at h
  unfold Oper.wp
  generalize (execOp a.eval o).run P w = r at *
  cases r with
  | ok n w' =>
    cases n <;> simp only at h <;> simp only [Oper.upon] <;> first
      | exact h
      | exact h.elim
      | exact h.mono fun e w'' ⟨v, he, hR⟩ => by subst he; exact hR
  | halt x w' => exact h.elim

/-- A quiet operation: a value, and the world as it was. -/
def qy (P : Program) (o : Oper) (ε : Operand → Value) (w : World) (v : Value) : Prop :=
  match (execOp ε o).run P w with
  | .ok (.value u) w' => u = v ∧ w' = w
  | .ok .skip w' => v = undef ∧ w' = w
  | _ => False

theorem yld_of_qy {o : Oper} {ε : Operand → Value} {w : World} {v : Value} {R : Value → World → Prop} (h : qy P o ε w v) (hR : R v w) : yld P o ε w R := by
  unfold qy at h
  unfold yld
  generalize (execOp ε o).run P w = r at *
  cases r with
  | ok n w' =>
    cases n <;> simp only at h ⊢
    case value u => obtain ⟨rfl, rfl⟩ := h; exact hR
    case skip => obtain ⟨rfl, rfl⟩ := h; exact hR
  | halt x w' => exact h.elim

theorem qy_det {o : Oper} {ε : Operand → Value} {w : World} {v v' : Value} (h : qy P o ε w v) (h' : qy P o ε w v') : v = v' := by
  unfold qy at h h'
  generalize (execOp ε o).run P w = r at *
  cases r with
  | ok n w' =>
    cases n <;> simp only at h h'
    case value u => exact h.1.symm.trans h'.1
    case skip => exact h.1.trans h'.1.symm
  | halt x w' => exact h.elim

/-- Operation i in a mixture: a loud one changes the world (and keeps the class C); another yields one value in every world of C. -/
def opM (P : Program) (ops : Array Oper) (C : World → Prop) (loud free : Nat → Bool) (i : Nat) (K : Act → World → Prop) (a : Act) (w : World) : Prop :=
  match ops[i]? with
  | none => K a w
  | some o =>
    if Region.wanted o (yielded ops a.tmps) then
      (if loud i then yld P o a.eval w (fun v w' => (free i = true ∨ C w') ∧ K (a.put o.dst v) w')
       else ∃ v, (∀ w', C w' → qy P o a.eval w' v) ∧ K (a.put o.dst v) w)
    else K (a.put o.dst undef) w

theorem opM_mono {loud free : Nat → Bool} {i : Nat} {a : Act} {w : World} {K K' : Act → World → Prop} (h : ∀ a w, C w ∨ (loud i = true ∧ free i = true) → K a w → K' a w) (hw : loud i = false → C w) (hn : C w ∨ (loud i = true ∧ free i = true)) (hh : opM P ops C loud free i K a w) : opM P ops C loud free i K' a w := by
  unfold opM at *
  split
  · exact h _ _ hn (by simpa [*] using hh)
  · rename_i o ho
    simp only [ho] at hh
    split
    · rename_i hwt
      simp only [hwt, if_true] at hh
      split
      · rename_i hl; simp only [hl, if_true] at hh; exact yld_mono hh fun v w' ⟨hc, hk⟩ => ⟨hc, h _ _ (hc.elim (fun hf => .inr ⟨hl, hf⟩) .inl) hk⟩
      · rename_i hl; simp only [hl] at hh; obtain ⟨v, h1, h2⟩ := hh; exact ⟨v, h1, h _ _ (.inl (hw (by simpa using hl))) h2⟩
    · rename_i hwt; simp only [hwt] at hh; exact h _ _ hn hh

def wpAnyM (P : Program) (md : Region.Mode) (ops : Array Oper) (C : World → Prop) (loud free : Nat → Bool) (Q : Act → World → Prop) : Nat → Array Bool → Act → World → Prop
  | 0, listed, a, w => Region.ready md ops listed = [] ∧ Q a w
  | fuel + 1, listed, a, w =>
    (Region.ready md ops listed = [] → Q a w) ∧
    ∀ i ∈ Region.ready md ops listed, opM P ops C loud free i (wpAnyM P md ops C loud free Q fuel (listed.setIfInBounds i true)) a w

/-- All quiet operations have come. -/
def AllQuiet (loud : Nat → Bool) (n : Nat) (listed : Array Bool) : Prop := ∀ i, i < n → loud i = false → listed.getD i true = true

theorem AllQuiet.set {loud : Nat → Bool} {n : Nat} {listed : Array Bool} (h : AllQuiet loud n listed) (k : Nat) : AllQuiet loud n (listed.setIfInBounds k true) := fun i hi hl => by
  by_cases hk : k = i
  · subst hk
    rcases Nat.lt_or_ge k listed.size with h' | h'
    · simp [h']
    · simp [h']
  · rw [getD_set_ne true hk]; exact h i hi hl

/-- What is known of a state on the way: 'far i' is what can come ahead of the quiet operation i; a free operation is not in it. -/
structure Good (md : Region.Mode) (ops : Array Oper) (loud free : Nat → Bool) (far : Nat → Array Bool) : Prop where
  size : ∀ i, loud i = false → (far i).size = ops.size
  shut : ∀ i, loud i = false → ∀ j ∈ Region.ready md ops (far i), j = i
  out : ∀ i, i < ops.size → loud i = false → ∀ j, j < ops.size → free j = true → (far i).getD j false = false

def Within (n : Nat) (loud : Nat → Bool) (far : Nat → Array Bool) (listed : Array Bool) : Prop := ∀ i, i < n → loud i = false → listed.getD i true = false → ∀ k, listed.getD k false = true → (far i).getD k false = true

theorem Good.inFar {loud free : Nat → Bool} {far : Nat → Array Bool} {listed : Array Bool} (hg : Good md ops loud free far) (h : Within ops.size loud far listed) {i j : Nat} (hi : i < ops.size) (hl : loud i = false) (hu : listed.getD i true = false) (hj : j ∈ Region.ready md ops listed) (hne : j ≠ i) : (far i).getD j false = true := by
  obtain ⟨_, o, ho, hall⟩ := mem_ready.1 hj
  have hlt : j < (far i).size := hg.size i hl ▸ (Array.getElem?_eq_some_iff.1 ho).1
  cases hf : (far i).getD j false with
  | true => rfl
  | false => exact absurd (hg.shut i hl j (mem_ready.2 ⟨by simpa [hlt] using hf, o, ho, fun e he hb => h i hi hl hu _ (hall e he hb)⟩)) hne

theorem Good.step {loud free : Nat → Bool} {far : Nat → Array Bool} {listed : Array Bool} (hg : Good md ops loud free far) (h : Within ops.size loud far listed) {j : Nat} (hj : j ∈ Region.ready md ops listed) : Within ops.size loud far (listed.setIfInBounds j true) := by
  intro i hi hl hu k hk
  have hji : j ≠ i := fun e => by
    subst e
    rcases Nat.lt_or_ge j listed.size with h' | h'
    · simp [h'] at hu
    · simp [h'] at hu
  rw [getD_set_ne true hji] at hu
  by_cases hjk : j = k
  · subst hjk; exact hg.inFar h hi hl hu hj hji
  · rw [getD_set_ne false hjk] at hk; exact h i hi hl hu k hk

/-- A free operation that may come up: all quiet ones have come. -/
theorem Good.free {loud free : Nat → Bool} {far : Nat → Array Bool} {listed : Array Bool} (hg : Good md ops loud free far) (h : Within ops.size loud far listed) {j : Nat} (hj : j ∈ Region.ready md ops listed) (hlj : loud j = true) (hf : free j = true) : AllQuiet loud ops.size listed := by
  intro i hi hl
  cases hu : listed.getD i true with
  | true => rfl
  | false =>
    have hne : j ≠ i := fun e => by subst e; rw [hl] at hlj; cases hlj
    have h1 := hg.inFar h hi hl hu hj hne
    obtain ⟨_, o, ho, _⟩ := mem_ready.1 hj
    rw [hg.out i hi hl j (Array.getElem?_eq_some_iff.1 ho).1 hf] at h1
    cases h1

theorem wpAny_of_M {loud free : Nat → Bool} {far : Nat → Array Bool} {Q : Act → World → Prop} {Q' : Exit → Act → World → Prop} (hg : Good md ops loud free far) (hQ : ∀ a w, Q a w → Q' .normal a w) :
    ∀ (fuel : Nat) (listed : Array Bool) (a : Act) (w : World), (C w ∨ AllQuiet loud ops.size listed) → Within ops.size loud far listed → wpAnyM P md ops C loud free Q fuel listed a w → wpAny P md ops Q' fuel listed a w
  | 0, _, _, _, _, _, h => ⟨h.1, hQ _ _ h.2⟩
  | fuel + 1, listed, a, w, hw, hW, h => ⟨fun h0 => hQ _ _ (h.1 h0), fun i hi => by
      have hh := h.2 i hi
      have ih : ∀ a w, (C w ∨ AllQuiet loud ops.size (listed.setIfInBounds i true)) → wpAnyM P md ops C loud free Q fuel (listed.setIfInBounds i true) a w → wpAny P md ops Q' fuel (listed.setIfInBounds i true) a w := fun a w hw h => wpAny_of_M hg hQ fuel _ a w hw (hg.step hW hi) h
      have hkeep : C w ∨ AllQuiet loud ops.size (listed.setIfInBounds i true) := hw.imp id (fun h => h.set i)
      unfold opM at hh
      unfold wpOp
      split
      · rename_i ho; simp only [ho] at hh; exact ih _ _ hkeep hh
      · rename_i o ho
        simp only [ho] at hh
        split
        · rename_i hwt
          simp only [hwt, if_true] at hh
          left
          apply wp_of_yld
          split at hh
          · rename_i hl
            exact yld_mono hh fun v w' ⟨hc, hk⟩ => ih _ _ (hc.elim (fun hf => .inr ((hg.free hW hi hl hf).set i)) .inl) hk
          · rename_i hl
            obtain ⟨v, h1, h2⟩ := hh
            have hCw : C w := by
              rcases hw with h | h
              · exact h
              · obtain ⟨hu, o', ho', _⟩ := mem_ready.1 hi
                have := h i (Array.getElem?_eq_some_iff.1 ho').1 (by simpa using hl)
                rw [hu] at this; cases this
            exact yld_of_qy (h1 w hCw) (ih _ _ hkeep h2)
        · rename_i hwt; simp only [hwt] at hh; exact ih _ _ hkeep hh⟩

/-- What one quiet operation gives in state a. -/
def YieldsM (P : Program) (ops : Array Oper) (C : World → Prop) (o : Oper) (v : Value) (a : Act) : Prop :=
  (Region.wanted o (yielded ops a.tmps) = true ∧ ∀ w', C w' → qy P o a.eval w' v) ∨
  (Region.wanted o (yielded ops a.tmps) = false ∧ v = undef)

theorem YieldsM.of_same {o : Oper} {v : Value} {a a' : Act} (hy : YieldsM P ops C o v a) (he : execOp a'.eval o = execOp a.eval o)
    (hw : Region.wanted o (yielded ops a'.tmps) = Region.wanted o (yielded ops a.tmps)) : YieldsM P ops C o v a' := by
  unfold YieldsM qy at *
  rw [he, hw]
  exact hy

theorem YieldsM.det {o : Oper} {v v' : Value} {a : Act} {w : World} (hC : C w) (h : YieldsM P ops C o v a) (h' : YieldsM P ops C o v' a) : v = v' := by
  rcases h with ⟨h1, h2⟩ | ⟨h1, h2⟩ <;> rcases h' with ⟨h3, h4⟩ | ⟨h3, h4⟩
  · exact qy_det (h2 w hC) (h4 w hC)
  · rw [h1] at h3; cases h3
  · rw [h1] at h3; cases h3
  · rw [h2, h4]

theorem YieldsM.op {loud free : Nat → Bool} {i : Nat} {o : Oper} {v : Value} {a : Act} {w : World} (hi : ops[i]? = some o) (hl : loud i = false) (hy : YieldsM P ops C o v a) {K : Act → World → Prop} (h : K (a.put o.dst v) w) : opM P ops C loud free i K a w := by
  unfold opM
  simp only [hi, hl]
  rcases hy with ⟨hw, hv⟩ | ⟨hw, rfl⟩
  · simp only [hw, if_true]; exact ⟨v, hv, h⟩
  · simp only [hw, Bool.false_eq_true, if_false]; exact h

theorem yieldsM_of_op {loud free : Nat → Bool} {i : Nat} {o : Oper} {a : Act} {w : World} {K : Act → World → Prop} (hi : ops[i]? = some o) (hl : loud i = false) (h : opM P ops C loud free i K a w) : ∃ v, YieldsM P ops C o v a ∧ K (a.put o.dst v) w := by
  unfold opM at h
  simp only [hi, hl] at h
  by_cases hw : Region.wanted o (yielded ops a.tmps) = true
  · simp only [hw, if_true] at h
    obtain ⟨v, h1, h2⟩ := h
    exact ⟨v, .inl ⟨hw, h1⟩, h2⟩
  · simp only [hw] at h
    exact ⟨undef, .inr ⟨by simpa using hw, rfl⟩, h⟩

/-- Operation j, apart from a quiet oi whose value lies there already. -/
theorem opM_put {loud free : Nat → Bool} {j : Nat} {oi oj : Oper} {v : Value} (hj : ops[j]? = some oj) (hap : oi.apart ops oj = true)
    (hsi : ∀ cs b, oi.op ≠ .select cs b) (hsj : ∀ cs b, oj.op ≠ .select cs b) {K : Act → World → Prop} {a : Act} {w : World}
    (hy : YieldsM P ops C oi v a) (h : opM P ops C loud free j K (a.put oi.dst v) w) :
    opM P ops C loud free j (fun a' w' => YieldsM P ops C oi v a' ∧ K (a'.put oi.dst v) w') a w := by
  obtain ⟨h1, h2, h3⟩ := Oper.apart_spec hap
  have keep : ∀ u, YieldsM P ops C oi v (a.put oj.dst u) := fun u =>
    hy.of_same (execOp_put oi hsi a oj.dst u h3) (wanted_put oi a oj.dst u h3)
  unfold opM at *
  simp only [hj] at *
  rw [wanted_put oj a oi.dst v h1] at h
  split
  · rename_i hw
    simp only [hw, if_true] at h
    split
    · rename_i hl
      simp only [hl, if_true] at h
      unfold yld at *
      rw [execOp_put oj hsj a oi.dst v h1] at h
      generalize (execOp a.eval oj).run P w = r at *
      cases r with
      | ok n w' =>
        cases n <;> simp only at h ⊢
        case value u => exact ⟨h.1, keep u, by rw [← Act.put_comm a v u h2]; exact h.2⟩
        case skip => exact ⟨h.1, keep _, by rw [← Act.put_comm a v undef h2]; exact h.2⟩
        case enter f args => exact h.mono fun e w'' ⟨u, he, hc, hk⟩ => ⟨u, he, hc, keep u, by rw [← Act.put_comm a v u h2]; exact hk⟩
        case row f args => exact h.mono fun u w'' ⟨hc, hk⟩ => ⟨hc, keep u, by rw [← Act.put_comm a v u h2]; exact hk⟩
      | halt x w' => exact h.elim
    · rename_i hl
      simp only [hl] at h
      obtain ⟨u, hu, hn⟩ := h
      refine ⟨u, fun w' hw' => ?_, keep u, by rw [← Act.put_comm a v u h2]; exact hn⟩
      have := hu w' hw'
      unfold qy at *
      rwa [execOp_put oj hsj a oi.dst v h1] at this
  · rename_i hw
    simp only [hw] at h
    exact ⟨keep _, by rw [← Act.put_comm a v undef h2]; exact h⟩

theorem not_on_of_ready {i : Nat} {oj : Oper} {listed : Array Bool} (hr : i ∈ Region.ready md ops listed) (hall : ∀ e ∈ oj.after, Region.binds md e = true → listed.getD e.on false = true) :
    ∀ e ∈ oj.after, Region.binds md e = true → e.on ≠ i := fun e he hb heq => by
  have h1 := hall e he hb
  have h0 := (mem_ready.1 hr).1
  rw [heq] at h1
  rcases Nat.lt_or_ge i listed.size with h' | h'
  · simp [h'] at h0 h1; rw [h0] at h1; cases h1
  · simp [Array.getElem?_eq_none h'] at h1

/-- A quiet operation that may come up now may be taken first. -/
theorem wpAnyM_quiet {loud free : Nat → Bool} {far : Nat → Array Bool} {Q : Act → World → Prop} (hg : Good md ops loud free far) {i : Nat} {oi : Oper} {v : Value} (hi : ops[i]? = some oi) (hli : loud i = false) (hsel : ∀ (j : Nat) (o : Oper) cs b, ops[j]? = some o → o.op ≠ .select cs b) :
    ∀ (fuel : Nat) (listed : Array Bool) (a : Act) (w : World), C w → Within ops.size loud far listed →
      (∀ j oj, ops[j]? = some oj → j ≠ i → listed.getD j true = false → (∀ e ∈ oj.after, Region.binds md e = true → e.on ≠ i) → oi.apart ops oj = true) →
      i ∈ Region.ready md ops listed → YieldsM P ops C oi v a →
      wpAnyM P md ops C loud free Q fuel (listed.setIfInBounds i true) (a.put oi.dst v) w → wpAnyM P md ops C loud free Q (fuel + 1) listed a w := by
  intro fuel
  induction fuel with
  | zero =>
    intro listed a w _ _ _ hr hy H
    refine ⟨fun h => (by rw [h] at hr; cases hr), fun j hj => ?_⟩
    by_cases hji : j = i
    · subst hji; exact hy.op hi hli H
    · have := ready_mono hj hji
      rw [H.1] at this
      cases this
  | succ fuel ih =>
    intro listed a w hC hW hfree hr hy H
    refine ⟨fun h => (by rw [h] at hr; cases hr), fun j hj => ?_⟩
    by_cases hji : j = i
    · subst hji; exact hy.op hi hli H
    · have h1 := H.2 j (ready_mono hj hji)
      obtain ⟨hjun, oj, hoj, hall⟩ := mem_ready.1 hj
      have h2 := opM_put hoj (hfree j oj hoj hji hjun (not_on_of_ready hr hall)) (fun cs b => hsel i oi cs b hi) (fun cs b => hsel j oj cs b hoj) hy h1
      have hfree' : ∀ k ok, ops[k]? = some ok → k ≠ i → (listed.setIfInBounds j true).getD k true = false →
          (∀ e ∈ ok.after, Region.binds md e = true → e.on ≠ i) → oi.apart ops ok = true := fun k ok hk hki hun hno => by
        refine hfree k ok hk hki ?_ hno
        by_cases hjk : j = k
        · subst hjk; exact hjun
        · rw [getD_set_ne true hjk] at hun; exact hun
      have hnf : ¬ (loud j = true ∧ free j = true) := fun ⟨h1, h2⟩ => by
        have := hg.free hW hj h1 h2 i (Array.getElem?_eq_some_iff.1 hi).1 hli
        rw [(mem_ready.1 hr).1] at this
        cases this
      refine opM_mono (fun a' w' hC' h3 => ih (listed.setIfInBounds j true) a' w' (hC'.resolve_right hnf) (hg.step hW hj) hfree' (ready_mono hr (Ne.symm hji)) h3.1 ?_) (fun _ => hC) (.inl hC) h2
      rw [Array.setIfInBounds_comm _ _ hji]
      exact h3.2

/-- All that can be listed without operation i, one round through the text. -/
def farOf (md : Region.Mode) (ops : Array Oper) (i : Nat) : Array Bool :=
  (List.range ops.size).foldl (fun l j => if j != i && !l.getD j true && ((ops[j]?).map (·.after.all fun e => !Region.binds md e || l.getD e.on false)).getD false then l.setIfInBounds j true else l) (Array.replicate ops.size false)
def goodB (md : Region.Mode) (ops : Array Oper) (loud free : Nat → Bool) : Bool :=
  (List.range ops.size).all fun i => loud i || (let f := farOf md ops i
    f.size == ops.size && (Region.ready md ops f).all (· == i) && (List.range ops.size).all (fun j => !free j || !f.getD j false))
/-- 'far' where i is an operation; else an array that is full. -/
def farAll (md : Region.Mode) (ops : Array Oper) (i : Nat) : Array Bool := if i < ops.size then farOf md ops i else Array.replicate ops.size true
theorem good_of_B {loud free : Nat → Bool} (h : goodB md ops loud free = true) : Good md ops loud free (farAll md ops) := by
  have h' : ∀ i, i < ops.size → loud i = false → (farOf md ops i).size = ops.size ∧ (∀ j ∈ Region.ready md ops (farOf md ops i), j = i) ∧ ∀ j, j < ops.size → free j = true → (farOf md ops i).getD j false = false := fun i hi hl => by
    have := List.all_eq_true.1 h i (List.mem_range.2 hi)
    simp only [hl, Bool.false_or, Bool.and_eq_true, beq_iff_eq, List.all_eq_true, List.mem_range, Bool.or_eq_true, Bool.not_eq_true'] at this
    exact ⟨this.1.1, this.1.2, fun j hj hf => by rcases this.2 j hj with h | h; rw [hf] at h; cases h; exact h⟩
  refine ⟨fun i hl => ?_, fun i hl j hj => ?_, fun i hi hl j hj hf => ?_⟩
  · unfold farAll; split
    · rename_i hi; exact (h' i hi hl).1
    · simp
  · unfold farAll at hj; split at hj
    · rename_i hi; exact (h' i hi hl).2.1 j hj
    · obtain ⟨hu, o, ho, _⟩ := mem_ready.1 hj
      have := (Array.getElem?_eq_some_iff.1 ho).1
      simp [this] at hu
  · unfold farAll; rw [if_pos hi]; exact (h' i hi hl).2.2 j hj hf
theorem within_start {n m : Nat} {loud : Nat → Bool} {far : Nat → Array Bool} : Within n loud far (Array.replicate m false) := fun i _ _ _ k hk => by
  exfalso
  rcases Nat.lt_or_ge k m with h' | h'
  · simp [h'] at hk
  · simp [h'] at hk

/-- The walk: of what is ready the first quiet operation; where only loud ones are ready, each of them. -/
def wpSch (P : Program) (md : Region.Mode) (ops : Array Oper) (C : World → Prop) (loud free : Nat → Bool) (Q : Act → World → Prop) : Nat → Array Bool → Act → World → Prop
  | 0, listed, a, w => Region.ready md ops listed = [] ∧ Q a w
  | fuel + 1, listed, a, w =>
    (∃ i, i ∈ Region.ready md ops listed ∧ loud i = false ∧ Region.free md ops listed i = true ∧ opM P ops C loud free i (wpSch P md ops C loud free Q fuel (listed.setIfInBounds i true)) a w) ∨
    ((Region.ready md ops listed = [] → Q a w) ∧ ∀ i ∈ Region.ready md ops listed, opM P ops C loud free i (wpSch P md ops C loud free Q fuel (listed.setIfInBounds i true)) a w)

theorem wpSch_sound {loud free : Nat → Bool} {far : Nat → Array Bool} {Q : Act → World → Prop} (hg : Good md ops loud free far) (hs : Region.noSelect ops = true) : ∀ (fuel : Nat) (listed : Array Bool) (a : Act) (w : World), (C w ∨ AllQuiet loud ops.size listed) → Within ops.size loud far listed →
    wpSch P md ops C loud free Q fuel listed a w → wpAnyM P md ops C loud free Q fuel listed a w
  | 0, _, _, _, _, _, h => h
  | fuel + 1, listed, a, w, hC, hW, h => by
    rcases h with ⟨i, hr, hl, hf, h⟩ | ⟨h0, h⟩
    · obtain ⟨hu, o, ho, _⟩ := mem_ready.1 hr
      have hCw : C w := by
        rcases hC with h | h
        · exact h
        · have := h i (Array.getElem?_eq_some_iff.1 ho).1 hl
          rw [hu] at this; cases this
      obtain ⟨v, hy, hK⟩ := yieldsM_of_op ho hl h
      exact wpAnyM_quiet hg ho hl (Region.noSelect_spec hs) fuel listed a w hCw hW (Region.free_spec ho hf) hr hy (wpSch_sound hg hs fuel _ _ _ (.inl hCw) (hg.step hW hr) hK)
    · refine ⟨h0, fun i hi => ?_⟩
      have hh := h i hi
      have rec_ : ∀ a w, (C w ∨ AllQuiet loud ops.size (listed.setIfInBounds i true)) → wpSch P md ops C loud free Q fuel (listed.setIfInBounds i true) a w → wpAnyM P md ops C loud free Q fuel (listed.setIfInBounds i true) a w := fun a w hc h => wpSch_sound hg hs fuel _ a w hc (hg.step hW hi) h
      have hkeep : C w ∨ AllQuiet loud ops.size (listed.setIfInBounds i true) := hC.imp id (fun h => h.set i)
      unfold opM at hh ⊢
      split
      · rename_i ho; simp only [ho] at hh; exact rec_ _ _ hkeep hh
      · rename_i o ho
        simp only [ho] at hh
        split
        · rename_i hwt
          simp only [hwt, if_true] at hh
          split
          · rename_i hl
            simp only [hl, if_true] at hh
            exact yld_mono hh fun v w' ⟨hc, hk⟩ => ⟨hc, rec_ _ _ (hc.elim (fun hf => .inr ((hg.free hW hi hl hf).set i)) .inl) hk⟩
          · rename_i hl
            simp only [hl] at hh
            obtain ⟨v, h1, h2⟩ := hh
            exact ⟨v, h1, rec_ _ _ hkeep h2⟩
        · rename_i hwt; simp only [hwt] at hh; exact rec_ _ _ hkeep hh

theorem wp_region_sch {id : Nat} {Q : Exit → Act → World → Prop} {a : Act} {w : World} (C : World → Prop) (loud free : Nat → Bool) (hm : P.follows .mixedOrders = true) (hs : Region.noSelect ops = true) (hg : goodB .any ops loud free = true)
    (hC : C { w with drawn := w.drawn + 1 })
    (h : wpSch P .any ops C loud free (fun a' w' => Q .normal a' w') ops.size (Array.replicate ops.size false) a { w with drawn := w.drawn + 1 }) : (Code.region id ops true).wp P Q a w :=
  wp_region_any hm (wpAny_of_M (Q' := Q) (good_of_B hg) (fun _ _ h => h) _ _ _ _ (.inl hC) within_start (wpSch_sound (md := .any) (Q := fun a' w' => Q .normal a' w') (good_of_B hg) hs _ _ _ _ (.inl hC) within_start h))
end
end Go.SE
