/- Symbolic execution, part C: the operations, one lemma each; the words in which a walked function is written. -/
import Derived.Test.YtakogcapgbilaaaSeB
import Derived.Laws.StructEq
import Derived.Laws.Rows
import Derived.Laws.NewBlocks
import Derived.Laws.Strings
import Derived.Laws.Pointers
namespace Go.SE

structure Sl where
  a : Option Addr
  len : Nat
  cap : Nat
def Sl.v (s : Sl) : Value := .slice s.a s.len s.cap
def Sl.nil : Sl := ⟨none, 0, 0⟩

/-- Two ways, by a test. -/
def Br (c : Bool) (A B : Prop) : Prop := (c = true → A) ∧ (c = false → B)
/-- A row of cells reads so. -/
def Row (w : World) (a : Addr) (vs : List Value) : Prop := ∀ i, i < vs.length → w.cell? (a.add i) = vs[i]?
/-- A cell may be written. -/
def CanW (w : World) (a : Addr) : Prop := (∃ u, w.cell? a = some u) ∧ w.frozen? a = false
def storeRowFrom (w : World) (a : Addr) : Nat → List Value → World
  | _, [] => w
  | i, v :: vs => storeRowFrom (w.setCell (a.add i) v) a (i + 1) vs
def storeRow (w : World) (a : Addr) (vs : List Value) : World := storeRowFrom w a 0 vs

def oneCell : Value → Bool
  | .agg _ | .tuple _ => false
  | _ => true

section layers
variable {next : Env → World → Prop} {Q : Exit → Env → World → Prop} {ρ : Env} {w : World} {id id' : Nat}
theorem th_n (h : next ρ w) : thenE next Q .normal ρ w := h
theorem th_x (h : Q (.exit id) ρ w) : thenE next Q (.exit id) ρ w := h
theorem th_r (h : Q .ret ρ w) : thenE next Q .ret ρ w := h
theorem bl_n (h : Q .normal ρ w) : blockE id Q .normal ρ w := h
theorem bl_r (h : Q .ret ρ w) : blockE id Q .ret ρ w := h
theorem bl_eq (h : Q .normal ρ w) : blockE id Q (.exit id) ρ w := by simpa [blockE] using h
theorem bl_ne (hne : (id' == id) = false) (h : Q (.exit id') ρ w) : blockE id Q (.exit id') ρ w := by
  have : ¬ id' = id := by simpa using hne
  simpa [blockE, this] using h
end layers

section
variable {P : Program} {ops : Array Oper} {Q : Env → World → Prop} {ρ : Env} {w w' : World} {rest : List Oper} {o : Oper} {v : Value}

theorem wpL_nil (h : Q ρ w) : wpL P ops Q [] ρ w := h

theorem yE {j d : Nat} {c t : Bool} (hd : (ops[j]?).bind (·.dst) = some d) (hv : ρ d = .bool c) (hc : c = t) : yieldedE ops ρ j = some t := by
  unfold yieldedE
  rw [hd]
  simp only [hv, hc]

theorem want0 {y : Nat → Option Bool} (hg : o.guard = none) : Region.wanted o y = true := by simp [Region.wanted, hg]
theorem want1 {y : Nat → Option Bool} {j : Nat} {t : Bool} (hg : o.guard = some (j, t)) (hy : y j = some t) : Region.wanted o y = true := by simp [Region.wanted, hg, hy]
theorem unwant {y : Nat → Option Bool} {j : Nat} {t u : Bool} (hg : o.guard = some (j, t)) (hy : y j = some u) (hne : (u == t) = false) : Region.wanted o y = false := by
  have : ¬ u = t := by simpa using hne
  simp [Region.wanted, hg, hy, this]

/-- A plain operation. -/
theorem st (hw : Region.wanted o (yieldedE ops ρ) = true) (hr : (execOp (evE ρ) o).run P w = .ok (.value v) w') (h : wpL P ops Q rest (put ρ o.dst v) w') : wpL P ops Q (o :: rest) ρ w := by
  unfold wpL
  rw [if_pos hw]
  unfold yld
  rw [hr]
  exact h
theorem stp (hw : Region.wanted o (yieldedE ops ρ) = true) (hr : (execOp (evE ρ) o).run P w = .ok (.value v) w) (h : wpL P ops Q rest (put ρ o.dst v) w) : wpL P ops Q (o :: rest) ρ w := st hw hr h
theorem st_skip (hw : Region.wanted o (yieldedE ops ρ) = true) (hr : (execOp (evE ρ) o).run P w = .ok .skip w') (h : wpL P ops Q rest (put ρ o.dst undef) w') : wpL P ops Q (o :: rest) ρ w := by
  unfold wpL
  rw [if_pos hw]
  unfold yld
  rw [hr]
  exact h
theorem st_not (hw : Region.wanted o (yieldedE ops ρ) = false) (h : wpL P ops Q rest (put ρ o.dst undef) w) : wpL P ops Q (o :: rest) ρ w := by
  unfold wpL
  rw [if_neg (by rw [hw]; simp)]
  exact h
theorem st_call {f : FuncId} {args : Array Value} (hw : Region.wanted o (yieldedE ops ρ) = true) (hr : (execOp (evE ρ) o).run P w = .ok (.enter f args) w') (h : Calls P f args w' fun e w'' => ∃ v, e = .returned v ∧ wpL P ops Q rest (put ρ o.dst v) w'') : wpL P ops Q (o :: rest) ρ w := by
  unfold wpL
  rw [if_pos hw]
  unfold yld
  rw [hr]
  exact h

variable {C : World → Prop} {loud free : Nat → Bool} {k fuel : Nat} {listed : Array Bool}
theorem wpX_nil (h0 : Region.ready .any ops listed = []) (h : Q ρ w) : wpX P ops C loud free Q 0 listed ρ w := ⟨h0, h⟩
/-- The quiet operation k goes now. -/
def goes (ops : Array Oper) (listed : Array Bool) (loud : Nat → Bool) (k : Nat) : Bool := (Region.ready .any ops listed).contains k && !loud k && Region.free .any ops listed k
theorem qgo (hg : goes ops listed loud k = true) (h : opE P ops C loud free k (wpX P ops C loud free Q fuel (listed.setIfInBounds k true)) ρ w) : wpX P ops C loud free Q (fuel + 1) listed ρ w := by
  simp only [goes, Bool.and_eq_true, Bool.not_eq_true'] at hg
  exact .inl ⟨k, by simpa using hg.1.1, hg.1.2, hg.2, h⟩
theorem lgo (hr : Region.ready .any ops listed = [k]) (h : opE P ops C loud free k (wpX P ops C loud free Q fuel (listed.setIfInBounds k true)) ρ w) : wpX P ops C loud free Q (fuel + 1) listed ρ w :=
  .inr ⟨(fun h0 => by rw [hr] at h0; cases h0), fun i hi => by rw [hr] at hi; simp at hi; subst hi; exact h⟩
theorem lgo2 {k' : Nat} (hr : Region.ready .any ops listed = [k, k']) (h : opE P ops C loud free k (wpX P ops C loud free Q fuel (listed.setIfInBounds k true)) ρ w) (h' : opE P ops C loud free k' (wpX P ops C loud free Q fuel (listed.setIfInBounds k' true)) ρ w) : wpX P ops C loud free Q (fuel + 1) listed ρ w :=
  .inr ⟨(fun h0 => by rw [hr] at h0; cases h0), fun i hi => by rw [hr] at hi; simp at hi; rcases hi with rfl | rfl; exact h; exact h'⟩
theorem lgo3 {k' k'' : Nat} (hr : Region.ready .any ops listed = [k, k', k'']) (h : opE P ops C loud free k (wpX P ops C loud free Q fuel (listed.setIfInBounds k true)) ρ w) (h' : opE P ops C loud free k' (wpX P ops C loud free Q fuel (listed.setIfInBounds k' true)) ρ w) (h'' : opE P ops C loud free k'' (wpX P ops C loud free Q fuel (listed.setIfInBounds k'' true)) ρ w) : wpX P ops C loud free Q (fuel + 1) listed ρ w :=
  .inr ⟨(fun h0 => by rw [hr] at h0; cases h0), fun i hi => by rw [hr] at hi; simp at hi; rcases hi with rfl | rfl | rfl; exact h; exact h'; exact h''⟩
variable {K : Env → World → Prop}
theorem sx (ho : ops[k]? = some o) (hw : Region.wanted o (yieldedE ops ρ) = true) (hl : loud k = false) (hr : ∀ w', C w' → (execOp (evE ρ) o).run P w' = .ok (.value v) w') (h : K (put ρ o.dst v) w) : opE P ops C loud free k K ρ w := by
  unfold opE
  rw [ho]
  simp only
  rw [if_pos hw, if_neg (by rw [hl]; simp)]
  exact ⟨v, fun w' hC => by unfold qy; rw [hr w' hC]; exact ⟨rfl, rfl⟩, h⟩
theorem sx_not (ho : ops[k]? = some o) (hw : Region.wanted o (yieldedE ops ρ) = false) (h : K (put ρ o.dst undef) w) : opE P ops C loud free k K ρ w := by
  unfold opE
  rw [ho]
  simp only
  rw [if_neg (by rw [hw]; simp)]
  exact h
theorem sl (ho : ops[k]? = some o) (hw : Region.wanted o (yieldedE ops ρ) = true) (hl : loud k = true) (hr : (execOp (evE ρ) o).run P w = .ok (.value v) w') (hC : free k = true ∨ C w') (h : K (put ρ o.dst v) w') : opE P ops C loud free k K ρ w := by
  unfold opE
  rw [ho]
  simp only
  rw [if_pos hw, if_pos hl]
  unfold yld
  rw [hr]
  exact ⟨hC, h⟩
theorem sl_skip (ho : ops[k]? = some o) (hw : Region.wanted o (yieldedE ops ρ) = true) (hl : loud k = true) (hr : (execOp (evE ρ) o).run P w = .ok .skip w') (hC : free k = true ∨ C w') (h : K (put ρ o.dst undef) w') : opE P ops C loud free k K ρ w := by
  unfold opE
  rw [ho]
  simp only
  rw [if_pos hw, if_pos hl]
  unfold yld
  rw [hr]
  exact ⟨hC, h⟩
theorem sl_call {f : FuncId} {args : Array Value} (ho : ops[k]? = some o) (hw : Region.wanted o (yieldedE ops ρ) = true) (hl : loud k = true) (hr : (execOp (evE ρ) o).run P w = .ok (.enter f args) w') (h : Calls P f args w' fun e w'' => ∃ v, e = .returned v ∧ (free k = true ∨ C w'') ∧ K (put ρ o.dst v) w'') : opE P ops C loud free k K ρ w := by
  unfold opE
  rw [ho]
  simp only
  rw [if_pos hw, if_pos hl]
  unfold yld
  rw [hr]
  exact h
end

section
variable {P : Program} {ε : Operand → Value} {w w' : World} {d : Option Tmp} {ty : TypeId} {pos : String} {aft : Array Edge} {g : Option (Nat × Bool)}

theorem x_run {o : Oper} {s : Sem Value} {v : Value} (he : execOp ε o = (do pure (.value (← s)))) (hs : s.run P w = .ok v w') : (execOp ε o).run P w = .ok (.value v) w' := by
  rw [he]
  simp [hs]
theorem x_runU {o : Oper} {s : Sem Unit} (he : execOp ε o = (do s; pure .skip)) (hs : s.run P w = .ok () w') : (execOp ε o).run P w = .ok .skip w' := by
  rw [he]
  simp [hs]

theorem x_load {T : TypeId} {x : Operand} {a : Addr} {v : Value} (hx : ε x = .pointer (some a)) (hT : (isAgg T).run P w = .ok false w) (hc : w.cell? a = some v) :
    (execOp ε ⟨d, .load T x, ty, pos, aft, g⟩).run P w = .ok (.value v) w := by
  simp [execOp, Instr.loadAt, Instr.sureAddr, hx, loadVar, hT, hc]

theorem run_loadCellsFrom (a : Addr) (vs : List Value) : ∀ (n i : Nat) (acc : Array Value), i + n = vs.length → (∀ j, i ≤ j → j < vs.length → w.cell? (a.add j) = vs[j]?) → (loadCellsFrom a i n acc).run P w = .ok (acc ++ (vs.drop i).toArray) w := by
  intro n
  induction n with
  | zero => intro i acc hi _; have : vs.drop i = [] := by simp; omega
            simp [loadCellsFrom, this]
  | succ n ih =>
    intro i acc hi h
    have hlt : i < vs.length := by omega
    have hc := h i (Nat.le_refl _) hlt
    rw [List.getElem?_eq_getElem hlt] at hc
    have := ih (i + 1) (acc.push vs[i]) (by omega) (fun j hj hj' => h j (by omega) hj')
    simp only [loadCellsFrom, Sem.run_bind, run_load, hc, Result.andThen_ok, this]
    rw [List.drop_eq_getElem_cons hlt]
    congr 1
    apply Array.ext'
    simp

theorem x_loadA {T : TypeId} {x : Operand} {a : Addr} {n : Nat} {vs : List Value} (hx : ε x = .pointer (some a)) (hT : (isAgg T).run P w = .ok true w) (hs : (sizeOf T).run P w = .ok n w) (hn : vs.length = n) (hc : Row w a vs) :
    (execOp ε ⟨d, .load T x, ty, pos, aft, g⟩).run P w = .ok (.value (.agg vs.toArray)) w := by
  have := run_loadCellsFrom (P := P) (w := w) a vs n 0 #[] (by omega) (fun j _ hj => hc j hj)
  simp [execOp, Instr.loadAt, Instr.sureAddr, hx, loadVar, hT, hs, loadCells, this]

theorem run_store1 {a : Addr} {v : Value} (h1 : oneCell v = true) (hc : CanW w a) : (store a v).run P w = .ok () (w.setCell a v) := by
  obtain ⟨⟨u, hu⟩, hf⟩ := hc
  cases v <;> simp [oneCell] at h1 <;> simp [store, Sem.run, hu, hf]

theorem x_store {T : TypeId} {x y : Operand} {a : Addr} {v : Value} (hx : ε x = .pointer (some a)) (hy : ε y = v) (h1 : oneCell v = true) (hs : (sizeOf T).run P w = .ok 1 w) (hc : CanW w a) :
    (execOp ε ⟨d, .store T x y, ty, pos, aft, g⟩).run P w = .ok .skip (w.setCell a v) := by
  have hcells : v.cells = #[v] := by cases v <;> simp [oneCell] at h1 <;> rfl
  have h0 : a.add 0 = a := by simp [Addr.add]
  simp [execOp, Instr.storeAt, Instr.sureAddr, hx, hy, storeVar, hs, hcells, storeCells, h0, run_store1 h1 hc]

theorem cell?_setCell_some {w : World} {p q : Addr} {x v : Value} (h : w.cell? q = some v) : ∃ v', (w.setCell p x).cell? q = some v' := by
  unfold World.cell? at h ⊢
  unfold World.setCell
  simp only [Array.getElem?_modify]
  by_cases hb : p.block = q.block
  · rw [if_pos hb]
    split at h
    · rename_i c e f hc
      rw [hc]
      by_cases hs : q.spot.isSome
      · simp [hs] at h
      · simp only [hs, Bool.false_eq_true, if_false] at h
        simp only [Option.map_some, hs, Bool.false_eq_true, if_false]
        by_cases hp : p.spot.isSome
        · simp only [hp, if_true]; exact ⟨v, h⟩
        · simp only [hp, Bool.false_eq_true, if_false, Array.getElem?_setIfInBounds]
          have hlt := (Array.getElem?_eq_some_iff.1 h).1
          split
          · rename_i ho; exact ⟨x, by simp; omega⟩
          · exact ⟨v, h⟩
    · cases h
  · rw [if_neg hb]; exact ⟨v, h⟩

theorem CanW.setCell {w : World} {a b : Addr} {u : Value} (h : CanW w a) : CanW (w.setCell b u) a :=
  ⟨let ⟨_, hx⟩ := h.1; cell?_setCell_some hx, by rw [World.frozen?_setCell]; exact h.2⟩

theorem run_storeCellsFrom (a : Addr) : ∀ (vs : List Value) (i : Nat) (w : World), (∀ v ∈ vs, oneCell v = true) → (∀ j, j < vs.length → CanW w (a.add (i + j))) → (storeCells a vs i).run P w = .ok () (storeRowFrom w a i vs) := by
  intro vs
  induction vs with
  | nil => intro i w _ _; rfl
  | cons v vs ih =>
    intro i w h1 hc
    have h0 : CanW w (a.add i) := by simpa using hc 0 (by simp)
    have hr := run_store1 (P := P) (h1 v (by simp)) h0
    have := ih (i + 1) (w.setCell (a.add i) v) (fun u hu => h1 u (by simp [hu])) (fun j hj => by
      have := (hc (j + 1) (by simpa using hj)).setCell (b := a.add i) (u := v)
      rwa [show i + (j + 1) = i + 1 + j by omega] at this)
    simp [storeCells, hr, this, storeRowFrom]

theorem x_storeA {T : TypeId} {x y : Operand} {a : Addr} {n : Nat} {vs : List Value} (hx : ε x = .pointer (some a)) (hy : ε y = .agg vs.toArray) (h1 : vs.all oneCell = true) (hs : (sizeOf T).run P w = .ok n w) (hn : vs.length = n) (hc : ∀ j, j < vs.length → CanW w (a.add j)) :
    (execOp ε ⟨d, .store T x y, ty, pos, aft, g⟩).run P w = .ok .skip (storeRow w a vs) := by
  have := run_storeCellsFrom (P := P) a vs 0 w (by simpa using h1) (by simpa using hc)
  simp [execOp, Instr.storeAt, Instr.sureAddr, hx, hy, storeVar, hs, Value.cells, hn, this, storeRow]

theorem x_alloc {T : TypeId} {z : Value} {cs : Array Value} (hz : (zeroValue T).run P w = .ok z w) (hc : z.cells = cs) :
    (execOp ε ⟨d, .alloc T, ty, pos, aft, g⟩).run P w = .ok (.value (.pointer (some ⟨w.heap.size, 0, none⟩))) (w.alloc (.cells cs T)) := by
  subst hc
  simp [execOp, Instr.alloc, hz, newVar, newRow]
theorem x_box {T : TypeId} {x : Operand} {cs : Array Value} (hc : (ε x).cells = cs) :
    (execOp ε ⟨d, .box T x, ty, pos, aft, g⟩).run P w = .ok (.value (.pointer (some ⟨w.heap.size, 0, none⟩))) (w.alloc (.cells cs T)) := by
  subst hc
  simp [execOp, Instr.box, newVar, newRow]

theorem x_pickT {c x y : Operand} {b : Bool} {v : Value} (hc : ε c = .bool b) (hb : b = true) (hx : ε x = v) : (execOp ε ⟨d, .pick c x y, ty, pos, aft, g⟩).run P w = .ok (.value v) w := by
  simp [execOp, hc, hb, hx, asBool]
theorem x_pickF {c x y : Operand} {b : Bool} {v : Value} (hc : ε c = .bool b) (hb : b = false) (hy : ε y = v) : (execOp ε ⟨d, .pick c x y, ty, pos, aft, g⟩).run P w = .ok (.value v) w := by
  simp [execOp, hc, hb, hy, asBool]

theorem x_nilCheck {x : Operand} {p : Option Addr} {a : Addr} (hx : ε x = .pointer p) (hp : p = some a) : (execOp ε ⟨d, .nilCheck x, ty, pos, aft, g⟩).run P w = .ok (.value (.pointer (some a))) w := by
  simp [execOp, hx, hp]

/-- The place of element i of a slice. -/
structure At (s : Sl) (i : Int) (size : Nat) (a : Addr) : Prop where
  lo : 0 ≤ i
  hi : i < s.len
  at_ : ∃ b, s.a = some b ∧ a = b.add (i.toNat * size)

theorem x_indexAddr {T E : TypeId} {x ix : Operand} {s : Sl} {k : IntKind} {i : Int} {n : Nat} {a : Addr} (hx : ε x = s.v) (hi : ε ix = .int k i) (hT : (underlying T).run P w = .ok (.slice E) w) (hs : (sizeOf E).run P w = .ok n w) (ha : At s i n a) :
    (execOp ε ⟨d, .indexAddr T x ix, ty, pos, aft, g⟩).run P w = .ok (.value (.pointer (some a))) w := by
  obtain ⟨h0, h1, b, hb, rfl⟩ := ha
  simp [execOp, Instr.indexAt, hx, hi, Sl.v, asIntOf, hT, hb, h0, h1, hs]

theorem toList_inj {x y : ByteArray} (h : x.toList = y.toList) : x = y := by
  have e : ∀ z : ByteArray, z.toList = z.data.toList := fun z => ByteArray.toList_eq z
  rw [e, e] at h
  cases x; cases y
  simpa using h
theorem streq (x y : ByteArray) : (x.toList == y.toList) = decide (x = y) := by
  by_cases h : x = y
  · simp [h]
  · have : ¬ x.toList = y.toList := fun e => h (toList_inj e)
    simp [h, this]
theorem x_streq {T T' : TypeId} {a b : Operand} {x y : ByteArray} (hx : ε a = .string x) (hy : ε b = .string y) : (execOp ε ⟨d, .binOp .eql T a b T', ty, pos, aft, g⟩).run P w = .ok (.value (.bool (decide (x = y)))) w := by
  simp [execOp, hx, hy, eqGuard, streq, go_sem]
theorem x_strneq {T T' : TypeId} {a b : Operand} {x y : ByteArray} (hx : ε a = .string x) (hy : ε b = .string y) : (execOp ε ⟨d, .binOp .neq T a b T', ty, pos, aft, g⟩).run P w = .ok (.value (.bool (!decide (x = y)))) w := by
  simp [execOp, hx, hy, eqGuard, streq, go_sem]
theorem x_ptreq {T T' E : TypeId} {a b : Operand} {x : Option Addr} (hx : ε a = .pointer x) (hy : ε b = .pointer none) (hT : P.underlying T = some (.pointer E)) : (execOp ε ⟨d, .binOp .eql T a b T', ty, pos, aft, g⟩).run P w = .ok (.value (.bool x.isNone)) w := by
  have hp : P.pointee T = E := by simp [Program.pointee, hT]
  have := run_eql_pointer_nil (P := P) w T x (by rw [hp]; exact hT)
  simp [execOp, hx, hy, eqGuard, this]
theorem x_ptrneq {T T' E : TypeId} {a b : Operand} {x : Option Addr} (hx : ε a = .pointer x) (hy : ε b = .pointer none) (hT : P.underlying T = some (.pointer E)) : (execOp ε ⟨d, .binOp .neq T a b T', ty, pos, aft, g⟩).run P w = .ok (.value (.bool (!x.isNone))) w := by
  have hp : P.pointee T = E := by simp [Program.pointee, hT]
  have := run_neq_pointer_nil (P := P) w T x (by rw [hp]; exact hT)
  simp [execOp, hx, hy, eqGuard, this]

/-- Two struct values' test, as it runs. -/
theorem x_aggeq {op : BinOp} {T T' : TypeId} {a b : Operand} {xs ys : Array Value} {r : Bool} (hx : ε a = .agg xs) (hy : ε b = .agg ys) (hm : P.eqGuardType P.depth T = false) (hr : (Go.binOp op T (.agg xs) (.agg ys)).run P w = .ok (.bool r) w) :
    (execOp ε ⟨d, .binOp op T a b T', ty, pos, aft, g⟩).run P w = .ok (.value (.bool r)) w := by
  have := run_eqGuard_agg (P := P) w op T a b xs ys hm
  simp [execOp, hx, hy, this, hr]
/-- A binary operation, as it runs (no test of structs). -/
theorem x_bin {op : BinOp} {T T' : TypeId} {a b : Operand} {x y v : Value} (hx : ε a = x) (hy : ε b = y) (hg : (eqGuard op T a b x y).run P w = .ok () w) (hr : (Go.binOp op T x y).run P w = .ok v w) :
    (execOp ε ⟨d, .binOp op T a b T', ty, pos, aft, g⟩).run P w = .ok (.value v) w := by
  simp [execOp, hx, hy, hg, hr]

theorem x_callv {f : FuncId} {x : Operand} {c : List Operand} {ts : Array TypeId} {caps args args' : Array Value} (hx : ε x = .func (.func f) #[] caps) (hf : ∀ args w, (callFunc f args).run P w = .ok (.enter f args) w) (ha : (c.map ε).toArray = args) (hc : args ++ caps = args') :
    (execOp ε ⟨d, .call ⟨.value x, c.toArray, ts⟩, ty, pos, aft, g⟩).run P w = .ok (.enter f args') w := by
  subst hc; subst ha
  simp [execOp, resolve, hx, Deferred.ofValue, invoke, hf]
theorem x_call {f : FuncId} {c : List Operand} {ts : Array TypeId} {args : Array Value} (hf : ∀ args w, (callFunc f args).run P w = .ok (.enter f args) w) (ha : (c.map ε).toArray = args) :
    (execOp ε ⟨d, .call ⟨.value (.func f), c.toArray, ts⟩, ty, pos, aft, g⟩).run P w = .ok (.enter f args) w ∨ ε (.func f) ≠ .func (.func f) #[] #[] := by
  by_cases h : ε (.func f) = .func (.func f) #[] #[]
  · exact .inl (x_callv (caps := #[]) h hf ha (by simp))
  · exact .inr h
theorem x_callE {ρ : Env} {f : FuncId} {c : List Operand} {ts : Array TypeId} {args : Array Value} (hf : ∀ args w, (callFunc f args).run P w = .ok (.enter f args) w) (ha : (c.map (evE ρ)).toArray = args) :
    (execOp (evE ρ) ⟨d, .call ⟨.value (.func f), c.toArray, ts⟩, ty, pos, aft, g⟩).run P w = .ok (.enter f args) w :=
  (x_call hf ha).resolve_right (fun h => h rfl)

theorem x_builtin {b : Builtin} {c : List Operand} {ts : Array TypeId} {args : Array Value} {s : Sem Value} {v : Value} (ha : (c.map ε).toArray = args) (hb : ∀ consts, builtin b ts ty consts args = (do pure (.value (← s)))) (hr : s.run P w = .ok v w') :
    (execOp ε ⟨d, .call ⟨.builtin b, c.toArray, ts⟩, ty, pos, aft, g⟩).run P w = .ok (.value v) w' := by
  subst ha
  simp only [execOp, resolve, pure_bind, invoke, List.map_toArray, hb]
  simp [hr]
theorem x_lookup {T : TypeId} {x i : Operand} {ok : Bool} {m k v : Value} (hx : ε x = m) (hi : ε i = k) (hr : (Instr.lookup T m k ok).run P w = .ok v w) : (execOp ε ⟨d, .lookup T x i ok, ty, pos, aft, g⟩).run P w = .ok (.value v) w := by
  simp [execOp, hx, hi, hr]
theorem x_mapUpdate {T : TypeId} {x i y : Operand} {m k v : Value} (hx : ε x = m) (hi : ε i = k) (hy : ε y = v) (hr : (Instr.mapUpdate T m k v).run P w = .ok () w') : (execOp ε ⟨d, .mapUpdate T x i y, ty, pos, aft, g⟩).run P w = .ok .skip w' := by
  simp [execOp, hx, hi, hy, hr]
theorem x_insert {T : TypeId} {x i y : Operand} {m k v : Value} (hx : ε x = m) (hi : ε i = k) (hy : ε y = v) (hr : (Instr.mapUpdate T m k v).run P w = .ok () w') : (execOp ε ⟨d, .insert T x i y, ty, pos, aft, g⟩).run P w = .ok .skip w' := by
  simp [execOp, hx, hi, hy, hr]
theorem x_mapEntry {T : TypeId} {x i : Operand} {m k v : Value} (hx : ε x = m) (hi : ε i = k) (hr : (Instr.mapEntry T m k).run P w = .ok v w') : (execOp ε ⟨d, .mapEntry T x i, ty, pos, aft, g⟩).run P w = .ok (.value v) w' := by
  simp [execOp, hx, hi, hr]
theorem x_entryStore {T : TypeId} {x i y : Operand} {m k v : Value} (hx : ε x = m) (hi : ε i = k) (hy : ε y = v) (hr : (Instr.entryStore T m k v).run P w = .ok () w') : (execOp ε ⟨d, .entryStore T x i y, ty, pos, aft, g⟩).run P w = .ok .skip w' := by
  simp [execOp, hx, hi, hy, hr]
theorem x_makeMap {T : TypeId} {r : Option Operand} {v : Value} (hr : (Instr.makeMap T (r.map ε)).run P w = .ok v w') : (execOp ε ⟨d, .makeMap T r, ty, pos, aft, g⟩).run P w = .ok (.value v) w' := by
  simp [execOp, hr]
theorem x_makeSlice {T : TypeId} {x y : Operand} {l c v : Value} (hx : ε x = l) (hy : ε y = c) (hr : (Instr.makeSlice T l c).run P w = .ok v w') : (execOp ε ⟨d, .makeSlice T x y, ty, pos, aft, g⟩).run P w = .ok (.value v) w' := by
  simp [execOp, hx, hy, hr]
theorem x_slice {T : TypeId} {x : Operand} {lo hi mx : Option Operand} {s v : Value} {l h m : Option Value} (hx : ε x = s) (hl : lo.map ε = l) (hh : hi.map ε = h) (hm : mx.map ε = m) (hr : (Instr.sliceAt T s l h m).run P w = .ok v w) : (execOp ε ⟨d, .slice T x lo hi mx, ty, pos, aft, g⟩).run P w = .ok (.value v) w := by
  simp only [execOp, hx, hl, hh, hm]
  simp [hr]
theorem x_convert {S T : TypeId} {x : Operand} {s v : Value} (hx : ε x = s) (hr : (convert S T s).run P w = .ok v w') : (execOp ε ⟨d, .convert S T x, ty, pos, aft, g⟩).run P w = .ok (.value v) w' := by
  simp [execOp, hx, hr]
theorem x_index {T : TypeId} {x i : Operand} {s k v : Value} (hx : ε x = s) (hi : ε i = k) (hr : (Instr.index T s k).run P w = .ok v w) : (execOp ε ⟨d, .index T x i, ty, pos, aft, g⟩).run P w = .ok (.value v) w := by
  simp [execOp, hx, hi, hr]
theorem x_buildSlice {T : TypeId} {n : Nat} {ps : List (Nat × Operand)} {vs : Array (Nat × Value)} {v : Value} (hp : (ps.map fun p => (p.1, ε p.2)).toArray = vs) (hr : (Instr.buildSlice T n vs).run P w = .ok v w') : (execOp ε ⟨d, .buildSlice T n ps.toArray, ty, pos, aft, g⟩).run P w = .ok (.value v) w' := by
  subst hp
  simp only [execOp, List.map_toArray]
  simp [hr]
end
end Go.SE
namespace Go.SE
/-- Slots that read so. -/
def Has (ρ : Env) (l : List (Nat × Value)) : Prop := l.map (fun p => ρ p.1) = l.map (·.2)
theorem Has.mk {ρ : Env} {l : List (Nat × Value)} (h : l.map (fun p => ρ p.1) = l.map (·.2)) : Has ρ l := h
def setAll (ρ : Env) : List (Nat × Value) → Env
  | [] => ρ
  | (d, v) :: l => upd (setAll ρ l) d v
theorem setAll_has {ρ : Env} : ∀ {l : List (Nat × Value)}, Has ρ l → setAll ρ l = ρ
  | [], _ => rfl
  | (d, v) :: l, h => by
    have h' : ρ d = v ∧ l.map (fun p => ρ p.1) = l.map (·.2) := by simpa [Has] using h
    have := setAll_has (ρ := ρ) (l := l) h'.2
    simp only [setAll, this]
    funext i
    simp only [upd]
    split
    · rename_i e; rw [e, h'.1]
    · rfl
section
variable {P : Program} {n : Nat} {Q : Exit → Env → World → Prop} {ρ : Env} {w w' : World}
theorem wpE_has {c : Code} {l : List (Nat × Value)} (h : Has ρ l) (hg : wpE P n c Q (setAll ρ l) w) : wpE P n c Q ρ w := by rwa [setAll_has h] at hg
theorem wpE_condT' {c : Operand} {x y : Code} {t : Bool} (hc : evE ρ c = .bool t) (ht : t = true) (h : wpE P n x Q ρ w) : wpE P n (.cond c x y) Q ρ w := wpE_condT (by rw [hc, ht]) h
theorem wpE_condF' {c : Operand} {x y : Code} {t : Bool} (hc : evE ρ c = .bool t) (ht : t = false) (h : wpE P n y Q ρ w) : wpE P n (.cond c x y) Q ρ w := wpE_condF (by rw [hc, ht]) h
/-- A new block. -/
structure New (w : World) (o : Obj) (p : Addr) (w' : World) : Prop where
  at_ : p = ⟨w.heap.size, 0, none⟩
  to : w' = w.alloc o
theorem st_new {ops : Array Oper} {Q : Env → World → Prop} {rest : List Oper} {o : Oper} {O : Obj} (v : Addr → Value) (hw : Region.wanted o (yieldedE ops ρ) = true) (hr : (execOp (evE ρ) o).run P w = .ok (.value (v ⟨w.heap.size, 0, none⟩)) (w.alloc O)) (h : ∀ p w', New w O p w' → wpL P ops Q rest (put ρ o.dst (v p)) w') : wpL P ops Q (o :: rest) ρ w :=
  st hw hr (h _ _ ⟨rfl, rfl⟩)
theorem st_set {ops : Array Oper} {Q : Env → World → Prop} {rest : List Oper} {o : Oper} {W : World} (hw : Region.wanted o (yieldedE ops ρ) = true) (hr : (execOp (evE ρ) o).run P w = .ok .skip W) (h : ∀ w', w' = W → wpL P ops Q rest (put ρ o.dst undef) w') : wpL P ops Q (o :: rest) ρ w :=
  st_skip hw hr (h _ rfl)
section
variable {ops : Array Oper} {C : World → Prop} {loud free : Nat → Bool} {k : Nat} {o : Oper} {K : Env → World → Prop}
theorem sl_new {O : Obj} (v : Addr → Value) (ho : ops[k]? = some o) (hw : Region.wanted o (yieldedE ops ρ) = true) (hl : loud k = true) (hr : (execOp (evE ρ) o).run P w = .ok (.value (v ⟨w.heap.size, 0, none⟩)) (w.alloc O)) (h : ∀ p w', New w O p w' → (free k = true ∨ C w') ∧ K (put ρ o.dst (v p)) w') : opE P ops C loud free k K ρ w :=
  let hh := h _ _ ⟨rfl, rfl⟩; sl ho hw hl hr hh.1 hh.2
theorem sl_set {W : World} (ho : ops[k]? = some o) (hw : Region.wanted o (yieldedE ops ρ) = true) (hl : loud k = true) (hr : (execOp (evE ρ) o).run P w = .ok .skip W) (h : ∀ w', w' = W → (free k = true ∨ C w') ∧ K (put ρ o.dst undef) w') : opE P ops C loud free k K ρ w :=
  let hh := h _ rfl; sl_skip ho hw hl hr hh.1 hh.2
theorem sxQ {W : World} {v : Value} (ho : ops[k]? = some o) (hw : Region.wanted o (yieldedE ops ρ) = true) (hl : loud k = false) (hr : (execOp (evE ρ) o).run P W = .ok (.value v) W) (h : K (put ρ o.dst v) w) : opE P ops (fun x => x = W) loud free k K ρ w :=
  sx ho hw hl (fun w' e => by rw [show w' = W from e]; exact hr) h
end
theorem wpE_drawnQ {id : Nat} {l : List Oper} (hm : P.follows .mixedOrders = true) (hd : dstsIn n l = true) (hB : Region.noSelect l.toArray = true) (hg : goodB .any l.toArray (loudIn []) (loudIn []) = true)
    (h : ∀ w', w' = w.drew → wpX P l.toArray (fun x => x = w') (loudIn []) (loudIn []) (fun ρ w => Q .normal ρ w) l.length (Array.replicate l.length false) ρ w') : wpE P n (.region id l.toArray true) Q ρ w :=
  wpE_drawn (fun x => x = w.drew) [] [] hm hd hB hg rfl (by simpa using h _ rfl)
theorem wpE_drawnC {id : Nat} {l : List Oper} (C : World → Prop) (loud free : List Nat) (hm : P.follows .mixedOrders = true) (hd : dstsIn n l = true) (hB : Region.noSelect l.toArray = true) (hg : goodB .any l.toArray (loudIn loud) (loudIn free) = true)
    (hC : C w.drew)
    (h : ∀ w', w' = w.drew → wpX P l.toArray C (loudIn loud) (loudIn free) (fun ρ w => Q .normal ρ w) l.length (Array.replicate l.length false) ρ w') : wpE P n (.region id l.toArray true) Q ρ w :=
  wpE_drawn C loud free hm hd hB hg hC (by simpa using h _ rfl)
end
end Go.SE
namespace Go.SE
section
variable {P : Program} {n : Nat} {ρ : Env} {w : World}
/-- What a result's place holds at the end. -/
def RV (P : Program) (ρ : Env) (w : World) : ResultVar → Value → Prop
  | .tmp t, v => ρ t = v
  | .cell a t, v => ∃ A, ρ a = .pointer (some A) ∧ (loadVar t A).run P w = .ok v w
def RVs (P : Program) (ρ : Env) (w : World) : List ResultVar → List Value → Prop
  | [], [] => True
  | r :: rs, v :: vs => RV P ρ w r v ∧ RVs P ρ w rs vs
  | _, _ => False
theorem run_loadVarA {T : TypeId} {a : Addr} {n : Nat} {vs : List Value} (hT : (isAgg T).run P w = .ok true w) (hs : (sizeOf T).run P w = .ok n w) (hn : vs.length = n) (hc : Row w a vs) : (loadVar T a).run P w = .ok (.agg vs.toArray) w := by
  have := run_loadCellsFrom (P := P) (w := w) a vs n 0 #[] (by omega) (fun j _ hj => hc j hj)
  simp [loadVar, hT, hs, loadCells, this]
theorem run_loadVar1 {T : TypeId} {a : Addr} {v : Value} (hT : (isAgg T).run P w = .ok false w) (hc : w.cell? a = some v) : (loadVar T a).run P w = .ok v w := by
  simp [loadVar, hT, hc]
theorem RV.cellA {a : Nat} {A : Addr} {T : TypeId} {vs : List Value} {k : Nat} (ha : ρ a = .pointer (some A)) (hT : (isAgg T).run P w = .ok true w) (hs : (sizeOf T).run P w = .ok k w) (hn : vs.length = k) (hc : Row w A vs) : RV P ρ w (.cell a T) (.agg vs.toArray) := ⟨A, ha, run_loadVarA hT hs hn hc⟩
theorem RV.cell1 {a : Nat} {A : Addr} {T : TypeId} {v : Value} (ha : ρ a = .pointer (some A)) (hT : (isAgg T).run P w = .ok false w) (hc : w.cell? A = some v) : RV P ρ w (.cell a T) v := ⟨A, ha, run_loadVar1 hT hc⟩
theorem run_results {fn : Func} {rs : List ResultVar} {vs : List Value} (hr : fn.results = rs.toArray) (h : RVs P ρ w rs vs) {a : Act} (ha : Rep n ρ a) {v : Value} (hv : (if h : vs.toArray.size = 1 then vs.toArray[0] else .tuple vs.toArray) = v) : (results fn a.tmps).run P w = .ok v w := by
  have key : ∀ (f : ResultVar → Sem Value), (∀ t, f (.tmp t) = pure (a.tmps.getD t undef)) → (∀ x t, f (.cell x t) = (do loadVar t (← asAddr (a.tmps.getD x undef)))) → ∀ (rs : List ResultVar) (vs : List Value), RVs P ρ w rs vs → (rs.mapM f).run P w = .ok vs w := by
    intro f hf hf' rs
    induction rs with
    | nil => intro vs h; cases vs <;> simp only [RVs] at h; rfl
    | cons r rs ih =>
      intro vs h
      cases vs with
      | nil => simp only [RVs] at h
      | cons v vs =>
        obtain ⟨h1, h2⟩ := h
        have : (f r).run P w = .ok v w := by
          cases r with
          | tmp t => rw [hf, ha.get]; simp only [RV] at h1; rw [h1]; rfl
          | cell x t =>
            obtain ⟨A, hA, hl⟩ := h1
            rw [hf', ha.get, hA]
            simp only [Sem.run_bind, asAddr, Sem.run_pure, Result.andThen]
            exact hl
        rw [List.mapM_cons]
        simp only [Sem.run_bind, Sem.run_pure, Result.andThen, this, ih vs h2]
  unfold results
  rw [hr, List.mapM_toArray, Sem.run_bind, Sem.run_map, key _ (fun _ => rfl) (fun _ _ => rfl) rs vs h]
  simp only [Result.andThen, Sem.run_pure]
  rw [← hv]
theorem resG {fn : Func} {rs : List ResultVar} {vs : List Value} {v : Value} {R : Ending → World → Prop} {e : Exit} (he : e = .ret ∨ e = .normal) (hr : fn.results = rs.toArray) (h : RVs P ρ w rs vs) (hv : (if h : vs.toArray.size = 1 then vs.toArray[0] else .tuple vs.toArray) = v) (hR : R (.returned v) w) : bodyE P fn n R e ρ w := by
  rcases he with rfl | rfl <;> exact ⟨v, fun a ha => run_results hr h ha hv, hR⟩
end
section
variable {P : Program} {ε : Operand → Value} {w w' : World} {d : Option Tmp} {ty : TypeId} {pos : String} {aft : Array Edge} {g : Option (Nat × Bool)}
theorem x_callm {f : FuncId} {x : Operand} {c : List Operand} {ts : Array TypeId} {fs caps args args' : Array Value} (hx : ε x = .func (.func f) fs caps) (hf : ∀ args w, (callFunc f args).run P w = .ok (.enter f args) w) (ha : (c.map ε).toArray = args) (hc : (fs ++ args) ++ caps = args') :
    (execOp ε ⟨d, .call ⟨.value x, c.toArray, ts⟩, ty, pos, aft, g⟩).run P w = .ok (.enter f args') w := by
  subst hc; subst ha
  simp [execOp, resolve, hx, Deferred.ofValue, invoke, hf]
end
end Go.SE
namespace Go.SE
theorem rvT {P : Program} {ρ : Env} {w : World} {t : Nat} {v : Value} (h : ρ t = v) : RV P ρ w (.tmp t) v := h
end Go.SE
namespace Go.SE
theorem pickZ {o : Oper} {l : List Oper} : (o :: l)[0]? = some o := rfl
theorem pickS {a o : Oper} {l : List Oper} {k : Nat} (h : l[k]? = some o) : (a :: l)[k + 1]? = some o := by simpa using h
theorem pickA {o : Oper} {l : List Oper} {k : Nat} (h : l[k]? = some o) : l.toArray[k]? = some o := by simpa using h
end Go.SE
namespace Go.SE
/-- The first k operations apart. -/
theorem wpL_split {P : Program} {ops : Array Oper} {Q : Env → World → Prop} {ρ : Env} {w : World} : ∀ (k : Nat) {l : List Oper} {ρ : Env} {w : World}, wpL P ops (fun ρ w => wpL P ops Q (l.drop k) ρ w) (l.take k) ρ w → wpL P ops Q l ρ w
  | 0, l, ρ, w, h => by simpa [wpL] using h
  | k + 1, [], ρ, w, h => by simpa [wpL] using h
  | k + 1, o :: l, ρ, w, h => by
    simp only [List.take_succ_cons, List.drop_succ_cons] at h
    unfold wpL at h ⊢
    split
    · rename_i hw; rw [if_pos hw] at h; exact yld_mono h fun v w' hh => wpL_split (ρ := ρ) (w := w) k hh
    · rename_i hw; rw [if_neg hw] at h; exact wpL_split (ρ := ρ) (w := w) k h
theorem wpL_mono {P : Program} {ops : Array Oper} {Q Q' : Env → World → Prop} (hq : ∀ ρ w, Q ρ w → Q' ρ w) : ∀ {l : List Oper} {ρ : Env} {w : World}, wpL P ops Q l ρ w → wpL P ops Q' l ρ w
  | [], ρ, w, h => by unfold wpL at h ⊢; exact hq _ _ h
  | o :: l, ρ, w, h => by
    unfold wpL at h ⊢
    split
    · rename_i hw; rw [if_pos hw] at h; exact yld_mono h fun v w' hh => wpL_mono hq hh
    · rename_i hw; rw [if_neg hw] at h; exact wpL_mono hq h
theorem wpL_join {P : Program} {ops : Array Oper} {Q : Env → World → Prop} {ρ : Env} {w : World} {l : List Oper} (k : Nat) (J : Env → World → Prop) (hy : ∀ ρ w, J ρ w → wpL P ops Q (l.drop k) ρ w) (h : wpL P ops J (l.take k) ρ w) : wpL P ops Q l ρ w :=
  wpL_split (ρ := ρ) (w := w) k (wpL_mono hy h)
theorem wpL_has {P : Program} {ops : Array Oper} {Q : Env → World → Prop} {ρ : Env} {w : World} {l : List Oper} {hs : List (Nat × Value)} (h : Has ρ hs) (hg : wpL P ops Q l (setAll ρ hs) w) : wpL P ops Q l ρ w := by rwa [setAll_has h] at hg
end Go.SE
namespace Go.SE
section
variable {P : Program} {ε : Operand → Value} {w w' : World} {d : Option Tmp} {ty : TypeId} {pos : String} {aft : Array Edge} {g : Option (Nat × Bool)}
theorem x_callmE {f : FuncId} {x : Operand} {c : List Operand} {ts : Array TypeId} {v : Value} {fs caps args args' : Array Value} (hx : ε x = v) (hv : v = .func (.func f) fs caps) (hf : ∀ args w, (callFunc f args).run P w = .ok (.enter f args) w) (ha : (c.map ε).toArray = args) (hc : (fs ++ args) ++ caps = args') :
    (execOp ε ⟨d, .call ⟨.value x, c.toArray, ts⟩, ty, pos, aft, g⟩).run P w = .ok (.enter f args') w :=
  x_callm (hx.trans hv) hf ha hc
theorem x_nilCheckF {f : FuncId} {x : Operand} {v : Value} {fs caps : Array Value} (hx : ε x = v) (hv : v = .func (.func f) fs caps) : (execOp ε ⟨d, .nilCheck x, ty, pos, aft, g⟩).run P w = .ok (.value v) w := by
  subst hv
  simp [execOp, hx]
end
end Go.SE
namespace Go.SE
section
variable {P : Program} {ε : Operand → Value} {w w' : World} {d : Option Tmp} {ty : TypeId} {pos : String} {aft : Array Edge} {g : Option (Nat × Bool)}
theorem x_loadAr {T : TypeId} {x : Operand} {a : Addr} {n : Nat} {vs : Array Value} (hx : ε x = .pointer (some a)) (hT : (isAgg T).run P w = .ok true w) (hs : (sizeOf T).run P w = .ok n w) (hc : vs.size = n ∧ Row w a vs.toList) :
    (execOp ε ⟨d, .load T x, ty, pos, aft, g⟩).run P w = .ok (.value (.agg vs)) w := by
  have := x_loadA (ε := ε) (d := d) (ty := ty) (pos := pos) (aft := aft) (g := g) hx hT hs (vs := vs.toList) (by simpa using hc.1) hc.2
  simpa using this
theorem RV.cellAr {ρ : Env} {a : Nat} {A : Addr} {T : TypeId} {vs : Array Value} {k : Nat} (ha : ρ a = .pointer (some A)) (hT : (isAgg T).run P w = .ok true w) (hs : (sizeOf T).run P w = .ok k w) (hc : vs.size = k ∧ Row w A vs.toList) : RV P ρ w (.cell a T) (.agg vs) := by
  have := RV.cellA (P := P) ha hT hs (vs := vs.toList) (by simpa using hc.1) hc.2
  simpa using this
end
end Go.SE
