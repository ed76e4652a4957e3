/- Symbolic execution, part E: slices of the call's own, as lists of rows. -/
import Derived.Test.YtakogcapgbilaaaSeD
import Derived.Laws.AppendOwn
namespace Go.SE

/-- A slice of the program's own: rows of sz cells, at the head of an array; or nil. -/
structure Rws (w : World) (e : TypeId) (sz : Nat) (s : Sl) (rs : List (List Value)) : Prop where
  each : ∀ r ∈ rs, r.length = sz
  len : s.len = rs.length
  own : (s = Sl.nil ∧ rs = []) ∨ ∃ g cur, s.a = some ⟨g, 0, none⟩ ∧ w.heap[g]? = some (.cells cur e (0, 0)) ∧ rs.length ≤ s.cap ∧ s.cap ≤ maxLen ∧ cur.size = s.cap * sz ∧ cur.toList.take (rs.length * sz) = rs.flatten

def Sl.blk (s : Sl) (b : Nat) : Prop := ∃ a, s.a = some a ∧ a.block = b

theorem Rws.nil (w : World) (e : TypeId) (sz : Nat) : Rws w e sz Sl.nil [] := ⟨by simp, rfl, .inl ⟨rfl, rfl⟩⟩
theorem flatten_len {rs : List (List Value)} {sz : Nat} (h : ∀ r ∈ rs, r.length = sz) : rs.flatten.length = rs.length * sz := by
  induction rs with
  | nil => simp
  | cons r rs ih =>
    have h1 := h r (by simp)
    have h2 := ih (fun r hr => h r (by simp [hr]))
    simp only [List.flatten_cons, List.length_append, h1, h2, List.length_cons, Nat.add_mul, Nat.one_mul]
    omega
theorem flatten_get {rs : List (List Value)} {sz : Nat} (h : ∀ r ∈ rs, r.length = sz) {i : Nat} (hi : i < rs.length) {j : Nat} (hj : j < sz) : rs.flatten[i * sz + j]? = rs[i][j]? := by
  induction rs generalizing i with
  | nil => simp at hi
  | cons r rs ih =>
    have h1 := h r (by simp)
    cases i with
    | zero => simp [List.getElem?_append_left (show j < r.length by omega)]
    | succ i =>
      simp only [List.flatten_cons, List.getElem_cons_succ]
      rw [List.getElem?_append_right (by rw [h1, Nat.succ_mul]; omega)]
      have := ih (fun r hr => h r (by simp [hr])) (i := i) (by simpa using hi)
      rw [← this]
      congr 1
      rw [h1, Nat.succ_mul]; omega
theorem Rws.ext {F : Nat → Prop} {w w' : World} {e : TypeId} {sz : Nat} {s : Sl} {rs : List (List Value)} (h : Rws w e sz s rs) (hE : Ext F w w') (hf : ∀ b, s.blk b → ¬ F b) : Rws w' e sz s rs := by
  refine ⟨h.each, h.len, ?_⟩
  rcases h.own with h' | ⟨g, cur, ha, hg, r⟩
  · exact .inl h'
  · exact .inr ⟨g, cur, ha, hE.heap hg (hf g ⟨_, ha, rfl⟩), r⟩
theorem Rws.pure {w w' : World} {e : TypeId} {sz : Nat} {s : Sl} {rs : List (List Value)} (h : Rws w e sz s rs) (hE : Pure w w') : Rws w' e sz s rs := h.ext hE (fun _ _ h => h)
theorem Rws.lt {w : World} {e : TypeId} {sz : Nat} {s : Sl} {rs : List (List Value)} (h : Rws w e sz s rs) {b : Nat} (hb : s.blk b) : b < w.heap.size := by
  rcases h.own with ⟨rfl, _⟩ | ⟨g, cur, ha, hg, _⟩
  · obtain ⟨a, ha, _⟩ := hb; cases ha
  · obtain ⟨a, ha', rfl⟩ := hb
    rw [ha] at ha'; cases ha'
    exact heap_lt hg
/-- Element i is there, and reads as its row. -/
theorem Rws.at {w : World} {e : TypeId} {sz : Nat} {s : Sl} {rs : List (List Value)} (h : Rws w e sz s rs) {i : Int} (h0 : 0 ≤ i) (hi : i.toNat < rs.length) : ∃ a, At s i sz a ∧ Row w a rs[i.toNat] ∧ s.blk a.block := by
  rcases h.own with ⟨_, rfl⟩ | ⟨g, cur, ha, hg, hc, _, hs, ht⟩
  · simp at hi
  · refine ⟨(⟨g, 0, none⟩ : Addr).add (i.toNat * sz), ⟨h0, by rw [h.len]; omega, ⟨_, ha, rfl⟩⟩, ?_, ⟨_, ha, by rw [add_block]⟩⟩
    intro j hj
    have hsz := h.each _ (List.getElem_mem hi)
    have hadd : ((⟨g, 0, none⟩ : Addr).add (i.toNat * sz)).add j = ⟨g, i.toNat * sz + j, none⟩ := by
      unfold Addr.add; split <;> split <;> simp_all
    rw [hadd, cell_of_row w g _ cur e (0, 0) hg, ← flatten_get h.each hi (by omega), ← ht, List.getElem?_take]
    have hlt : i.toNat * sz + j < rs.length * sz := by
      have : (i.toNat + 1) * sz ≤ rs.length * sz := Nat.mul_le_mul_right _ hi
      rw [Nat.succ_mul] at this
      omega
    rw [if_pos hlt]
    simp

theorem oneCell_of {v : Value} (h : oneCell v = true) : v.oneCell' = true := by cases v <;> simp_all [oneCell, Value.oneCell']

structure SlType (P : Program) (t e : TypeId) (sz bytes : Nat) : Prop where
  ht : P.underlying t = some (.slice e)
  hi : ∃ i z, P.info? e = some i ∧ i.zero = some z ∧ i.size = sz ∧ i.bytes = bytes ∧ z.cells.size = sz
  pos : 0 < sz

theorem row_get {w : World} {p : Addr} {r : List Value} (hr : Row w p r) : ∀ j u, r[j]? = some u → w.cell? (p.add j) = some u := fun j u hu => by
  rw [hr j (List.getElem?_eq_some_iff.1 hu).1, hu]

/-- The block that a growing append makes. -/
theorem Rws.grown {w : World} {e : TypeId} {sz : Nat} {rs : List (List Value)} (heach : ∀ q ∈ rs, q.length = sz) {cur : Array Value} {z : Value} (hz : z.cells.size = sz) (hcur : cur.toList = rs.flatten) {cap : Nat} (hc : rs.length ≤ cap) (hm : cap ≤ maxLen) :
    Rws (w.drew.alloc (.cells (cur ++ Builtin.zeroCells z.cells (cap - rs.length)) e)) e sz ⟨some ⟨w.heap.size, 0, none⟩, rs.length, cap⟩ rs := by
  refine ⟨heach, rfl, .inr ⟨w.heap.size, _, rfl, heap_alloc_new w.drew _, hc, hm, ?_, ?_⟩⟩
  · have : cur.size = rs.length * sz := by rw [← Array.length_toList, hcur, flatten_len heach]
    rw [Array.size_append, size_zeroCells, hz, this, ← Nat.add_mul]
    congr 1
    show rs.length + (cap - rs.length) = cap
    omega
  · rw [Array.toList_append, hcur]
    have := flatten_len heach
    rw [← this]
    exact List.take_left

/-- append(s, xs...): some rows more. -/
theorem Rws.appends {P : Program} {w : World} {t ty e : TypeId} {sz bytes : Nat} (T : SlType P t e sz bytes) {s : Sl} {rs qs : List (List Value)} (h : Rws w e sz s rs) {p : Addr} {c : Nat} (hr : Row w p qs.flatten) (hl : ∀ q ∈ qs, q.length = sz) (h1 : ∀ q ∈ qs, q.all oneCell = true) (hq : qs ≠ []) (hb : (rs.length + qs.length) * bytes ≤ 140737488355328) (hm : rs.length + qs.length ≤ maxLen) :
    ∃ s' w', (Builtin.append_ #[t, t] ty #[s.v, (Sl.mk (some p) qs.length c).v]).run P w = .ok s'.v w' ∧ Rws w' e sz s' (rs ++ qs) ∧ Ext s.blk w w' ∧ (∀ b, s'.blk b → s.blk b ∨ w.heap.size ≤ b) := by
  obtain ⟨i, z, hi, hz, hsz, hby, hzs⟩ := T.hi
  subst hsz; subst hby
  have h1' : ∀ u ∈ qs.flatten, u.oneCell' = true := fun u hu => by
    obtain ⟨q, hq, hu⟩ := List.mem_flatten.1 hu
    exact oneCell_of (List.all_eq_true.1 (h1 q hq) u hu)
  have hml : rs.length + qs.length ≤ 9223372036854775807 := by simp only [maxLen] at hm; omega
  have hlq := flatten_len hl
  have hpos : 0 < qs.length := List.length_pos_iff.2 hq
  have heach : ∀ q ∈ rs ++ qs, q.length = i.size := fun q hq => (List.mem_append.1 hq).elim (h.each q) (hl q)
  have hfl := flatten_len h.each
  rcases h.own with ⟨rfl, rfl⟩ | ⟨g, cur, ha, hg, hcap, hcm, hcs, htake⟩
  · simp only [List.length_nil, Nat.zero_add] at hb hml hm
    have hrun := run_append_nil (P := P) w t ty e i z T.ht hi hz p qs.length c qs.flatten hlq (row_get hr) hpos (by omega) (by omega)
    have hg := Rws.grown (w := w) (e := e) (rs := qs) hl (cur := qs.flatten.toArray) hzs (by simp) (grownCap_ge w qs.length 0 e) (grownCap_le_maxLen w _ 0 e hm)
    refine ⟨⟨some ⟨w.heap.size, 0, none⟩, qs.length, grownCap w qs.length 0 e⟩, (w.drew.alloc (.cells (qs.flatten.toArray ++ Builtin.zeroCells z.cells (grownCap w qs.length 0 e - qs.length)) e)), hrun, ?_, ?_, ?_⟩
    · simpa using hg
    · exact ⟨rfl, rfl, rfl, by simp, fun b hb _ => heap_alloc_old w.drew _ b hb⟩
    · intro b hb; obtain ⟨a, ha, rfl⟩ := hb; cases ha; right; exact Nat.le_refl _
  · have hs' : s.v = .slice (some ⟨g, 0, none⟩) rs.length s.cap := by unfold Sl.v; rw [ha, h.len]
    by_cases hroom : rs.length + qs.length ≤ s.cap
    · have hfit : rs.length * i.size + qs.flatten.length ≤ cur.size := by rw [hlq, hcs, ← Nat.add_mul]; exact Nat.mul_le_mul_right _ hroom
      have hrun := run_append_room (P := P) w t ty e i T.ht hi g rs.length s.cap cur hg p qs.length c qs.flatten hlq (row_get hr) h1' hroom hfit
      refine ⟨⟨some ⟨g, 0, none⟩, rs.length + qs.length, s.cap⟩, _, by rw [hs']; exact hrun, ⟨heach, by simp, .inr ⟨g, _, rfl, setRow_heap w g cur _ e _ hg, by simpa using hroom, hcm, ?_, ?_⟩⟩, ⟨rfl, rfl, rfl, by simp, fun b hb hf => setRow_other w g b _ (fun e => hf ⟨_, ha, e.symm⟩)⟩, fun b hb => by obtain ⟨a, ha', rfl⟩ := hb; cases ha'; exact .inl ⟨_, ha, rfl⟩⟩
      · simp only [List.size_toArray, List.length_append, List.length_take, List.length_drop, Array.length_toList]
        omega
      · rw [htake, List.flatten_append, List.length_append, Nat.add_mul, ← hfl, ← hlq, ← List.length_append]
        exact List.take_left
    · have holds : ∀ j u, rs.flatten[j]? = some u → w.cell? ((⟨g, 0, none⟩ : Addr).add j) = some u := fun j u hu => by
        have hadd : (⟨g, 0, none⟩ : Addr).add j = ⟨g, j, none⟩ := by unfold Addr.add; split <;> simp_all
        rw [hadd, cell_of_row w g j cur e (0, 0) hg]
        rw [← htake, List.getElem?_take] at hu
        split at hu
        · simpa using hu
        · cases hu
      have hrun := run_append_grow (P := P) w t ty e i z T.ht hi hz ⟨g, 0, none⟩ rs.length s.cap rs.flatten hfl holds p qs.length c qs.flatten hlq (row_get hr) (by omega) (by omega) (growslice_fits (by omega) hb)
      have hgr := Rws.grown (w := w) (e := e) (rs := rs ++ qs) heach (cur := rs.flatten.toArray ++ qs.flatten.toArray) hzs (by simp) (cap := grownCap w (rs.length + qs.length) s.cap e) (by simpa using grownCap_ge w (rs.length + qs.length) s.cap e) (grownCap_le_maxLen w _ _ e hm)
      refine ⟨⟨some ⟨w.heap.size, 0, none⟩, rs.length + qs.length, grownCap w (rs.length + qs.length) s.cap e⟩, (w.drew.alloc (.cells (rs.flatten.toArray ++ qs.flatten.toArray ++ Builtin.zeroCells z.cells (grownCap w (rs.length + qs.length) s.cap e - (rs.length + qs.length))) e)), ?_, ?_, ?_, ?_⟩
      · rw [hs']; exact hrun
      · simpa using hgr
      · exact ⟨rfl, rfl, rfl, by simp, fun b hb _ => heap_alloc_old w.drew _ b hb⟩
      · intro b hb; obtain ⟨a, ha, rfl⟩ := hb; cases ha; right; exact Nat.le_refl _

theorem Rws.append {P : Program} {w : World} {t ty e : TypeId} {sz bytes : Nat} (T : SlType P t e sz bytes) {s : Sl} {rs : List (List Value)} (h : Rws w e sz s rs) {p : Addr} {c : Nat} {r : List Value} (hr : Row w p r) (hl : r.length = sz) (h1 : r.all oneCell = true) (hb : (rs.length + 1) * bytes ≤ 140737488355328) (hm : rs.length + 1 ≤ maxLen) :
    ∃ s' w', (Builtin.append_ #[t, t] ty #[s.v, (Sl.mk (some p) 1 c).v]).run P w = .ok s'.v w' ∧ Rws w' e sz s' (rs ++ [r]) ∧ Ext s.blk w w' ∧ (∀ b, s'.blk b → s.blk b ∨ w.heap.size ≤ b) :=
  Rws.appends T h (qs := [r]) (by simpa using hr) (by simpa using hl) (by simpa using h1) (by simp) hb hm
end Go.SE
