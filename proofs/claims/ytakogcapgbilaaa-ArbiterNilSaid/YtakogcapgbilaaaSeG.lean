/- Symbolic execution, part G: slices that are read, slices of slices. -/
import Derived.Test.YtakogcapgbilaaaSeF
namespace Go.SE

/-- A slice as a list of rows, to be read only; S are the blocks where it may lie. -/
structure Lst (S : Nat → Prop) (w : World) (sz : Nat) (s : Sl) (rs : List (List Value)) : Prop where
  len : s.len = rs.length
  at_ : ∀ i (h : i < rs.length), ∃ a, At s i sz a ∧ S a.block ∧ Row w a rs[i]
theorem Lst.ext {S F : Nat → Prop} {w w' : World} {sz : Nat} {s : Sl} {rs : List (List Value)} (h : Lst S w sz s rs) (hE : Ext F w w') (hd : ∀ b, S b → ¬ F b) : Lst S w' sz s rs :=
  ⟨h.len, fun i hi => let ⟨a, h1, h2, h3⟩ := h.at_ i hi; ⟨a, h1, h2, hE.row h3 (hd _ h2)⟩⟩
theorem Lst.pure {S : Nat → Prop} {w w' : World} {sz : Nat} {s : Sl} {rs : List (List Value)} (h : Lst S w sz s rs) (hE : Pure w w') : Lst S w' sz s rs := h.ext hE (fun _ _ h => h)
theorem Rws.lst {w : World} {e : TypeId} {sz : Nat} {s : Sl} {rs : List (List Value)} (h : Rws w e sz s rs) : Lst s.blk w sz s rs :=
  ⟨h.len, fun i hi => let ⟨a, h1, h2, h3⟩ := h.at (i := i) (by omega) (by simpa using hi); ⟨a, h1, h3, h2⟩⟩

theorem add_add (a : Addr) (i j : Nat) : (a.add i).add j = a.add (i + j) := by
  unfold Addr.add; repeat' split
  all_goals simp_all
  all_goals omega

section
variable {P : Program} {t e : TypeId} {sz bytes : Nat}
theorem SlType.sizeOf (T : SlType P t e sz bytes) (w : World) : (Go.sizeOf e).run P w = .ok sz w := by
  obtain ⟨i, z, hi, _, hs, _⟩ := T.hi
  simp [Go.sizeOf, Go.typeInfo, Sem.run, program, hi, hs, bind, pure, Sem.bind, Sem.pure]

/-- s[:n] -/
theorem Rws.hi (T : SlType P t e sz bytes) {w : World} {s : Sl} {rs : List (List Value)} (h : Rws w e sz s rs) {k : IntKind} {n : Int} (h0 : 0 ≤ n) (hn : n ≤ rs.length) :
    ∃ s' : Sl, (Instr.sliceAt t s.v none (some (.int k n)) none).run P w = .ok s'.v w ∧ Rws w e sz s' (rs.take n.toNat) ∧ ∀ b, s'.blk b ↔ s.blk b := by
  rcases h.own with ⟨rfl, rfl⟩ | ⟨g, cur, ha, hg, hc, hm, hs, ht⟩
  · have : n = 0 := by simpa using (show n = 0 by simp at hn; omega)
    subst this
    refine ⟨Sl.nil, ?_, by simpa using Rws.nil w e sz, fun _ => Iff.rfl⟩
    simp [Instr.sliceAt, Instr.slice, Sl.v, Sl.nil, run_underlying T.ht, Instr.sliceBounds, Instr.sliceBound, asIntOf, T.sizeOf]
  · refine ⟨⟨some ⟨g, 0, none⟩, n.toNat, s.cap⟩, ?_, ⟨fun r hr => h.each r (List.mem_of_mem_take hr), by simp; omega, .inr ⟨g, cur, rfl, hg, by simp; omega, hm, hs, ?_⟩⟩, fun b => ?_⟩
    · have hle : n ≤ (s.cap : Int) := by omega
      by_cases hz : s.cap = 0
      · have : n = 0 := by omega
        subst this
        simp [Instr.sliceAt, Instr.slice, Sl.v, run_underlying T.ht, Instr.sliceBounds, Instr.sliceBound, asIntOf, T.sizeOf, ha, hz]
      · simp [Instr.sliceAt, Instr.slice, Sl.v, run_underlying T.ht, Instr.sliceBounds, Instr.sliceBound, asIntOf, T.sizeOf, h0, hle, ha, hz, Addr.add]
    · have hl : (rs.take n.toNat).length = n.toNat := by simp; omega
      have e1 : rs = rs.take n.toNat ++ rs.drop n.toNat := (List.take_append_drop _ _).symm
      have e2 : ((rs.take n.toNat).flatten).length = n.toNat * sz := by rw [flatten_len (fun r hr => h.each r (List.mem_of_mem_take hr)), hl]
      have h3 : n.toNat * sz ≤ rs.length * sz := Nat.mul_le_mul_right _ (by omega)
      calc cur.toList.take ((rs.take n.toNat).length * sz) = (cur.toList.take (rs.length * sz)).take (n.toNat * sz) := by rw [hl, List.take_take, Nat.min_eq_left h3]
        _ = ((rs.take n.toNat).flatten ++ (rs.drop n.toNat).flatten).take (n.toNat * sz) := by rw [ht, ← List.flatten_append, ← e1]
        _ = (rs.take n.toNat).flatten := by rw [← e2, List.take_left]
    · simp [Sl.blk, ha]

/-- s[n:] -/
theorem Lst.lo {S : Nat → Prop} (T : SlType P t e sz bytes) {w : World} {s : Sl} {rs : List (List Value)} (h : Lst S w sz s rs) (hcap : s.len ≤ s.cap) {k : IntKind} {n : Int} (h0 : 0 ≤ n) (hn : n ≤ rs.length) :
    ∃ s' : Sl, (Instr.sliceAt t s.v (some (.int k n)) none none).run P w = .ok s'.v w ∧ Lst S w sz s' (rs.drop n.toNat) := by
  have hle : n ≤ (s.len : Int) := by rw [h.len]; exact hn
  refine ⟨⟨if s.cap = n.toNat then s.a else s.a.map (·.add (n.toNat * sz)), s.len - n.toNat, s.cap - n.toNat⟩, ?_, ⟨by simp [h.len], fun i hi => ?_⟩⟩
  · simp [Instr.sliceAt, Instr.slice, Sl.v, run_underlying T.ht, Instr.sliceBounds, Instr.sliceBound, asIntOf, T.sizeOf, h0, hle]
  · have hi' : n.toNat + i < rs.length := by simp at hi; omega
    obtain ⟨a, ⟨_, hlt, p, hp, rfl⟩, hS, hr⟩ := h.at_ (n.toNat + i) hi'
    refine ⟨_, ⟨by omega, by simp only [h.len]; omega, p.add (n.toNat * sz), ?_, rfl⟩, ?_, ?_⟩
    · rw [if_neg (by rw [h.len] at hcap; omega), hp]; rfl
    · simpa [add_block] using hS
    · have : (p.add (n.toNat * sz)).add ((i : Int).toNat * sz) = p.add (((n.toNat + i : Nat) : Int).toNat * sz) := by
        rw [add_add, Int.toNat_natCast, Int.toNat_natCast, Nat.add_mul]
      rw [this, List.getElem_drop]; exact hr
end
end Go.SE
