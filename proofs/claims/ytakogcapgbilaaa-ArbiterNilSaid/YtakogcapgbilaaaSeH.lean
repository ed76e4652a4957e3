/- Symbolic execution, part H: slices that are made whole, elements that are set. -/
import Derived.Test.YtakogcapgbilaaaSeG
import Derived.Laws.MakeOwn
namespace Go.SE

theorem Box.storeAt {p : Addr} {T : TypeId} : ∀ (vs : List Value) (i off : Nat) (w : World) (c : List Value), Box w p c T → off + i + vs.length ≤ c.length →
    Box (storeRowFrom w (p.add off) i vs) p (c.take (off + i) ++ vs ++ c.drop (off + i + vs.length)) T
  | [], i, off, w, c, h, hl => by simpa [storeRowFrom] using h
  | v :: vs, i, off, w, c, h, hl => by
    simp only [storeRowFrom]
    have h1 := h.set (off + i) v
    rw [← add_add] at h1
    have h2 := Box.storeAt vs (i + 1) off _ _ h1 (by simp at hl ⊢; omega)
    have e : (c.set (off + i) v).take (off + (i + 1)) ++ vs ++ (c.set (off + i) v).drop (off + (i + 1) + vs.length) = c.take (off + i) ++ (v :: vs) ++ c.drop (off + i + (v :: vs).length) := by
      have hlt : off + i < c.length := by simp at hl; omega
      rw [List.drop_set_of_lt (by omega), ← Nat.add_assoc, List.take_succ_eq_append_getElem (by simp; omega), List.getElem_set_self, List.take_set_of_le (Nat.le_refl _)]
      simp only [List.length_cons, List.append_assoc, List.cons_append, List.nil_append]
      congr 4; omega
    rw [e] at h2
    exact h2

/-- s[i] = r, in an owned slice. -/
theorem Rws.set {w : World} {e : TypeId} {sz : Nat} {s : Sl} {rs : List (List Value)} (h : Rws w e sz s rs) {i : Nat} (hi : i < rs.length) {r : List Value} (hr : r.length = sz) {k : Int} (hk : k = i) :
    ∃ a, At s k sz a ∧ (∀ j, j < sz → CanW w (a.add j)) ∧ ∀ w', w' = storeRow w a r → Rws w' e sz s (rs.set i r) ∧ Ext s.blk w w' := by
  subst hk
  rcases h.own with ⟨_, rfl⟩ | ⟨g, cur, ha, hg, hc, hm, hs, ht⟩
  · simp at hi
  · have B : Box w ⟨g, 0, none⟩ cur.toList e := ⟨rfl, by simpa using hg⟩
    have hle : (i + 1) * sz ≤ rs.length * sz := Nat.mul_le_mul_right _ hi
    have hle2 : rs.length * sz ≤ s.cap * sz := Nat.mul_le_mul_right _ hc
    have hlen : cur.toList.length = s.cap * sz := by simpa using hs
    rw [Nat.succ_mul] at hle
    refine ⟨(⟨g, 0, none⟩ : Addr).add (i * sz), ⟨by omega, by rw [h.len]; omega, ⟨_, ha, by simp⟩⟩, fun j hj => ?_, ?_⟩
    · rw [add_add]; exact B.canW (by omega)
    · intro w' hw'
      have B2 := Box.storeAt r 0 (i * sz) w _ B (by rw [hr]; omega)
      have hE : Ext (· = g) w w' := by
        rw [hw']; have := Ext.storeRow w ((⟨g, 0, none⟩ : Addr).add (i * sz)) r; rw [add_block] at this; exact this
      have hw2 : storeRowFrom w ((⟨g, 0, none⟩ : Addr).add (i * sz)) 0 r = w' := hw'.symm
      rw [hw2] at B2
      refine ⟨⟨?_, by rw [List.length_set]; exact h.len, .inr ⟨g, _, ha, B2.blk, by rw [List.length_set]; exact hc, hm, ?_, ?_⟩⟩, hE.mono (fun b _ hb => ⟨_, ha, hb.symm⟩)⟩
      · intro q hq
        rcases List.mem_or_eq_of_mem_set hq with h' | rfl
        · exact h.each q h'
        · exact hr
      · simp only [List.size_toArray, List.length_append, List.length_take, List.length_drop, hr, hlen]; omega
      · have hse : ∀ q ∈ rs.set i r, q.length = sz := by
          intro q hq
          rcases List.mem_or_eq_of_mem_set hq with h' | rfl
          · exact h.each q h'
          · exact hr
        have e1 : rs = rs.take i ++ rs[i] :: rs.drop (i + 1) := by rw [← List.drop_eq_getElem_cons hi, List.take_append_drop]
        have e2 : rs.set i r = rs.take i ++ r :: rs.drop (i + 1) := by
          rw [List.set_eq_take_append_cons_drop, if_pos hi]
        have l1 : (rs.take i).flatten.length = i * sz := by rw [flatten_len (fun r hr => h.each r (List.mem_of_mem_take hr)), List.length_take, Nat.min_eq_left (by omega)]
        have l2 : rs[i].length = sz := h.each _ (List.getElem_mem hi)
        have l3 : (rs.drop (i + 1)).flatten.length = (rs.length - (i + 1)) * sz := by rw [flatten_len (fun r hr => h.each r (List.mem_of_mem_drop hr)), List.length_drop]
        have hcur : cur.toList = rs.flatten ++ cur.toList.drop (rs.length * sz) := by rw [← ht, List.take_append_drop]
        have hfl : rs.flatten = (rs.take i).flatten ++ (rs[i] ++ (rs.drop (i + 1)).flatten) := by
          calc rs.flatten = (rs.take i ++ rs[i] :: rs.drop (i + 1)).flatten := by rw [← e1]
            _ = _ := by rw [List.flatten_append, List.flatten_cons]
        have t1 : cur.toList.take (i * sz) = (rs.take i).flatten := by
          rw [hcur, hfl, List.append_assoc, ← l1, List.take_left]
        have t2 : cur.toList.drop (i * sz + sz) = (rs.drop (i + 1)).flatten ++ cur.toList.drop (rs.length * sz) := by
          conv => lhs; rw [hcur, hfl]
          have : i * sz + sz = ((rs.take i).flatten ++ rs[i]).length := by rw [List.length_append, l1, l2]
          rw [← List.append_assoc, List.append_assoc, this, List.drop_left]
        have tot : ((rs.set i r).flatten).length = (rs.set i r).length * sz := flatten_len hse
        have hf2 : (rs.set i r).flatten = (rs.take i).flatten ++ (r ++ (rs.drop (i + 1)).flatten) := by rw [e2, List.flatten_append, List.flatten_cons]
        have e3 : (rs.take i).flatten ++ r ++ ((rs.drop (i + 1)).flatten ++ cur.toList.drop (rs.length * sz)) = (rs.set i r).flatten ++ cur.toList.drop (rs.length * sz) := by
          rw [hf2]; simp only [List.append_assoc]
        rw [← tot, Nat.add_zero, hr, t1, t2, e3]
        exact List.take_left

section
variable {P : Program} {t e : TypeId} {sz bytes : Nat}
/-- make([]T, n) -/
theorem Rws.make (T : SlType P t e sz bytes) {zr : List Value} (hz : ∀ i z, P.info? e = some i → i.zero = some z → z.cells = zr.toArray) {k k' : IntKind} {n : Nat} (hb : bytes * n ≤ 281474976710656) (hm : n ≤ maxLen) (w : World) :
    ∃ w', (Instr.makeSlice t (.int k (n : Int)) (.int k' (n : Int))).run P w = .ok (Sl.mk (some ⟨w.heap.size, 0, none⟩) n n).v w' ∧ Rws w' e sz ⟨some ⟨w.heap.size, 0, none⟩, n, n⟩ (List.replicate n zr) ∧ Pure w w' := by
  obtain ⟨i, z, hi, h0, hs, hby, hzs⟩ := T.hi
  have hzr := hz i z hi h0
  have hzl : zr.length = sz := by rw [← hzs, hzr]; simp
  have hm' : (n : Int) ≤ 9223372036854775807 := by simp only [maxLen] at hm; omega
  have hb' : (i.bytes : Int) * (n : Int) ≤ 281474976710656 := by
    have h : ((i.bytes * n : Nat) : Int) ≤ 281474976710656 := by rw [hby]; omega
    rwa [Int.natCast_mul] at h
  have hr := run_make (P := P) w t e i z T.ht hi h0 k k' n n (by omega) (Int.le_refl _) hb' hm'
  simp only [Int.toNat_natCast, hs] at hr
  have hN : New w (.cells (madeCells z.cells (n * sz)) e) ⟨w.heap.size, 0, none⟩ (w.alloc (.cells (madeCells z.cells (n * sz)) e)) := ⟨rfl, rfl⟩
  refine ⟨_, hr, ⟨fun r hr => by rw [(List.mem_replicate.1 hr).2, hzl], by simp, .inr ⟨w.heap.size, _, rfl, hN.block_new, by simp, hm, by simp [size_madeCells], ?_⟩⟩, Ext.new hN⟩
  have hpos := T.pos
  have he : ∀ r ∈ List.replicate n zr, r.length = sz := fun r hr => by rw [(List.mem_replicate.1 hr).2, hzl]
  rw [List.take_of_length_le (by simp [size_madeCells])]
  apply List.ext_getElem?
  intro j
  by_cases hj : j < n * sz
  · have hq : j / sz < n := Nat.div_lt_of_lt_mul (by rw [Nat.mul_comm]; exact hj)
    have hmod : j % sz < sz := Nat.mod_lt _ hpos
    have e1 := flatten_get he (i := j / sz) (by simpa using hq) (j := j % sz) hmod
    have e2 : j / sz * sz + j % sz = j := by rw [Nat.mul_comm]; exact Nat.div_add_mod j sz
    rw [e2] at e1
    rw [e1]
    have hsz : z.cells.size = sz := hzs
    simp only [madeCells, hzr, Array.getElem?_toList, Array.getElem?_map, Array.getElem?_range, hj, List.size_toArray, hzl, List.getElem_replicate, if_true, Option.map_some]
    rw [List.getElem?_eq_getElem (by omega)]
    simp [hzl, hmod]
  · rw [List.getElem?_eq_none (by simp [size_madeCells]; omega), List.getElem?_eq_none (by rw [flatten_len he]; simp; omega)]
end
end Go.SE
