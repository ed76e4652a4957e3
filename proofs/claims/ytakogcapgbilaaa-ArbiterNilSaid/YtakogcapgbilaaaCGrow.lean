/- Contracts: escrow/term, cut, grow, Of, New. -/
import Derived.Test.YtakogcapgbilaaaCTree
import Derived.Test.YtakogcapgbilaaaSeG
open Go Go.SE
namespace Go.Proofs
attribute [local irreducible] Calls

theorem c_New (w : World) : Calls Try.prog 72 #[] w (fun e w' => ∃ r : Option Addr, e = .returned (.pointer r) ∧ ∃ p, r = some p ∧ Pure w w' ∧ ∃ F, PoolAt w' p [] F ∧ ∀ b, F b → w.heap.size ≤ b) := by
  refine w_term_New w (fun r w' => ∃ p, r = some p ∧ Pure w w' ∧ ∃ F, PoolAt w' p [] F ∧ ∀ b, F b → w.heap.size ≤ b) ?_
  unfold m_term_New
  intro p1 w1 h1 p2 w2 h2
  have E1 : Pure w w1 := Ext.new h1
  have m2 : CMap w2 p1.block [] := (CMap.of_new h1).ext (Ext.new h2 : Pure w1 w2) id
  have n12 : p1.block ≠ p2.block := New.ne h2 h1.block_new
  refine ⟨p2, rfl, E1.trans (Ext.new h2), fun b => b = p2.block ∨ Sl.nil.blk b ∨ b = p1.block, ⟨Sl.nil, p1.block, ⟨Box.of_new h2, by simpa using Rws.nil _ _ _, by simpa [pmap] using m2, n12, ?_, ?_⟩, fun _ => Iff.rfl⟩, ?_⟩
  · rintro ⟨a, h, _⟩; cases h
  · rintro ⟨a, h, _⟩; cases h
  · rintro b (rfl | ⟨a, h, _⟩ | rfl)
    · exact New.own E1 h2
    · cases h
    · exact New.own (Ext.refl w) h1

theorem pmap_take (L : Sp.Pool) (n : Nat) : pmap (L.take n) = (pmap L).take n := by
  apply List.ext_getElem?; intro i
  simp only [pmap, List.getElem?_map, List.getElem?_zipIdx, List.getElem?_take]
  split <;> simp
theorem pmap_fst (L : Sp.Pool) : (pmap L).map (·.1) = (L.map (·.node)).map nkey := by
  apply List.ext_getElem?; intro i
  simp only [pmap, List.getElem?_map, List.getElem?_zipIdx]
  cases L[i]? <;> simp

/-- cut: all terms but the first so many go. -/
theorem c_cut (p : Addr) (n : Nat) (w : World) {L : Sp.Pool} {F : Nat → Prop} (hP : PoolAt w p L F) (hok : Sp.Ok L) (hn : n ≤ L.length) :
    Calls Try.prog 118 #[.pointer (some p), .int .i64 n] w (fun e w' => e = .returned (.tuple #[]) ∧ PoolAt w' p (L.take n) F ∧ Ext F w w') := by
  suffices key : ∀ K : World → Prop, (∀ w', PoolAt w' p (L.take n) F ∧ Ext F w w' → K w') → m_term_Pool_cut (some p) n w K from
    w_term_Pool_cut _ _ w _ (key _ (fun _ h => h))
  intro K hK
  unfold m_term_Pool_cut
  obtain ⟨s, m, hS, hF⟩ := hP
  have hfew := hok.few
  have hcap : s.len ≤ s.cap := by
    have := hS.rows.len
    rcases hS.rows.own with ⟨rfl, _⟩ | ⟨g, cur, _, _, hc, _⟩
    · simp [Sl.nil]
    · omega
  obtain ⟨s1, hr1, hl1⟩ := hS.rows.lst.lo (P := Try.prog) slT_entry hcap (k := .i64) (n := n) (by omega) (by simpa using hn)
  have hlen1 : s1.len = L.length - n := by rw [hl1.len]; simp
  refine ⟨p, rfl, s, hS.box.cell0, s1, hr1, ?_⟩
  refine ⟨fun x w' => ∃ j : Nat, x = j ∧ j ≤ L.length - n ∧ Ext (· = m) w w' ∧ CMap w' m ((pmap L).take n ++ (pmap L).drop (n + j)), fun x _ => ((L.length : Int) - x).toNat, ⟨0, rfl, Nat.zero_le _, Ext.refl w, by simpa using hS.map⟩, ?_⟩
  rintro _ wl ⟨j, rfl, hj, El, hml⟩
  have hboxl := hS.box.ext El hS.n1.symm
  have hrowsl := hS.rows.ext El (fun b hb e => hS.n3 (e ▸ hb))
  unfold m_term_Pool_cut_l1
  refine ⟨fun h => ?_, fun h => ?_⟩
  · have hlt : n + j < L.length := by have h := of_decide_eq_true h; omega
    have hll := hl1.ext El (fun b hb e => hS.n3 (e ▸ hb))
    obtain ⟨a, hat, _, hrow⟩ := hll.at_ j (by simp; omega)
    generalize he : L[n + j] = e at *
    have hrow' : Row wl a (erow e) := by
      have : ((L.map erow).drop ((n : Int).toNat))[j]'(by simp; omega) = erow e := by simp [he]
      rw [this] at hrow; exact hrow
    obtain ⟨nd, sz, dp⟩ := e
    obtain ⟨k, f, t, u, x, a1, b1⟩ := nd
    refine ⟨a, hat, _, _, _, _, _, _, _, _, _, hrow', ?_⟩
    intro p2 w1 h1
    have E1 : Pure wl w1 := Ext.new h1
    have o1 := New.own (Ext.refl wl) h1
    refine bx 9 (Box.of_new h1) rfl rfl (fun w2 b2 E => ?_)
    have E2 : Pure wl w2 := E1.own o1 E
    refine ⟨fun w' => w'.cell? (p.add 1) = some (.map (some m)) ∧ Row w' p2 (nrow ⟨k, f, t, u, x, a1, b1⟩), ⟨(hboxl.pure (E2.thenPure (Ext.drew w2))).cell (i := 1) rfl, ?_⟩, ?_⟩
    · have : Row w2 p2 (nrow ⟨k, f, t, u, x, a1, b1⟩) := fun i hi => by
        have := b2.row i (by simp [nrow] at hi ⊢; omega)
        rw [this]
        have h7 : i < 7 := by simpa [nrow] using hi
        have : i = 0 ∨ i = 1 ∨ i = 2 ∨ i = 3 ∨ i = 4 ∨ i = 5 ∨ i = 6 := by omega
        rcases this with rfl | rfl | rfl | rfl | rfl | rfl | rfl <;> rfl
      exact Ext.row (F := None) (Ext.drew w2) this id
    intro w3 hw3
    have E3 : Pure wl w3 := by rw [hw3]; exact E2.thenPure (Ext.drew w2)
    clear hw3
    refine ⟨p, rfl, some m, fun w' h => h.1, k, f, t, u, x, a1, b1, fun w' h => h.2, ?_⟩
    have hm3 := hml.ext E3 id
    have hpl : (pmap L).length = L.length := by simp [pmap]
    have hget : (pmap L)[n + j]? = some (nkey ⟨k, f, t, u, x, a1, b1⟩, .int .i64 (n + j + 1 : Nat)) := by
      simp only [pmap, List.getElem?_map, List.getElem?_zipIdx, List.getElem?_eq_getElem hlt, he]; simp
    have hidx : ((pmap L).take n ++ (pmap L).drop (n + j))[n]? = some (nkey ⟨k, f, t, u, x, a1, b1⟩, .int .i64 (n + j + 1 : Nat)) := by
      have e0 : n + j + (n - ((pmap L).take n).length) = n + j := by rw [List.length_take]; omega
      rw [List.getElem?_append_right (by rw [List.length_take]; omega), List.getElem?_drop, e0, hget]
    have hnd : ((pmap L).map (·.1)).Nodup := by
      rw [pmap_fst, List.nodup_iff_pairwise_ne, List.pairwise_map]
      exact hok.nodup.imp (fun h e => h (nkey_inj.1 e))
    have hsub : List.Sublist ((pmap L).take n ++ (pmap L).drop (n + j)) (pmap L) := by
      conv => rhs; rw [← List.take_append_drop n (pmap L)]
      refine (List.Sublist.refl _).append ?_
      have e0 : (pmap L).drop (n + j) = ((pmap L).drop n).drop j := by rw [List.drop_drop]
      rw [e0]; exact List.drop_sublist _ _
    have hnd2 : (((pmap L).take n ++ (pmap L).drop (n + j)).map (·.1)).Nodup := hnd.sublist (hsub.map _)
    obtain ⟨w4, hr4, hm4, E4⟩ := hm3.delete (P := Try.prog) (Q := 93) (z := 0) Try.underlying181 keyOK_node (fun q hq => pmap_keys q (hsub.subset hq)) ⟨_, rfl⟩ hidx (fun i u hi => by
      obtain ⟨hi1, hi2⟩ := List.getElem?_eq_some_iff.1 hi
      obtain ⟨hn1, hn2⟩ := List.getElem?_eq_some_iff.1 hidx
      refine Classical.byContradiction fun hne => ?_
      have hne := List.pairwise_iff_getElem.1 hnd2
      rcases Nat.lt_or_gt_of_ne ‹_› with hlt | hlt
      · exact hne i n (by simpa using hi1) (by simpa using hn1) hlt (by rw [List.getElem_map, List.getElem_map, hi2, hn2])
      · exact hne n i (by simpa using hn1) (by simpa using hi1) hlt (by rw [List.getElem_map, List.getElem_map, hi2, hn2]))
    refine ⟨w4, hr4, ⟨j + 1, ?_, by omega, (El.trans E3.pure).trans E4, ?_⟩, ?_⟩
    · rw [i64 (by omega) (by omega)]; omega
    · rw [List.eraseIdx_append_of_length_le (by rw [List.length_take]; omega)] at hm4
      have : n - ((pmap L).take n).length = 0 := by rw [List.length_take]; omega
      rw [this] at hm4
      have hd : ((pmap L).drop (n + j)).eraseIdx 0 = (pmap L).drop (n + (j + 1)) := by
        rw [List.drop_eq_getElem_cons (by omega)]; simp; rfl
      rw [hd] at hm4; exact hm4
    · show ((L.length : Int) - IntKind.i64.wrap ((j : Int) + 1)).toNat < ((L.length : Int) - (j : Int)).toNat
      rw [i64 (by omega) (by omega)]; omega
  · have hge : n + j = L.length := by have h := of_decide_eq_false h; omega
    have hpl : (pmap L).length = L.length := by simp [pmap]
    rw [hge, ← hpl, List.drop_length, List.append_nil] at hml
    obtain ⟨s2, hr2, hrows2, hb2⟩ := hrowsl.hi (P := Try.prog) slT_entry (k := .i64) (n := n) (by omega) (by simpa using hn)
    refine ⟨p, rfl, s, hboxl.cell0, s2, hr2, p, rfl, hboxl.canW0 (by simp), ?_⟩
    rintro w5 hw5
    have hbox5 : Box w5 p [s2.v, .map (some m)] 183 := by rw [hw5]; exact hboxl.set0
    have E5 : Ext (· = p.block) wl w5 := by rw [hw5]; exact Ext.setCell p _
    clear hw5
    refine hK _ ⟨⟨s2, m, ⟨hbox5, ?_, ?_, hS.n1, fun h => hS.n2 ((hb2 _).1 h), fun h => hS.n3 ((hb2 _).1 h)⟩, fun b => by rw [hF b, hb2 b]⟩, ?_⟩
    · have := hrows2.ext E5 (fun b hb e => hS.n2 (by rw [← e]; exact (hb2 _).1 hb))
      simpa using this
    · rw [pmap_take]; exact hml.ext E5 hS.n1
    · exact (El.mono (fun i _ h => (hF i).2 (.inr (.inr h)))).trans' E5 (fun i _ h => (hF i).2 (.inl h))
end Go.Proofs
