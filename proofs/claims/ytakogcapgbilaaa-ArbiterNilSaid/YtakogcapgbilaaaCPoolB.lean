/- Contracts: escrow/term, check. -/
import Derived.Test.YtakogcapgbilaaaCPool
open Go Go.SE
namespace Go.Proofs
attribute [local irreducible] Calls

theorem run_cut2 (p : Addr) (k : Int) (w : World) (hk : k = 0 ∨ k = 1 ∨ k = 2) : (Instr.sliceAt 26 (Sl.mk (some p) 2 2).v .none (some (.int .i64 k)) .none).run Try.prog w = .ok (Sl.mk (some p) k.toNat 2).v w := by
  rcases hk with rfl | rfl | rfl <;> kernel_rfl

theorem c_check (p : Addr) (k f t u : Int) (x : ByteArray) (a b : Int) (w : World) {L : Sp.Pool} {F : Nat → Prop} (hP : PoolAt w p L F) (hok : Sp.Ok L) :
    Calls Try.prog 169 #[.pointer (some p), .agg #[.int .i64 k, .int .i64 f, .int .i64 t, .int .u64 u, .string x, .int .i64 a, .int .i64 b]] w
      (fun e w' => ∃ r1 : Int, ∃ r2 : Int, ∃ r3 : Int, e = .returned (.tuple #[.int .i64 r1, .int .i64 r2, .int .i64 r3]) ∧ ((r1, r2, r3) = Sp.check L ⟨k, f, t, u, x, a, b⟩ ∧ Pure w w')) := by
  suffices key : ∀ K : Int → Int → Int → World → Prop, (∀ r1 r2 r3 w', (r1, r2, r3) = Sp.check L ⟨k, f, t, u, x, a, b⟩ ∧ Pure w w' → K r1 r2 r3 w') → m_term_Pool_check (some p) k f t u x a b w K from
    w_term_Pool_check _ _ _ _ _ _ _ _ w _ (key _ (fun _ _ _ _ h => h))
  intro K hK
  unfold m_term_Pool_check
  intro p2 w1 h1
  have b1 := Box.of_new h1
  have E1 : Pure w w1 := Ext.new h1
  refine ⟨_, _, _, _, _, _, _, b1.row, ?_⟩
  refine (c_plain _ _ _ _ _ _ _ _).mono ?_
  rintro _ w2 ⟨s1, s2, s3, s4, s5, pe, rfl, ⟨hs, hpe⟩, E2⟩
  refine ⟨_, _, _, _, _, _, rfl, ?_⟩
  intro p3 w3 h3
  have b2 := (b1.pure E2).pure (Ext.new h3)
  have n23 : p2.block ≠ p3.block := New.ne h3 (b1.pure E2).blk
  have E3 : Pure w w3 := (E1.trans E2).trans (Ext.new h3)
  have o3 := New.own (E1.trans E2) h3
  refine bx 5 (Box.of_new h3) rfl rfl (fun w4 b3 E => ?_)
  have b2 := b2.ext E n23
  have E4 : Pure w w4 := E3.own o3 E
  clear E E3 E2 E1 b1 h1 h3
  -- what the node's own look says
  have hsh : Sp.shapeOf k = ⟨s1, s2, s3, s4, s5⟩ := hs.symm
  have hk5 : s5 = 0 ∨ s5 = 1 ∨ s5 = 2 := by have := Sp.kids_le k; rw [hsh] at this; exact this
  generalize hn : (⟨k, f, t, u, x, a, b⟩ : Sp.Node) = n at *
  have hnk : n.kind = k := by rw [← hn]
  have hna : n.a = a := by rw [← hn]
  have hnb : n.b = b := by rw [← hn]
  have J2 : ∀ e2 w', Pure w4 w' → (e2 ≠ 0 → Sp.check L n = (0, 0, e2)) → (e2 = 0 → pe = 0 ∧ ((decide (s5 < 1) && a != 0) || (decide (s5 < 2) && b != 0)) = false ∧ Sp.fieldsErr ⟨s1, s2, s3, s4, s5⟩ n = 0) → m_term_Pool_check_j2 (some p) p2 p3 e2 w' K := by
    intro e2 w' E' hne heq
    have b2 := b2.pure E'
    have b3 := b3.pure E'
    have E5 := E4.trans E'
    have hP' := hP.pure E5
    unfold m_term_Pool_check_j2
    refine ⟨fun h => hK _ _ _ _ ⟨(hne (by simpa using h)).symm, E5⟩, fun h => ⟨_, b2.cell rfl, _, b2.cell rfl, ?_⟩⟩
    intro p4 w5 h5
    obtain ⟨hp0, hc0, hf0⟩ := heq (by simpa using h)
    have b4 := Box.of_new h5
    have E6 := E5.trans (Ext.new h5)
    have hP6 := hP.pure E6
    refine ⟨_, (b3.pure (Ext.new h5)).cell rfl, _, run_cut2 p4 s5 w5 hk5, ?_⟩
    -- the kids
    have hks : Sp.kidsOf n = [a, b].take s5.toNat := by simp [Sp.kidsOf, hnk, hsh, hna, hnb]
    have hlen : (Sp.kidsOf n).length = s5.toNat := by rw [hks]; rcases hk5 with rfl | rfl | rfl <;> rfl
    have hget : ∀ j (hj : j < (Sp.kidsOf n).length), w5.cell? (p4.add (j * 1)) = some (.int .i64 (Sp.kidsOf n)[j]) := by
      intro j hj
      have hj2 : j < s5.toNat := by omega
      have : (Sp.kidsOf n)[j] = [a, b][j]'(by simp; omega) := by simp only [hks, List.getElem_take]
      rw [this, Nat.mul_one]
      refine b4.cell ?_
      have h2 : j = 0 ∨ j = 1 := by omega
      rcases h2 with rfl | rfl <;> rfl
    have hrest : Sp.check L n = if (Sp.kidsOf n).any (fun t => !Sp.inP L t) then (0, 0, 51) else if 1 + ((Sp.kidsOf n).map (Sp.sizeOf L)).sum > 4096 ∨ (Sp.kidsOf n).foldl (fun d t => max d (Sp.depthOf L t)) 0 + 1 > 64 then (0, 0, 52) else (1 + ((Sp.kidsOf n).map (Sp.sizeOf L)).sum, (Sp.kidsOf n).foldl (fun d t => max d (Sp.depthOf L t)) 0 + 1, 0) := by
      unfold Sp.check
      simp only [hnk, hsh, hna, hnb, ← hpe, hp0, hc0, hf0]
      simp
    generalize hkk : Sp.kidsOf n = ks at *
    have hl2 : ks.length ≤ 2 := by omega
    have hsum : ∀ j, 0 ≤ ((ks.take j).map (Sp.sizeOf L)).sum ∧ ((ks.take j).map (Sp.sizeOf L)).sum ≤ 4096 * (ks.take j).length := by
      intro j
      generalize ks.take j = l
      induction l with
      | nil => simp
      | cons y l ih => have := hok.sizeOf y; simp only [List.map_cons, List.sum_cons, List.length_cons]; omega
    have hdep : ∀ (l : List Int) (d : Int), 0 ≤ d → d ≤ 64 → 0 ≤ l.foldl (fun d t => max d (Sp.depthOf L t)) d ∧ l.foldl (fun d t => max d (Sp.depthOf L t)) d ≤ 64 := by
      intro l
      induction l with
      | nil => intro d h1 h2; exact ⟨h1, h2⟩
      | cons y l ih => intro d h1 h2; have := hok.depthOf y; exact ih (max d (Sp.depthOf L y)) (by omega) (by omega)
    refine ⟨fun sz d x w' => ∃ j : Nat, x = j ∧ j ≤ ks.length ∧ sz = 1 + ((ks.take j).map (Sp.sizeOf L)).sum ∧ d = (ks.take j).foldl (fun d t => max d (Sp.depthOf L t)) 0 ∧ (ks.take j).any (fun t => !Sp.inP L t) = false ∧ w5 = w', fun _ _ x _ => (2 - x).toNat, ⟨0, rfl, Nat.zero_le _, by simp, by simp, by simp, rfl⟩, ?_⟩
    rintro sz d _ _ ⟨j, rfl, hj, rfl, rfl, hin, rfl⟩
    unfold m_term_Pool_check_l3
    have hs1 := hsum j
    have hd1 := hdep (ks.take j) 0 (by omega) (by omega)
    have htl : (ks.take j).length ≤ 2 := by rw [List.length_take]; omega
    refine ⟨fun h => ?_, fun h => ?_⟩
    · have hlt : j < ks.length := by have h := of_decide_eq_true h; simp only at h; omega
      refine ⟨p4.add (j * 1), ⟨by omega, of_decide_eq_true h, p4, rfl, by simp⟩, ks[j], hget j hlt, ?_⟩
      have htk : ks.take (j + 1) = ks.take j ++ [ks[j]] := List.take_succ_eq_append_getElem hlt
      refine (c_in p _ w5 hP6).mono ?_
      rintro _ _ ⟨_, rfl, rfl, rfl⟩
      refine ⟨_, rfl, fun h => ?_, fun h => ?_⟩
      · refine hK _ _ _ _ ⟨?_, E6⟩
        rw [hrest, if_pos]
        exact List.any_eq_true.2 ⟨ks[j], List.getElem_mem hlt, h⟩
      · refine (c_Size p _ w5 hP6 hok).mono ?_
        rintro _ _ ⟨_, rfl, rfl, rfl⟩
        refine ⟨_, rfl, ?_⟩
        refine (c_Depth p _ w5 hP6 hok).mono ?_
        rintro _ _ ⟨_, rfl, rfl, rfl⟩
        refine ⟨_, rfl, _, run_max_int2 _ _ _ _ _ _ _, ⟨j + 1, ?_, hlt, ?_, ?_, ?_, rfl⟩, ?_⟩
        · rw [i64 (by omega) (by omega)]; omega
        · have := hok.sizeOf ks[j]
          rw [i64 (by omega) (by omega), htk, List.map_append, List.sum_append]; simp only [List.map_cons, List.map_nil, List.sum_cons, List.sum_nil]; omega
        · rw [htk, List.foldl_append]; simp only [List.foldl_cons, List.foldl_nil]; split <;> omega
        · rw [htk, List.any_append, hin]; simpa using h
        · show (2 - IntKind.i64.wrap ((j : Int) + 1)).toNat < (2 - (j : Int)).toNat
          rw [i64 (by omega) (by omega)]; omega
    · have hge : j = ks.length := by have h := of_decide_eq_false h; simp only at h; omega
      subst hge
      rw [List.take_length] at hs1 hd1 hin ⊢
      have hlt : (ks.length : Int) ≤ 2 := by omega
      refine ⟨fun h => hK _ _ _ _ ⟨?_, E6⟩, fun h => ?_⟩
      · rw [hrest, hin, if_neg (by simp), if_pos (.inl (by simpa using h))]
      · rw [i64 (by omega) (by omega)]
        refine ⟨fun h' => hK _ _ _ _ ⟨?_, E6⟩, fun h' => hK _ _ _ _ ⟨?_, E6⟩⟩
        · rw [hrest, hin, if_neg (by simp), if_pos (.inr (by simpa using h'))]
        · rw [hrest, hin, if_neg (by simp), if_neg (by simp at h h'; omega)]
  have J1 : ∀ e1, (e1 ≠ 0 → Sp.check L n = (0, 0, e1)) → (e1 = 0 → pe = 0 ∧ ((decide (s5 < 1) && a != 0) || (decide (s5 < 2) && b != 0)) = false) → m_term_Pool_check_j1 (some p) p2 p3 e1 w4 K := by
    intro e1 hne heq
    unfold m_term_Pool_check_j1
    refine ⟨fun h => ⟨_, _, _, _, _, b3.row, _, _, _, _, _, _, _, b2.row, ?_⟩, fun h => J2 _ _ (Ext.refl _) hne (fun e => by rw [e] at h; cases h)⟩
    obtain ⟨hp0, hc0⟩ := heq (by simpa using h)
    refine (c_fields _ _ _ _ _ _ _ _ _ _ _ _ _).mono ?_
    rintro _ w9 ⟨_, rfl, rfl, E9⟩
    rw [hn]
    refine ⟨_, rfl, J2 _ _ E9 (fun hf => ?_) (fun hf => ⟨hp0, hc0, hf⟩)⟩
    unfold Sp.check
    simp only [hnk, hsh, hna, hnb, ← hpe, hp0, hc0]
    simp [hf]
  have J53 : pe = 0 → ((decide (s5 < 1) && a != 0) || (decide (s5 < 2) && b != 0)) = true → m_term_Pool_check_j1 (some p) p2 p3 53 w4 K := fun hp0 hc => J1 53 (fun _ => by
    unfold Sp.check
    simp only [hnk, hsh, hna, hnb, ← hpe, hp0, hc]
    simp) (fun e => by cases e)
  have Jpe : pe ≠ 0 → m_term_Pool_check_j1 (some p) p2 p3 pe w4 K := fun hp => J1 pe (fun _ => by
    unfold Sp.check
    simp only [← hpe]
    rw [if_pos hp]) (fun e => absurd e hp)
  have J5 : ∀ x2 x3, x2 = (decide (s5 < 1) && a != 0) → x3 = (decide (s5 < 2) && b != 0) → m_term_Pool_check_j5 (some p) p2 pe p3 x2 x3 w4 K := by
    intro x2 x3 h2 h3
    unfold m_term_Pool_check_j5
    refine ⟨fun h => ⟨fun hx => J53 (by simpa using h) (by rw [← h2, hx]; rfl), fun hx => ⟨fun hy => J53 (by simpa using h) (by rw [← h2, ← h3, hy]; simp), fun hy => J1 pe (fun e => absurd (by simpa using h) e) (fun e => ⟨e, by rw [← h2, ← h3, hx, hy]; rfl⟩)⟩⟩, fun h => Jpe (by simpa using h)⟩
  have J4 : ∀ x2, x2 = (decide (s5 < 1) && a != 0) → m_term_Pool_check_j4 (some p) p2 pe p3 x2 w4 K := by
    intro x2 h2
    unfold m_term_Pool_check_j4
    refine ⟨fun h => ⟨fun hx => J53 (by simpa using h) (by rw [← h2, hx]; rfl), fun hx => ⟨_, b3.cell rfl, fun h5 => ⟨_, b2.cell rfl, J5 _ _ h2 (by rw [h5]; rfl)⟩, fun h5 => J5 _ _ h2 (by rw [h5]; rfl)⟩⟩, fun h => Jpe (by simpa using h)⟩
  exact ⟨fun h => ⟨_, b3.cell rfl, fun h5 => ⟨_, b2.cell rfl, J4 _ (by rw [h5]; rfl)⟩, fun h5 => J4 _ (by rw [h5]; rfl)⟩, fun h => Jpe (by simpa using h)⟩
end Go.Proofs
