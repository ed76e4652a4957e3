/- Contracts: escrow/term, shapes of kinds, a node's own error. -/
import Derived.Test.YtakogcapgbilaaaCTermA
import Derived.KernelRfl
open Go Go.SE
namespace Go.Proofs
attribute [local irreducible] Calls

def shapesT : Array Value := #[.bool false, .bool false, .bool false, .bool false, .int .i64 0, .bool true, .bool false, .bool false, .bool false, .int .i64 0, .bool false, .bool false, .bool true, .bool false, .int .i64 0, .bool false, .bool false, .bool false, .bool true, .int .i64 0, .bool false, .bool false, .bool false, .bool false, .int .i64 2, .bool false, .bool false, .bool false, .bool false, .int .i64 1, .bool true, .bool false, .bool false, .bool false, .int .i64 0, .bool true, .bool false, .bool false, .bool false, .int .i64 1, .bool true, .bool true, .bool false, .bool false, .int .i64 1, .bool true, .bool true, .bool false, .bool false, .int .i64 1]

theorem c_shapes (w : World) : Calls Try.prog 193 #[] w (fun e w' => ∃ r, e = .returned (.agg r) ∧ (r = shapesT ∧ Pure w w')) := by
  refine w_term_shapes w (fun r w' => r = shapesT ∧ Pure w w') ?_
  unfold m_term_shapes
  intro p1 w1 h1
  have E1 : Pure w w1 := Ext.new h1
  have hp := New.own (Ext.refl w) h1
  have b1 := Box.of_newA h1
  clear h1
  refine bx 50 b1 (by kernel_rfl) (by kernel_rfl) (fun w' b E => ?_)
  refine ⟨shapesT, ⟨by kernel_rfl, b.row_eq (by kernel_rfl)⟩, rfl, E1.own hp E⟩

theorem c_shapeOf (k : Int) (w : World) : Calls Try.prog 148 #[.int .i64 k] w (fun e w' => ∃ r1 : Bool, ∃ r2 : Bool, ∃ r3 : Bool, ∃ r4 : Bool, ∃ r5 : Int, ∃ r : Bool, e = .returned (.tuple #[.agg #[.bool r1, .bool r2, .bool r3, .bool r4, .int .i64 r5], .bool r]) ∧ (((⟨r1, r2, r3, r4, r5⟩ : Sp.Shape) = Sp.shapeOf k ∧ r = Sp.isKind k) ∧ Pure w w')) := by
  refine w_term_shapeOf k w (fun r1 r2 r3 r4 r5 r w' => ((⟨r1, r2, r3, r4, r5⟩ : Sp.Shape) = Sp.shapeOf k ∧ r = Sp.isKind k) ∧ Pure w w') ?_
  unfold m_term_shapeOf
  intro p1 w1 h1
  have E1 : Pure w w1 := Ext.new h1
  have b1 := Box.of_new h1
  have hp := New.own (Ext.refl w) h1
  refine ⟨fun h => bx 5 b1 rfl rfl (fun w' b E => ⟨_, _, _, _, _, b.row, ⟨?_, ?_⟩, E1.own hp E⟩), fun h => ⟨fun h2 => bx 5 b1 rfl rfl (fun w' b E => ⟨_, _, _, _, _, b.row, ⟨?_, ?_⟩, E1.own hp E⟩), fun h2 => ?_⟩⟩
  · have : k < 1 := by simpa using h
    simp only [Sp.shapeOf, Sp.noShape]; repeat rw [if_neg (by omega)]
  · have : k < 1 := by simpa using h
    simp [Sp.isKind]; omega
  · have : 9 < k := by simpa using h2
    simp only [Sp.shapeOf, Sp.noShape]; repeat rw [if_neg (by omega)]
  · have : 9 < k := by simpa using h2
    simp [Sp.isKind]; omega
  · have h3 : ¬ k < 1 := by simpa using h
    have h4 : ¬ 9 < k := by simpa using h2
    refine (c_shapes _).mono ?_
    rintro _ w4 ⟨_, rfl, rfl, E4⟩
    refine ⟨_, rfl, ?_⟩
    have b4 := b1.pure E4
    have E5 : Pure w w4 := E1.trans E4
    have hk : k = 1 ∨ k = 2 ∨ k = 3 ∨ k = 4 ∨ k = 5 ∨ k = 6 ∨ k = 7 ∨ k = 8 ∨ k = 9 := by omega
    rcases hk with rfl | rfl | rfl | rfl | rfl | rfl | rfl | rfl | rfl
    · exact ⟨true, false, false, false, 0, by kernel_rfl, bx 5 b4 rfl rfl (fun w' b E => ⟨_, _, _, _, _, b.row, ⟨by decide, by decide⟩, E5.own hp E⟩)⟩
    · exact ⟨false, false, true, false, 0, by kernel_rfl, bx 5 b4 rfl rfl (fun w' b E => ⟨_, _, _, _, _, b.row, ⟨by decide, by decide⟩, E5.own hp E⟩)⟩
    · exact ⟨false, false, false, true, 0, by kernel_rfl, bx 5 b4 rfl rfl (fun w' b E => ⟨_, _, _, _, _, b.row, ⟨by decide, by decide⟩, E5.own hp E⟩)⟩
    · exact ⟨false, false, false, false, 2, by kernel_rfl, bx 5 b4 rfl rfl (fun w' b E => ⟨_, _, _, _, _, b.row, ⟨by decide, by decide⟩, E5.own hp E⟩)⟩
    · exact ⟨false, false, false, false, 1, by kernel_rfl, bx 5 b4 rfl rfl (fun w' b E => ⟨_, _, _, _, _, b.row, ⟨by decide, by decide⟩, E5.own hp E⟩)⟩
    · exact ⟨true, false, false, false, 0, by kernel_rfl, bx 5 b4 rfl rfl (fun w' b E => ⟨_, _, _, _, _, b.row, ⟨by decide, by decide⟩, E5.own hp E⟩)⟩
    · exact ⟨true, false, false, false, 1, by kernel_rfl, bx 5 b4 rfl rfl (fun w' b E => ⟨_, _, _, _, _, b.row, ⟨by decide, by decide⟩, E5.own hp E⟩)⟩
    · exact ⟨true, true, false, false, 1, by kernel_rfl, bx 5 b4 rfl rfl (fun w' b E => ⟨_, _, _, _, _, b.row, ⟨by decide, by decide⟩, E5.own hp E⟩)⟩
    · exact ⟨true, true, false, false, 1, by kernel_rfl, bx 5 b4 rfl rfl (fun w' b E => ⟨_, _, _, _, _, b.row, ⟨by decide, by decide⟩, E5.own hp E⟩)⟩

theorem c_plain (k f t u : Int) (x : ByteArray) (a b : Int) (w : World) :
    Calls Try.prog 157 #[.agg #[.int .i64 k, .int .i64 f, .int .i64 t, .int .u64 u, .string x, .int .i64 a, .int .i64 b]] w
      (fun e w' => ∃ r1 : Bool, ∃ r2 : Bool, ∃ r3 : Bool, ∃ r4 : Bool, ∃ r5 : Int, ∃ r : Int, e = .returned (.tuple #[.agg #[.bool r1, .bool r2, .bool r3, .bool r4, .int .i64 r5], .int .i64 r]) ∧ (((⟨r1, r2, r3, r4, r5⟩ : Sp.Shape) = Sp.shapeOf k ∧ r = Sp.plainErr ⟨k, f, t, u, x, a, b⟩) ∧ Pure w w')) := by
  suffices key : ∀ K : Bool → Bool → Bool → Bool → Int → Int → World → Prop, (∀ r1 r2 r3 r4 r5 r w', ((⟨r1, r2, r3, r4, r5⟩ : Sp.Shape) = Sp.shapeOf k ∧ r = Sp.plainErr ⟨k, f, t, u, x, a, b⟩) ∧ Pure w w' → K r1 r2 r3 r4 r5 r w') → m_term_plain k f t u x a b w K from
    w_term_plain _ _ _ _ _ _ _ w _ (key _ (fun _ _ _ _ _ _ _ h => h))
  intro K hK
  unfold m_term_plain
  intro p1 w1 h1 p2 w2 h2
  have a1 := (Box.of_new h1).pure (Ext.new h2)
  have a2 := Box.of_new h2
  have E2 : Pure w w2 := (Ext.new h1).trans (Ext.new h2)
  have o2 := New.own (Ext.new h1 : Pure w w1) h2
  have n12 : p1.block ≠ p2.block := New.ne h2 (Box.of_new h1).blk
  refine ⟨_, a1.cell0, ?_⟩
  refine (c_shapeOf _ _).mono ?_
  rintro _ w3 ⟨s1, s2, s3, s4, s5, ok, rfl, ⟨hs, hok⟩, E3⟩
  refine ⟨_, _, _, _, _, _, rfl, ?_⟩
  intro p3 w4 h3
  have E4 : Pure w w4 := (E2.trans E3).trans (Ext.new h3)
  have o3 := New.own (E2.trans E3) h3
  have n13 : p1.block ≠ p3.block := New.ne h3 (a1.pure E3).blk
  have n23 : p2.block ≠ p3.block := New.ne h3 (a2.pure E3).blk
  refine bx 5 (Box.of_new h3) rfl rfl (fun w5 b3 E => ?_)
  have b1 := ((a1.pure E3).pure (Ext.new h3)).ext E n13
  have b2 := ((a2.pure E3).pure (Ext.new h3)).ext E n23
  have E5 := E4.own o3 E
  clear E E4 E3 E2 a1 a2 h1 h2 h3
  -- where the shape is stored as the result, and read
  have fin : ∀ v : Int, v = Sp.plainErr ⟨k, f, t, u, x, a, b⟩ → (∀ j, j < 5 → CanW w5 (p2.add j)) ∧ ∀ w', w' = storeRow w5 p2 [.bool s1, .bool s2, .bool s3, .bool s4, .int .i64 s5] →
      ∃ q1 : Bool, ∃ q2 : Bool, ∃ q3 : Bool, ∃ q4 : Bool, ∃ q5 : Int, Row w' p2 [.bool q1, .bool q2, .bool q3, .bool q4, .int .i64 q5] ∧ K q1 q2 q3 q4 q5 v w' := fun v hv =>
    bx 5 b2 rfl rfl (fun w' b E => ⟨_, _, _, _, _, b.row, hK _ _ _ _ _ _ _ ⟨⟨hs, hv⟩, E5.own o2 E⟩⟩)
  obtain ⟨e1, e2, e3, e4, e5⟩ : s1 = (Sp.shapeOf k).frm ∧ s2 = (Sp.shapeOf k).to ∧ s3 = (Sp.shapeOf k).num ∧ s4 = (Sp.shapeOf k).text ∧ s5 = (Sp.shapeOf k).kids := by rw [← hs]; simp
  have J3 : ∀ c : Bool, c = (!ok || (!s1 && f != 0) || (!s2 && t != 0) || (!s3 && u != 0)) → m_term_plain_j3 p1 p2 p3 c w5 K := by
    intro c hc
    unfold m_term_plain_j3
    refine ⟨fun h => ⟨_, _, _, _, _, b3.row, fin _ ?_⟩, fun h => ⟨_, b3.cell rfl, fun h4 => ⟨_, b1.cell rfl, fun h5 => ⟨_, _, _, _, _, b3.row, fin _ ?_⟩, fun h5 => ⟨_, _, _, _, _, b3.row, fin _ ?_⟩⟩, fun h4 => ⟨_, _, _, _, _, b3.row, fin _ ?_⟩⟩⟩
    · rw [h] at hc
      simp only [Sp.plainErr, ← e1, ← e2, ← e3, ← e4, ← hok, ← hc]; simp
    · rw [h] at hc
      simp only [Sp.plainErr, ← e1, ← e2, ← e3, ← e4, ← hok, ← hc]; simp at h4 h5; simp [h4, h5]
    · rw [h] at hc
      simp only [Sp.plainErr, ← e1, ← e2, ← e3, ← e4, ← hok, ← hc]; simp at h4 h5; simp [h4, h5]
    · rw [h] at hc
      simp only [Sp.plainErr, ← e1, ← e2, ← e3, ← e4, ← hok, ← hc]; simp at h4; simp [h4]
  have J2 : ∀ c : Bool, c = (!ok || (!s1 && f != 0) || (!s2 && t != 0)) → m_term_plain_j2 p1 p2 p3 c w5 K := by
    intro c hc
    have J4 : ∀ d : Bool, d = (!s3 && u != 0) → m_term_plain_j4 p1 p2 p3 c d w5 K := fun d hd => ⟨fun h => J3 _ (by rw [← hc, h]; rfl), fun h => J3 _ (by rw [← hc, h]; simpa using hd)⟩
    exact ⟨fun h => J3 _ (by rw [← hc, h]; rfl), fun h => ⟨_, b3.cell rfl, fun h4 => ⟨_, b1.cell rfl, J4 _ (by rw [h4]; rfl)⟩, fun h4 => J4 _ (by rw [h4]; rfl)⟩⟩
  have J1 : ∀ c : Bool, c = (!ok || (!s1 && f != 0)) → m_term_plain_j1 p1 p2 p3 c w5 K := by
    intro c hc
    have J5 : ∀ d : Bool, d = (!s2 && t != 0) → m_term_plain_j5 p1 p2 p3 c d w5 K := fun d hd => ⟨fun h => J2 _ (by rw [← hc, h]; rfl), fun h => J2 _ (by rw [← hc, h]; simpa using hd)⟩
    exact ⟨fun h => J2 _ (by rw [← hc, h]; rfl), fun h => ⟨_, b3.cell rfl, fun h4 => ⟨_, b1.cell rfl, J5 _ (by rw [h4]; rfl)⟩, fun h4 => J5 _ (by rw [h4]; rfl)⟩⟩
  have J6 : ∀ d : Bool, d = (!s1 && f != 0) → m_term_plain_j6 p1 p2 ok p3 d w5 K := fun d hd => ⟨fun h => J1 _ (by rw [h]; rfl), fun h => J1 _ (by rw [h]; simpa using hd)⟩
  exact ⟨fun h => J1 _ (by rw [h]; rfl), fun h => ⟨_, b3.cell0, fun h4 => ⟨_, b1.cell rfl, J6 _ (by rw [h4]; rfl)⟩, fun h4 => J6 _ (by rw [h4]; rfl)⟩⟩
end Go.Proofs
