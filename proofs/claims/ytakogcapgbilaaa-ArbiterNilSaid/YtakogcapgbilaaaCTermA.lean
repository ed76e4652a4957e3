/- Contracts: escrow/term, a node by itself. -/
import Derived.Test.YtakogcapgbilaaaGTerm
import Derived.Test.YtakogcapgbilaaaSeD
import Derived.Test.YtakogcapgbilaaaSpTerm
open Go Go.SE
namespace Go.Proofs
attribute [local irreducible] Calls

theorem c_isName (n : Int) (w : World) : Calls Try.prog 217 #[.int .i64 n] w (fun e w' => ∃ r, e = .returned (.bool r) ∧ (r = Sp.isName n ∧ w' = w)) := by
  refine w_term_isName n w (fun r w' => r = Sp.isName n ∧ w' = w) ?_
  unfold m_term_isName
  refine ⟨fun h => ⟨?_, rfl⟩, fun h => ⟨?_, rfl⟩⟩
  · have : 0 ≤ n := by simpa using h
    simp [Sp.isName, this]
  · have : ¬ 0 ≤ n := by simpa using h
    simp [Sp.isName, this]

theorem c_fields (s1 s2 s3 s4 : Bool) (s5 k f t u : Int) (x : ByteArray) (a b : Int) (w : World) :
    Calls Try.prog 158 #[.agg #[.bool s1, .bool s2, .bool s3, .bool s4, .int .i64 s5], .agg #[.int .i64 k, .int .i64 f, .int .i64 t, .int .u64 u, .string x, .int .i64 a, .int .i64 b]] w
      (fun e w' => ∃ r, e = .returned (.int .i64 r) ∧ (r = Sp.fieldsErr ⟨s1, s2, s3, s4, s5⟩ ⟨k, f, t, u, x, a, b⟩ ∧ Pure w w')) := by
  refine w_term_fields _ _ _ _ _ _ _ _ _ _ _ _ w (fun r w' => r = Sp.fieldsErr ⟨s1, s2, s3, s4, s5⟩ ⟨k, f, t, u, x, a, b⟩ ∧ Pure w w') ?_
  unfold m_term_fields
  intro p1 w1 h1 p2 w2 h2
  have b1 := (Box.of_new h1).pure (Ext.new h2)
  have b2 := Box.of_new h2
  have E : Pure w w2 := (Ext.new h1).trans (Ext.new h2)
  have J : ∀ c : Bool, c = (s1 && !Sp.isName f) → m_term_fields_j1 p1 p2 c w2 (fun r w' => r = Sp.fieldsErr ⟨s1, s2, s3, s4, s5⟩ ⟨k, f, t, u, x, a, b⟩ ∧ Pure w w') := by
    intro c hc
    unfold m_term_fields_j1
    refine ⟨fun h => ⟨?_, E⟩, fun h => ⟨_, b1.cell rfl, fun h' => ⟨_, b2.cell rfl, ?_⟩, fun h' => ⟨_, b2.cell rfl, fun h3 => ⟨?_, E⟩, fun h3 => ⟨?_, E⟩⟩⟩⟩
    · rw [hc] at h; simp [Sp.fieldsErr, h]
    · refine (c_isName _ _).mono ?_
      rintro _ _ ⟨r, rfl, rfl, rfl⟩
      rw [hc] at h
      refine ⟨_, rfl, fun h2 => ⟨?_, E⟩, fun h2 => ⟨_, b2.cell rfl, _, b2.cell rfl, fun h3 => ⟨?_, E⟩, fun h3 => ⟨_, b2.cell rfl, fun h4 => ⟨?_, E⟩, fun h4 => ⟨?_, E⟩⟩⟩⟩
      · simp [Sp.fieldsErr, h', h2]
      · simp [Sp.fieldsErr, h', h3]
      · simp only [Sp.fieldsErr, h, h', h3]; simp at h2 h4; simp [h2]; omega
      · simp only [Sp.fieldsErr, h, h', h3]; simp at h2 h4; simp [h2]; omega
    · rw [hc] at h; simp only [Sp.fieldsErr, h, h']; simp at h3; simp; omega
    · rw [hc] at h; simp only [Sp.fieldsErr, h, h']; simp at h3; simp; omega
  refine ⟨_, b1.cell0, fun h => ⟨_, b2.cell rfl, ?_⟩, fun h => J _ (by simp [h])⟩
  refine (c_isName _ _).mono ?_
  rintro _ _ ⟨r, rfl, rfl, rfl⟩
  exact ⟨_, rfl, J _ (by simp [h])⟩
end Go.Proofs
