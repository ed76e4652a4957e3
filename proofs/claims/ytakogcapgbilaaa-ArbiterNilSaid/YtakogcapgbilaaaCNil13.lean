/- escrowlaw13.ArbiterNil: true, whatever comes. -/
import Derived.Test.YtakogcapgbilaaaCArbT
import Derived.Test.YtakogcapgbilaaaCLive13b
open Go Go.SE
namespace Go.Proofs
attribute [local irreducible] Calls
theorem zeros_judge (who c : Int) (x : ByteArray) : ∀ (n : Nat) (i : Int), Sp.judgeFrom who c x i (List.replicate n Sp.noLetter) = (false, 0, -1)
  | 0, _ => rfl
  | n + 1, i => by
    rw [List.replicate_succ, Sp.judgeFrom]
    have : Sp.bondsOf Sp.noLetter i = [] := rfl
    rw [this]
    exact zeros_judge who c x n (i + 1)
theorem c_law13_ArbiterNil (who c : Int) (x : ByteArray) (t : Int) (w0 : World) :
    Calls Try.prog 6 #[.agg #[.int .i64 who, .int .u64 c, .string x], .int .i64 t] w0 (fun e w' => ∃ r : Bool, e = .returned (.bool r) ∧ (r = true ∧ Pure w0 w')) := by
  refine w_law13_ArbiterNil _ _ _ _ w0 (fun r w' => r = true ∧ Pure w0 w') ?_
  unfold m_law13_ArbiterNil
  intro H1 w1 hs1 p2 w2 h2
  have E1 := hs1.first
  have E2 : Pure w0 w2 := E1.trans (Ext.new h2)
  have hR : ∀ w, Reads none (Sl.mk (some p2) 3 3) (List.replicate 3 Sp.noLetter) w := fun w => reads_nil _ 3 w rfl (by omega)
  have hl : (List.replicate 3 Sp.noLetter).length ≤ 1000 := by simp
  refine (c_arb_Judge none _ _ who c x w2 (hR w2) (by simp)).mono ?_
  rintro _ w3 ⟨b, y, i, rfl, hj, E3⟩
  rw [zeros_judge] at hj
  cases hj
  refine ⟨_, _, _, rfl, E3.keptP, Br.t rfl ?_⟩
  have E3 := E2.trans E3
  refine (c_arb_Bonds none _ _ w3 (hR w3) (by simp)).mono ?_
  rintro _ w4 ⟨s1, rfl, h4⟩
  refine ⟨_, rfl, h4.kept, ?_⟩
  have l4 : s1.len = 0 := h4.rows.len
  rw [l4]
  have E4 := E3.trans h4.pure
  unfold m_law13_ArbiterNil_j1
  refine Br.t rfl ?_
  refine (c_arb_Faults none _ _ w4 (hR w4) hl).mono ?_
  rintro _ w5 ⟨s2, rfl, h5⟩
  refine ⟨_, rfl, h5.kept, ?_⟩
  have l5 : s2.len = 0 := h5.rows.len
  rw [l5]
  have E5 := E4.trans h5.pure
  unfold m_law13_ArbiterNil_j2
  refine Br.t rfl ?_
  refine (c_arb_Void none _ _ c w5 (hR w5) (by simp)).mono ?_
  rintro _ w6 ⟨b, rfl, hb, E6⟩
  have hb : b = false := by rw [hb]; simp [Sp.voidFrom, Sp.noLetter, List.replicate]
  subst hb
  refine ⟨_, rfl, E6.keptP, ?_⟩
  have E6 := E5.trans E6
  unfold m_law13_ArbiterNil_j3
  refine Br.t rfl ?_
  refine (c_arb_Texts none _ _ who c w6 (hR w6) (by simp)).mono ?_
  rintro _ w7 ⟨s3, rfl, h7⟩
  refine ⟨_, rfl, h7.kept, ?_⟩
  have l7 : s3.len = 0 := h7.rows.len
  rw [l7]
  have E7 := E6.trans h7.pure
  unfold m_law13_ArbiterNil_j4
  refine Br.t rfl ?_
  refine (c_arb_Even none _ _ c x w7 (hR w7) (by simp)).mono ?_
  rintro _ w8 ⟨b, rfl, hb, E8⟩
  rw [zeros_judge, zeros_judge] at hb
  subst hb
  refine ⟨_, rfl, E8.keptP, ?_⟩
  have E8 := E7.trans E8
  unfold m_law13_ArbiterNil_j5
  refine Br.t rfl ?_
  refine (c_live13 w8).mono ?_
  rintro _ w9 ⟨_, rfl, rfl, E9⟩
  exact ⟨_, rfl, E9.keptP, rfl, E8.trans E9⟩
end Go.Proofs
