/-
  escrowlaw12.EvidenceNil returns true.
  No condition.
-/
import Derived.Test.YtodiipjdnnnieaaGreatRows
import Derived.Test.YtodiipjdnnnieaaGreatPa5
open Go.SE
namespace Go.Proofs.YtodiipjdnnnieaaGreat
open Go.ChangeShapes Go.WideShapes Go.ChangeAt Go.RowKit

set_option maxRecDepth 100000 in
theorem yB (os : Os) (started : os.Started) (H : Type) (enc : TypeId × Value → H) :
    ReturnsInHanded {} Tryz.checked os 5 .any (Rows.evidenceNilSpec.pre6 enc Tryz.prog Tryz.f5 [] false) (Rows.evidenceNilSpec.post enc Tryz.prog Tryz.f5 false true false false) := by
  refine jAV (C := Tryz.checked) (by kernel_rfl) rfl (fun ds h => ?_) (by kernel_rfl) Tryz.underlying4 (by kernel_rfl) (by kernel_rfl) started (by kernel_rfl) Tryz.func5
    (ChangeSpec.witness6 (enc := enc) (C := Tryz.checked) false ⟨#[], #[], []⟩ 8 (by kernel_rfl) (by kernel_rfl) (by kernel_rfl) (by kernel_rfl)) ?_
  · match ds, h with
    | [], _ => rfl
  intro W base args ds p hval hA hlt
  rw [Tryz.params5] at hA
  obtain ⟨h0, _, _⟩ := trodAll_nil hA
  have : args = #[] := by simpa using h0
  rw [this]
  exact qP W

theorem evidenceNil_holds : Rows.EvidenceNilSaid :=
  OpenClaim.holds_of_wide 5 Tryz.f5 rfl rfl rfl rfl rfl rfl rfl ⟨rfl, rfl, rfl, rfl, rfl⟩ rfl rfl rfl rfl rfl (by kernel_rfl) Tryz.func5 (by kernel_rfl)
    (of_decide_eq_true (by kernel_rfl)) (by unfold Func.isWrapper; first | (rw [if_pos (by decide +kernel)]; kernel_rfl) | (rw [if_neg (by decide +kernel)]; exact ⟨rfl, rfl⟩))
    (fun os started H enc _ => yB os started H enc)
#print axioms evidenceNil_holds
end Go.Proofs.YtodiipjdnnnieaaGreat
