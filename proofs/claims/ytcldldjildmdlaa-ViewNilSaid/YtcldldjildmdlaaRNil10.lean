/-
  escrowlaw10.ViewNil returns true.
  No condition.
-/
import Derived.Test.YtcldldjildmdlaaRows
import Derived.Test.YtcldldjildmdlaaPa5
open Go.SE
namespace Go.Proofs.Ytcldldjildmdlaa
open Go.ChangeShapes Go.WideShapes Go.ChangeAt Go.RowKit

set_option maxRecDepth 100000 in
theorem viewNil_lifted (os : Os) (started : os.Started) (H : Type) (enc : TypeId × Value → H) :
    ReturnsInHanded {} Try.checked os 8 .any (Rows.viewNilSpec.pre6 enc Try.prog Try.f8 [] false) (Rows.viewNilSpec.post enc Try.prog Try.f8 false true false false) := by
  refine law_lifted (C := Try.checked) (by kernel_rfl) rfl (fun ds h => ?_) (by kernel_rfl) Try.underlying4 (by kernel_rfl) (by kernel_rfl) started (by kernel_rfl) Try.func8
    (ChangeSpec.witness6 (enc := enc) (C := Try.checked) false ⟨#[], #[], []⟩ 8 (by kernel_rfl) (by kernel_rfl) (by kernel_rfl) (by kernel_rfl)) ?_
  · match ds, h with
    | [], _ => rfl
  intro W base args ds p hval hA hlt
  rw [Try.params8] at hA
  obtain ⟨h0, _, _⟩ := trodAll_nil hA
  have : args = #[] := by simpa using h0
  rw [this]
  exact c_law10_ViewNil W

theorem viewNil_holds : Rows.ViewNilSaid :=
  OpenClaim.holds_of_wide 8 Try.f8 rfl rfl rfl rfl rfl rfl rfl ⟨rfl, rfl, rfl, rfl, rfl⟩ rfl rfl rfl rfl rfl (by kernel_rfl) Try.func8 (by kernel_rfl)
    (of_decide_eq_true (by kernel_rfl)) (by unfold Func.isWrapper; first | (rw [if_pos (by decide +kernel)]; kernel_rfl) | (rw [if_neg (by decide +kernel)]; exact ⟨rfl, rfl⟩))
    (fun os started H enc _ => viewNil_lifted os started H enc)
#print axioms viewNil_holds
end Go.Proofs.Ytcldldjildmdlaa
