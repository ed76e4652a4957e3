/-
  escrowlaw07.WireEncodes returns true for every list of trees and every term, and what came in reads as before.
  No condition.
-/
import Derived.Test.YtcldldjildmdlaaRows
import Derived.Test.YtcldldjildmdlaaPa5
open Go.SE
namespace Go.Proofs.Ytcldldjildmdlaa
open Go.ChangeShapes Go.WideShapes Go.ChangeAt Go.RowKit

set_option maxRecDepth 100000 in
theorem wireEncodes_lifted (os : Os) (started : os.Started) (H : Type) (enc : TypeId × Value → H) :
    ReturnsInHanded {} Try.checked os 6 .any (Rows.wireEncodesSpec.pre6 enc Try.prog Try.f6 [] false) (Rows.wireEncodesSpec.post enc Try.prog Try.f6 false true false false) := by
  refine law_lifted (C := Try.checked) (by kernel_rfl) rfl (fun ds h => ?_) (by kernel_rfl) Try.underlying4 (by kernel_rfl) (by kernel_rfl) started (by kernel_rfl) Try.func6
    (ChangeSpec.witness6 (enc := enc) (C := Try.checked) false ⟨#[], #[.slice none 0 0, .int .i64 0], []⟩ 8 (by kernel_rfl) (by kernel_rfl) (by kernel_rfl) (by kernel_rfl)) ?_
  · match ds, h with
    | [_, _], _ => rfl
  intro W base args ds p hval hA hlt
  rw [Try.params6] at hA hval
  obtain ⟨v0, v1, d0, d1, p0, p1, rfl, rfl, rfl, h0, h1⟩ := trodAll_two hA
  obtain ⟨s, ts, rfl, hT, hN⟩ := trees_of_trodN treeTypes h0 (okWide_sl Try.underlying22 (hval 0 _ v0 rfl rfl))
  obtain ⟨t, rfl⟩ := okWide_int Try.underlying32 (hval 1 _ v1 rfl rfl)
  exact c_law07_WireEncodes ts s t W hT (fun _ h => h) hN

theorem wireEncodes_holds : Rows.WireEncodesSaid :=
  OpenClaim.holds_of_wide 6 Try.f6 rfl rfl rfl rfl rfl rfl rfl ⟨rfl, rfl, rfl, rfl, rfl⟩ rfl rfl rfl rfl rfl (by kernel_rfl) Try.func6 (by kernel_rfl)
    (of_decide_eq_true (by kernel_rfl)) (by unfold Func.isWrapper; first | (rw [if_pos (by decide +kernel)]; kernel_rfl) | (rw [if_neg (by decide +kernel)]; exact ⟨rfl, rfl⟩))
    (fun os started H enc _ => wireEncodes_lifted os started H enc)
#print axioms wireEncodes_holds
end Go.Proofs.Ytcldldjildmdlaa
