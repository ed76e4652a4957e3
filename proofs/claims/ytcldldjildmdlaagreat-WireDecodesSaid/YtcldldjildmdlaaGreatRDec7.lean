/-
  escrowlaw07.WireDecodes returns true for every list of trees and all bytes, and what came in reads as before.
  No condition.
-/
import Derived.Test.YtcldldjildmdlaaGreatRows
import Derived.Test.YtcldldjildmdlaaGreatPa6
open Go.SE
namespace Go.Proofs.YtcldldjildmdlaaGreat
open Go.ChangeShapes Go.WideShapes Go.ChangeAt Go.RowKit

set_option maxRecDepth 100000 in
theorem wireDecodes_lifted (os : Os) (started : os.Started) (H : Type) (enc : TypeId × Value → H) :
    ReturnsInHanded {} Tryz.checked os 3 .any (Rows.wireDecodesSpec.pre6 enc Tryz.prog Tryz.f3 [] false) (Rows.wireDecodesSpec.post enc Tryz.prog Tryz.f3 false true false false) := by
  refine law_lifted (C := Tryz.checked) (by kernel_rfl) rfl (fun ds h => ?_) (by kernel_rfl) Tryz.underlying4 (by kernel_rfl) (by kernel_rfl) started (by kernel_rfl) Tryz.func3
    (ChangeSpec.witness6 (enc := enc) (C := Tryz.checked) false ⟨#[], #[.slice none 0 0, .slice none 0 0], []⟩ 8 (by kernel_rfl) (by kernel_rfl) (by kernel_rfl) (by kernel_rfl)) ?_
  · match ds, h with
    | [_, _], _ => rfl
  intro W base args ds p hval hA hlt
  rw [Tryz.params3] at hA hval
  obtain ⟨v0, v1, d0, d1, p0, p1, rfl, rfl, rfl, h0, h1⟩ := trodAll_two hA
  obtain ⟨s, ts, rfl, hT, hN⟩ := trees_of_trodN treeTypes h0 (okWide_sl Tryz.underlying22 (hval 0 _ v0 rfl rfl))
  obtain ⟨sb, bs, rfl, hB, _⟩ := bytes_of_trod Tryz.underlying23 Tryz.underlying5 (by kernel_rfl) h1 (okWide_sl Tryz.underlying23 (hval 1 _ v1 rfl rfl))
  exact c_law07_WireDecodes ts s sb bs W hT (fun _ h => h) hN hB

theorem wireDecodes_holds : Rows.WireDecodesSaid :=
  OpenClaim.holds_of_wide 3 Tryz.f3 rfl rfl rfl rfl rfl rfl rfl ⟨rfl, rfl, rfl, rfl, rfl⟩ rfl rfl rfl rfl rfl (by kernel_rfl) Tryz.func3 (by kernel_rfl)
    (of_decide_eq_true (by kernel_rfl)) (by unfold Func.isWrapper; first | (rw [if_pos (by decide +kernel)]; kernel_rfl) | (rw [if_neg (by decide +kernel)]; exact ⟨rfl, rfl⟩))
    (fun os started H enc _ => wireDecodes_lifted os started H enc)
#print axioms wireDecodes_holds
end Go.Proofs.YtcldldjildmdlaaGreat
