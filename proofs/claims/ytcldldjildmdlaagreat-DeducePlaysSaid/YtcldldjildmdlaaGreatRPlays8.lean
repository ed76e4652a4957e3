/-
  escrowlaw08.DeducePlays returns true for every list of trees and every list of terms, and what came in reads as before.
  No condition.
-/
import Derived.Test.YtcldldjildmdlaaGreatRows
import Derived.Test.YtcldldjildmdlaaGreatPa5
open Go.SE
namespace Go.Proofs.YtcldldjildmdlaaGreat
open Go.ChangeShapes Go.WideShapes Go.ChangeAt Go.RowKit

set_option maxRecDepth 100000 in
theorem qY (os : Os) (started : os.Started) (H : Type) (enc : TypeId × Value → H) :
    ReturnsInHanded {} Tryz.checked os 4 .any (Rows.deducePlaysSpec.pre6 enc Tryz.prog Tryz.f4 [] false) (Rows.deducePlaysSpec.post enc Tryz.prog Tryz.f4 false true false false) := by
  refine jAO (C := Tryz.checked) (by kernel_rfl) rfl (fun ds h => ?_) (by kernel_rfl) Tryz.underlying4 (by kernel_rfl) (by kernel_rfl) started (by kernel_rfl) Tryz.func4
    (ChangeSpec.witness6 (enc := enc) (C := Tryz.checked) false ⟨#[], #[.slice none 0 0, .slice none 0 0], []⟩ 8 (by kernel_rfl) (by kernel_rfl) (by kernel_rfl) (by kernel_rfl)) ?_
  · match ds, h with
    | [_, _], _ => rfl
  intro W base args ds p hval hA hlt
  rw [Tryz.params4] at hA hval
  obtain ⟨v0, v1, d0, d1, p0, p1, rfl, rfl, rfl, h0, h1⟩ := trodAll_two hA
  obtain ⟨s, ts, rfl, hT⟩ := xQ jBL h0 (lS Tryz.underlying22 (hval 0 _ v0 rfl rfl))
  obtain ⟨a, n, c, rfl⟩ := lS Tryz.underlying52 (hval 1 _ v1 rfl rfl)
  obtain ⟨m, h1⟩ := h1
  obtain ⟨sg, given, e, hg⟩ := jDF h1
  rw [e]
  exact qO ts given s sg W hT (fun _ h => h) hg

theorem deducePlays_holds : Rows.DeducePlaysSaid :=
  OpenClaim.holds_of_wide 4 Tryz.f4 rfl rfl rfl rfl rfl rfl rfl ⟨rfl, rfl, rfl, rfl, rfl⟩ rfl rfl rfl rfl rfl (by kernel_rfl) Tryz.func4 (by kernel_rfl)
    (of_decide_eq_true (by kernel_rfl)) (by unfold Func.isWrapper; first | (rw [if_pos (by decide +kernel)]; kernel_rfl) | (rw [if_neg (by decide +kernel)]; exact ⟨rfl, rfl⟩))
    (fun os started H enc _ => qY os started H enc)
#print axioms deducePlays_holds
end Go.Proofs.YtcldldjildmdlaaGreat
