/-
  escrowlaw09.RecipeEvals returns true for every list of trees and every list of operations, and what came in reads as before.
  No condition.
-/
import Derived.Test.YtakogcapgbilaaaRows
import Derived.Test.YtakogcapgbilaaaPa5
open Go.SE
namespace Go.Proofs.Ytakogcapgbilaaa
open Go.ChangeShapes Go.WideShapes Go.ChangeAt Go.RowKit

set_option maxRecDepth 100000 in
theorem recipeEvals_lifted (os : Os) (started : os.Started) (H : Type) (enc : TypeId × Value → H) :
    ReturnsInHanded {} Try.checked os 12 .any (Rows.recipeEvalsSpec.pre6 enc Try.prog Try.f12 [] false) (Rows.recipeEvalsSpec.post enc Try.prog Try.f12 false true false false) := by
  refine law_lifted (C := Try.checked) (by kernel_rfl) rfl (fun ds h => ?_) (by kernel_rfl) Try.underlying4 (by kernel_rfl) (by kernel_rfl) started (by kernel_rfl) Try.func12
    (ChangeSpec.witness6 (enc := enc) (C := Try.checked) false ⟨#[], #[.slice none 0 0, .slice none 0 0], []⟩ 8 (by kernel_rfl) (by kernel_rfl) (by kernel_rfl) (by kernel_rfl)) ?_
  · match ds, h with
    | [_, _], _ => rfl
  intro W base args ds p hval hA hlt
  rw [Try.params12] at hA hval
  obtain ⟨v0, v1, d0, d1, p0, p1, rfl, rfl, rfl, h0, h1⟩ := trodAll_two hA
  obtain ⟨s, ts, rfl, hT⟩ := trees_of_trod treeTypes h0 (okWide_sl Try.underlying22 (hval 0 _ v0 rfl rfl))
  obtain ⟨a, n, c, rfl⟩ := okWide_sl Try.underlying98 (hval 1 _ v1 rfl rfl)
  obtain ⟨m, h1⟩ := h1
  obtain ⟨so, ops, e, ho⟩ := ops_in h1
  rw [e]
  exact c_law09_RecipeEvals ts ops s so W hT (fun _ h => h) ho (fun _ h => h)

theorem recipeEvals_holds : Rows.RecipeEvalsSaid :=
  OpenClaim.holds_of_wide 12 Try.f12 rfl rfl rfl rfl rfl rfl rfl ⟨rfl, rfl, rfl, rfl, rfl⟩ rfl rfl rfl rfl rfl (by kernel_rfl) Try.func12 (by kernel_rfl)
    (of_decide_eq_true (by kernel_rfl)) (by unfold Func.isWrapper; first | (rw [if_pos (by decide +kernel)]; kernel_rfl) | (rw [if_neg (by decide +kernel)]; exact ⟨rfl, rfl⟩))
    (fun os started H enc _ => recipeEvals_lifted os started H enc)
#print axioms recipeEvals_holds
end Go.Proofs.Ytakogcapgbilaaa
