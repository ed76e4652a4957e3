/-
  escrowlaw09.RecipeTrims returns true for every list of trees and every list of operations, and what came in reads as before.
  No condition.
-/
import Derived.Test.YtkafbiknboamlaaRows
import Derived.Test.YtkafbiknboamlaaPa3
open Go.SE
namespace Go.Proofs.Ytkafbiknboamlaa
open Go.ChangeShapes Go.WideShapes Go.ChangeAt Go.RowKit

set_option maxRecDepth 100000 in
theorem yM (os : Os) (started : os.Started) (H : Type) (enc : TypeId × Value → H) :
    ReturnsInHanded {} Try.checked os 3 .any (Rows.recipeTrimsSpec.pre6 enc Try.prog Try.f3 [] false) (Rows.recipeTrimsSpec.post enc Try.prog Try.f3 false true false false) := by
  refine jCX (C := Try.checked) (by kernel_rfl) rfl (fun ds h => ?_) (by kernel_rfl) Try.underlying4 (by kernel_rfl) (by kernel_rfl) started (by kernel_rfl) Try.func3
    (ChangeSpec.witness6 (enc := enc) (C := Try.checked) false ⟨#[], #[.slice none 0 0, .slice none 0 0], []⟩ 8 (by kernel_rfl) (by kernel_rfl) (by kernel_rfl) (by kernel_rfl)) ?_
  · match ds, h with
    | [_, _], _ => rfl
  intro W base args ds p hval hA hlt
  rw [Try.params3] at hA hval
  obtain ⟨v0, v1, d0, d1, p0, p1, rfl, rfl, rfl, h0, h1⟩ := trodAll_two hA
  obtain ⟨s, ts, rfl, hT⟩ := lX jDR h0 (tQ Try.underlying22 (hval 0 _ v0 rfl rfl))
  obtain ⟨a, n, c, rfl⟩ := tQ Try.underlying23 (hval 1 _ v1 rfl rfl)
  obtain ⟨m, h1⟩ := h1
  obtain ⟨so, ops, e, ho⟩ := ops_in h1
  rw [e]
  exact yG ts ops s so W hT (fun _ h => h) ho (fun _ h => h)

theorem recipeTrims_holds : Rows.RecipeTrimsSaid :=
  OpenClaim.holds_of_wide 3 Try.f3 rfl rfl rfl rfl rfl rfl rfl ⟨rfl, rfl, rfl, rfl, rfl⟩ rfl rfl rfl rfl rfl (by kernel_rfl) Try.func3 (by kernel_rfl)
    (of_decide_eq_true (by kernel_rfl)) (by unfold Func.isWrapper; first | (rw [if_pos (by decide +kernel)]; kernel_rfl) | (rw [if_neg (by decide +kernel)]; exact ⟨rfl, rfl⟩))
    (fun os started H enc _ => yM os started H enc)
#print axioms recipeTrims_holds
end Go.Proofs.Ytkafbiknboamlaa
