/-
  escrowlaw09.RecipeNil returns true for every list of operations and every term, and what came in reads as before.
  No condition.
-/
import Derived.Test.YtdljcendkjfamaaRows
import Derived.Test.YtdljcendkjfamaaPa3
open Go.SE
namespace Go.Proofs.Ytdljcendkjfamaa
open Go.ChangeShapes Go.WideShapes Go.ChangeAt Go.RowKit

set_option maxRecDepth 100000 in
theorem recipeNil_lifted (os : Os) (started : os.Started) (H : Type) (enc : TypeId × Value → H) :
    ReturnsInHanded {} Try.checked os 8 .any (Rows.recipeNilSpec.pre6 enc Try.prog Try.f8 [] false) (Rows.recipeNilSpec.post enc Try.prog Try.f8 false true false false) := by
  refine law_lifted (C := Try.checked) (by kernel_rfl) rfl (fun ds h => ?_) (by kernel_rfl) Try.underlying4 (by kernel_rfl) (by kernel_rfl) started (by kernel_rfl) Try.func8
    (ChangeSpec.witness6 (enc := enc) (C := Try.checked) false ⟨#[], #[.slice none 0 0, .int .i64 0], []⟩ 8 (by kernel_rfl) (by kernel_rfl) (by kernel_rfl) (by kernel_rfl)) ?_
  · match ds, h with
    | [_, _], _ => rfl
  intro W base args ds p hval hA hlt
  rw [Try.params8] at hA hval
  obtain ⟨v0, v1, d0, d1, p0, p1, rfl, rfl, rfl, h0, h1⟩ := trodAll_two hA
  obtain ⟨a, n, c, rfl⟩ := okWide_sl Try.underlying23 (hval 0 _ v0 rfl rfl)
  obtain ⟨m, h0⟩ := h0
  obtain ⟨so, ops, e, ho⟩ := ops_in h0
  obtain ⟨t, rfl⟩ := okWide_int Try.underlying38 (hval 1 _ v1 rfl rfl)
  rw [e]
  exact c_law09_RecipeNil ops so t W ho

theorem recipeNil_holds : Rows.RecipeNilSaid :=
  OpenClaim.holds_of_wide 8 Try.f8 rfl rfl rfl rfl rfl rfl rfl ⟨rfl, rfl, rfl, rfl, rfl⟩ rfl rfl rfl rfl rfl (by kernel_rfl) Try.func8 (by kernel_rfl)
    (of_decide_eq_true (by kernel_rfl)) (by unfold Func.isWrapper; first | (rw [if_pos (by decide +kernel)]; kernel_rfl) | (rw [if_neg (by decide +kernel)]; exact ⟨rfl, rfl⟩))
    (fun os started H enc _ => recipeNil_lifted os started H enc)
#print axioms recipeNil_holds
end Go.Proofs.Ytdljcendkjfamaa
