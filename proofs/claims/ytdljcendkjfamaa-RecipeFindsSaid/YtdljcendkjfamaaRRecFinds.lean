/-
  escrowlaw09.RecipeFinds returns true for every list of trees and every goal, and what came in reads as before.
  No condition.
-/
import Derived.Test.YtdljcendkjfamaaRows
import Derived.Test.YtdljcendkjfamaaPa4
open Go.SE
namespace Go.Proofs.Ytdljcendkjfamaa
open Go.ChangeShapes Go.WideShapes Go.ChangeAt Go.RowKit

set_option maxRecDepth 100000 in
theorem recipeFinds_lifted (os : Os) (started : os.Started) (H : Type) (enc : TypeId × Value → H) :
    ReturnsInHanded {} Try.checked os 7 .any (Rows.recipeFindsSpec.pre6 enc Try.prog Try.f7 [] false) (Rows.recipeFindsSpec.post enc Try.prog Try.f7 false true false false) := by
  refine law_lifted (C := Try.checked) (by kernel_rfl) rfl (fun ds h => ?_) (by kernel_rfl) Try.underlying4 (by kernel_rfl) (by kernel_rfl) started (by kernel_rfl) Try.func7
    (ChangeSpec.witness6 (enc := enc) (C := Try.checked) false ⟨#[], #[.slice none 0 0, .agg #[.int .i64 0, .int .i64 0, .int .i64 0, .int .u64 0, .string ⟨#[]⟩, .slice none 0 0]], []⟩ 8 (by kernel_rfl) (by kernel_rfl) (by kernel_rfl) (by kernel_rfl)) ?_
  · match ds, h with
    | [_, _], _ => rfl
  intro W base args ds p hval hA hlt
  rw [Try.params7] at hA hval
  obtain ⟨v0, v1, d0, d1, p0, p1, rfl, rfl, rfl, h0, h1⟩ := trodAll_two hA
  obtain ⟨s, ts, rfl, hT⟩ := trees_of_trod treeTypes h0 (okWide_sl Try.underlying22 (hval 0 _ v0 rfl rfl))
  obtain ⟨cs, rfl, hs, _⟩ := okWide_cells (ts := [3, 3, 3, 44, 9, 22]) Try.underlying46 (by kernel_rfl) (by kernel_rfl) (hval 1 _ v1 rfl rfl)
  obtain ⟨cs⟩ := cs
  obtain ⟨m, h1⟩ := h1
  replace h1 : DataW.trod enc Try.prog W 0 (fun _ => true) true m 46 cs = some (d1, p1) := h1
  obtain ⟨goal, sg, rfl, hg⟩ := (trod_tree treeTypes m).2 cs _ h1
  exact c_law09_RecipeFinds ts goal s sg W hT (fun _ h => h) (hg.lt.mono (fun b hb => hb.2)) (fun _ h => h)

theorem recipeFinds_holds : Rows.RecipeFindsSaid :=
  OpenClaim.holds_of_wide 7 Try.f7 rfl rfl rfl rfl rfl rfl rfl ⟨rfl, rfl, rfl, rfl, rfl⟩ rfl rfl rfl rfl rfl (by kernel_rfl) Try.func7 (by kernel_rfl)
    (of_decide_eq_true (by kernel_rfl)) (by unfold Func.isWrapper; first | (rw [if_pos (by decide +kernel)]; kernel_rfl) | (rw [if_neg (by decide +kernel)]; exact ⟨rfl, rfl⟩))
    (fun os started H enc _ => recipeFinds_lifted os started H enc)
#print axioms recipeFinds_holds
end Go.Proofs.Ytdljcendkjfamaa
