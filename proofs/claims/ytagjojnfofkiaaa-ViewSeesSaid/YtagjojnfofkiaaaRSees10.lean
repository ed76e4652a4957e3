/-
  escrowlaw10.ViewSees returns true for every list of trees, every term and every observer, and what came in reads as before.
  No condition.
-/
import Derived.Test.YtagjojnfofkiaaaRows
import Derived.Test.YtagjojnfofkiaaaPa7
open Go.SE
namespace Go.Proofs.Ytagjojnfofkiaaa
open Go.ChangeShapes Go.WideShapes Go.ChangeAt Go.RowKit

set_option maxRecDepth 100000 in
theorem viewSees_lifted (os : Os) (started : os.Started) (H : Type) (enc : TypeId × Value → H) :
    ReturnsInHanded {} Try.checked os 5 .any (Rows.viewSeesSpec.pre6 enc Try.prog Try.f5 [] false) (Rows.viewSeesSpec.post enc Try.prog Try.f5 false true false false) := by
  refine law_lifted (C := Try.checked) (by kernel_rfl) rfl (fun ds h => ?_) (by kernel_rfl) Try.underlying4 (by kernel_rfl) (by kernel_rfl) started (by kernel_rfl) Try.func5
    (ChangeSpec.witness6 (enc := enc) (C := Try.checked) false ⟨#[], #[.slice none 0 0, .int .i64 0, .int .i64 0], []⟩ 8 (by kernel_rfl) (by kernel_rfl) (by kernel_rfl) (by kernel_rfl)) ?_
  · match ds, h with
    | [_, _, _], _ => rfl
  intro W base args ds p hval hA hlt
  rw [Try.params5] at hA hval
  obtain ⟨v0, v1, v2, d0, d1, d2, p0, p1, p2, rfl, rfl, rfl, h0, h1, h2⟩ := trodAll_three hA
  obtain ⟨s, ts, rfl, hT⟩ := trees_of_trod treeTypes h0 (okWide_sl Try.underlying22 (hval 0 _ v0 rfl rfl))
  obtain ⟨t, rfl⟩ := okWide_int Try.underlying23 (hval 1 _ v1 rfl rfl)
  obtain ⟨who, rfl⟩ := okWide_int Try.underlying3 (hval 2 _ v2 rfl rfl)
  exact c_law10_ViewSees ts s t who W hT (fun _ h => h)

theorem viewSees_holds : Rows.ViewSeesSaid :=
  OpenClaim.holds_of_wide 5 Try.f5 rfl rfl rfl rfl rfl rfl rfl ⟨rfl, rfl, rfl, rfl, rfl⟩ rfl rfl rfl rfl rfl (by kernel_rfl) Try.func5 (by kernel_rfl)
    (of_decide_eq_true (by kernel_rfl)) (by unfold Func.isWrapper; first | (rw [if_pos (by decide +kernel)]; kernel_rfl) | (rw [if_neg (by decide +kernel)]; exact ⟨rfl, rfl⟩))
    (fun os started H enc _ => viewSees_lifted os started H enc)
#print axioms viewSees_holds
end Go.Proofs.Ytagjojnfofkiaaa
