/-
  escrowlaw10.ViewFrames returns true for every trees, every three lists of terms and every observer, and what came in reads as before.
  No condition.
-/
import Derived.Test.YtagjojnfofkiaaaRows
import Derived.Test.YtagjojnfofkiaaaPa7
open Go.SE
namespace Go.Proofs.Ytagjojnfofkiaaa
open Go.ChangeShapes Go.WideShapes Go.ChangeAt Go.RowKit

set_option maxRecDepth 100000 in
theorem viewFrames_lifted (os : Os) (started : os.Started) (H : Type) (enc : TypeId × Value → H) :
    ReturnsInHanded {} Try.checked os 6 .any (Rows.viewFramesSpec.pre6 enc Try.prog Try.f6 [] false) (Rows.viewFramesSpec.post enc Try.prog Try.f6 false true false false) := by
  refine law_lifted (C := Try.checked) (by kernel_rfl) rfl (fun ds h => ?_) (by kernel_rfl) Try.underlying4 (by kernel_rfl) (by kernel_rfl) started (by kernel_rfl) Try.func6
    (ChangeSpec.witness6 (enc := enc) (C := Try.checked) false ⟨#[], #[.agg #[.slice none 0 0, .slice none 0 0, .slice none 0 0, .slice none 0 0, .int .i64 0]], []⟩ 8 (by kernel_rfl) (by kernel_rfl) (by kernel_rfl) (by kernel_rfl)) ?_
  · match ds, h with
    | [_], _ => rfl
  intro W base args ds p hval hA hlt
  rw [Try.params6] at hA hval
  obtain ⟨v0, d0, rfl, rfl, h0⟩ := trodAll_one hA
  obtain ⟨s, sl, sm, sn, ts, l, m, n, who, rfl, hT, hl, hm, hn, _⟩ := lists_in h0 (hval 0 _ v0 rfl rfl)
  exact c_law10_ViewFrames ts s sl sm sn l m n who W hT (fun _ h => h) hl hm hn

theorem viewFrames_holds : Rows.ViewFramesSaid :=
  OpenClaim.holds_of_wide 6 Try.f6 rfl rfl rfl rfl rfl rfl rfl ⟨rfl, rfl, rfl, rfl, rfl⟩ rfl rfl rfl rfl rfl (by kernel_rfl) Try.func6 (by kernel_rfl)
    (of_decide_eq_true (by kernel_rfl)) (by unfold Func.isWrapper; first | (rw [if_pos (by decide +kernel)]; kernel_rfl) | (rw [if_neg (by decide +kernel)]; exact ⟨rfl, rfl⟩))
    (fun os started H enc _ => viewFrames_lifted os started H enc)
#print axioms viewFrames_holds
end Go.Proofs.Ytagjojnfofkiaaa
