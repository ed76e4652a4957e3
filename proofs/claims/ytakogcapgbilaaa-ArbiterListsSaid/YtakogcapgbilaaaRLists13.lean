/-
  escrowlaw13.ArbiterLists returns true for every list of trees, and what came in reads as before.
  No condition.
-/
import Derived.Test.YtakogcapgbilaaaRows
import Derived.Test.YtakogcapgbilaaaPa6
open Go.SE
namespace Go.Proofs.Ytakogcapgbilaaa
open Go.ChangeShapes Go.WideShapes Go.ChangeAt Go.RowKit

set_option maxRecDepth 100000 in
theorem arbiterLists_lifted (os : Os) (started : os.Started) (H : Type) (enc : TypeId × Value → H) :
    ReturnsInHanded {} Try.checked os 3 .any (Rows.arbiterListsSpec.pre6 enc Try.prog Try.f3 [] false) (Rows.arbiterListsSpec.post enc Try.prog Try.f3 false true false false) := by
  refine law_lifted (C := Try.checked) (by kernel_rfl) rfl (fun ds h => ?_) (by kernel_rfl) Try.underlying4 (by kernel_rfl) (by kernel_rfl) started (by kernel_rfl) Try.func3
    (ChangeSpec.witness6 (enc := enc) (C := Try.checked) false ⟨#[], #[.slice none 0 0], []⟩ 8 (by kernel_rfl) (by kernel_rfl) (by kernel_rfl) (by kernel_rfl)) ?_
  · match ds, h with
    | [_], _ => rfl
  intro W base args ds p hval hA hlt
  rw [Try.params3] at hA hval
  obtain ⟨v0, d0, rfl, rfl, h0⟩ := trodAll_one hA
  obtain ⟨s, ts, rfl, hT⟩ := trees_of_trod treeTypes h0 (okWide_sl Try.underlying22 (hval 0 _ v0 rfl rfl))
  exact c_law13_ArbiterLists ts s W hT (fun _ h => h)

theorem arbiterLists_holds : Rows.ArbiterListsSaid :=
  OpenClaim.holds_of_wide 3 Try.f3 rfl rfl rfl rfl rfl rfl rfl ⟨rfl, rfl, rfl, rfl, rfl⟩ rfl rfl rfl rfl rfl (by kernel_rfl) Try.func3 (by kernel_rfl)
    (of_decide_eq_true (by kernel_rfl)) (by unfold Func.isWrapper; first | (rw [if_pos (by decide +kernel)]; kernel_rfl) | (rw [if_neg (by decide +kernel)]; exact ⟨rfl, rfl⟩))
    (fun os started H enc _ => arbiterLists_lifted os started H enc)
#print axioms arbiterLists_holds
end Go.Proofs.Ytakogcapgbilaaa
