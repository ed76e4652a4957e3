/-
  escrowlaw08.DeduceMore returns true for every list of trees, every list of given terms and one more, and what came in reads as before.
  No condition.
-/
import Derived.Test.YtakogcapgbilaaaRows
import Derived.Test.YtakogcapgbilaaaPa4
open Go.SE
namespace Go.Proofs.Ytakogcapgbilaaa
open Go.ChangeShapes Go.WideShapes Go.ChangeAt Go.RowKit

set_option maxRecDepth 100000 in
theorem deduceMore_lifted (os : Os) (started : os.Started) (H : Type) (enc : TypeId × Value → H) :
    ReturnsInHanded {} Try.checked os 9 .any (Rows.deduceMoreSpec.pre6 enc Try.prog Try.f9 [] false) (Rows.deduceMoreSpec.post enc Try.prog Try.f9 false true false false) := by
  refine law_lifted (C := Try.checked) (by kernel_rfl) rfl (fun ds h => ?_) (by kernel_rfl) Try.underlying4 (by kernel_rfl) (by kernel_rfl) started (by kernel_rfl) Try.func9
    (ChangeSpec.witness6 (enc := enc) (C := Try.checked) false ⟨#[], #[.slice none 0 0, .slice none 0 0, .int .i64 0], []⟩ 8 (by kernel_rfl) (by kernel_rfl) (by kernel_rfl) (by kernel_rfl)) ?_
  · match ds, h with
    | [_, _, _], _ => rfl
  intro W base args ds p hval hA hlt
  rw [Try.params9] at hA hval
  obtain ⟨v0, v1, v2, d0, d1, d2, p0, p1, p2, rfl, rfl, rfl, h0, h1, h2⟩ := trodAll_three hA
  obtain ⟨s, ts, rfl, hT⟩ := trees_of_trod treeTypes h0 (okWide_sl Try.underlying22 (hval 0 _ v0 rfl rfl))
  obtain ⟨a, n, c, rfl⟩ := okWide_sl Try.underlying26 (hval 1 _ v1 rfl rfl)
  obtain ⟨m, h1⟩ := h1
  obtain ⟨sg, given, e, hg⟩ := terms_in h1
  rw [e]
  obtain ⟨more, rfl⟩ := okWide_int Try.underlying41 (hval 2 _ v2 rfl rfl)
  exact c_law08_DeduceMore ts given more s sg W hT (fun _ h => h) hg (fun _ h => h)

theorem deduceMore_holds : Rows.DeduceMoreSaid :=
  OpenClaim.holds_of_wide 9 Try.f9 rfl rfl rfl rfl rfl rfl rfl ⟨rfl, rfl, rfl, rfl, rfl⟩ rfl rfl rfl rfl rfl (by kernel_rfl) Try.func9 (by kernel_rfl)
    (of_decide_eq_true (by kernel_rfl)) (by unfold Func.isWrapper; first | (rw [if_pos (by decide +kernel)]; kernel_rfl) | (rw [if_neg (by decide +kernel)]; exact ⟨rfl, rfl⟩))
    (fun os started H enc _ => deduceMore_lifted os started H enc)
#print axioms deduceMore_holds
end Go.Proofs.Ytakogcapgbilaaa
