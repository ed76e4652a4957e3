/-
  escrowlaw07.WireNil returns true for every term and all bytes, and what came in reads as before.
  No condition.
-/
import Derived.Test.YtcldldjildmdlaaRows
import Derived.Test.YtcldldjildmdlaaPa3
open Go.SE
namespace Go.Proofs.Ytcldldjildmdlaa
open Go.ChangeShapes Go.WideShapes Go.ChangeAt Go.RowKit

set_option maxRecDepth 100000 in
theorem wireNil_lifted (os : Os) (started : os.Started) (H : Type) (enc : TypeId × Value → H) :
    ReturnsInHanded {} Try.checked os 4 .any (Rows.wireNilSpec.pre6 enc Try.prog Try.f4 [] false) (Rows.wireNilSpec.post enc Try.prog Try.f4 false true false false) := by
  refine law_lifted (C := Try.checked) (by kernel_rfl) rfl (fun ds h => ?_) (by kernel_rfl) Try.underlying4 (by kernel_rfl) (by kernel_rfl) started (by kernel_rfl) Try.func4
    (ChangeSpec.witness6 (enc := enc) (C := Try.checked) false ⟨#[], #[.int .i64 0, .slice none 0 0], []⟩ 8 (by kernel_rfl) (by kernel_rfl) (by kernel_rfl) (by kernel_rfl)) ?_
  · match ds, h with
    | [_, _], _ => rfl
  intro W base args ds p hval hA hlt
  rw [Try.params4] at hA hval
  obtain ⟨v0, v1, d0, d1, p0, p1, rfl, rfl, rfl, h0, h1⟩ := trodAll_two hA
  obtain ⟨t, rfl⟩ := okWide_int Try.underlying32 (hval 0 _ v0 rfl rfl)
  obtain ⟨s, bs, rfl, hT, hz⟩ := bytes_of_trod Try.underlying44 Try.underlying5 (by kernel_rfl) h1 (okWide_sl Try.underlying44 (hval 1 _ v1 rfl rfl))
  exact c_law07_WireNil t s W

theorem wireNil_holds : Rows.WireNilSaid :=
  OpenClaim.holds_of_wide 4 Try.f4 rfl rfl rfl rfl rfl rfl rfl ⟨rfl, rfl, rfl, rfl, rfl⟩ rfl rfl rfl rfl rfl (by kernel_rfl) Try.func4 (by kernel_rfl)
    (of_decide_eq_true (by kernel_rfl)) (by unfold Func.isWrapper; first | (rw [if_pos (by decide +kernel)]; kernel_rfl) | (rw [if_neg (by decide +kernel)]; exact ⟨rfl, rfl⟩))
    (fun os started H enc _ => wireNil_lifted os started H enc)
#print axioms wireNil_holds
end Go.Proofs.Ytcldldjildmdlaa
