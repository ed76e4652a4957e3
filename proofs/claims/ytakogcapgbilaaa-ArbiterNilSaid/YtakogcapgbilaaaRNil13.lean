/-
  escrowlaw13.ArbiterNil returns true for every claim and every term, and what came in reads as before.
  No condition.
-/
import Derived.Test.YtakogcapgbilaaaRows
import Derived.Test.YtakogcapgbilaaaCNil13
import Derived.Test.YtakogcapgbilaaaSeR
open Go.SE
namespace Go.Proofs.Ytakogcapgbilaaa
open Go.ChangeShapes Go.WideShapes Go.ChangeAt Go.RowKit

set_option maxRecDepth 100000 in
theorem arbiterNil_lifted (os : Os) (started : os.Started) (H : Type) (enc : TypeId × Value → H) :
    ReturnsInHanded {} Try.checked os 6 .any (Rows.arbiterNilSpec.pre6 enc Try.prog Try.f6 [] false) (Rows.arbiterNilSpec.post enc Try.prog Try.f6 false true false false) := by
  refine law_lifted (C := Try.checked) (by kernel_rfl) rfl (fun ds h => ?_) (by kernel_rfl) Try.underlying4 (by kernel_rfl) (by kernel_rfl) started (by kernel_rfl) Try.func6
    (ChangeSpec.witness6 (enc := enc) (C := Try.checked) false ⟨#[], #[.agg #[.int .i64 0, .int .u64 0, .string ⟨#[]⟩], .int .i64 0], []⟩ 8 (by kernel_rfl) (by kernel_rfl) (by kernel_rfl) (by kernel_rfl)) ?_
  · match ds, h with
    | [_, _], _ => rfl
  intro W base args ds p hval hA hlt
  rw [Try.params6] at hA hval
  obtain ⟨v0, v1, d0, d1, p0, p1, rfl, rfl, rfl, h0, h1⟩ := trodAll_two hA
  obtain ⟨cs, rfl, hs, hc⟩ := okWide_cells (ts := [3, 38, 9]) Try.underlying40 (by kernel_rfl) (by kernel_rfl) (hval 0 _ v0 rfl rfl)
  obtain ⟨l⟩ := cs
  match l, hs, hc with
  | [a, b, c], _, hc =>
    obtain ⟨who, rfl⟩ := cell_okInt Try.underlying3 (hc 0 _ a rfl rfl)
    obtain ⟨n, rfl⟩ := cell_okInt Try.underlying38 (hc 1 _ b rfl rfl)
    obtain ⟨x, rfl⟩ := cell_okString Try.underlying9 (hc 2 _ c rfl rfl)
    obtain ⟨t, rfl⟩ := okWide_int Try.underlying41 (hval 1 _ v1 rfl rfl)
    exact c_law13_ArbiterNil who n x t W

theorem arbiterNil_holds : Rows.ArbiterNilSaid :=
  OpenClaim.holds_of_wide 6 Try.f6 rfl rfl rfl rfl rfl rfl rfl ⟨rfl, rfl, rfl, rfl, rfl⟩ rfl rfl rfl rfl rfl (by kernel_rfl) Try.func6 (by kernel_rfl)
    (of_decide_eq_true (by kernel_rfl)) (by unfold Func.isWrapper; first | (rw [if_pos (by decide +kernel)]; kernel_rfl) | (rw [if_neg (by decide +kernel)]; exact ⟨rfl, rfl⟩))
    (fun os started H enc _ => arbiterNil_lifted os started H enc)
#print axioms arbiterNil_holds
end Go.Proofs.Ytakogcapgbilaaa
