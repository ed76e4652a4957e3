/-
  escrowlaw13.ArbiterMore returns true for every two lists of trees and every claim, and what came in reads as before.
  No condition.
-/
import Derived.Test.YtakogcapgbilaaaRows
import Derived.Test.YtakogcapgbilaaaPa6
open Go.SE
namespace Go.Proofs.Ytakogcapgbilaaa
open Go.ChangeShapes Go.WideShapes Go.ChangeAt Go.RowKit

set_option maxRecDepth 100000 in
theorem arbiterMore_lifted (os : Os) (started : os.Started) (H : Type) (enc : TypeId × Value → H) :
    ReturnsInHanded {} Try.checked os 4 .any (Rows.arbiterMoreSpec.pre6 enc Try.prog Try.f4 [] false) (Rows.arbiterMoreSpec.post enc Try.prog Try.f4 false true false false) := by
  refine law_lifted (C := Try.checked) (by kernel_rfl) rfl (fun ds h => ?_) (by kernel_rfl) Try.underlying4 (by kernel_rfl) (by kernel_rfl) started (by kernel_rfl) Try.func4
    (ChangeSpec.witness6 (enc := enc) (C := Try.checked) false ⟨#[], #[.slice none 0 0, .slice none 0 0, .agg #[.int .i64 0, .int .u64 0, .string ⟨#[]⟩]], []⟩ 8 (by kernel_rfl) (by kernel_rfl) (by kernel_rfl) (by kernel_rfl)) ?_
  · match ds, h with
    | [_, _, _], _ => rfl
  intro W base args ds p hval hA hlt
  rw [Try.params4] at hA hval
  obtain ⟨v0, v1, v2, d0, d1, d2, p0, p1, p2, rfl, rfl, rfl, h0, h1, h2⟩ := trodAll_three hA
  obtain ⟨s, ts, rfl, hT⟩ := trees_of_trod treeTypes h0 (okWide_sl Try.underlying22 (hval 0 _ v0 rfl rfl))
  obtain ⟨s2, us, rfl, hU⟩ := trees_of_trod treeTypes h1 (okWide_sl Try.underlying22 (hval 1 _ v1 rfl rfl))
  obtain ⟨cs, rfl, hs, hc⟩ := okWide_cells (ts := [3, 38, 9]) Try.underlying40 (by kernel_rfl) (by kernel_rfl) (hval 2 _ v2 rfl rfl)
  obtain ⟨l⟩ := cs
  match l, hs, hc with
  | [a, b, c], _, hc =>
    obtain ⟨who, rfl⟩ := cell_okInt Try.underlying3 (hc 0 _ a rfl rfl)
    obtain ⟨n, rfl⟩ := cell_okInt Try.underlying38 (hc 1 _ b rfl rfl)
    obtain ⟨x, rfl⟩ := cell_okString Try.underlying9 (hc 2 _ c rfl rfl)
    exact c_law13_ArbiterMore ts us s s2 who n x W hT hU (fun _ h => h) (fun _ h => h)

theorem arbiterMore_holds : Rows.ArbiterMoreSaid :=
  OpenClaim.holds_of_wide 4 Try.f4 rfl rfl rfl rfl rfl rfl rfl ⟨rfl, rfl, rfl, rfl, rfl⟩ rfl rfl rfl rfl rfl (by kernel_rfl) Try.func4 (by kernel_rfl)
    (of_decide_eq_true (by kernel_rfl)) (by unfold Func.isWrapper; first | (rw [if_pos (by decide +kernel)]; kernel_rfl) | (rw [if_neg (by decide +kernel)]; exact ⟨rfl, rfl⟩))
    (fun os started H enc _ => arbiterMore_lifted os started H enc)
#print axioms arbiterMore_holds
end Go.Proofs.Ytakogcapgbilaaa
