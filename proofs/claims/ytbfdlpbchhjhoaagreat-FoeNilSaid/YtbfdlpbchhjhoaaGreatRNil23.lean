/-
  escrowlaw23.FoeNil returns true for every bytes, every name, every operations and every claim, and what came in reads as before.
  No condition.
-/
import Derived.Test.YtbfdlpbchhjhoaaGreatRows
import Derived.Test.YtbfdlpbchhjhoaaGreatPa6
import Derived.Carry
import Derived.JoinedOf
open Go Go.SE
namespace Go.Proofs.YtbfdlpbchhjhoaaGreat
open Go.ChangeShapes Go.WideShapes Go.ChangeAt Go.RowKit

set_option maxRecDepth 100000 in
theorem jJM : Tryz.prog.funcNamed Rows.foeNilRow.func = some 8 := by kernel_rfl
set_option maxRecDepth 100000 in
theorem jHP : joinedFacts Tryz.prog 8 Tryz.f8 Rows.foeNilSpec Rows.foeNilRow = true := by decide +kernel

set_option maxRecDepth 100000 in
theorem jHO (os : Os) (started : os.Started) (H : Type) (enc : TypeId × Value → H) :
    ReturnsInHanded {} Tryz.checked os 8 .any (Rows.foeNilSpec.pre6 enc Tryz.prog Tryz.f8 [] false) (Rows.foeNilSpec.post enc Tryz.prog Tryz.f8 false true false false) := by
  refine jOU (C := Tryz.checked) (by kernel_rfl) rfl (fun ds h => ?_) (by kernel_rfl) Tryz.underlying4 (by kernel_rfl) (by kernel_rfl) started (by kernel_rfl) Tryz.func8
    (ChangeSpec.witness6 (enc := enc) (C := Tryz.checked) false ⟨#[], #[.string ⟨#[]⟩, .int .i64 0, .slice none 0 0, .agg #[.int .i64 0, .int .u64 0, .string ⟨#[]⟩]], []⟩ 8 (by kernel_rfl) (by kernel_rfl) (by kernel_rfl) (by kernel_rfl)) ?_
  · match ds, h with
    | [_, _, _, _], _ => rfl
  intro W base args ds p hval hA hlt
  rw [Tryz.params8] at hA hval
  obtain ⟨v0, v1, v2, v3, d0, d1, d2, d3, p0, p1, p2, p3, rfl, rfl, rfl, h0, h1, h2, h3⟩ := trodAll_four hA
  obtain ⟨body, rfl⟩ := jHH Tryz.underlying9 (hval 0 _ v0 rfl rfl)
  obtain ⟨o, rfl⟩ := okWide_int Tryz.underlying3 (hval 1 _ v1 rfl rfl)
  obtain ⟨a, n, c, rfl⟩ := jQW Tryz.underlying44 (hval 2 _ v2 rfl rfl)
  obtain ⟨m2, h2⟩ := h2
  obtain ⟨so, ops, e, ho⟩ := ops_in h2
  obtain ⟨cs, rfl, hs, _⟩ := jJB (ts := [3, 23, 9]) Tryz.underlying25 (by kernel_rfl) (by kernel_rfl) (hval 3 _ v3 rfl rfl)
  obtain ⟨cs⟩ := cs
  obtain ⟨m3, h3⟩ := h3
  replace h3 : DataW.trod enc Tryz.prog W 0 (fun _ => true) true m3 25 cs = some (d3, p3) := h3
  obtain ⟨who, c', y, rfl, _⟩ := jUG h3
  rw [e]
  exact jFN body o so ops who c' y W ho

theorem foeNil_holds : Rows.FoeNilSaid :=
  OpenClaim.holds_of_wide 8 Tryz.f8 rfl rfl rfl rfl rfl rfl rfl ⟨rfl, rfl, rfl, rfl, rfl⟩ rfl rfl rfl rfl rfl jJM Tryz.func8 jHP
    (of_decide_eq_true (by kernel_rfl)) (by unfold Func.isWrapper; first | (rw [if_pos (by decide +kernel)]; kernel_rfl) | (rw [if_neg (by decide +kernel)]; exact ⟨rfl, rfl⟩))
    (fun os started H enc _ => jHO os started H enc)
#print axioms foeNil_holds
end Go.Proofs.YtbfdlpbchhjhoaaGreat
