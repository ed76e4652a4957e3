/-
  escrowlaw23.FoeHonest returns true for every letters, every other name and every claim, and what came in reads as before.
  No condition.
-/
import Derived.Test.YtbfdlpbchhjhoaaGreatRows
import Derived.Test.YtbfdlpbchhjhoaaGreatPa5
import Derived.JoinedOf
open Go Go.SE
namespace Go.Proofs.YtbfdlpbchhjhoaaGreat
open Go.ChangeShapes Go.WideShapes Go.ChangeAt Go.RowKit

set_option maxRecDepth 100000 in
theorem jFH : Tryz.prog.funcNamed Rows.foeHonestRow.func = some 3 := by kernel_rfl
set_option maxRecDepth 100000 in
theorem jDV : joinedFacts Tryz.prog 3 Tryz.f3 Rows.foeHonestSpec Rows.foeHonestRow = true := by decide +kernel

set_option maxRecDepth 100000 in
theorem jDU (os : Os) (started : os.Started) (H : Type) (enc : TypeId × Value → H) :
    ReturnsInHanded {} Tryz.checked os 3 .any (Rows.foeHonestSpec.pre6 enc Tryz.prog Tryz.f3 [] false) (Rows.foeHonestSpec.post enc Tryz.prog Tryz.f3 false true false false) := by
  refine jOW (C := Tryz.checked) (by kernel_rfl) rfl (fun ds h => ?_) (by kernel_rfl) Tryz.underlying4 (by kernel_rfl) (by kernel_rfl) started (by kernel_rfl) Tryz.func3
    (ChangeSpec.witness6 (enc := enc) (C := Tryz.checked) false ⟨#[], #[.slice none 0 0, .int .i64 0, .agg #[.int .i64 0, .int .u64 0, .string ⟨#[]⟩]], []⟩ 8 (by kernel_rfl) (by kernel_rfl) (by kernel_rfl) (by kernel_rfl)) ?_
  · match ds, h with
    | [_, _, _], _ => rfl
  intro W base args ds p hval hA hlt
  rw [Tryz.params3] at hA hval
  obtain ⟨v0, v1, v2, d0, d1, d2, p0, p1, p2, rfl, rfl, rfl, h0, h1, h2⟩ := trodAll_three hA
  obtain ⟨a, n, c, rfl⟩ := jQV Tryz.underlying22 (hval 0 _ v0 rfl rfl)
  obtain ⟨m0, h0⟩ := h0
  obtain ⟨s, ls, e, hL, hN⟩ := jOU h0
  obtain ⟨o, rfl⟩ := okWide_int Tryz.underlying3 (hval 1 _ v1 rfl rfl)
  obtain ⟨cs, rfl, hs, _⟩ := jJD (ts := [3, 23, 9]) Tryz.underlying25 (by kernel_rfl) (by kernel_rfl) (hval 2 _ v2 rfl rfl)
  obtain ⟨cs⟩ := cs
  obtain ⟨m2, h2⟩ := h2
  replace h2 : DataW.trod enc Tryz.prog W 0 (fun _ => true) true m2 25 cs = some (d2, p2) := h2
  obtain ⟨who, c', y, rfl, hc⟩ := jTZ h2
  rw [e]
  exact jCZ s ls o who c' y hc W hL hN

theorem foeHonest_holds : Rows.FoeHonestSaid :=
  OpenClaim.holds_of_wide 3 Tryz.f3 rfl rfl rfl rfl rfl rfl rfl ⟨rfl, rfl, rfl, rfl, rfl⟩ rfl rfl rfl rfl rfl jFH Tryz.func3 jDV
    (of_decide_eq_true (by kernel_rfl)) (by unfold Func.isWrapper; first | (rw [if_pos (by decide +kernel)]; kernel_rfl) | (rw [if_neg (by decide +kernel)]; exact ⟨rfl, rfl⟩))
    (fun os started H enc _ => jDU os started H enc)
#print axioms foeHonest_holds
end Go.Proofs.YtbfdlpbchhjhoaaGreat
