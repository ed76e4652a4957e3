/-
  escrowlaw12.EvidenceOrder returns true for every two facts, list of facts and name, and what came in reads as before.
  No condition.
-/
import Derived.Test.YtodiipjdnnnieaaGreatRows
import Derived.Test.YtodiipjdnnnieaaGreatPa5
import Derived.Test.YtodiipjdnnnieaaGreatPa6
import Derived.JoinedOf
open Go Go.SE
namespace Go.Proofs.YtodiipjdnnnieaaGreat
open Go.ChangeShapes Go.WideShapes Go.ChangeAt Go.RowKit

set_option maxRecDepth 100000 in
theorem yH : Tryz.prog.funcNamed Rows.evidenceOrderRow.func = some 7 := by kernel_rfl
set_option maxRecDepth 100000 in
theorem qZ : joinedFacts Tryz.prog 7 Tryz.f7 Rows.evidenceOrderSpec Rows.evidenceOrderRow = true := by decide +kernel

set_option maxRecDepth 100000 in
theorem qY (os : Os) (started : os.Started) (H : Type) (enc : TypeId × Value → H) :
    ReturnsInHanded {} Tryz.checked os 7 .any (Rows.evidenceOrderSpec.pre6 enc Tryz.prog Tryz.f7 [] false) (Rows.evidenceOrderSpec.post enc Tryz.prog Tryz.f7 false true false false) := by
  refine jBP (C := Tryz.checked) (by kernel_rfl) rfl (fun ds h => ?_) (by kernel_rfl) Tryz.underlying4 (by kernel_rfl) (by kernel_rfl) started (by kernel_rfl) Tryz.func7
    (ChangeSpec.witness6 (enc := enc) (C := Tryz.checked) false ⟨#[], #[.agg #[.int .i64 0, .int .i64 0, .int .u64 0, .string ⟨#[]⟩, .int .i64 0, .int .i64 0, .int .u64 0, .string ⟨#[]⟩, .slice none 0 0, .int .i64 0]], []⟩ 8 (by kernel_rfl) (by kernel_rfl) (by kernel_rfl) (by kernel_rfl)) ?_
  · match ds, h with
    | [_], _ => rfl
  intro W base args ds p hval hA hlt
  rw [Tryz.params7] at hA hval
  obtain ⟨v0, d0, rfl, rfl, h0⟩ := trodAll_one hA
  obtain ⟨cs, rfl, hs, _⟩ := oW (ts := [3, 3, 23, 9, 3, 3, 23, 9, 71, 3]) Tryz.underlying91 (by kernel_rfl) (by kernel_rfl) (hval 0 _ v0 rfl rfl)
  obtain ⟨cs⟩ := cs
  obtain ⟨m, h0⟩ := h0
  replace h0 : DataW.trod enc Tryz.prog W 0 (fun _ => true) true m 91 cs = some (d0, p) := h0
  obtain ⟨m', _, hf⟩ := gM Tryz.underlying91 h0
  match cs, hs with
  | [c0, c1, c2, c3, c4, c5, c6, c7, c8, c9], _ =>
    obtain ⟨_, g0⟩ := hf 0 _ rfl
    obtain ⟨_, g1⟩ := hf 1 _ rfl
    obtain ⟨_, g2⟩ := hf 2 _ rfl
    obtain ⟨_, g3⟩ := hf 3 _ rfl
    simp only [show (Tryz.prog.cellsOf 75) = 4 by kernel_rfl, show (Tryz.prog.cellsOf 71) = 1 by kernel_rfl, show (Tryz.prog.cellsOf 3) = 1 by kernel_rfl] at g0 g1 g2 g3
    obtain ⟨A, hA'⟩ := qM g0
    obtain ⟨B, hB'⟩ := qM g1
    obtain ⟨s, fs, rfl, hl⟩ := jEL g2
    obtain ⟨who, rfl⟩ := yO Tryz.underlying3 g3
    have hA' : [c0, c1, c2, c3] = kG A := hA'
    have hB' : [c4, c5, c6, c7] = kG B := hB'
    simp only [kG, List.cons.injEq, and_true] at hA' hB'
    obtain ⟨rfl, rfl, rfl, rfl⟩ := hA'
    obtain ⟨rfl, rfl, rfl, rfl⟩ := hB'
    exact qQ A B s fs who W hl (fun _ h => h)

theorem evidenceOrder_holds : Rows.EvidenceOrderSaid :=
  OpenClaim.holds_of_wide 7 Tryz.f7 rfl rfl rfl rfl rfl rfl rfl ⟨rfl, rfl, rfl, rfl, rfl⟩ rfl rfl rfl rfl rfl yH Tryz.func7 qZ
    (of_decide_eq_true (by kernel_rfl)) (by unfold Func.isWrapper; first | (rw [if_pos (by decide +kernel)]; kernel_rfl) | (rw [if_neg (by decide +kernel)]; exact ⟨rfl, rfl⟩))
    (fun os started H enc _ => qY os started H enc)
#print axioms evidenceOrder_holds
end Go.Proofs.YtodiipjdnnnieaaGreat
