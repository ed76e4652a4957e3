/-
  escrowlaw12.EvidenceMakes returns true for every trees, two terms and name, and what came in reads as before.
  No condition.
-/
import Derived.Test.YtodiipjdnnnieaaGreatRows
import Derived.Test.YtodiipjdnnnieaaGreatPa7
import Derived.JoinedOf
open Go Go.SE
namespace Go.Proofs.YtodiipjdnnnieaaGreat
open Go.ChangeShapes Go.WideShapes Go.ChangeAt Go.RowKit

set_option maxRecDepth 100000 in
theorem jAS : Tryz.prog.funcNamed Rows.evidenceMakesRow.func = some 10 := by kernel_rfl
set_option maxRecDepth 100000 in
theorem jAL : joinedFacts Tryz.prog 10 Tryz.f10 Rows.evidenceMakesSpec Rows.evidenceMakesRow = true := by decide +kernel

set_option maxRecDepth 100000 in
theorem jAK (os : Os) (started : os.Started) (H : Type) (enc : TypeId × Value → H) :
    ReturnsInHanded {} Tryz.checked os 10 .any (Rows.evidenceMakesSpec.pre6 enc Tryz.prog Tryz.f10 [] false) (Rows.evidenceMakesSpec.post enc Tryz.prog Tryz.f10 false true false false) := by
  refine jKZ (C := Tryz.checked) (by kernel_rfl) rfl (fun ds h => ?_) (by kernel_rfl) Tryz.underlying4 (by kernel_rfl) (by kernel_rfl) started (by kernel_rfl) Tryz.func10
    (ChangeSpec.witness6 (enc := enc) (C := Tryz.checked) false ⟨#[], #[.agg #[.slice none 0 0, .int .i64 0, .int .i64 0, .int .i64 0]], []⟩ 8 (by kernel_rfl) (by kernel_rfl) (by kernel_rfl) (by kernel_rfl)) ?_
  · match ds, h with
    | [_], _ => rfl
  intro W base args ds p hval hA hlt
  rw [Tryz.params10] at hA hval
  obtain ⟨v0, d0, rfl, rfl, h0⟩ := trodAll_one hA
  obtain ⟨cs, rfl, hs, _⟩ := jHE (ts := [66, 78, 78, 3]) Tryz.underlying102 (by kernel_rfl) (by kernel_rfl) (hval 0 _ v0 rfl rfl)
  obtain ⟨cs⟩ := cs
  obtain ⟨m, h0⟩ := h0
  replace h0 : DataW.trod enc Tryz.prog W 0 (fun _ => true) true m 102 cs = some (d0, p) := h0
  obtain ⟨m', _, hf⟩ := jIP Tryz.underlying102 h0
  match cs, hs with
  | [c0, c1, c2, c3], _ =>
    obtain ⟨_, g0⟩ := hf 0 _ rfl
    obtain ⟨_, g1⟩ := hf 1 _ rfl
    obtain ⟨_, g2⟩ := hf 2 _ rfl
    obtain ⟨_, g3⟩ := hf 3 _ rfl
    simp only [show (Tryz.prog.cellsOf 66) = 1 by kernel_rfl, show (Tryz.prog.cellsOf 78) = 1 by kernel_rfl, show (Tryz.prog.cellsOf 3) = 1 by kernel_rfl] at g0 g1 g2 g3
    obtain ⟨s, ts, rfl, hT, _⟩ := (jLT jLV m').1 c0 _ g0
    obtain ⟨a, rfl⟩ := xX Tryz.underlying78 g1
    obtain ⟨b, rfl⟩ := xX Tryz.underlying78 g2
    obtain ⟨who, rfl⟩ := xX Tryz.underlying3 g3
    exact jAC ts s a b who W ((hT 0 0 0 0 ⟨#[]⟩).lt.mono (fun b hb => hb.2)) (fun _ h => h)

theorem evidenceMakes_holds : Rows.EvidenceMakesSaid :=
  OpenClaim.holds_of_wide 10 Tryz.f10 rfl rfl rfl rfl rfl rfl rfl ⟨rfl, rfl, rfl, rfl, rfl⟩ rfl rfl rfl rfl rfl jAS Tryz.func10 jAL
    (of_decide_eq_true (by kernel_rfl)) (by unfold Func.isWrapper; first | (rw [if_pos (by decide +kernel)]; kernel_rfl) | (rw [if_neg (by decide +kernel)]; exact ⟨rfl, rfl⟩))
    (fun os started H enc _ => jAK os started H enc)
#print axioms evidenceMakes_holds
end Go.Proofs.YtodiipjdnnnieaaGreat
