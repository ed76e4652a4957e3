/-
  escrowlaw12.EvidenceOf returns true for every trees, term, name, contract and text, and what came in reads as before.
  No condition.
-/
import Derived.Test.YtodiipjdnnnieaaGreatRows
import Derived.Test.YtodiipjdnnnieaaGreatPa7
import Derived.JoinedOf
open Go Go.SE
namespace Go.Proofs.YtodiipjdnnnieaaGreat
open Go.ChangeShapes Go.WideShapes Go.ChangeAt Go.RowKit

set_option maxRecDepth 100000 in
theorem jCD : Tryz.prog.funcNamed Rows.evidenceOfRow.func = some 9 := by kernel_rfl
set_option maxRecDepth 100000 in
theorem jBM : joinedFacts Tryz.prog 9 Tryz.f9 Rows.evidenceOfSpec Rows.evidenceOfRow = true := by decide +kernel

set_option maxRecDepth 100000 in
theorem jBL (os : Os) (started : os.Started) (H : Type) (enc : TypeId × Value → H) :
    ReturnsInHanded {} Tryz.checked os 9 .any (Rows.evidenceOfSpec.pre6 enc Tryz.prog Tryz.f9 [] false) (Rows.evidenceOfSpec.post enc Tryz.prog Tryz.f9 false true false false) := by
  refine jJO (C := Tryz.checked) (by kernel_rfl) rfl (fun ds h => ?_) (by kernel_rfl) Tryz.underlying4 (by kernel_rfl) (by kernel_rfl) started (by kernel_rfl) Tryz.func9
    (ChangeSpec.witness6 (enc := enc) (C := Tryz.checked) false ⟨#[], #[.agg #[.slice none 0 0, .int .i64 0, .int .i64 0, .int .u64 0, .string ⟨#[]⟩]], []⟩ 8 (by kernel_rfl) (by kernel_rfl) (by kernel_rfl) (by kernel_rfl)) ?_
  · match ds, h with
    | [_], _ => rfl
  intro W base args ds p hval hA hlt
  rw [Tryz.params9] at hA hval
  obtain ⟨v0, d0, rfl, rfl, h0⟩ := trodAll_one hA
  obtain ⟨cs, rfl, hs, _⟩ := jFY (ts := [66, 78, 3, 23, 9]) Tryz.underlying96 (by kernel_rfl) (by kernel_rfl) (hval 0 _ v0 rfl rfl)
  obtain ⟨cs⟩ := cs
  obtain ⟨m, h0⟩ := h0
  replace h0 : DataW.trod enc Tryz.prog W 0 (fun _ => true) true m 96 cs = some (d0, p) := h0
  obtain ⟨m', _, hf⟩ := jHI Tryz.underlying96 h0
  match cs, hs with
  | [c0, c1, c2, c3, c4], _ =>
    obtain ⟨_, g0⟩ := hf 0 _ rfl
    obtain ⟨_, g1⟩ := hf 1 _ rfl
    obtain ⟨_, g2⟩ := hf 2 _ rfl
    obtain ⟨_, g3⟩ := hf 3 _ rfl
    obtain ⟨_, g4⟩ := hf 4 _ rfl
    simp only [show (Tryz.prog.cellsOf 66) = 1 by kernel_rfl, show (Tryz.prog.cellsOf 78) = 1 by kernel_rfl, show (Tryz.prog.cellsOf 3) = 1 by kernel_rfl, show (Tryz.prog.cellsOf 23) = 1 by kernel_rfl, show (Tryz.prog.cellsOf 9) = 1 by kernel_rfl] at g0 g1 g2 g3 g4
    obtain ⟨s, ts, rfl, hT, _⟩ := (jKJ jKK m').1 c0 _ g0
    obtain ⟨t, rfl⟩ := xM Tryz.underlying78 g1
    obtain ⟨who, rfl⟩ := xM Tryz.underlying3 g2
    obtain ⟨c, rfl⟩ := xM Tryz.underlying23 g3
    obtain ⟨x, rfl⟩ := jFM Tryz.underlying9 g4
    exact jAZ ts s t who c x W ((hT 0 0 0 0 ⟨#[]⟩).lt.mono (fun b hb => hb.2)) (fun _ h => h)

theorem evidenceOf_holds : Rows.EvidenceOfSaid :=
  OpenClaim.holds_of_wide 9 Tryz.f9 rfl rfl rfl rfl rfl rfl rfl ⟨rfl, rfl, rfl, rfl, rfl⟩ rfl rfl rfl rfl rfl jCD Tryz.func9 jBM
    (of_decide_eq_true (by kernel_rfl)) (by unfold Func.isWrapper; first | (rw [if_pos (by decide +kernel)]; kernel_rfl) | (rw [if_neg (by decide +kernel)]; exact ⟨rfl, rfl⟩))
    (fun os started H enc _ => jBL os started H enc)
#print axioms evidenceOf_holds
end Go.Proofs.YtodiipjdnnnieaaGreat
