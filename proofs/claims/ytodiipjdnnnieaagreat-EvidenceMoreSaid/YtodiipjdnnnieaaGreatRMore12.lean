/-
  escrowlaw12.EvidenceMore returns true for every trees and two lists of terms, and what came in reads as before.
  No condition.
-/
import Derived.Test.YtodiipjdnnnieaaGreatRows
import Derived.Test.YtodiipjdnnnieaaGreatPa7
import Derived.JoinedOf
open Go Go.SE
namespace Go.Proofs.YtodiipjdnnnieaaGreat
open Go.ChangeShapes Go.WideShapes Go.ChangeAt Go.RowKit

set_option maxRecDepth 100000 in
theorem uI : Tryz.prog.funcNamed Rows.evidenceMoreRow.func = some 4 := by kernel_rfl
set_option maxRecDepth 100000 in
theorem yS : joinedFacts Tryz.prog 4 Tryz.f4 Rows.evidenceMoreSpec Rows.evidenceMoreRow = true := by decide +kernel

set_option maxRecDepth 100000 in
theorem yR (os : Os) (started : os.Started) (H : Type) (enc : TypeId × Value → H) :
    ReturnsInHanded {} Tryz.checked os 4 .any (Rows.evidenceMoreSpec.pre6 enc Tryz.prog Tryz.f4 [] false) (Rows.evidenceMoreSpec.post enc Tryz.prog Tryz.f4 false true false false) := by
  refine jDJ (C := Tryz.checked) (by kernel_rfl) rfl (fun ds h => ?_) (by kernel_rfl) Tryz.underlying4 (by kernel_rfl) (by kernel_rfl) started (by kernel_rfl) Tryz.func4
    (ChangeSpec.witness6 (enc := enc) (C := Tryz.checked) false ⟨#[], #[.slice none 0 0, .slice none 0 0, .slice none 0 0], []⟩ 8 (by kernel_rfl) (by kernel_rfl) (by kernel_rfl) (by kernel_rfl)) ?_
  · match ds, h with
    | [_, _, _], _ => rfl
  intro W base args ds p hval hA hlt
  rw [Tryz.params4] at hA hval
  obtain ⟨v0, v1, v2, d0, d1, d2, p0, p1, p2, rfl, rfl, rfl, h0, h1, h2⟩ := trodAll_three hA
  obtain ⟨s, ts, rfl, hT⟩ := tB jEI h0 (xX Tryz.underlying66 (hval 0 _ v0 rfl rfl))
  obtain ⟨a, n, c, rfl⟩ := xX Tryz.underlying46 (hval 1 _ v1 rfl rfl)
  obtain ⟨m, h1⟩ := h1
  obtain ⟨sg, given, e, hg⟩ := jCI h1
  rw [e]
  obtain ⟨a2, n2, c2, rfl⟩ := xX Tryz.underlying46 (hval 2 _ v2 rfl rfl)
  obtain ⟨m2, h2⟩ := h2
  obtain ⟨sm, more, e2, hm⟩ := jCI h2
  rw [e2]
  exact yL ts given more s sg sm W hT (fun _ h => h) hg hm

theorem evidenceMore_holds : Rows.EvidenceMoreSaid :=
  OpenClaim.holds_of_wide 4 Tryz.f4 rfl rfl rfl rfl rfl rfl rfl ⟨rfl, rfl, rfl, rfl, rfl⟩ rfl rfl rfl rfl rfl uI Tryz.func4 yS
    (of_decide_eq_true (by kernel_rfl)) (by unfold Func.isWrapper; first | (rw [if_pos (by decide +kernel)]; kernel_rfl) | (rw [if_neg (by decide +kernel)]; exact ⟨rfl, rfl⟩))
    (fun os started H enc _ => yR os started H enc)
#print axioms evidenceMore_holds
end Go.Proofs.YtodiipjdnnnieaaGreat
