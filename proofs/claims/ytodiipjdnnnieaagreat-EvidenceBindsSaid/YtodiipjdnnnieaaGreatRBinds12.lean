/-
  escrowlaw12.EvidenceBinds returns true for every trees and terms, and what came in reads as before.
  No condition.
-/
import Derived.Test.YtodiipjdnnnieaaGreatRows
import Derived.Test.YtodiipjdnnnieaaGreatPa7
import Derived.JoinedOf
open Go Go.SE
namespace Go.Proofs.YtodiipjdnnnieaaGreat
open Go.ChangeShapes Go.WideShapes Go.ChangeAt Go.RowKit

set_option maxRecDepth 100000 in
theorem jAJ : Tryz.prog.funcNamed Rows.evidenceBindsRow.func = some 8 := by kernel_rfl
set_option maxRecDepth 100000 in
theorem jAA : joinedFacts Tryz.prog 8 Tryz.f8 Rows.evidenceBindsSpec Rows.evidenceBindsRow = true := by decide +kernel

set_option maxRecDepth 100000 in
theorem tZ (os : Os) (started : os.Started) (H : Type) (enc : TypeId × Value → H) :
    ReturnsInHanded {} Tryz.checked os 8 .any (Rows.evidenceBindsSpec.pre6 enc Tryz.prog Tryz.f8 [] false) (Rows.evidenceBindsSpec.post enc Tryz.prog Tryz.f8 false true false false) := by
  refine jJQ (C := Tryz.checked) (by kernel_rfl) rfl (fun ds h => ?_) (by kernel_rfl) Tryz.underlying4 (by kernel_rfl) (by kernel_rfl) started (by kernel_rfl) Tryz.func8
    (ChangeSpec.witness6 (enc := enc) (C := Tryz.checked) false ⟨#[], #[.slice none 0 0, .slice none 0 0], []⟩ 8 (by kernel_rfl) (by kernel_rfl) (by kernel_rfl) (by kernel_rfl)) ?_
  · match ds, h with
    | [_, _], _ => rfl
  intro W base args ds p hval hA hlt
  rw [Tryz.params8] at hA hval
  obtain ⟨v0, v1, d0, d1, p0, p1, rfl, rfl, rfl, h0, h1⟩ := trodAll_two hA
  obtain ⟨s, ts, rfl, hT⟩ := jEN jKR h0 (jFU Tryz.underlying66 (hval 0 _ v0 rfl rfl))
  obtain ⟨a, n, c, rfl⟩ := jFU Tryz.underlying46 (hval 1 _ v1 rfl rfl)
  obtain ⟨m, h1⟩ := h1
  obtain ⟨sg, given, e, hg⟩ := jMQ h1
  rw [e]
  exact tO ts given s sg W hT (fun _ h => h) hg

theorem evidenceBinds_holds : Rows.EvidenceBindsSaid :=
  OpenClaim.holds_of_wide 8 Tryz.f8 rfl rfl rfl rfl rfl rfl rfl ⟨rfl, rfl, rfl, rfl, rfl⟩ rfl rfl rfl rfl rfl jAJ Tryz.func8 jAA
    (of_decide_eq_true (by kernel_rfl)) (by unfold Func.isWrapper; first | (rw [if_pos (by decide +kernel)]; kernel_rfl) | (rw [if_neg (by decide +kernel)]; exact ⟨rfl, rfl⟩))
    (fun os started H enc _ => tZ os started H enc)
#print axioms evidenceBinds_holds
end Go.Proofs.YtodiipjdnnnieaaGreat
