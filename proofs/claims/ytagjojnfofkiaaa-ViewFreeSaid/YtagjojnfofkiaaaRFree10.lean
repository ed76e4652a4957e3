/-
  escrowlaw10.ViewFree returns true for every trees, every term, every addressee and every observer, and what came in reads as before.
  No condition.
-/
import Derived.Test.YtagjojnfofkiaaaRows
import Derived.Test.YtagjojnfofkiaaaPa6
open Go.SE
namespace Go.Proofs.Ytagjojnfofkiaaa
open Go.ChangeShapes Go.WideShapes Go.ChangeAt Go.RowKit

set_option maxRecDepth 100000 in
theorem viewFree_lifted (os : Os) (started : os.Started) (H : Type) (enc : TypeId × Value → H) :
    ReturnsInHanded {} Try.checked os 3 .any (Rows.viewFreeSpec.pre6 enc Try.prog Try.f3 [] false) (Rows.viewFreeSpec.post enc Try.prog Try.f3 false true false false) := by
  refine law_lifted (C := Try.checked) (by kernel_rfl) rfl (fun ds h => ?_) (by kernel_rfl) Try.underlying4 (by kernel_rfl) (by kernel_rfl) started (by kernel_rfl) Try.func3
    (ChangeSpec.witness6 (enc := enc) (C := Try.checked) false ⟨#[], #[.agg #[.slice none 0 0, .int .i64 0, .int .i64 0, .int .i64 0]], []⟩ 8 (by kernel_rfl) (by kernel_rfl) (by kernel_rfl) (by kernel_rfl)) ?_
  · match ds, h with
    | [_], _ => rfl
  intro W base args ds p hval hA hlt
  rw [Try.params3] at hA hval
  obtain ⟨v0, d0, rfl, rfl, h0⟩ := trodAll_one hA
  obtain ⟨cs, rfl, hs, hc⟩ := okWide_cells (ts := [22, 23, 3, 3]) Try.underlying25 (by kernel_rfl) (by kernel_rfl) (hval 0 _ v0 rfl rfl)
  obtain ⟨k, h⟩ := h0
  obtain ⟨m, hl, hf⟩ := trod_fields Try.underlying25 h
  obtain ⟨cl⟩ := cs
  match cl, hs, hc, hf with
  | [a, b, c, d], _, hc, hf =>
    obtain ⟨_, h0⟩ := hf 0 _ rfl
    simp only [show (Try.prog.cellsOf 22) = 1 by kernel_rfl] at h0
    obtain ⟨s, ts, e0, hT⟩ := (trod_tree treeTypes m).1 _ _ h0
    subst e0
    obtain ⟨t, rfl⟩ := cell_okInt Try.underlying23 (hc 1 _ b rfl rfl)
    obtain ⟨to, rfl⟩ := cell_okInt Try.underlying3 (hc 2 _ c rfl rfl)
    obtain ⟨who, rfl⟩ := cell_okInt Try.underlying3 (hc 3 _ d rfl rfl)
    exact c_law10_ViewFree ts s t to who W ((hT 0 0 0 0 ⟨#[]⟩).lt.mono (fun b hb => hb.2)) (fun _ h => h)

theorem viewFree_holds : Rows.ViewFreeSaid :=
  OpenClaim.holds_of_wide 3 Try.f3 rfl rfl rfl rfl rfl rfl rfl ⟨rfl, rfl, rfl, rfl, rfl⟩ rfl rfl rfl rfl rfl (by kernel_rfl) Try.func3 (by kernel_rfl)
    (of_decide_eq_true (by kernel_rfl)) (by unfold Func.isWrapper; first | (rw [if_pos (by decide +kernel)]; kernel_rfl) | (rw [if_neg (by decide +kernel)]; exact ⟨rfl, rfl⟩))
    (fun os started H enc _ => viewFree_lifted os started H enc)
#print axioms viewFree_holds
end Go.Proofs.Ytagjojnfofkiaaa
