/-
  escrowlaw08.DeduceChecks returns true for every trees, given terms, steps and goal, and what came in reads as before.
  No condition.
-/
import Derived.Test.YtakogcapgbilaaaRows
import Derived.Test.YtakogcapgbilaaaPa4
open Go.SE
namespace Go.Proofs.Ytakogcapgbilaaa
open Go.ChangeShapes Go.WideShapes Go.ChangeAt Go.RowKit

set_option maxRecDepth 100000 in
theorem deduceChecks_lifted (os : Os) (started : os.Started) (H : Type) (enc : TypeId × Value → H) :
    ReturnsInHanded {} Try.checked os 8 .any (Rows.deduceChecksSpec.pre6 enc Try.prog Try.f8 [] false) (Rows.deduceChecksSpec.post enc Try.prog Try.f8 false true false false) := by
  refine law_lifted (C := Try.checked) (by kernel_rfl) rfl (fun ds h => ?_) (by kernel_rfl) Try.underlying4 (by kernel_rfl) (by kernel_rfl) started (by kernel_rfl) Try.func8
    (ChangeSpec.witness6 (enc := enc) (C := Try.checked) false ⟨#[], #[.agg #[.slice none 0 0, .slice none 0 0, .slice none 0 0, .int .i64 0]], []⟩ 8 (by kernel_rfl) (by kernel_rfl) (by kernel_rfl) (by kernel_rfl)) ?_
  · match ds, h with
    | [_], _ => rfl
  intro W base args ds p hval hA hlt
  rw [Try.params8] at hA hval
  obtain ⟨v0, d0, rfl, rfl, h0⟩ := trodAll_one hA
  obtain ⟨cs, rfl, hs, _⟩ := okWide_cells (ts := [22, 26, 76, 41]) Try.underlying87 (by kernel_rfl) (by kernel_rfl) (hval 0 _ v0 rfl rfl)
  obtain ⟨cs⟩ := cs
  obtain ⟨m, h0⟩ := h0
  replace h0 : DataW.trod enc Try.prog W 0 (fun _ => true) true m 87 cs = some (d0, p) := h0
  obtain ⟨m', _, hf⟩ := trod_fields Try.underlying87 h0
  match cs, hs with
  | [c0, c1, c2, c3], _ =>
    obtain ⟨_, g0⟩ := hf 0 _ rfl
    obtain ⟨_, g1⟩ := hf 1 _ rfl
    obtain ⟨_, g2⟩ := hf 2 _ rfl
    obtain ⟨_, g3⟩ := hf 3 _ rfl
    simp only [show (Try.prog.cellsOf 22) = 1 by kernel_rfl, show (Try.prog.cellsOf 26) = 1 by kernel_rfl, show (Try.prog.cellsOf 76) = 1 by kernel_rfl, show (Try.prog.cellsOf 41) = 1 by kernel_rfl] at g0 g1 g2 g3
    obtain ⟨s, ts, rfl, hT⟩ := (trod_tree treeTypes m').1 c0 _ g0
    obtain ⟨sg, given, rfl, hg⟩ := terms_in g1
    obtain ⟨ss, steps, rfl, hs⟩ := steps_in g2
    obtain ⟨goal, rfl⟩ := trod_int1 Try.underlying41 g3
    exact c_law08_DeduceChecks ts given steps s sg ss goal W ((hT 0 0 0 0 ⟨#[]⟩).lt.mono (fun b hb => hb.2)) (fun _ h => h) hg hs

theorem deduceChecks_holds : Rows.DeduceChecksSaid :=
  OpenClaim.holds_of_wide 8 Try.f8 rfl rfl rfl rfl rfl rfl rfl ⟨rfl, rfl, rfl, rfl, rfl⟩ rfl rfl rfl rfl rfl (by kernel_rfl) Try.func8 (by kernel_rfl)
    (of_decide_eq_true (by kernel_rfl)) (by unfold Func.isWrapper; first | (rw [if_pos (by decide +kernel)]; kernel_rfl) | (rw [if_neg (by decide +kernel)]; exact ⟨rfl, rfl⟩))
    (fun os started H enc _ => deduceChecks_lifted os started H enc)
#print axioms deduceChecks_holds
end Go.Proofs.Ytakogcapgbilaaa
