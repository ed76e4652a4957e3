/-
  escrowlaw07.WireBack returns true for every tree and all bytes, and what came in reads as before.
  No condition.
-/
import Derived.Test.YtcldldjildmdlaaRows
import Derived.Test.YtcldldjildmdlaaPa4
open Go.SE
namespace Go.Proofs.Ytcldldjildmdlaa
open Go.ChangeShapes Go.WideShapes Go.ChangeAt Go.RowKit

set_option maxRecDepth 100000 in
theorem wireBack_lifted (os : Os) (started : os.Started) (H : Type) (enc : TypeId × Value → H) :
    ReturnsInHanded {} Try.checked os 7 .any (Rows.wireBackSpec.pre6 enc Try.prog Try.f7 [] false) (Rows.wireBackSpec.post enc Try.prog Try.f7 false true false false) := by
  refine law_lifted (C := Try.checked) (by kernel_rfl) rfl (fun ds h => ?_) (by kernel_rfl) Try.underlying4 (by kernel_rfl) (by kernel_rfl) started (by kernel_rfl) Try.func7
    (ChangeSpec.witness6 (enc := enc) (C := Try.checked) false ⟨#[], #[.agg #[.int .i64 0, .int .i64 0, .int .i64 0, .int .u64 0, .string ⟨#[]⟩, .slice none 0 0], .slice none 0 0], []⟩ 8 (by kernel_rfl) (by kernel_rfl) (by kernel_rfl) (by kernel_rfl)) ?_
  · match ds, h with
    | [_, _], _ => rfl
  intro W base args ds p hval hA hlt
  rw [Try.params7] at hA hval
  obtain ⟨v0, v1, d0, d1, p0, p1, rfl, rfl, rfl, h0, h1⟩ := trodAll_two hA
  obtain ⟨cs, rfl, hs, _⟩ := okWide_cells (ts := [3, 3, 3, 50, 9, 22]) Try.underlying52 (by kernel_rfl) (by kernel_rfl) (hval 0 _ v0 rfl rfl)
  obtain ⟨cs⟩ := cs
  obtain ⟨m, h0⟩ := h0
  replace h0 : DataW.trod enc Try.prog W 0 (fun _ => true) true m 52 cs = some (d0, p0) := h0
  obtain ⟨t0, s0, rfl, g0, n0⟩ := (trod_tree treeTypes m).2 cs _ h0
  obtain ⟨s, bs, rfl, hT, hz⟩ := bytes_of_trod Try.underlying44 Try.underlying5 (by kernel_rfl) h1 (okWide_sl Try.underlying44 (hval 1 _ v1 rfl rfl))
  exact c_law07_WireBack t0 s0 s bs W (g0.lt.mono (fun b hb => hb.2)) (fun _ h => h) n0 hT

theorem wireBack_holds : Rows.WireBackSaid :=
  OpenClaim.holds_of_wide 7 Try.f7 rfl rfl rfl rfl rfl rfl rfl ⟨rfl, rfl, rfl, rfl, rfl⟩ rfl rfl rfl rfl rfl (by kernel_rfl) Try.func7 (by kernel_rfl)
    (of_decide_eq_true (by kernel_rfl)) (by unfold Func.isWrapper; first | (rw [if_pos (by decide +kernel)]; kernel_rfl) | (rw [if_neg (by decide +kernel)]; exact ⟨rfl, rfl⟩))
    (fun os started H enc _ => wireBack_lifted os started H enc)
#print axioms wireBack_holds
end Go.Proofs.Ytcldldjildmdlaa
