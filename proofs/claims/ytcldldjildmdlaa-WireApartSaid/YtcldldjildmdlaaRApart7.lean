/-
  escrowlaw07.WireApart returns true for every two trees, and what came in reads as before.
  No condition.
-/
import Derived.Test.YtcldldjildmdlaaRows
import Derived.Test.YtcldldjildmdlaaPa4
open Go.SE
namespace Go.Proofs.Ytcldldjildmdlaa
open Go.ChangeShapes Go.WideShapes Go.ChangeAt Go.RowKit

set_option maxRecDepth 100000 in
theorem wireApart_lifted (os : Os) (started : os.Started) (H : Type) (enc : TypeId × Value → H) :
    ReturnsInHanded {} Try.checked os 5 .any (Rows.wireApartSpec.pre6 enc Try.prog Try.f5 [] false) (Rows.wireApartSpec.post enc Try.prog Try.f5 false true false false) := by
  refine law_lifted (C := Try.checked) (by kernel_rfl) rfl (fun ds h => ?_) (by kernel_rfl) Try.underlying4 (by kernel_rfl) (by kernel_rfl) started (by kernel_rfl) Try.func5
    (ChangeSpec.witness6 (enc := enc) (C := Try.checked) false ⟨#[], #[.agg #[.int .i64 0, .int .i64 0, .int .i64 0, .int .u64 0, .string ⟨#[]⟩, .slice none 0 0], .agg #[.int .i64 0, .int .i64 0, .int .i64 0, .int .u64 0, .string ⟨#[]⟩, .slice none 0 0]], []⟩ 8 (by kernel_rfl) (by kernel_rfl) (by kernel_rfl) (by kernel_rfl)) ?_
  · match ds, h with
    | [_, _], _ => rfl
  intro W base args ds p hval hA hlt
  rw [Try.params5] at hA hval
  obtain ⟨v0, v1, d0, d1, p0, p1, rfl, rfl, rfl, h0, h1⟩ := trodAll_two hA
  obtain ⟨cs, rfl, hs, _⟩ := okWide_cells (ts := [3, 3, 3, 50, 9, 22]) Try.underlying52 (by kernel_rfl) (by kernel_rfl) (hval 0 _ v0 rfl rfl)
  obtain ⟨cs⟩ := cs
  obtain ⟨m, h0⟩ := h0
  replace h0 : DataW.trod enc Try.prog W 0 (fun _ => true) true m 52 cs = some (d0, p0) := h0
  obtain ⟨t0, s0, rfl, g0, n0⟩ := (trod_tree treeTypes m).2 cs _ h0
  obtain ⟨cs, rfl, hs, _⟩ := okWide_cells (ts := [3, 3, 3, 50, 9, 22]) Try.underlying52 (by kernel_rfl) (by kernel_rfl) (hval 1 _ v1 rfl rfl)
  obtain ⟨cs⟩ := cs
  obtain ⟨m, h1⟩ := h1
  replace h1 : DataW.trod enc Try.prog W 0 (fun _ => true) true m 52 cs = some (d1, p1) := h1
  obtain ⟨t1, s1, rfl, g1, n1⟩ := (trod_tree treeTypes m).2 cs _ h1
  exact c_law07_WireApart t0 t1 s0 s1 W (g0.lt.mono (fun b hb => hb.2)) (fun _ h => h) (g1.lt.mono (fun b hb => hb.2)) (fun _ h => h) n0 n1

theorem wireApart_holds : Rows.WireApartSaid :=
  OpenClaim.holds_of_wide 5 Try.f5 rfl rfl rfl rfl rfl rfl rfl ⟨rfl, rfl, rfl, rfl, rfl⟩ rfl rfl rfl rfl rfl (by kernel_rfl) Try.func5 (by kernel_rfl)
    (of_decide_eq_true (by kernel_rfl)) (by unfold Func.isWrapper; first | (rw [if_pos (by decide +kernel)]; kernel_rfl) | (rw [if_neg (by decide +kernel)]; exact ⟨rfl, rfl⟩))
    (fun os started H enc _ => wireApart_lifted os started H enc)
#print axioms wireApart_holds
end Go.Proofs.Ytcldldjildmdlaa
