/-
  escrowlaw23.FoeFree returns true for every acts and every claim that are together of Ni 1048576 at most, and what came in reads as before.
  No other condition.
-/
import Derived.Test.YtjjcakjoeiolgaaGreatRows
import Derived.Test.YtjjcakjoeiolgaaGreatPa8
open Go Go.SE
namespace Go.Proofs.YtjjcakjoeiolgaaGreat
open Go.ChangeShapes Go.WideShapes Go.ChangeAt Go.RowKit

theorem Gr {H : Type} {l : List (DataW H)} {d : DataW H} (h : d ∈ l) : Rows.uptoBulk d ≤ Rows.uptoBulkAll l := by
  induction l with
  | nil => cases h
  | cons x r ih =>
    simp only [Rows.uptoBulkAll]
    rcases List.mem_cons.1 h with rfl | h
    · omega
    · have := ih h; omega
theorem QX {H : Type} (d : DataW H) : 1 ≤ Rows.uptoBulk d := by
  cases d with
  | lit l => cases l <;> simp [Rows.uptoBulk]
  | _ => simp [Rows.uptoBulk]
theorem UC {H : Type} (l : List (DataW H)) : l.length ≤ Rows.uptoBulkAll l := by
  induction l with
  | nil => simp [Rows.uptoBulkAll]
  | cons x r ih => have := QX x; simp only [Rows.uptoBulkAll, List.length_cons]; omega
theorem Ni {H : Type} : G5 (Rows.uptoBulk (H := H)) := by
  refine ⟨fun l => by simp [Rows.uptoBulk], fun h => ?_, fun h => ?_, fun es sp => ?_⟩
  · have := Gr h; simp only [Rows.uptoBulk]; omega
  · have := Gr h; simp only [Rows.uptoBulk]; omega
  · have := UC es; simp only [Rows.uptoBulk]; omega

set_option maxRecDepth 100000 in
theorem jNS : Tryz.prog.funcNamed Rows.foeFreeUptoRow.func = some 5 := by kernel_rfl
set_option maxRecDepth 100000 in
theorem Uw : joinedFacts Tryz.prog 5 Tryz.f5 (Rows.OpenSpec.upto Rows.foeFreeSpec).bare Rows.foeFreeUptoRow = true := by decide +kernel

set_option maxRecDepth 100000 in
theorem Ss (os : Os) (started : os.Started) (H : Type) (enc : TypeId × Value → H) (F : Stop.Interp) :
    ReturnsInHanded {} Tryz.checked os 5 .any ((Rows.OpenSpec.upto Rows.foeFreeSpec).pre6 enc Tryz.prog Tryz.f5 [] false) (((Rows.OpenSpec.upto Rows.foeFreeSpec).at F).post enc Tryz.prog Tryz.f5 false true false false) := by
  refine jTC (C := Tryz.checked) (k := Rows.uptoSmall) rfl (by kernel_rfl) rfl rfl (fun ds h => ?_) (by kernel_rfl) Tryz.underlying4 (by kernel_rfl) (by kernel_rfl) started (by kernel_rfl) Tryz.func5
    (OpenSpec.witness (enc := enc) (C := Tryz.checked) (k := Rows.uptoSmall) rfl false ⟨#[], #[.slice none 0 0, .agg #[.int .i64 0, .int .u64 0, .string ⟨#[]⟩]], []⟩ 8 (by kernel_rfl) (by kernel_rfl) (by kernel_rfl) (x := ([.nil, .agg [.lit (.int .i64 0), .lit (.int .u64 0), .lit (.string [])]], [], [])) (by kernel_rfl) (by kernel_rfl) (by kernel_rfl)) ?_
  · match ds, h with
    | [_, _], _ => rfl
  intro W ev args ds p hval hA hlt hk
  rw [Tryz.params5] at hA hval
  obtain ⟨v0, v1, d0, d1, p0, p1, rfl, rfl, rfl, h0, h1⟩ := trodAll_two hA
  have hb := of_decide_eq_true hk
  have hb0 := Nat.le_trans (Gr (d := d0) (by simp)) hb
  obtain ⟨a, n, c, rfl⟩ := QW Tryz.underlying22 (hval 0 _ v0 rfl rfl)
  obtain ⟨m0, h0⟩ := h0
  obtain ⟨s, ls, e, hL, hok⟩ := Xa Ni (Nat.le_refl _) h0 hb0
  obtain ⟨cs, rfl, hs, _⟩ := Sf (ts := [3, 23, 9]) Tryz.underlying25 (by kernel_rfl) (by kernel_rfl) (hval 1 _ v1 rfl rfl)
  obtain ⟨cs⟩ := cs
  obtain ⟨m1, h1⟩ := h1
  replace h1 : DataW.trod enc Tryz.prog W 0 (fun _ => true) true m1 25 cs = some (d1, p1) := h1
  obtain ⟨ao, c', y, rfl, _⟩ := Yk h1
  rw [e]
  exact VR s ls ao c' y W hL hok (fun _ h => h)

theorem foeFree_holds : Rows.FoeFreeUptoSaid :=
  OpenClaim.holds_of_cond 5 Tryz.f5 rfl rfl rfl rfl rfl rfl rfl ⟨rfl, rfl, rfl, rfl, rfl⟩ rfl rfl rfl rfl rfl jNS Tryz.func5 Uw
    (of_decide_eq_true (by kernel_rfl)) (by unfold Func.isWrapper; first | (rw [if_pos (by decide +kernel)]; kernel_rfl) | (rw [if_neg (by decide +kernel)]; exact ⟨rfl, rfl⟩))
    (fun os started H enc _ F => Ss os started H enc F)
#print axioms foeFree_holds
end Go.Proofs.YtjjcakjoeiolgaaGreat
