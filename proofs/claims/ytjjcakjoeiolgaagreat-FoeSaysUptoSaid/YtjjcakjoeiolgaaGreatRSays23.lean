/-
  escrowlaw23.FoeSays returns true for every acts, every operations and every claim that are together of HO 1048576 at most, and what came in reads as before.
  No other condition.
-/
import Derived.Test.YtjjcakjoeiolgaaGreatRows
import Derived.Test.YtjjcakjoeiolgaaGreatPa8
open Go Go.SE
namespace Go.Proofs.YtjjcakjoeiolgaaGreat
open Go.ChangeShapes Go.WideShapes Go.ChangeAt Go.RowKit

theorem Fu {H : Type} {l : List (DataW H)} {d : DataW H} (h : d ∈ l) : Rows.uptoBulk d ≤ Rows.uptoBulkAll l := by
  induction l with
  | nil => cases h
  | cons x r ih =>
    simp only [Rows.uptoBulkAll]
    rcases List.mem_cons.1 h with rfl | h
    · omega
    · have := ih h; omega
theorem Yj {H : Type} (d : DataW H) : 1 ≤ Rows.uptoBulk d := by
  cases d with
  | lit l => cases l <;> simp [Rows.uptoBulk]
  | _ => simp [Rows.uptoBulk]
theorem zFJ {H : Type} (l : List (DataW H)) : l.length ≤ Rows.uptoBulkAll l := by
  induction l with
  | nil => simp [Rows.uptoBulkAll]
  | cons x r ih => have := Yj x; simp only [Rows.uptoBulkAll, List.length_cons]; omega
theorem HO {H : Type} : Gg (Rows.uptoBulk (H := H)) := by
  refine ⟨fun l => by simp [Rows.uptoBulk], fun h => ?_, fun h => ?_, fun es sp => ?_⟩
  · have := Fu h; simp only [Rows.uptoBulk]; omega
  · have := Fu h; simp only [Rows.uptoBulk]; omega
  · have := zFJ es; simp only [Rows.uptoBulk]; omega

set_option maxRecDepth 100000 in
theorem Zu : Tryz.prog.funcNamed Rows.foeSaysUptoRow.func = some 4 := by kernel_rfl
set_option maxRecDepth 100000 in
theorem V9 : joinedFacts Tryz.prog 4 Tryz.f4 (Rows.OpenSpec.upto Rows.foeSaysSpec).bare Rows.foeSaysUptoRow = true := by decide +kernel

set_option maxRecDepth 100000 in
theorem jLF (os : Os) (started : os.Started) (H : Type) (enc : TypeId × Value → H) (F : Stop.Interp) :
    ReturnsInHanded {} Tryz.checked os 4 .any ((Rows.OpenSpec.upto Rows.foeSaysSpec).pre6 enc Tryz.prog Tryz.f4 [] false) (((Rows.OpenSpec.upto Rows.foeSaysSpec).at F).post enc Tryz.prog Tryz.f4 false true false false) := by
  refine Xo (C := Tryz.checked) (k := Rows.uptoSmall) rfl (by kernel_rfl) rfl rfl (fun ds h => ?_) (by kernel_rfl) Tryz.underlying4 (by kernel_rfl) (by kernel_rfl) started (by kernel_rfl) Tryz.func4
    (OpenSpec.witness (enc := enc) (C := Tryz.checked) (k := Rows.uptoSmall) rfl false ⟨#[], #[.slice none 0 0, .slice none 0 0, .agg #[.int .i64 0, .int .u64 0, .string ⟨#[]⟩]], []⟩ 8 (by kernel_rfl) (by kernel_rfl) (by kernel_rfl) (x := ([.nil, .nil, .agg [.lit (.int .i64 0), .lit (.int .u64 0), .lit (.string [])]], [], [])) (by kernel_rfl) (by kernel_rfl) (by kernel_rfl)) ?_
  · match ds, h with
    | [_, _, _], _ => rfl
  intro W ew args ds p hval hA hlt hk
  rw [Tryz.params4] at hA hval
  obtain ⟨v0, v1, v2, d0, d1, d2, p0, p1, p2, rfl, rfl, rfl, h0, h1, h2⟩ := trodAll_three hA
  have hb := of_decide_eq_true hk
  have hb0 := Nat.le_trans (Fu (d := d0) (by simp)) hb
  have hb1 := Nat.le_trans (Fu (d := d1) (by simp)) hb
  obtain ⟨a, n, c, rfl⟩ := Ls Tryz.underlying22 (hval 0 _ v0 rfl rfl)
  obtain ⟨m0, h0⟩ := h0
  obtain ⟨s, ls, e, hL, hok⟩ := zJF HO (Nat.le_refl _) h0 hb0
  obtain ⟨a, n, c, rfl⟩ := Ls Tryz.underlying36 (hval 1 _ v1 rfl rfl)
  obtain ⟨m1, h1⟩ := h1
  obtain ⟨so, ops, e1, hO, hfew, hN⟩ := Lk HO h1 hb1
  obtain ⟨cs, rfl, hs, _⟩ := Yz (ts := [3, 23, 9]) Tryz.underlying25 (by kernel_rfl) (by kernel_rfl) (hval 2 _ v2 rfl rfl)
  obtain ⟨cs⟩ := cs
  obtain ⟨m2, h2⟩ := h2
  replace h2 : DataW.trod enc Tryz.prog W 0 (fun _ => true) true m2 25 cs = some (d2, p2) := h2
  obtain ⟨who, c', y, rfl, hc⟩ := zES h2
  rw [e, e1]
  exact jKT s ls so ops who c' y hc W hL hok (fun _ h => h) hO (fun _ h => h) (fun o ho => (hN o ho).1) hfew (fun o ho => (hN o ho).2)

theorem foeSays_holds : Rows.FoeSaysUptoSaid :=
  OpenClaim.holds_of_cond 4 Tryz.f4 rfl rfl rfl rfl rfl rfl rfl ⟨rfl, rfl, rfl, rfl, rfl⟩ rfl rfl rfl rfl rfl Zu Tryz.func4 V9
    (of_decide_eq_true (by kernel_rfl)) (by unfold Func.isWrapper; first | (rw [if_pos (by decide +kernel)]; kernel_rfl) | (rw [if_neg (by decide +kernel)]; exact ⟨rfl, rfl⟩))
    (fun os started H enc _ F => jLF os started H enc F)
#print axioms foeSays_holds
end Go.Proofs.YtjjcakjoeiolgaaGreat
