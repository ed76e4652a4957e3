/-
  escrowlaw23.FoePlays returns true for every acts, every claim and every tree that are together of bulk 1048576 at most, and what came in reads as before.
  No other condition.
-/
import Derived.Test.YtjjcakjoeiolgaaGreatRows
import Derived.Test.YtjjcakjoeiolgaaGreatPa10
import Derived.Test.YtjjcakjoeiolgaaGreatPa9
import Derived.Test.YtjjcakjoeiolgaaGreatPa8
import Derived.Test.YtjjcakjoeiolgaaGreatPa4
open Go Go.SE
namespace Go.Proofs.YtjjcakjoeiolgaaGreat
open Go.ChangeShapes Go.WideShapes Go.ChangeAt Go.RowKit

theorem KG {H : Type} {l : List (DataW H)} {d : DataW H} (h : d ∈ l) : Rows.uptoBulk d ≤ Rows.uptoBulkAll l := by
  induction l with
  | nil => cases h
  | cons x r ih =>
    simp only [Rows.uptoBulkAll]
    rcases List.mem_cons.1 h with rfl | h
    · omega
    · have := ih h; omega
theorem TG {H : Type} (d : DataW H) : 1 ≤ Rows.uptoBulk d := by
  cases d with
  | lit l => cases l <;> simp [Rows.uptoBulk]
  | _ => simp [Rows.uptoBulk]
theorem V4 {H : Type} (l : List (DataW H)) : l.length ≤ Rows.uptoBulkAll l := by
  induction l with
  | nil => simp [Rows.uptoBulkAll]
  | cons x r ih => have := TG x; simp only [Rows.uptoBulkAll, List.length_cons]; omega
theorem Nf {H : Type} : Kl (Rows.uptoBulk (H := H)) := by
  refine ⟨fun l => by simp [Rows.uptoBulk], fun h => ?_, fun h => ?_, fun es sp => ?_⟩
  · have := KG h; simp only [Rows.uptoBulk]; omega
  · have := KG h; simp only [Rows.uptoBulk]; omega
  · have := V4 es; simp only [Rows.uptoBulk]; omega

set_option maxRecDepth 100000 in
theorem VY : Tryz.prog.funcNamed Rows.foePlaysUptoRow.func = some 6 := by kernel_rfl
set_option maxRecDepth 100000 in
theorem UD : joinedFacts Tryz.prog 6 Tryz.f6 (Rows.OpenSpec.upto Rows.foePlaysSpec).bare Rows.foePlaysUptoRow = true := by decide +kernel

set_option maxRecDepth 100000 in
theorem V0 (os : Os) (started : os.Started) (H : Type) (enc : TypeId × Value → H) (F : Stop.Interp) :
    ReturnsInHanded {} Tryz.checked os 6 .any ((Rows.OpenSpec.upto Rows.foePlaysSpec).pre6 enc Tryz.prog Tryz.f6 [] false) (((Rows.OpenSpec.upto Rows.foePlaysSpec).at F).post enc Tryz.prog Tryz.f6 false true false false) := by
  refine jUO (C := Tryz.checked) (k := Rows.uptoSmall) rfl (by kernel_rfl) rfl rfl (fun ds h => ?_) (by kernel_rfl) Tryz.underlying4 (by kernel_rfl) (by kernel_rfl) started (by kernel_rfl) Tryz.func6
    (OpenSpec.witness (enc := enc) (C := Tryz.checked) (k := Rows.uptoSmall) rfl false ⟨#[], #[.slice none 0 0, .agg #[.int .i64 0, .int .u64 0, .string ⟨#[]⟩], .agg #[.int .i64 0, .int .i64 0, .int .i64 0, .int .u64 0, .string ⟨#[]⟩, .slice none 0 0]], []⟩ 8 (by kernel_rfl) (by kernel_rfl) (by kernel_rfl) (x := ([.nil, .agg [.lit (.int .i64 0), .lit (.int .u64 0), .lit (.string [])], .agg [.lit (.int .i64 0), .lit (.int .i64 0), .lit (.int .i64 0), .lit (.int .u64 0), .lit (.string []), .nil]], [], [])) (by kernel_rfl) (by kernel_rfl) (by kernel_rfl)) ?_
  · match ds, h with
    | [_, _, _], _ => rfl
  intro W ie args ds p hval hA hlt hk
  rw [Tryz.params6] at hA hval
  obtain ⟨v0, v1, v2, d0, d1, d2, p0, p1, p2, rfl, rfl, rfl, h0, h1, h2⟩ := trodAll_three hA
  have hb := of_decide_eq_true hk
  have hb0 := Nat.le_trans (KG (d := d0) (by simp)) hb
  obtain ⟨a, n, c, rfl⟩ := Xs Tryz.underlying22 (hval 0 _ v0 rfl rfl)
  obtain ⟨m0, h0⟩ := h0
  obtain ⟨s, ls, e, hL, hok⟩ := Te Nf (Nat.le_refl _) h0 hb0
  obtain ⟨cs, rfl, hs, _⟩ := LM (ts := [3, 23, 9]) Tryz.underlying25 (by kernel_rfl) (by kernel_rfl) (hval 1 _ v1 rfl rfl)
  obtain ⟨cs⟩ := cs
  obtain ⟨m1, h1⟩ := h1
  replace h1 : DataW.trod enc Tryz.prog W 0 (fun _ => true) true m1 25 cs = some (d1, p1) := h1
  obtain ⟨bb, c', y, rfl, hc⟩ := Zb h1
  obtain ⟨cs, rfl, hs, _⟩ := LM (ts := [3, 3, 3, 23, 9, 69]) Tryz.underlying71 (by kernel_rfl) (by kernel_rfl) (hval 2 _ v2 rfl rfl)
  obtain ⟨cs⟩ := cs
  obtain ⟨m2, h2⟩ := h2
  replace h2 : DataW.trod enc Tryz.prog W 0 (fun _ => true) true m2 71 cs = some (d2, p2) := h2
  obtain ⟨t0, s0, rfl, g0, _⟩ := (zAX zAY m2).2 cs _ h2
  obtain ⟨k, fr, to, u, tx, ks⟩ := t0
  rw [e]
  exact Zm s ls bb c' y hc k fr to u tx ks s0 W hL hok (fun _ h => h) (g0.lt.mono (fun b hb => hb.2)) (fun _ h => h)

theorem foePlays_holds : Rows.FoePlaysUptoSaid :=
  OpenClaim.holds_of_cond 6 Tryz.f6 rfl rfl rfl rfl rfl rfl rfl ⟨rfl, rfl, rfl, rfl, rfl⟩ rfl rfl rfl rfl rfl VY Tryz.func6 UD
    (of_decide_eq_true (by kernel_rfl)) (by unfold Func.isWrapper; first | (rw [if_pos (by decide +kernel)]; kernel_rfl) | (rw [if_neg (by decide +kernel)]; exact ⟨rfl, rfl⟩))
    (fun os started H enc _ F => V0 os started H enc F)
#print axioms foePlays_holds
end Go.Proofs.YtjjcakjoeiolgaaGreat
