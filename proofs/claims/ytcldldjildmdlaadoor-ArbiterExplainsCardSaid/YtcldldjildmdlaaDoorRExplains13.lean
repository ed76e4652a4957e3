/-
  escrowlaw13.ArbiterExplains returns true for every yU, and what came in reads as before: the row, and its card, tied to the program's text.
  No condition of its own; the row lists three tables of Go's library, and the card ties them to the program's text.
-/
import Derived.Test.YtcldldjildmdlaaDoorRows
import Derived.Test.YtcldldjildmdlaaDoorCards
import Derived.Test.YtcldldjildmdlaaDoorTie
import Derived.LaidMore
import Derived.SevenTiedAt
import Derived.Test.YtcldldjildmdlaaDoorPa3
open Go.SE
namespace Go.Proofs.YtcldldjildmdlaaDoor
open Go.ChangeShapes Go.WideShapes Go.ChangeAt Go.RowKit

abbrev laids : List (String × DataW Unit) := [("math/bits.deBruijn32tab", Rows.laid_math_bits_deBruijn32tab), ("math/bits.deBruijn64tab", Rows.laid_math_bits_deBruijn64tab), ("internal/strconv.uint64pow10", Rows.laid_internal_strconv_uint64pow10)]

theorem gPow : Tryd.prog.globalNamed "internal/strconv.uint64pow10" = some 0 := by kernel_rfl
theorem tPow : (Tryd.prog.globals[0]?).map (·.type) = some 97 := by kernel_rfl

/-- The door's own heap meets the condition. -/
theorem jFA (os : Os) (args : Array Value) : laidMetH Tryd.prog laids ((World.doorLaid Tryd.prog 400 os).forCall (fun _ _ => 0) ⟨#[], args, []⟩).memory :=
  laidMetH_of_parts3 (fuel := 8) (laidMet_of_run' 8 (by kernel_rfl) (by kernel_rfl)) (by kernel_rfl) (by kernel_rfl)

/-- What the condition gives the walks: the table. -/
theorem jBP {W : World} (h : laidMetH Tryd.prog laids W) : Pow W := by
  rw [MakeChecks.laidMetH_plain _ _ _ (by kernel_rfl)] at h
  obtain ⟨ps, ⟨g0, t0, cs0, f0, p0, q0, hg0, ht0, hv0, hd0, ⟨g1, t1, cs1, f1, p1, q1, hg1, ht1, hv1, hd1, ⟨g2, t2, cs2, f2, p2, q2, hg2, ht2, hv2, hd2, _, _⟩, _⟩, _⟩, _, _⟩ := h
  obtain rfl := Option.some.inj (gPow.symm.trans hg2)
  obtain rfl := Option.some.inj (tPow.symm.trans ht2)
  unfold Pow Lib.TabIs
  rw [hv2, ← Lib.cells_of_tab (zs := Lib.pow10Tab) Tryd.underlying97 Tryd.underlying22 (by kernel_rfl) (by kernel_rfl) hd2]

theorem qM {P : Program} {W : World} {r : Reach} {b0 : Nat} {t : TypeId} {v : Value} {k : IntKind} (ht : P.underlying t = some (.int k)) (h : Cell.okWide P W r b0 t v) : ∃ n, v = .int k n ∧ k.has n := by
  unfold Cell.okWide at h
  rw [ht] at h
  cases v <;> simp [Cell.ok, ht] at h
  obtain ⟨rfl, h⟩ := h
  exact ⟨_, rfl, h⟩

set_option maxRecDepth 100000 in
set_option maxHeartbeats 4000000 in
theorem yH (os : Os) (started : os.Started) (H : Type) (enc : TypeId × Value → H) :
    ReturnsInHanded {} Tryd.checked os 3 .any (fun w args => (Rows.arbiterExplainsSpec.pre enc Tryd.prog Tryd.f3 [] false w args ∧ laidMetH Tryd.prog laids w) ∧ sizedMet enc Tryd.prog Tryd.f3 (OpenSpec.ofChange Rows.arbiterExplainsSpec) false w args)
      (Rows.arbiterExplainsSpec.post enc Tryd.prog Tryd.f3 false true false false) := by
  refine returnsInHanded_of_change_and (C := Tryd.checked) (X := fun w _ => laidMetH Tryd.prog laids w) (fun _ _ _ hh h => h.of_heap hh) (by kernel_rfl) started (by kernel_rfl) Tryd.func3
    (ChangeSpec.witness_shaped (enc := enc) (C := Tryd.checked) (os := os) (X := fun w _ => laidMetH Tryd.prog laids w) false (World.doorLaid Tryd.prog 400 os) #[.agg #[.int .i64 0, .int .u64 0, .int .i64 0, .int .i64 0, .int .i64 0]] 8 rfl (World.shaped_of_RefB (by kernel_rfl) (by kernel_rfl)) (by kernel_rfl) (by kernel_rfl) (by kernel_rfl) (jFA os _)) ?_
  intro W base args ds gs before hval hW _ _ hL _
  have hW' := hW
  obtain ⟨p, q, hA, hV, rfl, hfz, hnd⟩ := hW
  have hA0 := hA
  rw [Tryd.params3] at hA hval
  obtain ⟨v0, d0, rfl, rfl, h0⟩ := trodAll_one hA
  obtain ⟨cs, rfl, hs, hc⟩ := jAN (ts := [3, 22, 3, 3, 3]) Tryd.underlying24 (by kernel_rfl) (by kernel_rfl) (hval 0 _ v0 rfl rfl)
  obtain ⟨l⟩ := cs
  match l, hs, hc with
  | [x0, x1, x2, x3, x4], _, hc =>
    obtain ⟨who, rfl, hw⟩ := qM Tryd.underlying3 (hc 0 _ x0 rfl rfl)
    obtain ⟨n, rfl, hn⟩ := qM Tryd.underlying22 (hc 1 _ x1 rfl rfl)
    obtain ⟨k, rfl, _⟩ := qM Tryd.underlying3 (hc 2 _ x2 rfl rfl)
    obtain ⟨a, rfl, _⟩ := qM Tryd.underlying3 (hc 3 _ x3 rfl rfl)
    obtain ⟨b, rfl, _⟩ := qM Tryd.underlying3 (hc 4 _ x4 rfl rfl)
    have hw0 : -9223372036854775808 ≤ who ∧ who ≤ 9223372036854775807 := hw
    have hn0 : 0 ≤ n ∧ n ≤ 18446744073709551615 := hn
    obtain ⟨c, rfl⟩ : ∃ c : Nat, n = (c : Int) := ⟨n.toNat, by omega⟩
    refine (yB who c k a b W (jBP hL) (by omega) hw0.1 hw0.2).mono ?_
    rintro _ W' ⟨r, rfl, rfl, E⟩
    refine ⟨_, rfl, jEY (by kernel_rfl) rfl (fun ds h => ?_) (by kernel_rfl) Tryd.underlying4 (by kernel_rfl) hW' E⟩
    match ds, h with
    | [_], _ => rfl

theorem yP : Rows.ArbiterExplainsSaid :=
  OpenClaim.holds_of_wide 3 Tryd.f3 rfl rfl rfl rfl rfl rfl rfl ⟨rfl, rfl, rfl, rfl, rfl⟩ rfl rfl rfl rfl rfl (by kernel_rfl) Tryd.func3 (by kernel_rfl)
    (of_decide_eq_true (by kernel_rfl)) (by unfold Func.isWrapper; first | (rw [if_pos (by decide +kernel)]; kernel_rfl) | (rw [if_neg (by decide +kernel)]; exact ⟨rfl, rfl⟩))
    (fun os started H enc _ => yH os started H enc)

theorem arbiterExplains_holds : Rows.ArbiterExplainsCardSaid :=
  Claim7.holds_tied_plain_at .later [] [.data, .data, .data] true (true, "0088c31cfd1a9f6b0883a348d4d910794d0d4c4eff0d5028d7d4cad71074218f") false
    yP (fun _ h => by cases h) (by kernel_rfl) (fun _ h => by cases h) arbiterExplains_row_tie rfl ⟨rfl, rfl⟩ (by kernel_rfl) rfl
    (fun f fn hf hfn => by
      obtain rfl : f = 3 := Option.some.inj ((show Tryd.prog.funcNamed "escrow/escrowlaw13.ArbiterExplains" = some 3 by kernel_rfl).symm.trans hf) |>.symm
      obtain rfl : fn = Tryd.f3 := (Option.some.inj (Tryd.func3.symm.trans hfn)).symm
      exact ⟨by kernel_rfl, fun j t ht => by
        rw [Tryd.params3] at ht
        have hm : t ∈ [24] := by simpa using Array.mem_of_getElem? ht
        have hall : ([24].all fun u => !Tryd.prog.wantsStandIn u) = true := by kernel_rfl
        exact (show Tryd.prog.wantsStandIn t = false by simpa using List.all_eq_true.1 hall t hm)⟩)
    (by kernel_rfl)
#print axioms arbiterExplains_holds
end Go.Proofs.YtcldldjildmdlaaDoor
