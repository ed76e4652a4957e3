/-
  escrowlaw11.LetterReads returns true for every tree, every term, number and text, and what came in reads as before: the row, and its card, tied to the program's text.
  No condition of its own; the row lists three tables of Go's library, and the card ties them to the program's text.
-/
import Derived.Test.YtkafbiknboamlaaGreatDoorRows
import Derived.Test.YtkafbiknboamlaaGreatDoorCards
import Derived.Test.YtkafbiknboamlaaGreatDoorTie
import Derived.LaidMore
import Derived.SevenTiedAt
import Derived.Test.YtkafbiknboamlaaGreatDoorPa7
open Go Go.SE
namespace Go.Proofs.YtkafbiknboamlaaGreatDoor
open Go.ChangeShapes Go.WideShapes Go.ChangeAt Go.RowKit

abbrev laids : List (String × DataW Unit) := [("math/bits.deBruijn32tab", Rows.laid_math_bits_deBruijn32tab), ("math/bits.deBruijn64tab", Rows.laid_math_bits_deBruijn64tab), ("internal/strconv.uint64pow10", Rows.laid_internal_strconv_uint64pow10)]

theorem gPow : Tryz.prog.globalNamed "internal/strconv.uint64pow10" = some 0 := by kernel_rfl
theorem tPow : (Tryz.prog.globals[0]?).map (·.type) = some 269 := by kernel_rfl

/-- The door's own heap meets the condition. -/
theorem jSY (os : Os) (args : Array Value) : laidMetH Tryz.prog laids ((World.doorLaid Tryz.prog 400 os).forCall (fun _ _ => 0) ⟨#[], args, []⟩).memory :=
  laidMetH_of_parts3 (fuel := 8) (laidMet_of_run' 8 (by kernel_rfl) (by kernel_rfl)) (by kernel_rfl) (by kernel_rfl)

/-- What the condition gives the walks: the table. -/
theorem jLD {W : World} (h : laidMetH Tryz.prog laids W) : Pow W := by
  rw [MakeChecks.laidMetH_plain _ _ _ (by kernel_rfl)] at h
  obtain ⟨ps, ⟨g0, t0, cs0, f0, p0, q0, hg0, ht0, hv0, hd0, ⟨g1, t1, cs1, f1, p1, q1, hg1, ht1, hv1, hd1, ⟨g2, t2, cs2, f2, p2, q2, hg2, ht2, hv2, hd2, _, _⟩, _⟩, _⟩, _, _⟩ := h
  obtain rfl := Option.some.inj (gPow.symm.trans hg2)
  obtain rfl := Option.some.inj (tPow.symm.trans ht2)
  unfold Pow Lib.TabIs
  rw [hv2, ← Lib.cells_of_tab (zs := Lib.pow10Tab) Tryz.underlying269 Tryz.underlying26 (by kernel_rfl) (by kernel_rfl) hd2]

set_option maxRecDepth 100000 in
theorem jDA : Tryz.prog.funcNamed Rows.letterReadsRow.func = some 6 := by kernel_rfl
set_option maxRecDepth 100000 in
theorem jCL : joinedFacts Tryz.prog 6 Tryz.f6 Rows.letterReadsSpec Rows.letterReadsRow = true := by decide +kernel

set_option maxRecDepth 100000 in
set_option maxHeartbeats 4000000 in
theorem jCK (os : Os) (started : os.Started) (H : Type) (enc : TypeId × Value → H) :
    ReturnsInHanded {} Tryz.checked os 6 .any (fun w args => (Rows.letterReadsSpec.pre enc Tryz.prog Tryz.f6 [] false w args ∧ laidMetH Tryz.prog laids w) ∧ sizedMet enc Tryz.prog Tryz.f6 (OpenSpec.ofChange Rows.letterReadsSpec) false w args)
      (Rows.letterReadsSpec.post enc Tryz.prog Tryz.f6 false true false false) := by
  refine returnsInHanded_of_change_and (C := Tryz.checked) (X := fun w _ => laidMetH Tryz.prog laids w) (fun _ _ _ hh h => h.of_heap hh) (by kernel_rfl) started (by kernel_rfl) Tryz.func6
    (ChangeSpec.witness_shaped (enc := enc) (C := Tryz.checked) (os := os) (X := fun w _ => laidMetH Tryz.prog laids w) false (World.doorLaid Tryz.prog 400 os) #[.agg #[.int .i64 0, .int .i64 0, .int .i64 0, .int .u64 0, .string ⟨#[]⟩, .slice none 0 0], .int .i64 0, .int .u64 0, .string ⟨#[]⟩] 8 rfl (World.shaped_of_RefB (by kernel_rfl) (by kernel_rfl)) (by kernel_rfl) (by kernel_rfl) (by kernel_rfl) (jSY os _)) ?_
  intro W base args ds gs before hval hW _ _ hL _
  have hW' := hW
  obtain ⟨p, q, hA, hV, rfl, hfz, hnd⟩ := hW
  have hlt : ∀ x ∈ p, x.block < W.heap.size := fun x hx => by simpa using hW'.lt x (by simp [hx])
  rw [Tryz.params6] at hA hval
  obtain ⟨v0, v1, v2, v3, d0, d1, d2, d3, p0, p1, p2, p3, rfl, rfl, rfl, h0, h1, h2, h3⟩ := trodAll_four hA
  obtain ⟨cs, rfl, hs, _⟩ := jIZ (ts := [3, 3, 3, 26, 9, 22]) Tryz.underlying28 (by kernel_rfl) (by kernel_rfl) (hval 0 _ v0 rfl rfl)
  obtain ⟨cs⟩ := cs
  obtain ⟨m, h0⟩ := h0
  replace h0 : DataW.trod enc Tryz.prog W 0 (fun _ => true) true m 28 cs = some (d0, p0) := h0
  obtain ⟨t0, s0, rfl, g0, _⟩ := (jPB jPE m).2 cs _ h0
  obtain ⟨t, rfl⟩ := okWide_int Tryz.underlying23 (hval 1 _ v1 rfl rfl)
  obtain ⟨c, rfl⟩ := okWide_int Tryz.underlying26 (hval 2 _ v2 rfl rfl)
  obtain ⟨x, rfl⟩ := jGA Tryz.underlying9 (hval 3 _ v3 rfl rfl)
  refine (jBI t0 s0 t c x W (jLD hL) (g0.lt.mono (fun b hb => hb.2)) (fun _ h => h)).mono ?_
  rintro _ W' ⟨r, rfl, rfl, E⟩
  refine ⟨_, rfl, jSR (by kernel_rfl) rfl (fun ds h => ?_) (by kernel_rfl) Tryz.underlying4 (by kernel_rfl) hW' E⟩
  match ds, h with
  | [_, _, _, _], _ => rfl

theorem jDX : Rows.LetterReadsSaid :=
  OpenClaim.holds_of_wide 6 Tryz.f6 rfl rfl rfl rfl rfl rfl rfl ⟨rfl, rfl, rfl, rfl, rfl⟩ rfl rfl rfl rfl rfl jDA Tryz.func6 jCL
    (of_decide_eq_true (by kernel_rfl)) (by unfold Func.isWrapper; first | (rw [if_pos (by decide +kernel)]; kernel_rfl) | (rw [if_neg (by decide +kernel)]; exact ⟨rfl, rfl⟩))
    (fun os started H enc _ => jCK os started H enc)

theorem letterReads_holds : Rows.LetterReadsCardSaid :=
  Claim7.holds_tied_plain_at .later [] [.data, .data, .data] true (true, "4f776dc674820cb18d6276dbbf3048a2b8c04d60b608ec1645a705a9ac8f1837") true
    jDX (fun _ h => by cases h) (by kernel_rfl) (fun _ h => by cases h) letterReads_row_tie rfl ⟨rfl, rfl⟩ (by kernel_rfl) rfl
    (fun f fn hf hfn => by
      obtain rfl : f = 6 := Option.some.inj ((show Tryz.prog.funcNamed "escrow/escrowlaw11.LetterReads" = some 6 by kernel_rfl).symm.trans hf) |>.symm
      obtain rfl : fn = Tryz.f6 := (Option.some.inj (Tryz.func6.symm.trans hfn)).symm
      exact ⟨by kernel_rfl, fun j t ht => by
        rw [Tryz.params6] at ht
        have hm : t ∈ [28, 23, 26, 9] := by simpa using Array.mem_of_getElem? ht
        have hall : ([28, 23, 26, 9].all fun u => !Tryz.prog.wantsStandIn u) = true := by kernel_rfl
        exact (show Tryz.prog.wantsStandIn t = false by simpa using List.all_eq_true.1 hall t hm)⟩)
    (by kernel_rfl)
#print axioms letterReads_holds
end Go.Proofs.YtkafbiknboamlaaGreatDoor
