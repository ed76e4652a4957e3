/-
  escrowlaw11.LetterBuilds returns true for every two letters, and what came in reads as before: the row, and its card, tied to the program's text.
  No condition of its own; the row lists three tables of Go's library, and the card ties them to the program's text.
-/
import Derived.Test.YtkafbiknboamlaaGreatDoorRows
import Derived.Test.YtkafbiknboamlaaGreatDoorCards
import Derived.Test.YtkafbiknboamlaaGreatDoorTie
import Derived.LaidMore
import Derived.SevenTiedAt
import Derived.Test.YtkafbiknboamlaaGreatDoorPa7
open Go Go.SE
namespace Go.Proofs.YtkafbiknboamlaaGreatDoor
open Go.ChangeShapes Go.WideShapes Go.ChangeAt Go.RowKit

abbrev laids : List (String × DataW Unit) := [("math/bits.deBruijn32tab", Rows.laid_math_bits_deBruijn32tab), ("math/bits.deBruijn64tab", Rows.laid_math_bits_deBruijn64tab), ("internal/strconv.uint64pow10", Rows.laid_internal_strconv_uint64pow10)]

theorem gPow : Tryz.prog.globalNamed "internal/strconv.uint64pow10" = some 0 := by kernel_rfl
theorem tPow : (Tryz.prog.globals[0]?).map (·.type) = some 269 := by kernel_rfl

/-- The door's own heap meets the condition. -/
theorem jRT (os : Os) (args : Array Value) : laidMetH Tryz.prog laids ((World.doorLaid Tryz.prog 400 os).forCall (fun _ _ => 0) ⟨#[], args, []⟩).memory :=
  laidMetH_of_parts3 (fuel := 8) (laidMet_of_run' 8 (by kernel_rfl) (by kernel_rfl)) (by kernel_rfl) (by kernel_rfl)

/-- What the condition gives the walks: the table. -/
theorem jJY {W : World} (h : laidMetH Tryz.prog laids W) : Pow W := by
  rw [MakeChecks.laidMetH_plain _ _ _ (by kernel_rfl)] at h
  obtain ⟨ps, ⟨g0, t0, cs0, f0, p0, q0, hg0, ht0, hv0, hd0, ⟨g1, t1, cs1, f1, p1, q1, hg1, ht1, hv1, hd1, ⟨g2, t2, cs2, f2, p2, q2, hg2, ht2, hv2, hd2, _, _⟩, _⟩, _⟩, _, _⟩ := h
  obtain rfl := Option.some.inj (gPow.symm.trans hg2)
  obtain rfl := Option.some.inj (tPow.symm.trans ht2)
  unfold Pow Lib.TabIs
  rw [hv2, ← Lib.cells_of_tab (zs := Lib.pow10Tab) Tryz.underlying269 Tryz.underlying26 (by kernel_rfl) (by kernel_rfl) hd2]

set_option maxRecDepth 100000 in
theorem jBQ : Tryz.prog.funcNamed Rows.letterBuildsRow.func = some 5 := by kernel_rfl
set_option maxRecDepth 100000 in
theorem jAU : joinedFacts Tryz.prog 5 Tryz.f5 Rows.letterBuildsSpec Rows.letterBuildsRow = true := by decide +kernel

set_option maxRecDepth 100000 in
set_option maxHeartbeats 4000000 in
theorem jAT (os : Os) (started : os.Started) (H : Type) (enc : TypeId × Value → H) :
    ReturnsInHanded {} Tryz.checked os 5 .any (fun w args => (Rows.letterBuildsSpec.pre enc Tryz.prog Tryz.f5 [] false w args ∧ laidMetH Tryz.prog laids w) ∧ sizedMet enc Tryz.prog Tryz.f5 (OpenSpec.ofChange Rows.letterBuildsSpec) false w args)
      (Rows.letterBuildsSpec.post enc Tryz.prog Tryz.f5 false true false false) := by
  refine returnsInHanded_of_change_and (C := Tryz.checked) (X := fun w _ => laidMetH Tryz.prog laids w) (fun _ _ _ hh h => h.of_heap hh) (by kernel_rfl) started (by kernel_rfl) Tryz.func5
    (ChangeSpec.witness_shaped (enc := enc) (C := Tryz.checked) (os := os) (X := fun w _ => laidMetH Tryz.prog laids w) false (World.doorLaid Tryz.prog 400 os) #[.agg #[.int .i64 0, .int .i64 0, .int .u64 0, .string ⟨#[]⟩, .bool false], .agg #[.int .i64 0, .int .i64 0, .int .u64 0, .string ⟨#[]⟩, .bool false]] 8 rfl (World.shaped_of_RefB (by kernel_rfl) (by kernel_rfl)) (by kernel_rfl) (by kernel_rfl) (by kernel_rfl) (jRT os _)) ?_
  intro W base args ds gs before hval hW _ _ hL _
  have hW' := hW
  obtain ⟨p, q, hA, hV, rfl, hfz, hnd⟩ := hW
  have hlt : ∀ x ∈ p, x.block < W.heap.size := fun x hx => by simpa using hW'.lt x (by simp [hx])
  rw [Tryz.params5] at hA hval
  obtain ⟨v0, v1, d0, d1, p0, p1, rfl, rfl, rfl, h0, h1⟩ := trodAll_two hA
  obtain ⟨cs, rfl, hs, _⟩ := jCP (ts := [3, 3, 26, 9, 4]) Tryz.underlying56 (by kernel_rfl) (by kernel_rfl) (hval 0 _ v0 rfl rfl)
  obtain ⟨cs⟩ := cs
  obtain ⟨m0, h0⟩ := h0
  replace h0 : DataW.trod enc Tryz.prog W 0 (fun _ => true) true m0 56 cs = some (d0, p0) := h0
  obtain ⟨l, rfl, hl⟩ := jCS h0
  obtain ⟨cs2, rfl, hs2, _⟩ := jCP (ts := [3, 3, 26, 9, 4]) Tryz.underlying56 (by kernel_rfl) (by kernel_rfl) (hval 1 _ v1 rfl rfl)
  obtain ⟨cs2⟩ := cs2
  obtain ⟨m1, h1⟩ := h1
  replace h1 : DataW.trod enc Tryz.prog W 0 (fun _ => true) true m1 56 cs2 = some (d1, p1) := h1
  obtain ⟨l2, rfl, hl2⟩ := jCS h1
  refine (jAI l l2 hl hl2 W (jJY hL)).mono ?_
  rintro _ W' ⟨r, rfl, rfl, E⟩
  refine ⟨_, rfl, jRJ (by kernel_rfl) rfl (fun ds h => ?_) (by kernel_rfl) Tryz.underlying4 (by kernel_rfl) hW' E⟩
  match ds, h with
  | [_, _], _ => rfl

theorem jCG : Rows.LetterBuildsSaid :=
  OpenClaim.holds_of_wide 5 Tryz.f5 rfl rfl rfl rfl rfl rfl rfl ⟨rfl, rfl, rfl, rfl, rfl⟩ rfl rfl rfl rfl rfl jBQ Tryz.func5 jAU
    (of_decide_eq_true (by kernel_rfl)) (by unfold Func.isWrapper; first | (rw [if_pos (by decide +kernel)]; kernel_rfl) | (rw [if_neg (by decide +kernel)]; exact ⟨rfl, rfl⟩))
    (fun os started H enc _ => jAT os started H enc)

theorem letterBuilds_holds : Rows.LetterBuildsCardSaid :=
  Claim7.holds_tied_plain_at .later [] [.data, .data, .data] true (true, "4f776dc674820cb18d6276dbbf3048a2b8c04d60b608ec1645a705a9ac8f1837") true
    jCG (fun _ h => by cases h) (by kernel_rfl) (fun _ h => by cases h) letterBuilds_row_tie rfl ⟨rfl, rfl⟩ (by kernel_rfl) rfl
    (fun f fn hf hfn => by
      obtain rfl : f = 5 := Option.some.inj ((show Tryz.prog.funcNamed "escrow/escrowlaw11.LetterBuilds" = some 5 by kernel_rfl).symm.trans hf) |>.symm
      obtain rfl : fn = Tryz.f5 := (Option.some.inj (Tryz.func5.symm.trans hfn)).symm
      exact ⟨by kernel_rfl, fun j t ht => by
        rw [Tryz.params5] at ht
        have hm : t ∈ [56, 56] := by simpa using Array.mem_of_getElem? ht
        have hall : ([56, 56].all fun u => !Tryz.prog.wantsStandIn u) = true := by kernel_rfl
        exact (show Tryz.prog.wantsStandIn t = false by simpa using List.all_eq_true.1 hall t hm)⟩)
    (by kernel_rfl)
#print axioms letterBuilds_holds
end Go.Proofs.YtkafbiknboamlaaGreatDoor
