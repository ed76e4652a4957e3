import Derived.Test.YtcldldjildmdlaaProg
import Derived.KernelRfl
import Derived.Test.YtcldldjildmdlaaPa0
import Derived.Laws.IdiomStrings
import Init.Data.Nat
import Derived.Recover
section
open Go Go.SE
open Go.IntKind renaming i64 → q6
namespace Go.Proofs
set_option maxRecDepth 100000
set_option maxHeartbeats 4000000
attribute [local irreducible] wpL wpX opE wpE Calls
def m_C1  (w0 : World) (K : (Option Nat) → WP) : Prop :=
 ∀ (p1 : Addr) (w1 : World), New w0 (.cells #[(.nilFunc : Value), (.nilFunc : Value)] 195) p1 w1 →
 (∀ j, j < 2 → CanW w1 (p1.add j)) ∧ ∀ w2 : World, w2 = storeRow w1 p1 [(.func (.func 166) #[] #[]), (.func (.func 168) #[] #[])] →
 ∀ (p2 : Addr) (w3 : World), New w2 (.cells #[(.nilFunc : Value), (.nilFunc : Value)] 195) p2 w3 →
 (∀ j, j < 2 → CanW w3 (p2.add j)) ∧ ∀ w4 : World, w4 = storeRow w3 p2 [(.func (.func 170) #[] #[]), (.func (.func 171) #[] #[])] →
 ∀ (p3 : Addr) (w5 : World), New w4 (.cells #[(.nilFunc : Value), (.nilFunc : Value)] 195) p3 w5 →
 (∀ j, j < 2 → CanW w5 (p3.add j)) ∧ ∀ w6 : World, w6 = storeRow w5 p3 [(.func (.func 172) #[] #[]), (.func (.func 173) #[] #[])] →
 ∀ (p4 : Addr) (w7 : World), New w6 (.cells #[(.nilFunc : Value), (.nilFunc : Value)] 195) p4 w7 →
 (∀ j, j < 2 → CanW w7 (p4.add j)) ∧ ∀ w8 : World, w8 = storeRow w7 p4 [(.func (.func 174) #[] #[]), (.func (.func 176) #[] #[])] →
 ∀ (p5 : Addr) (w9 : World), New w8 (.cells #[(.nilFunc : Value), (.nilFunc : Value)] 195) p5 w9 →
 (∀ j, j < 2 → CanW w9 (p5.add j)) ∧ ∀ w10 : World, w10 = storeRow w9 p5 [(.func (.func 178) #[] #[]), (.func (.func 179) #[] #[])] →
 ∀ (p6 : Addr) (w11 : World), New w10 (.cells #[(.nilFunc : Value), (.nilFunc : Value)] 195) p6 w11 →
 (∀ j, j < 2 → CanW w11 (p6.add j)) ∧ ∀ w12 : World, w12 = storeRow w11 p6 [(.func (.func 180) #[] #[]), (.func (.func 181) #[] #[])] →
 ∀ (p7 : Addr) (w13 : World), New w12 (.map #[] 0) p7 w13 →
 ∃ vput1 : Value, ∃ vget1 : Value, Row w13 p1 [vput1, vget1] ∧
 ∀ (p8 : Addr) (w14 : World), New w13 (.cells #[vput1, vget1] 195) p8 w14 →
 ∃ w15 : World, (Instr.mapUpdate 189 (.map (some p7.block)) (vi 1) (Sl.mk (some p8) 1 1).v).run Try.prog w14 = .ok () w15 ∧
 ∃ vput2 : Value, ∃ vget2 : Value, Row w15 p3 [vput2, vget2] ∧
 ∀ (p9 : Addr) (w16 : World), New w15 (.cells #[vput2, vget2] 195) p9 w16 →
 ∃ w17 : World, (Instr.mapUpdate 189 (.map (some p7.block)) (vi 2) (Sl.mk (some p9) 1 1).v).run Try.prog w16 = .ok () w17 ∧
 ∃ vput3 : Value, ∃ vget3 : Value, Row w17 p4 [vput3, vget3] ∧
 ∀ (p10 : Addr) (w18 : World), New w17 (.cells #[vput3, vget3] 195) p10 w18 →
 ∃ w19 : World, (Instr.mapUpdate 189 (.map (some p7.block)) (vi 3) (Sl.mk (some p10) 1 1).v).run Try.prog w18 = .ok () w19 ∧
 ∃ vput4 : Value, ∃ vget4 : Value, Row w19 p5 [vput4, vget4] ∧
 ∃ vput5 : Value, ∃ vget5 : Value, Row w19 p6 [vput5, vget5] ∧
 ∀ (p11 : Addr) (w20 : World), New w19 (.cells #[vput4, vget4, vput5, vget5] 195) p11 w20 →
 ∃ w21 : World, (Instr.mapUpdate 189 (.map (some p7.block)) (vi 4) (Sl.mk (some p11) 2 2).v).run Try.prog w20 = .ok () w21 ∧
 ∃ vput6 : Value, ∃ vget6 : Value, Row w21 p5 [vput6, vget6] ∧
 ∀ (p12 : Addr) (w22 : World), New w21 (.cells #[vput6, vget6] 195) p12 w22 →
 ∃ w23 : World, (Instr.mapUpdate 189 (.map (some p7.block)) (vi 5) (Sl.mk (some p12) 1 1).v).run Try.prog w22 = .ok () w23 ∧
 ∃ vput7 : Value, ∃ vget7 : Value, Row w23 p1 [vput7, vget7] ∧
 ∀ (p13 : Addr) (w24 : World), New w23 (.cells #[vput7, vget7] 195) p13 w24 →
 ∃ w25 : World, (Instr.mapUpdate 189 (.map (some p7.block)) (vi 6) (Sl.mk (some p13) 1 1).v).run Try.prog w24 = .ok () w25 ∧
 ∃ vput8 : Value, ∃ vget8 : Value, Row w25 p1 [vput8, vget8] ∧
 ∃ vput9 : Value, ∃ vget9 : Value, Row w25 p5 [vput9, vget9] ∧
 ∀ (p14 : Addr) (w26 : World), New w25 (.cells #[vput8, vget8, vput9, vget9] 195) p14 w26 →
 ∃ w27 : World, (Instr.mapUpdate 189 (.map (some p7.block)) (vi 7) (Sl.mk (some p14) 2 2).v).run Try.prog w26 = .ok () w27 ∧
 ∃ vput10 : Value, ∃ vget10 : Value, Row w27 p1 [vput10, vget10] ∧
 ∃ vput11 : Value, ∃ vget11 : Value, Row w27 p2 [vput11, vget11] ∧
 ∃ vput12 : Value, ∃ vget12 : Value, Row w27 p5 [vput12, vget12] ∧
 ∀ (p15 : Addr) (w28 : World), New w27 (.cells #[vput10, vget10, vput11, vget11, vput12, vget12] 195) p15 w28 →
 ∃ w29 : World, (Instr.mapUpdate 189 (.map (some p7.block)) (vi 8) (Sl.mk (some p15) 3 3).v).run Try.prog w28 = .ok () w29 ∧
 ∃ vput13 : Value, ∃ vget13 : Value, Row w29 p1 [vput13, vget13] ∧
 ∃ vput14 : Value, ∃ vget14 : Value, Row w29 p2 [vput14, vget14] ∧
 ∃ vput15 : Value, ∃ vget15 : Value, Row w29 p5 [vput15, vget15] ∧
 ∀ (p16 : Addr) (w30 : World), New w29 (.cells #[vput13, vget13, vput14, vget14, vput15, vget15] 195) p16 w30 →
 ∃ w31 : World, (Instr.mapUpdate 189 (.map (some p7.block)) (vi 9) (Sl.mk (some p16) 3 3).v).run Try.prog w30 = .ok () w31 ∧
 K (some p7.block) w31
theorem w_C1  (w0 : World) (K : (Option Nat) → WP) (h : m_C1  w0 K) :
  Calls Try.prog 125 #[] w0 (fun e w' => ∃ r1 : Option Nat, e = .returned (.map r1) ∧ K r1 w') := by
 unfold m_C1 at h
 refine cw (args := []) Try.func125 Try.ntmps125 (wpE_seq (rg (q0 (.map none) (wpL_nil (th_n (wpE_seq (rg (q0 (.agg #[(.func (.func 166) #[] #[]), (.func (.func 168) #[] #[])]) (sn (O := (.cells #[(.nilFunc : Value), (.nilFunc : Value)] 195)) (x_alloc (Try.zeroValue195 _) rfl) ?_)))))))))
 intro p1 w1 hn22
 have h := h p1 w1 hn22
 obtain ⟨hp1, h⟩ := h
 refine st_set (want0 rfl) (x_storeA (a := p1) (vs := [(.func (.func 166) #[] #[]), (.func (.func 168) #[] #[])]) (by kernel_rfl) (by kernel_rfl) rfl (Try.sizeOf195 _) rfl hp1) ?_
 intro w2 hn1
 have h := h w2 hn1
 refine wpL_nil (th_n (wpE_seq (rg (q0 (.agg #[(.func (.func 170) #[] #[]), (.func (.func 171) #[] #[])]) (sn (O := (.cells #[(.nilFunc : Value), (.nilFunc : Value)] 195)) (x_alloc (Try.zeroValue195 _) rfl) ?_)))))
 intro p2 w3 hn21
 have h := h p2 w3 hn21
 obtain ⟨hp2, h⟩ := h
 refine st_set (want0 rfl) (x_storeA (a := p2) (vs := [(.func (.func 170) #[] #[]), (.func (.func 171) #[] #[])]) (by kernel_rfl) (by kernel_rfl) rfl (Try.sizeOf195 _) rfl hp2) ?_
 intro w4 hn2
 have h := h w4 hn2
 refine wpL_nil (th_n (wpE_seq (rg (q0 (.agg #[(.func (.func 172) #[] #[]), (.func (.func 173) #[] #[])]) (sn (O := (.cells #[(.nilFunc : Value), (.nilFunc : Value)] 195)) (x_alloc (Try.zeroValue195 _) rfl) ?_)))))
 intro p3 w5 hn20
 have h := h p3 w5 hn20
 obtain ⟨hp3, h⟩ := h
 refine st_set (want0 rfl) (x_storeA (a := p3) (vs := [(.func (.func 172) #[] #[]), (.func (.func 173) #[] #[])]) (by kernel_rfl) (by kernel_rfl) rfl (Try.sizeOf195 _) rfl hp3) ?_
 intro w6 hn3
 have h := h w6 hn3
 refine wpL_nil (th_n (wpE_seq (rg (q0 (.agg #[(.func (.func 174) #[] #[]), (.func (.func 176) #[] #[])]) (sn (O := (.cells #[(.nilFunc : Value), (.nilFunc : Value)] 195)) (x_alloc (Try.zeroValue195 _) rfl) ?_)))))
 intro p4 w7 hn19
 have h := h p4 w7 hn19
 obtain ⟨hp4, h⟩ := h
 refine st_set (want0 rfl) (x_storeA (a := p4) (vs := [(.func (.func 174) #[] #[]), (.func (.func 176) #[] #[])]) (by kernel_rfl) (by kernel_rfl) rfl (Try.sizeOf195 _) rfl hp4) ?_
 intro w8 hn4
 have h := h w8 hn4
 refine wpL_nil (th_n (wpE_seq (rg (q0 (.agg #[(.func (.func 178) #[] #[]), (.func (.func 179) #[] #[])]) (sn (O := (.cells #[(.nilFunc : Value), (.nilFunc : Value)] 195)) (x_alloc (Try.zeroValue195 _) rfl) ?_)))))
 intro p5 w9 hn18
 have h := h p5 w9 hn18
 obtain ⟨hp5, h⟩ := h
 refine st_set (want0 rfl) (x_storeA (a := p5) (vs := [(.func (.func 178) #[] #[]), (.func (.func 179) #[] #[])]) (by kernel_rfl) (by kernel_rfl) rfl (Try.sizeOf195 _) rfl hp5) ?_
 intro w10 hn5
 have h := h w10 hn5
 refine wpL_nil (th_n (wpE_seq (rg (q0 (.agg #[(.func (.func 180) #[] #[]), (.func (.func 181) #[] #[])]) (sn (O := (.cells #[(.nilFunc : Value), (.nilFunc : Value)] 195)) (x_alloc (Try.zeroValue195 _) rfl) ?_)))))
 intro p6 w11 hn17
 have h := h p6 w11 hn17
 obtain ⟨hp6, h⟩ := h
 refine st_set (want0 rfl) (x_storeA (a := p6) (vs := [(.func (.func 180) #[] #[]), (.func (.func 181) #[] #[])]) (by kernel_rfl) (by kernel_rfl) rfl (Try.sizeOf195 _) rfl hp6) ?_
 intro w12 hn6
 have h := h w12 hn6
 refine wpL_nil (th_n (wpE_seq (rg (st_new (O := (.map #[] 0)) (fun p => .map (some p.block)) (want0 rfl) (by kernel_rfl) ?_))))
 intro p7 w13 hn16
 have h := h p7 w13 hn16
 obtain ⟨vput1, vget1, hv24, h⟩ := h
 refine q2 (.agg #[vput1, vget1]) (x_loadA (a := p1) (vs := [vput1, vget1]) (by kernel_rfl) (Try.isAgg195 _) (Try.sizeOf195 _) rfl hv24) (st_new (O := (.cells #[vput1, vget1] 195)) (fun p => (Sl.mk (some p) 1 1).v) (want0 rfl) (x_buildSlice (vs := #[(0, (.agg #[vput1, vget1]))]) (by kernel_rfl) (by kernel_rfl)) ?_)
 intro p8 w14 hn15
 have h := h p8 w14 hn15
 obtain ⟨w15, hv23, h⟩ := h
 refine st_skip (want0 rfl) (x_insert (by kernel_rfl) (by kernel_rfl) (by kernel_rfl) hv23) ?_
 obtain ⟨vput2, vget2, hv22, h⟩ := h
 refine q2 (.agg #[vput2, vget2]) (x_loadA (a := p3) (vs := [vput2, vget2]) (by kernel_rfl) (Try.isAgg195 _) (Try.sizeOf195 _) rfl hv22) (st_new (O := (.cells #[vput2, vget2] 195)) (fun p => (Sl.mk (some p) 1 1).v) (want0 rfl) (x_buildSlice (vs := #[(0, (.agg #[vput2, vget2]))]) (by kernel_rfl) (by kernel_rfl)) ?_)
 intro p9 w16 hn14
 have h := h p9 w16 hn14
 obtain ⟨w17, hv21, h⟩ := h
 refine st_skip (want0 rfl) (x_insert (by kernel_rfl) (by kernel_rfl) (by kernel_rfl) hv21) ?_
 obtain ⟨vput3, vget3, hv20, h⟩ := h
 refine q2 (.agg #[vput3, vget3]) (x_loadA (a := p4) (vs := [vput3, vget3]) (by kernel_rfl) (Try.isAgg195 _) (Try.sizeOf195 _) rfl hv20) (st_new (O := (.cells #[vput3, vget3] 195)) (fun p => (Sl.mk (some p) 1 1).v) (want0 rfl) (x_buildSlice (vs := #[(0, (.agg #[vput3, vget3]))]) (by kernel_rfl) (by kernel_rfl)) ?_)
 intro p10 w18 hn13
 have h := h p10 w18 hn13
 obtain ⟨w19, hv19, h⟩ := h
 refine st_skip (want0 rfl) (x_insert (by kernel_rfl) (by kernel_rfl) (by kernel_rfl) hv19) ?_
 obtain ⟨vput4, vget4, hv18, h⟩ := h
 refine q2 (.agg #[vput4, vget4]) (x_loadA (a := p5) (vs := [vput4, vget4]) (by kernel_rfl) (Try.isAgg195 _) (Try.sizeOf195 _) rfl hv18) ?_
 obtain ⟨vput5, vget5, hv17, h⟩ := h
 refine q2 (.agg #[vput5, vget5]) (x_loadA (a := p6) (vs := [vput5, vget5]) (by kernel_rfl) (Try.isAgg195 _) (Try.sizeOf195 _) rfl hv17) (st_new (O := (.cells #[vput4, vget4, vput5, vget5] 195)) (fun p => (Sl.mk (some p) 2 2).v) (want0 rfl) (x_buildSlice (vs := #[(0, (.agg #[vput4, vget4])), (1, (.agg #[vput5, vget5]))]) (by kernel_rfl) (by kernel_rfl)) ?_)
 intro p11 w20 hn12
 have h := h p11 w20 hn12
 obtain ⟨w21, hv16, h⟩ := h
 refine st_skip (want0 rfl) (x_insert (by kernel_rfl) (by kernel_rfl) (by kernel_rfl) hv16) ?_
 obtain ⟨vput6, vget6, hv15, h⟩ := h
 refine q2 (.agg #[vput6, vget6]) (x_loadA (a := p5) (vs := [vput6, vget6]) (by kernel_rfl) (Try.isAgg195 _) (Try.sizeOf195 _) rfl hv15) (st_new (O := (.cells #[vput6, vget6] 195)) (fun p => (Sl.mk (some p) 1 1).v) (want0 rfl) (x_buildSlice (vs := #[(0, (.agg #[vput6, vget6]))]) (by kernel_rfl) (by kernel_rfl)) ?_)
 intro p12 w22 hn11
 have h := h p12 w22 hn11
 obtain ⟨w23, hv14, h⟩ := h
 refine st_skip (want0 rfl) (x_insert (by kernel_rfl) (by kernel_rfl) (by kernel_rfl) hv14) ?_
 obtain ⟨vput7, vget7, hv13, h⟩ := h
 refine q2 (.agg #[vput7, vget7]) (x_loadA (a := p1) (vs := [vput7, vget7]) (by kernel_rfl) (Try.isAgg195 _) (Try.sizeOf195 _) rfl hv13) (st_new (O := (.cells #[vput7, vget7] 195)) (fun p => (Sl.mk (some p) 1 1).v) (want0 rfl) (x_buildSlice (vs := #[(0, (.agg #[vput7, vget7]))]) (by kernel_rfl) (by kernel_rfl)) ?_)
 intro p13 w24 hn10
 have h := h p13 w24 hn10
 obtain ⟨w25, hv12, h⟩ := h
 refine st_skip (want0 rfl) (x_insert (by kernel_rfl) (by kernel_rfl) (by kernel_rfl) hv12) ?_
 obtain ⟨vput8, vget8, hv11, h⟩ := h
 refine q2 (.agg #[vput8, vget8]) (x_loadA (a := p1) (vs := [vput8, vget8]) (by kernel_rfl) (Try.isAgg195 _) (Try.sizeOf195 _) rfl hv11) ?_
 obtain ⟨vput9, vget9, hv10, h⟩ := h
 refine q2 (.agg #[vput9, vget9]) (x_loadA (a := p5) (vs := [vput9, vget9]) (by kernel_rfl) (Try.isAgg195 _) (Try.sizeOf195 _) rfl hv10) (st_new (O := (.cells #[vput8, vget8, vput9, vget9] 195)) (fun p => (Sl.mk (some p) 2 2).v) (want0 rfl) (x_buildSlice (vs := #[(0, (.agg #[vput8, vget8])), (1, (.agg #[vput9, vget9]))]) (by kernel_rfl) (by kernel_rfl)) ?_)
 intro p14 w26 hn9
 have h := h p14 w26 hn9
 obtain ⟨w27, hv9, h⟩ := h
 refine st_skip (want0 rfl) (x_insert (by kernel_rfl) (by kernel_rfl) (by kernel_rfl) hv9) ?_
 obtain ⟨vput10, vget10, hv8, h⟩ := h
 refine q2 (.agg #[vput10, vget10]) (x_loadA (a := p1) (vs := [vput10, vget10]) (by kernel_rfl) (Try.isAgg195 _) (Try.sizeOf195 _) rfl hv8) ?_
 obtain ⟨vput11, vget11, hv7, h⟩ := h
 refine q2 (.agg #[vput11, vget11]) (x_loadA (a := p2) (vs := [vput11, vget11]) (by kernel_rfl) (Try.isAgg195 _) (Try.sizeOf195 _) rfl hv7) ?_
 obtain ⟨vput12, vget12, hv6, h⟩ := h
 refine q2 (.agg #[vput12, vget12]) (x_loadA (a := p5) (vs := [vput12, vget12]) (by kernel_rfl) (Try.isAgg195 _) (Try.sizeOf195 _) rfl hv6) (st_new (O := (.cells #[vput10, vget10, vput11, vget11, vput12, vget12] 195)) (fun p => (Sl.mk (some p) 3 3).v) (want0 rfl) (x_buildSlice (vs := #[(0, (.agg #[vput10, vget10])), (1, (.agg #[vput11, vget11])), (2, (.agg #[vput12, vget12]))]) (by kernel_rfl) (by kernel_rfl)) ?_)
 intro p15 w28 hn8
 have h := h p15 w28 hn8
 obtain ⟨w29, hv5, h⟩ := h
 refine st_skip (want0 rfl) (x_insert (by kernel_rfl) (by kernel_rfl) (by kernel_rfl) hv5) ?_
 obtain ⟨vput13, vget13, hv4, h⟩ := h
 refine q2 (.agg #[vput13, vget13]) (x_loadA (a := p1) (vs := [vput13, vget13]) (by kernel_rfl) (Try.isAgg195 _) (Try.sizeOf195 _) rfl hv4) ?_
 obtain ⟨vput14, vget14, hv3, h⟩ := h
 refine q2 (.agg #[vput14, vget14]) (x_loadA (a := p2) (vs := [vput14, vget14]) (by kernel_rfl) (Try.isAgg195 _) (Try.sizeOf195 _) rfl hv3) ?_
 obtain ⟨vput15, vget15, hv2, h⟩ := h
 refine q2 (.agg #[vput15, vget15]) (x_loadA (a := p5) (vs := [vput15, vget15]) (by kernel_rfl) (Try.isAgg195 _) (Try.sizeOf195 _) rfl hv2) (st_new (O := (.cells #[vput13, vget13, vput14, vget14, vput15, vget15] 195)) (fun p => (Sl.mk (some p) 3 3).v) (want0 rfl) (x_buildSlice (vs := #[(0, (.agg #[vput13, vget13])), (1, (.agg #[vput14, vget14])), (2, (.agg #[vput15, vget15]))]) (by kernel_rfl) (by kernel_rfl)) ?_)
 intro p16 w30 hn7
 have h := h p16 w30 hn7
 obtain ⟨w31, hv1, h⟩ := h
 refine st_skip (want0 rfl) (x_insert (by kernel_rfl) (by kernel_rfl) (by kernel_rfl) hv1) (q0 (.map (some p7.block)) (q0 (.map (some p7.block)) (wpL_nil (th_n (wpE_ret (rs1 Try.results125 (v := (.map (some p7.block))) ?_))))))
 exact ⟨(some p7.block), rfl, h⟩
def m_V_l1 (p3 p6 : Addr) (I1 : List (Int) → NP → WP) (pre1 : List (Int)) (z2 : Int) (Y1 : NP) (A1 : World) (aU aW : Int) (aX aY : Int) (aZ : ByteArray) (bA bB : Int) (v5 : Sl) (x1 : Int) (Hl1 : NP) (wl1 : World) (Kc1 : Int → NP → WP) (_K : Sl → WP) : Prop :=
 Br (decide (x1 < (v5.len : Int)))
  (∃ a1 : Addr, At v5 x1 2 a1 ∧
  ∃ vput1 : Value, ∃ vget1 : Value, Row wl1 a1 [vput1, vget1] ∧
  ∀ (p9 : Addr) (w16 : World), New wl1 (.cells #[(.nilFunc : Value), (.nilFunc : Value)] 195) p9 w16 →
  ([vput1, vget1].all oneCell = true ∧ ∀ j, j < 2 → CanW w16 (p9.add j)) ∧ ¬ Hl1 p9.block ∧ ∀ w17 : World, w17 = storeRow w16 p9 [vput1, vget1] →
  ∃ v6 : Value, w17.cell? p9 = some v6 ∧
  ∃ v7 : Sl, w17.cell? p3 = some v7.v ∧
  ∃ v8 : Option Nat, w17.cell? p6 = some (.map v8) ∧
  ∃ (f2 : FuncId) (fs1 cs2 : Array Value), v6 = .func (.func f2) fs1 cs2 ∧
  (∀ args w, (callFunc f2 args).run Try.prog w = .ok (.enter f2 args) w) ∧ Calls Try.prog f2 (fs1 ++ #[v7.v, (.agg #[(vi aU), (vi aW), (vi aX), (vu aY), (vs aZ), (vi bA), (vi bB)]), (.map v8)] ++ cs2) w17 (fun e w18 => ∃ r4 : Sl, e = .returned r4.v ∧ 
   Kept Hl1 w17 w18 ∧
   CanW w18 p3 ∧ ¬ Hl1 p3.block ∧ ∀ w19 : World, w19 = w18.setCell p3 r4.v →
   Kc1 (q6.wrap (x1 + 1)) Hl1 w19))
  (∃ v9 : Option Nat, wl1.cell? p6 = some (.map v9) ∧
  ∃ v10 : Option Nat, wl1.cell? p6 = some (.map v10) ∧
  ∃ z3 : Int, (Builtin.len_ #[155] 3 #[(.map v10)]).run Try.prog wl1 = .ok (vi z3) wl1 ∧
  ∃ w20 : World, (Instr.mapUpdate 155 (.map v9) (vi z2) (vi z3)).run Try.prog wl1 = .ok () w20 ∧
  Kept Hl1 wl1 w20 ∧
  Kept Y1 A1 w20 ∧ I1 (pre1 ++ [z2]) Y1 w20)
def m_V (p1 : Option Addr) (t1 : Int) (w0 : World) (K : Sl → WP) : Prop :=
 ∀ (p2 : Addr) (w1 : World), New w0 (.cells #[(vp p1)] 36) p2 w1 →
 ∀ (p3 : Addr) (w2 : World), New w1 (.cells #[Sl.nil.v] 44) p3 w2 →
 Calls Try.prog 125 #[] w2 (fun e w3 => ∃ r1 : Option Nat, e = .returned (.map r1) ∧ 
  Kept None w2 w3 ∧
  ∀ (p4 : Addr) (w4 : World), New w3 (.cells #[(.map none)] 189) p4 w4 →
  CanW w4 p4 ∧ ¬ None p4.block ∧ ∀ w5 : World, w5 = w4.setCell p4 (.map r1) →
  ∀ (p5 : Addr) (w6 : World), New w5 (.map #[] 0) p5 w6 →
  ∀ (p6 : Addr) (w7 : World), New w6 (.cells #[(.map none)] 155) p6 w7 →
  CanW w7 p6 ∧ ¬ None p6.block ∧ ∀ w8 : World, w8 = w7.setCell p6 (.map (some p5.block)) →
  ∃ v1 : Option Addr, w8.cell? p2 = some (vp v1) ∧
  Calls Try.prog 30 #[(vp v1), (vi t1)] w8 (fun e w9 => ∃ r2 : Value, e = .returned r2 ∧ 
   Kept None w8 w9 ∧
   ∃ (f1 : FuncId) (cs1 : Array Value), r2 = .func (.func f1) #[] cs1 ∧ (∀ args w, (callFunc f1 args).run Try.prog w = .ok (.enter f1 args) w) ∧
   ∃ (xs1 : List (Int)) (Rd1 : WP), IterC Try.prog f1 cs1 (fun (z2 : Int) => #[(vi z2)]) xs1 Rd1 w9 ∧
   ∃ (I1 : List (Int) → NP → WP), RngI w0 Rd1 I1 (fun _ _ _ => False) (fun _ _ _ => False) ∧ I1 [] None w9 ∧
   (∀ (pre1 : List (Int)) (z2 : Int) (Y1 : NP) (A1 : World), I1 pre1 Y1 A1 → Hst w0 Y1 A1 Y1 A1 → (∃ post, xs1 = pre1 ++ z2 :: post) →
    ∃ v2 : Option Addr, A1.cell? p2 = some (vp v2) ∧
    Calls Try.prog 67 #[(vp v2), (vi z2)] A1 (fun e w10 => ∃ aU aW : Int, ∃ aX aY : Int, ∃ aZ : ByteArray, ∃ bA bB : Int, ∃ r3 : Bool, e = .returned (.tuple #[(.agg #[(vi aU), (vi aW), (vi aX), (vu aY), (vs aZ), (vi bA), (vi bB)]), (vb r3)]) ∧ 
     Kept None A1 w10 ∧
     ∀ (H1 : NP) (w12 : World), Hst A1 None w10 H1 w12 →
     ∃ v3 : Sl, w12.cell? p3 = some v3.v ∧
     ∀ (p8 : Addr) (w13 : World), New w12 (.cells #[(.int .u8 (IntKind.u8.wrap aU))] 5) p8 w13 →
     ∃ s1 : Sl, ∃ w14 : World, (Builtin.append_ #[44, 44] 44 #[v3.v, (Sl.mk (some p8) 1 1).v]).run Try.prog w13 = .ok s1.v w14 ∧
     Kept H1 w13 w14 ∧
     CanW w14 p3 ∧ ¬ H1 p3.block ∧ ∀ w15 : World, w15 = w14.setCell p3 s1.v →
     ∃ v4 : Option Nat, w15.cell? p4 = some (.map v4) ∧
     ∃ v5 : Sl, (Instr.lookup 189 (.map v4) (vi aU) false).run Try.prog w15 = .ok v5.v w15 ∧
     ∃ (I2 : Int → NP → WP) (mu1 : Int → World → Nat), I2 0 H1 w15 ∧
      ∀ (x1 : Int) (Hl1 : NP) (wl1 : World), Hst A1 Hl1 wl1 Hl1 wl1 → I2 x1 Hl1 wl1 → m_V_l1 p3 p6 I1 pre1 z2 Y1 A1 aU aW aX aY aZ bA bB v5 x1 Hl1 wl1 (fun y'0 H' w' => I2 y'0 H' w' ∧ mu1 y'0 w' < mu1 x1 wl1) K)) ∧
   ∀ (H2 : NP) (w21 : World), Hst w0 H2 w21 H2 w21 → (∀ b, None b → H2 b) → Kept None w9 w21 → I1 xs1 H2 w21 →
   ∃ v11 : Sl, w21.cell? p3 = some v11.v ∧
   ∀ (w22 : World), Hst w0 H2 w21 H2 w22 →
   K v11 w22))
theorem w_V (p1 : Option Addr) (t1 : Int) (w0 : World) (K : Sl → WP) (h : m_V p1 t1 w0 K) :
  Calls Try.prog 76 #[(vp p1), (vi t1)] w0 (fun e w' => ∃ r5 : Sl, e = .returned r5.v ∧ K r5 w') := by
 unfold m_V at h
 refine cw (args := [(vp p1), (vi t1)]) Try.func76 Try.ntmps76 ?_
 have hs := Hst.start w0
 have hb := HB.nil None w0
 refine wpE_seq (rg (sn (O := (.cells #[(vp p1)] 36)) xb ?_))
 intro p2 w1 hn14
 have h := h p2 w1 hn14
 have hs := hs.again (Ext.new (F := None) hn14).keptP
 have hb := hb.kept (Ext.new (F := None) hn14).keptP
 refine q0 Sl.nil.v (wpL_nil (th_n (wpE_seq (rg (sn (O := (.cells #[Sl.nil.v] 44)) (x_alloc (Try.zeroValue44 _) rfl) ?_)))))
 intro p3 w2 hn13
 have h := h p3 w2 hn13
 have hs := hs.again (Ext.new (F := None) hn13).keptP
 have hb := hb.kept (Ext.new (F := None) hn13).keptP
 refine wpL_nil (th_n (wpE_seq (rg ?_)))
 refine sc Try.call125 (h.mono ?_)
 rintro e w3 ⟨r1, rfl, hk, h⟩
 refine ⟨_, rfl, ?_⟩
 obtain ⟨hs, hb⟩ := hk.hh hs hb
 refine sn (O := (.cells #[(.map none)] 189)) (x_alloc (Try.zeroValue189 _) rfl) ?_
 intro p4 w4 hn12
 have h := h p4 w4 hn12
 have hs := hs.again (Ext.new (F := None) hn12).keptP
 have hb := hb.kept (Ext.new (F := None) hn12).keptP
 obtain ⟨hp1, hnh, h⟩ := h
 refine st_set (want0 rfl) (x_store (a := p4) (v := (.map r1)) (by kernel_rfl) (by kernel_rfl) rfl (Try.sizeOf189 _) hp1) ?_
 intro w5 hn1
 have h := h w5 hn1
 have hk := Kept.sc hnh hn1
 obtain ⟨hs, hb⟩ := hk.hh hs hb
 refine wpL_nil (th_n (wpE_seq (rg (st_new (O := (.map #[] 0)) (fun p => .map (some p.block)) (want0 rfl) (by kernel_rfl) ?_))))
 intro p5 w6 hn11
 have h := h p5 w6 hn11
 have hs := hs.again (Ext.new (F := None) hn11).keptP
 have hb := hb.kept (Ext.new (F := None) hn11).keptP
 refine sn (O := (.cells #[(.map none)] 155)) (x_alloc (Try.zeroValue155 _) rfl) ?_
 intro p6 w7 hn10
 have h := h p6 w7 hn10
 have hs := hs.again (Ext.new (F := None) hn10).keptP
 have hb := hb.kept (Ext.new (F := None) hn10).keptP
 obtain ⟨hp2, hnh, h⟩ := h
 refine st_set (want0 rfl) (x_store (a := p6) (v := (.map (some p5.block))) (by kernel_rfl) (by kernel_rfl) rfl (Try.sizeOf155 _) hp2) ?_
 intro w8 hn2
 have h := h w8 hn2
 have hk := Kept.sc hnh hn2
 obtain ⟨hs, hb⟩ := hk.hh hs hb
 refine wpL_nil (th_n (wpE_seqC (rg ?_)))
 obtain ⟨v1, hv17, h⟩ := h
 refine q2 (vp v1) (xl (Try.isAgg36 _) hv17) (q0 (vi t1) ?_)
 refine sc Try.call30 (h.mono ?_)
 rintro e w9 ⟨r2, rfl, hk, h⟩
 refine ⟨_, rfl, ?_⟩
 obtain ⟨hs, hb⟩ := hk.hh hs hb
 refine wpL_nil (th_n ?_)
 obtain ⟨f1, cs1, hv1, hf1, h⟩ := h
 obtain ⟨xs1, Rd1, hit, I1, hRI, h0, hbody, h⟩ := h
 refine wpB_range (encs := (fun (z2 : Int) => #[(vi z2)])) (Eq.trans (b := r2) (by kernel_rfl) hv1) hf1 hit (fun _ => rfl) (by decide) hs I1 (fun _ _ _ => False) (fun _ _ _ => False) hRI h0 ?ha ?hr ?ht
 case ha =>
  intro l z2 w23
  refine rg (q0 (vi z2) (wpL_nil (th_n ?_)))
  refine ⟨rfl, ?_⟩
  intro pre1 Y1 A1 hi hY hpost
  have h := hbody pre1 z2 Y1 A1 hi hY hpost
  have hs := Hst.start A1
  have hb := HB.nil None A1
  refine wpE_block (wpE_seq (rg ?_))
  obtain ⟨v2, hv15, h⟩ := h
  refine q2 (vp v2) (xl (Try.isAgg36 _) hv15) (q0 (vi z2) ?_)
  refine sc Try.call67 (h.mono ?_)
  rintro e w10 ⟨aU, aW, aX, aY, aZ, bA, bB, r3, rfl, hk, h⟩
  refine ⟨_, rfl, ?_⟩
  obtain ⟨hs, hb⟩ := hk.hh hs hb
  refine q0 (.tuple #[(.agg #[(vi aU), (vi aW), (vi aX), (vu aY), (vs aZ), (vi bA), (vi bB)]), (vb r3)]) (q0 (.agg #[(vi aU), (vi aW), (vi aX), (vu aY), (vs aZ), (vi bA), (vi bB)]) (q0 (vb r3) (sn (O := (.cells #[(vi 0), (vi 0), (vi 0), (vu 0), (vs ⟨#[]⟩), (vi 0), (vi 0)] 106)) (x_alloc (Try.zeroValue106 _) rfl) ?_)))
  intro p7 w11 hn3
  obtain ⟨H1, hs, hb⟩ := hs.alloc hb hn3
  refine st_set (want0 rfl) (x_storeA (a := p7) (vs := [(vi aU), (vi aW), (vi aX), (vu aY), (vs aZ), (vi bA), (vi bB)]) (by kernel_rfl) (by kernel_rfl) rfl (Try.sizeOf106 _) rfl (hb.canWs0 0 7 gZ (by kernel_rfl))) ?_
  intro w12 hn4
  have hsb : Hst A1 None w10 H1 w12 ∧ HB H1 w12 [(p7, [(vi aU), (vi aW), (vi aX), (vu aY), (vs aZ), (vi bA), (vi bB)], 106)] := by
   rw [hn4]
   exact hb.store0 (i := 0) (vs := [(vi aU), (vi aW), (vi aX), (vu aY), (vs aZ), (vi bA), (vi bB)]) hs gZ (by kernel_rfl) (by kernel_rfl)
  obtain ⟨hs, hb⟩ := hsb
  refine q0 (vb r3) (wpL_nil (th_n (wpE_seq (rg ?_))))
  have h := h H1 w12 hs
  have hs := hs.here
  obtain ⟨v3, hv14, h⟩ := h
  refine q2 v3.v (xl (Try.isAgg44 _) hv14) (q0 (vp (some p7)) (q2 (vi aU) (xl (Try.isAgg3 _) (hb.c0 0 gZ)) (q0 (.int .u8 (IntKind.u8.wrap aU)) (st_new (O := (.cells #[(.int .u8 (IntKind.u8.wrap aU))] 5)) (fun p => (Sl.mk (some p) 1 1).v) (want0 rfl) (x_buildSlice (vs := #[(0, (.int .u8 (IntKind.u8.wrap aU)))]) (by kernel_rfl) (by kernel_rfl)) ?_))))
  intro p8 w13 hn9
  have h := h p8 w13 hn9
  have hs := hs.again (Ext.new (F := None) hn9).keptP
  have hb := hb.kept (Ext.new (F := None) hn9).keptP
  obtain ⟨s1, w14, hv13, hk, h⟩ := h
  refine st (v := s1.v) (want0 rfl) (x_builtin (args := #[v3.v, (Sl.mk (some p8) 1 1).v]) (by kernel_rfl) (fun _ => rfl) hv13) ?_
  obtain ⟨hs, hb⟩ := hk.hh hs hb
  obtain ⟨hp3, hnh, h⟩ := h
  refine st_set (want0 rfl) (x_store (a := p3) (v := s1.v) (by kernel_rfl) (by kernel_rfl) rfl (Try.sizeOf44 _) hp3) ?_
  intro w15 hn5
  have h := h w15 hn5
  have hk := Kept.sc hnh hn5
  obtain ⟨hs, hb⟩ := hk.hh hs hb
  refine wpL_nil (th_n (wpE_seq (wpE_seq (rg ?_))))
  obtain ⟨v4, hv12, h⟩ := h
  refine q2 (.map v4) (xl (Try.isAgg189 _) hv12) (q0 (vp (some p7)) (q2 (vi aU) (xl (Try.isAgg3 _) (hb.c0 0 gZ)) ?_))
  obtain ⟨v5, hv11, h⟩ := h
  refine q2 v5.v (x_lookup (by kernel_rfl) (by kernel_rfl) hv11) (q0 (vi (v5.len : Int)) (q0 (vi 0) (wpL_nil (th_n (wpE_block ?_)))))
  obtain ⟨I2, mu1, h0, hr⟩ := h
  refine wpE_loop (σ := Int × NP × World) (fun s ρ w => w = s.2.2 ∧ Has ρ [(5, (vp (some p3))), (7, (vp (some p6))), (8, (vi z2)), (9, (vp (some p7))), (34, v5.v), (35, (vi (v5.len : Int))), (36, (vi s.1))] ∧ Hst A1 s.2.1 w s.2.1 w ∧ HB s.2.1 w [(p7, [(vi aU), (vi aW), (vi aX), (vu aY), (vs aZ), (vi bA), (vi bB)], 106)] ∧ I2 s.1 s.2.1 s.2.2) (fun s => mu1 s.1 s.2.2) (0, H1, w15) ⟨rfl, hm, hs, hb, h0⟩ ?_
  rintro ⟨x1, Hl1, wl1⟩ ρ w ⟨hw, hH, hs, hb, hI⟩
  obtain rfl : wl1 = w := (show w = wl1 from hw).symm
  have hH : Has ρ [(5, (vp (some p3))), (7, (vp (some p6))), (8, (vi z2)), (9, (vp (some p7))), (34, v5.v), (35, (vi (v5.len : Int))), (36, (vi x1))] := hH
  have hs : Hst A1 Hl1 wl1 Hl1 wl1 := hs
  have hb : HB Hl1 wl1 [(p7, [(vi aU), (vi aW), (vi aX), (vu aY), (vs aZ), (vi bA), (vi bB)], 106)] := hb
  have h := hr x1 Hl1 wl1 hs hI
  unfold m_V_l1 at h
  refine wpE_has hH ?_
  refine wpE_seq (rg (q0 (vb (decide (x1 < (v5.len : Int)))) (wpL_nil (th_n (wpE_seq ?_)))))
  refine wpE_cond (t := (decide (x1 < (v5.len : Int)))) (by kernel_rfl) (fun hc1 => ?_) (fun hc1 => ?_)
  ·have h := h.1 hc1
   refine wpE_skip (th_n (wpE_seq (wpE_block (wpE_seq (rg ?_)))))
   obtain ⟨a1, hv6, h⟩ := h
   refine q2 (vp (some a1)) (xi (Try.runUnderlying191 _) (Try.sizeOf195 _) hv6) ?_
   obtain ⟨vput1, vget1, hv5, h⟩ := h
   refine q2 (.agg #[vput1, vget1]) (x_loadA (a := a1) (vs := [vput1, vget1]) (by kernel_rfl) (Try.isAgg195 _) (Try.sizeOf195 _) rfl hv5) (sn (O := (.cells #[(.nilFunc : Value), (.nilFunc : Value)] 195)) (x_alloc (Try.zeroValue195 _) rfl) ?_)
   intro p9 w16 hn8
   have h := h p9 w16 hn8
   have hs := hs.again (Ext.new (F := None) hn8).keptP
   have hb := hb.kept (Ext.new (F := None) hn8).keptP
   obtain ⟨hp4, hnh, h⟩ := h
   refine st_set (want0 rfl) (x_storeA (a := p9) (vs := [vput1, vget1]) (by kernel_rfl) (by kernel_rfl) hp4.1 (Try.sizeOf195 _) rfl hp4.2) ?_
   intro w17 hn6
   have h := h w17 hn6
   have hk : Kept Hl1 w16 w17 := by rw [hn6]; exact Kept.storeRow hnh
   obtain ⟨hs, hb⟩ := hk.hh hs hb
   refine wpL_nil (th_n (rg (q0 (vp (some p9)) ?_)))
   obtain ⟨v6, hv4, h⟩ := h
   refine q2 v6 (xl (Try.isAgg192 _) hv4) ?_
   obtain ⟨v7, hv3, h⟩ := h
   refine q2 v7.v (xl (Try.isAgg44 _) hv3) (q2 (.agg #[(vi aU), (vi aW), (vi aX), (vu aY), (vs aZ), (vi bA), (vi bB)]) (x_loadA (a := p7) (vs := [(vi aU), (vi aW), (vi aX), (vu aY), (vs aZ), (vi bA), (vi bB)]) (by kernel_rfl) (Try.isAgg106 _) (Try.sizeOf106 _) rfl (hb.row0 0 7 gZ (by kernel_rfl))) ?_)
   obtain ⟨v8, hv2, h⟩ := h
   refine q2 (.map v8) (xl (Try.isAgg155 _) hv2) ?_
   obtain ⟨f2, fs1, cs2, hp5, h⟩ := h
   obtain ⟨hf2, h⟩ := h
   refine st_call (want0 rfl) (x_callmE (fs := fs1) (caps := cs2) (args := #[v7.v, (.agg #[(vi aU), (vi aW), (vi aX), (vu aY), (vs aZ), (vi bA), (vi bB)]), (.map v8)]) (by kernel_rfl) hp5 hf2 (by kernel_rfl) rfl) (h.mono ?_)
   rintro e w18 ⟨r4, rfl, hk, h⟩
   refine ⟨_, rfl, ?_⟩
   obtain ⟨hs, hb⟩ := hk.hh hs hb
   obtain ⟨hp6, hnh, h⟩ := h
   refine st_set (want0 rfl) (x_store (a := p3) (v := r4.v) (by kernel_rfl) (by kernel_rfl) rfl (Try.sizeOf44 _) hp6) ?_
   intro w19 hn7
   have h := h w19 hn7
   have hk := Kept.sc hnh hn7
   obtain ⟨hs, hb⟩ := hk.hh hs hb
   refine wpL_nil (bl_n (th_n (rg (q0 (vi (q6.wrap (x1 + 1))) (q0 (vi (q6.wrap (x1 + 1))) (wpL_nil (th_n ?_)))))))
   exact ⟨((q6.wrap (x1 + 1)), Hl1, w19), ⟨rfl, hm, hs, hb, h.1⟩, h.2⟩
  ·have h := h.2 hc1
   refine wpE_exit (th_x (th_x (bl_eq (th_n (rg ?_)))))
   obtain ⟨v9, hv10, h⟩ := h
   refine q2 (.map v9) (xl (Try.isAgg155 _) hv10) (q0 (vi z2) ?_)
   obtain ⟨v10, hv9, h⟩ := h
   refine q2 (.map v10) (xl (Try.isAgg155 _) hv9) ?_
   obtain ⟨z3, hv8, h⟩ := h
   refine q2 (vi z3) (x_builtin (args := #[(.map v10)]) (by kernel_rfl) (fun _ => rfl) hv8) ?_
   obtain ⟨w20, hv7, hk, h⟩ := h
   refine st_skip (want0 rfl) (x_mapUpdate (by kernel_rfl) (by kernel_rfl) (by kernel_rfl) hv7) ?_
   obtain ⟨hs, hb⟩ := hk.hh hs hb
   refine wpL_nil (bl_n ?_)
   exact rd_n h
 case hr =>
  intro D1 H2 w21 hs' hD hDe bO hk1 hio1
  have hb' := hb.behind hk1 bO hD hDe
  have hs := hs'
  have hb := hb'
  have h := h H2 w21 hs bO hk1 (hio1.elim id (fun h => h.elim (fun _ h => h.elim)))
  refine wpE_seq (rg ?_)
  obtain ⟨v11, hv16, h⟩ := h
  refine q2 v11.v (xl (Try.isAgg44 _) hv16) (q0 v11.v (wpL_nil (th_n (wpE_ret (af_r hb.dead ?_)))))
  intro w22 hw'
  have hl := hb.leave hs hw'
  obtain ⟨hs, hb⟩ := hl
  -- behind the loop
  have h := h w22 hs
  have hs := hs.here
  refine rs1 Try.results76 (v := v11.v) ?_
  exact ⟨v11, rfl, h⟩
 case ht =>
  intro _ _ _ _ _ _ _ h
  exact h.elim
def m_D1 (p1 : Option Addr) (t1 : Int) (w0 : World) (K : Sl → Int → WP) : Prop :=
 Calls Try.prog 67 #[(vp p1), (vi t1)] w0 (fun e w1 => ∃ aU aW : Int, ∃ aX aY : Int, ∃ aZ : ByteArray, ∃ bA bB : Int, ∃ r1 : Bool, e = .returned (.tuple #[(.agg #[(vi aU), (vi aW), (vi aX), (vu aY), (vs aZ), (vi bA), (vi bB)]), (vb r1)]) ∧ 
  Kept None w0 w1 ∧
  Br (!r1)
   (∀ (H1 : NP) (w3 : World), Hst w0 None w1 H1 w3 →
   K Sl.nil 51 w3)
   (∀ (H1 : NP) (w3 : World), Hst w0 None w1 H1 w3 →
   Calls Try.prog 76 #[(vp p1), (vi t1)] w3 (fun e w4 => ∃ r2 : Sl, e = .returned r2.v ∧ 
    Kept H1 w3 w4 ∧
    Br (decide ((r2.len : Int) > 4096))
     (K Sl.nil 1 w4)
     (K r2 0 w4))))
theorem w_D1 (p1 : Option Addr) (t1 : Int) (w0 : World) (K : Sl → Int → WP) (h : m_D1 p1 t1 w0 K) :
  Calls Try.prog 21 #[(vp p1), (vi t1)] w0 (fun e w' => ∃ r3 : Sl, ∃ r4 : Int, e = .returned (.tuple #[r3.v, (vi r4)]) ∧ K r3 r4 w') := by
 unfold m_D1 at h
 refine cw (args := [(vp p1), (vi t1)]) Try.func21 Try.ntmps21 ?_
 have hs := Hst.start w0
 have hb := HB.nil None w0
 refine wpE_seq (rg (q0 Sl.nil.v (q0 (vi 0) (wpL_nil (th_n (wpE_seq (wpE_seq (rg (q0 (vp p1) (q0 (vi t1) ?_))))))))))
 refine sc Try.call67 (h.mono ?_)
 rintro e w1 ⟨aU, aW, aX, aY, aZ, bA, bB, r1, rfl, hk, h⟩
 refine ⟨_, rfl, ?_⟩
 obtain ⟨hs, hb⟩ := hk.hh hs hb
 refine q0 (.tuple #[(.agg #[(vi aU), (vi aW), (vi aX), (vu aY), (vs aZ), (vi bA), (vi bB)]), (vb r1)]) (q0 (.agg #[(vi aU), (vi aW), (vi aX), (vu aY), (vs aZ), (vi bA), (vi bB)]) (q0 (vb r1) (sn (O := (.cells #[(vi 0), (vi 0), (vi 0), (vu 0), (vs ⟨#[]⟩), (vi 0), (vi 0)] 106)) (x_alloc (Try.zeroValue106 _) rfl) ?_)))
 intro p2 w2 hn1
 obtain ⟨H1, hs, hb⟩ := hs.alloc hb hn1
 refine st_set (want0 rfl) (x_storeA (a := p2) (vs := [(vi aU), (vi aW), (vi aX), (vu aY), (vs aZ), (vi bA), (vi bB)]) (by kernel_rfl) (by kernel_rfl) rfl (Try.sizeOf106 _) rfl (hb.canWs0 0 7 gZ (by kernel_rfl))) ?_
 intro w3 hn2
 have hsb : Hst w0 None w1 H1 w3 ∧ HB H1 w3 [(p2, [(vi aU), (vi aW), (vi aX), (vu aY), (vs aZ), (vi bA), (vi bB)], 106)] := by
  rw [hn2]
  exact hb.store0 (i := 0) (vs := [(vi aU), (vi aW), (vi aX), (vu aY), (vs aZ), (vi bA), (vi bB)]) hs gZ (by kernel_rfl) (by kernel_rfl)
 obtain ⟨hs, hb⟩ := hsb
 refine q0 (vb r1) (wpL_nil (th_n (wpE_seq (rg (q0 (vb r1) (q0 (vb (!r1)) (wpL_nil (th_n ?_))))))))
 refine wpE_cond (t := (!r1)) (by kernel_rfl) (fun hc1 => ?_) (fun hc1 => ?_)
 ·have h := h.1 hc1
  refine wpE_seq (rg (q0 Sl.nil.v (q0 (vi 51) (wpL_nil (th_n (wpE_ret (th_r ?_)))))))
  have h := h H1 w3 hs
  have hs := hs.here
  refine res2 (.inl rfl) Try.results21 (v := Sl.nil.v) (by kernel_rfl) (v' := (vi 51)) (by kernel_rfl) ?_
  exact ⟨Sl.nil, 51, rfl, h⟩
 ·have h := h.2 hc1
  refine wpE_skip (th_n (wpE_seq (rg (q0 (vp p1) (q0 (vi t1) ?_)))))
  have h := h H1 w3 hs
  have hs := hs.here
  refine sc Try.call76 (h.mono ?_)
  rintro e w4 ⟨r2, rfl, hk, h⟩
  refine ⟨_, rfl, ?_⟩
  obtain ⟨hs, hb⟩ := hk.hh hs hb
  refine q0 r2.v (wpL_nil (th_n (wpE_seq (wpE_seq (rg (q0 r2.v (q0 (vi (r2.len : Int)) (q0 (vb (decide ((r2.len : Int) > 4096))) (wpL_nil (th_n ?_))))))))))
  refine wpE_cond (t := (decide ((r2.len : Int) > 4096))) (by kernel_rfl) (fun hc2 => ?_) (fun hc2 => ?_)
  ·have h := h.1 hc2
   refine wpE_seq (rg (q0 Sl.nil.v (q0 (vi 1) (wpL_nil (th_n (wpE_ret (th_r (res2 (.inl rfl) Try.results21 (v := Sl.nil.v) (by kernel_rfl) (v' := (vi 1)) (by kernel_rfl) ?_))))))))
   exact ⟨Sl.nil, 1, rfl, h⟩
  ·have h := h.2 hc2
   refine wpE_skip (th_n (wpE_seq (rg (q0 r2.v (q0 r2.v (q0 (vi 0) (wpL_nil (th_n (wpE_ret (res2 (.inl rfl) Try.results21 (v := r2.v) (by kernel_rfl) (v' := (vi 0)) (by kernel_rfl) ?_))))))))))
   exact ⟨r2, 0, rfl, h⟩
def m_E1 (p1 : Sl) (w0 : World) (K : (Option Addr) → WP) : Prop :=
 Calls Try.prog 182 #[p1.v] w0 (fun e w1 => ∃ r1 : Sl, e = .returned r1.v ∧ 
  ∀ (p2 : Addr) (w2 : World), New w1 (.cells #[r1.v, (vi 0), (vi 0), (vi 0)] 231) p2 w2 →
  K (some p2) w2)
theorem w_E1 (p1 : Sl) (w0 : World) (K : (Option Addr) → WP) (h : m_E1 p1 w0 K) :
  Calls Try.prog 126 #[p1.v] w0 (fun e w' => ∃ r2 : Option Addr, e = .returned (vp r2) ∧ K r2 w') := by
 unfold m_E1 at h
 refine cw (args := [p1.v]) Try.func126 Try.ntmps126 (wpE_seq (rg (q0 (vp none) (wpL_nil (th_n (wpE_seq (rg (q0 p1.v ?_))))))))
 refine sc Try.call182 (h.mono ?_)
 rintro e w1 ⟨r1, rfl, h⟩
 refine ⟨_, rfl, ?_⟩
 refine q0 (.agg #[r1.v, (vi 0), (vi 0), (vi 0)]) (sn (O := (.cells #[r1.v, (vi 0), (vi 0), (vi 0)] 231)) xb ?_)
 intro p2 w2 hn1
 have h := h p2 w2 hn1
 refine q0 (vp (some p2)) (wpL_nil (th_n (wpE_ret (rs1 Try.results126 (v := (vp (some p2))) ?_))))
 exact ⟨(some p2), rfl, h⟩
def m_F1 (r1 : Option Addr) (w0 : World) (K : Int → WP) : Prop :=
 Br (Option.isNone r1)
  (K 0 w0)
  (∃ a1 : Addr, r1 = some a1 ∧
  ∀ (w1 : World), Hst w0 None w0 None w1 →
  ∃ v1 : Sl, w1.cell? a1 = some v1.v ∧
  ∃ a2 : Addr, r1 = some a2 ∧
  ∃ v2 : Int, w1.cell? (a2.add 1) = some (vi v2) ∧
  K (q6.wrap ((v1.len : Int) - v2)) w1)
theorem w_F1 (r1 : Option Addr) (w0 : World) (K : Int → WP) (h : m_F1 r1 w0 K) :
  Calls Try.prog 127 #[(vp r1)] w0 (fun e w' => ∃ r2 : Int, e = .returned (vi r2) ∧ K r2 w') := by
 unfold m_F1 at h
 refine cw (args := [(vp r1)]) Try.func127 Try.ntmps127 ?_
 have hs := Hst.start w0
 have hb := HB.nil None w0
 refine wpE_seq (rg (q0 (vi 0) (wpL_nil (th_n (wpE_seq (wpE_seq (rg (q0 (vp r1) (q2 (vb (Option.isNone r1)) (x_ptreq (by kernel_rfl) rfl Try.underlying196) (wpL_nil (th_n ?_)))))))))))
 refine wpE_cond (t := (Option.isNone r1)) (by kernel_rfl) (fun hc1 => ?_) (fun hc1 => ?_)
 ·have h := h.1 hc1
  refine wpE_seq (rg (q0 (vi 0) (wpL_nil (th_n (wpE_ret (th_r (rs1 Try.results127 (v := (vi 0)) ?_)))))))
  exact ⟨0, rfl, h⟩
 ·have h := h.2 hc1
  refine wpE_skip (th_n (wpE_seq (wpE_drawnQ (by kernel_rfl) (by kernel_rfl) (by kernel_rfl) (by kernel_rfl) ?_)))
  intro w1 hw1
  have hs : Hst w0 None w0 None w1 := by rw [hw1]; exact hs.drew
  have hb : HB None w1 [] := by rw [hw1]; exact hb.drew
  refine qq 0 (vp r1) Kp0 (qg 1 ?_)
  obtain ⟨a1, hp1, h⟩ := h
  refine sxQ (v := (vp (some a1))) Kp1 (want0 rfl) rfl (x_nilCheck (p := r1) (by kernel_rfl) hp1) (qq 2 (vp (some a1)) Kp2 (qg 3 ?_))
  have h := h w1 hs
  have hs := hs.here
  obtain ⟨v1, hv2, h⟩ := h
  refine sxQ (v := v1.v) Kp3 (want0 rfl) rfl (xl (Try.isAgg44 _) hv2) (qq 4 (vi (v1.len : Int)) Kp4 (qq 5 (vp r1) Kp5 (qg 6 ?_)))
  obtain ⟨a2, hp2, h⟩ := h
  refine sxQ (v := (vp (some a2))) Kp6 (want0 rfl) rfl (x_nilCheck (p := r1) (by kernel_rfl) hp2) (qq 7 (vp (some (a2.add 1))) Kp7 (qg 8 ?_))
  obtain ⟨v2, hv1, h⟩ := h
  refine sxQ (v := (vi v2)) Kp8 (want0 rfl) rfl (xl (Try.isAgg3 _) hv1) (qq 9 (vi (q6.wrap ((v1.len : Int) - v2))) Kp9 (qq 10 (vi (q6.wrap ((v1.len : Int) - v2))) (pickA (S8 (pickS (pickS pickZ)))) (wn (th_n (wpE_ret (rs1 Try.results127 (v := (vi (q6.wrap ((v1.len : Int) - v2)))) ?_))))))
  exact ⟨(q6.wrap ((v1.len : Int) - v2)), rfl, h⟩
def m_G1 (r1 : Option Addr) (w0 : World) (K : Int → WP) : Prop :=
 Br (Option.isNone r1)
  (K 0 w0)
  (∃ a1 : Addr, r1 = some a1 ∧
  ∃ v1 : Int, w0.cell? (a1.add 1) = some (vi v1) ∧
  K v1 w0)
theorem w_G1 (r1 : Option Addr) (w0 : World) (K : Int → WP) (h : m_G1 r1 w0 K) :
  Calls Try.prog 128 #[(vp r1)] w0 (fun e w' => ∃ r2 : Int, e = .returned (vi r2) ∧ K r2 w') := by
 unfold m_G1 at h
 refine cw (args := [(vp r1)]) Try.func128 Try.ntmps128 (wpE_seq (rg (q0 (vi 0) (wpL_nil (th_n (wpE_seq (wpE_seq (rg (q0 (vp r1) (q2 (vb (Option.isNone r1)) (x_ptreq (by kernel_rfl) rfl Try.underlying196) (wpL_nil ?_)))))))))))
 refine th_n ?_
 refine wpE_cond (t := (Option.isNone r1)) (by kernel_rfl) (fun hc1 => ?_) (fun hc1 => ?_)
 ·have h := h.1 hc1
  refine wpE_seq (rg (q0 (vi 0) (wpL_nil (th_n (wpE_ret (th_r (rs1 Try.results128 (v := (vi 0)) ?_)))))))
  exact ⟨0, rfl, h⟩
 ·have h := h.2 hc1
  refine wpE_skip (th_n (wpE_seq (rg (q0 (vp r1) ?_))))
  obtain ⟨a1, hp1, h⟩ := h
  refine q2 (vp (some a1)) (x_nilCheck (p := r1) (by kernel_rfl) hp1) (q0 (vp (some (a1.add 1))) ?_)
  obtain ⟨v1, hv1, h⟩ := h
  refine q2 (vi v1) (xl (Try.isAgg3 _) hv1) (q0 (vi v1) (wpL_nil (th_n (wpE_ret (rs1 Try.results128 (v := (vi v1)) ?_)))))
  exact ⟨v1, rfl, h⟩
def m_H1 (r1 : Option Addr) (w0 : World) (K : Int → WP) : Prop :=
 ∀ (p1 : Addr) (w1 : World), New w0 (.cells #[(vp r1)] 196) p1 w1 →
 ∀ (p2 : Addr) (w2 : World), New w1 (.cells #[(.int .u8 0)] 5) p2 w2 →
 ∃ v1 : Option Addr, w2.cell? p1 = some (vp v1) ∧
 Calls Try.prog 207 #[(vp v1), (.func (.func 211) #[] #[(vp (some p1)), (vp (some p2))])] w2 (fun e w3 => e = .returned (.tuple #[]) ∧ 
  ∃ v2 : Int, w3.cell? p2 = some (.int .u8 v2) ∧
  CanW w3 p2 ∧ ∀ w4 : World, w4 = w3.setCell p2 (.int .u8 v2) →
  ∃ aE : Int, w4.cell? p2 = some (.int .u8 aE) ∧
  K aE w4)
theorem w_H1 (r1 : Option Addr) (w0 : World) (K : Int → WP) (h : m_H1 r1 w0 K) :
  Calls Try.prog 183 #[(vp r1)] w0 (fun e w' => ∃ r2 : Int, e = .returned (.int .u8 r2) ∧ K r2 w') := by
 unfold m_H1 at h
 refine cw (args := [(vp r1)]) Try.func183 Try.ntmps183 (wpE_seq (rg (sn (O := (.cells #[(vp r1)] 196)) xb ?_)))
 intro p1 w1 hn3
 have h := h p1 w1 hn3
 refine sn (O := (.cells #[(.int .u8 0)] 5)) (x_alloc (Try.zeroValue5 _) rfl) ?_
 intro p2 w2 hn2
 have h := h p2 w2 hn2
 refine wpL_nil (th_n (wpE_seq (rg ?_)))
 obtain ⟨v1, hv3, h⟩ := h
 refine q2 (vp v1) (xl (Try.isAgg196 _) hv3) (q0 (.func (.func 211) #[] #[(vp (some p1)), (vp (some p2))]) ?_)
 refine sc Try.call207 (h.mono ?_)
 rintro e w3 ⟨rfl, h⟩
 refine ⟨_, rfl, ?_⟩
 refine wpL_nil (th_n (wpE_seq (rg ?_)))
 obtain ⟨v2, hv2, h⟩ := h
 refine q2 (.int .u8 v2) (xl (Try.isAgg5 _) hv2) ?_
 obtain ⟨hp1, h⟩ := h
 refine st_set (want0 rfl) (x_store (a := p2) (v := (.int .u8 v2)) (by kernel_rfl) (by kernel_rfl) rfl (Try.sizeOf5 _) hp1) ?_
 intro w4 hn1
 have h := h w4 hn1
 refine wpL_nil (th_n (wpE_ret ?_))
 obtain ⟨aE, hv1, h⟩ := h
 refine resG (.inl rfl) (vs := [(.int .u8 aE)]) (v := (.int .u8 aE)) Try.results183 ⟨(RV.cell1 (A := p2) (by kernel_rfl) (Try.isAgg5 _) hv1), trivial⟩ (by kernel_rfl) ?_
 exact ⟨aE, rfl, h⟩
def m_I1 (r1 : Option Addr) (w0 : World) (K : Int → Int → WP) : Prop :=
 Br (Option.isNone r1)
  (K 0 0 w0)
  (∃ a1 : Addr, r1 = some a1 ∧
  ∀ (w1 : World), Hst w0 None w0 None w1 →
  ∃ v1 : Int, w1.cell? (a1.add 2) = some (vi v1) ∧
  ∃ a2 : Addr, r1 = some a2 ∧
  ∃ v2 : Int, w1.cell? (a2.add 3) = some (vi v2) ∧
  K v1 v2 w1)
theorem w_I1 (r1 : Option Addr) (w0 : World) (K : Int → Int → WP) (h : m_I1 r1 w0 K) :
  Calls Try.prog 184 #[(vp r1)] w0 (fun e w' => ∃ r2 r3 : Int, e = .returned (.tuple #[(vi r2), (vi r3)]) ∧ K r2 r3 w') := by
 unfold m_I1 at h
 refine cw (args := [(vp r1)]) Try.func184 Try.ntmps184 ?_
 have hs := Hst.start w0
 have hb := HB.nil None w0
 refine wpE_seq (rg (q0 (vi 0) (q0 (vi 0) (wpL_nil (th_n (wpE_seq (wpE_seq (rg (q0 (vp r1) (q2 (vb (Option.isNone r1)) (x_ptreq (by kernel_rfl) rfl Try.underlying196) (wpL_nil ?_)))))))))))
 refine th_n ?_
 refine wpE_cond (t := (Option.isNone r1)) (by kernel_rfl) (fun hc1 => ?_) (fun hc1 => ?_)
 ·have h := h.1 hc1
  refine wpE_seq (rg (q0 (vi 0) (q0 (vi 0) (wpL_nil (th_n (wpE_ret (th_r (res2 (.inl rfl) Try.results184 (v := (vi 0)) (by kernel_rfl) (v' := (vi 0)) (by kernel_rfl) ?_))))))))
  exact ⟨0, 0, rfl, h⟩
 ·have h := h.2 hc1
  refine wpE_skip (th_n (wpE_seq (wpE_drawnQ (by kernel_rfl) (by kernel_rfl) (by kernel_rfl) (by kernel_rfl) ?_)))
  intro w1 hw1
  have hs : Hst w0 None w0 None w1 := by rw [hw1]; exact hs.drew
  have hb : HB None w1 [] := by rw [hw1]; exact hb.drew
  refine qq 0 (vp r1) Kp0 (qg 1 ?_)
  obtain ⟨a1, hp1, h⟩ := h
  refine sxQ (v := (vp (some a1))) Kp1 (want0 rfl) rfl (x_nilCheck (p := r1) (by kernel_rfl) hp1) (qq 2 (vp (some (a1.add 2))) Kp2 (qg 3 ?_))
  have h := h w1 hs
  have hs := hs.here
  obtain ⟨v1, hv2, h⟩ := h
  refine sxQ (v := (vi v1)) Kp3 (want0 rfl) rfl (xl (Try.isAgg33 _) hv2) (qq 4 (vp r1) Kp4 (qg 5 ?_))
  obtain ⟨a2, hp2, h⟩ := h
  refine sxQ (v := (vp (some a2))) Kp5 (want0 rfl) rfl (x_nilCheck (p := r1) (by kernel_rfl) hp2) (qq 6 (vp (some (a2.add 3))) Kp6 (qg 7 ?_))
  obtain ⟨v2, hv1, h⟩ := h
  refine sxQ (v := (vi v2)) Kp7 (want0 rfl) rfl (xl (Try.isAgg3 _) hv1) (qq 8 (vi v1) Kp8 (qq 9 (vi v2) Kp9 (wn (th_n (wpE_ret (res2 (.inl rfl) Try.results184 (v := (vi v1)) (by kernel_rfl) (v' := (vi v2)) (by kernel_rfl) ?_))))))
  exact ⟨v1, v2, rfl, h⟩
def s_E (n1 : Int) : Int :=
 (cond (decide (n1 > 2147483647)) (-1) (q6.wrap n1))
theorem pw_E (n1 : Int) (w0 : World) :
  Calls Try.prog 185 #[(vu n1)] w0 (fun e w' => ∃ b'0 : Bool, ((decide (n1 > 2147483647)) = b'0) ∧ (e = .returned (vi (cond b'0 (-1) (q6.wrap n1)))) ∧ Pure w0 w') := by
 refine cw (args := [(vu n1)]) Try.func185 Try.ntmps185 (wpE_seq (rg (q0 (vi 0) (wpL_nil (th_n (wpE_seq (wpE_seq (rg (q0 (vu n1) (q0 (vb (decide (n1 > 2147483647))) (wpL_nil ?_)))))))))))
 refine th_n ?_
 refine wpE_cond (t := (decide (n1 > 2147483647))) (by kernel_rfl) (fun hc1 => ?_) (fun hc1 => ?_)
 ·refine wpE_seq (rg (q0 (vi (-1)) (wpL_nil (th_n (wpE_ret (th_r (rs1 Try.results185 (v := (vi (-1))) ?_)))))))
  exact ⟨true, hc1, by kernel_rfl, Ext.refl _⟩
 ·refine wpE_skip (th_n (wpE_seq (rg (q0 (vu n1) (q0 (vi (q6.wrap n1)) (q0 (vi (q6.wrap n1)) (wpL_nil (th_n (wpE_ret (rs1 Try.results185 (v := (vi (q6.wrap n1))) ?_))))))))))
  exact ⟨false, hc1, by kernel_rfl, Ext.refl _⟩
theorem p_E (n1 : Int) (w0 : World) : Calls Try.prog 185 #[(.int .u64 n1)] w0 (fun e w' => e = .returned (.int .i64 (s_E n1)) ∧ Pure w0 w') := by
 refine (pw_E n1 w0).mono ?_
 rintro e w' ⟨b'0, e0, h, E⟩
 subst e0
 exact ⟨h, E⟩
def s_G (aC aB : Int) (aD aF : Int) (aG : ByteArray) (aH aI : Int) : Int :=
 (cond (((((decide (aB < 0)) || (decide (aB ≥ 16))) || (decide (aD < 0))) || (decide (aD ≥ 16))) || (((aC == 8) || (aC == 9)) && (aB == aD))) 50 0)
theorem pw_G (aC aB : Int) (aD aF : Int) (aG : ByteArray) (aH aI : Int) (w0 : World) :
  Calls Try.prog 186 #[(.agg #[(vi aC), (vi aB), (vi aD), (vu aF), (vs aG), (vi aH), (vi aI)])] w0 (fun e w' => ∃ b'0 : Bool, ((((((decide (aB < 0)) || (decide (aB ≥ 16))) || (decide (aD < 0))) || (decide (aD ≥ 16))) || (((aC == 8) || (aC == 9)) && (aB == aD))) = b'0) ∧ (e = .returned (vi (cond b'0 50 0))) ∧ Pure w0 w') := by
 refine cw (args := [(.agg #[(vi aC), (vi aB), (vi aD), (vu aF), (vs aG), (vi aH), (vi aI)])]) Try.func186 Try.ntmps186 ?_
 have hs := Hst.start w0
 have hb := HB.nil None w0
 refine wpE_seq (rg (sn (O := (.cells #[(vi aC), (vi aB), (vi aD), (vu aF), (vs aG), (vi aH), (vi aI)] 106)) xb ?_))
 intro p1 w1 hn1
 obtain ⟨H1, hs, hb⟩ := hs.alloc hb hn1
 refine q0 (vi 0) (wpL_nil (th_n (wpE_seq ?_)))
 refine wpE_via (fun ρ wJ => ∃ HJ : NP, Hst w0 None w0 HJ wJ ∧ HB HJ wJ [(p1, [(vi aC), (vi aB), (vi aD), (vu aF), (vs aG), (vi aH), (vi aI)], 106)] ∧ Has ρ [(1, (vp (some p1))), (3, (vb ((aC == 8) || (aC == 9))))]) ?_ ?_
 ·refine rg (q0 (vp (some p1)) (q2 (vi aC) (xl (Try.isAgg3 _) (hb.c0 0 gZ)) (q0 (vb (aC == 8)) (q0 (vb (aC == 8)) ?_))))
  refine wpL_join 4 (fun ρ wJ => ∃ b3'0 : Bool, ∃ HJ : NP, ((aC == 8) = b3'0) ∧ Hst w0 None w0 HJ wJ ∧ HB HJ wJ [(p1, [(vi aC), (vi aB), (vi aD), (vu aF), (vs aG), (vi aH), (vi aI)], 106)] ∧ Has ρ [(1, (vp (some p1))), (11, (vb (b3'0 || (aC == 9))))]) ?_ ?_
  ·rintro ρ w4 ⟨b3'0, H4, he0, hs, hb, hH⟩
   subst he0
   refine wpL_has hH ?_
   refine q0 (vb ((aC == 8) || (aC == 9))) (wpL_nil (th_n ?_))
   exact ⟨_, hs, hb, hm⟩
  ·rcases Bool.eq_false_or_eq_true (aC == 8) with hg4 | hg4
   ·refine sk (yD 7 hg4) (sk (yD 7 hg4) (sk (yD 7 hg4) (q2 (vb true) (xT hg4) (wpL_nil ?_))))
    exact ⟨true, _, hg4, hs, hb, hm⟩
   ·refine q1 (vp (some p1)) (want1 rfl (yD 7 hg4)) (stp (v := (vi aC)) (want1 rfl (yD 7 hg4)) (xl (Try.isAgg3 _) (hb.c0 0 gZ)) (q1 (vb (aC == 9)) (want1 rfl (yD 7 hg4)) (q2 (vb (aC == 9)) (xF hg4) (wpL_nil ?_))))
    exact ⟨false, _, hg4, hs, hb, hm⟩
 ·rintro ρ w3 ⟨H3, hs, hb, hH⟩
  refine norm_has hH ?_
  refine th_n (wpE_seq (wpE_seq ?_))
  refine wpE_via (fun ρ wJ => ∃ b8'0 : Bool, ∃ HJ : NP, (((((decide (aB < 0)) || (decide (aB ≥ 16))) || (decide (aD < 0))) || (decide (aD ≥ 16))) = b8'0) ∧ Hst w0 None w0 HJ wJ ∧ HB HJ wJ [(p1, [(vi aC), (vi aB), (vi aD), (vu aF), (vs aG), (vi aH), (vi aI)], 106)] ∧ Has ρ [(39, (vb (b8'0 || (((aC == 8) || (aC == 9)) && (aB == aD)))))]) ?_ ?_
  ·refine rg (q0 (vp (some (p1.add 1))) (q2 (vi aB) (xl (Try.isAgg3 _) (hb.c 0 1 gZ)) (q0 (vb (decide (aB < 0))) (q0 (vb (decide (aB < 0))) ?_))))
   refine wpL_join 4 (fun ρ wJ => ∃ b9'0 : Bool, ∃ HJ : NP, ((decide (aB < 0)) = b9'0) ∧ Hst w0 None w0 HJ wJ ∧ HB HJ wJ [(p1, [(vi aC), (vi aB), (vi aD), (vu aF), (vs aG), (vi aH), (vi aI)], 106)] ∧ Has ρ [(1, (vp (some p1))), (3, (vb ((aC == 8) || (aC == 9)))), (19, (vb (b9'0 || (decide (aB ≥ 16)))))]) ?_ ?_
   ·rintro ρ w10 ⟨b9'0, H10, he0, hs, hb, hH⟩
    subst he0
    refine wpL_has hH ?_
    refine q0 (vb ((decide (aB < 0)) || (decide (aB ≥ 16)))) ?_
    refine wpL_join 4 (fun ρ wJ => ∃ b10'0 : Bool, ∃ HJ : NP, (((decide (aB < 0)) || (decide (aB ≥ 16))) = b10'0) ∧ Hst w0 None w0 HJ wJ ∧ HB HJ wJ [(p1, [(vi aC), (vi aB), (vi aD), (vu aF), (vs aG), (vi aH), (vi aI)], 106)] ∧ Has ρ [(1, (vp (some p1))), (3, (vb ((aC == 8) || (aC == 9)))), (24, (vb (b10'0 || (decide (aD < 0)))))]) ?_ ?_
    ·rintro ρ w11 ⟨b10'0, H11, he0, hs, hb, hH⟩
     subst he0
     refine wpL_has hH ?_
     refine q0 (vb (((decide (aB < 0)) || (decide (aB ≥ 16))) || (decide (aD < 0)))) ?_
     refine wpL_join 4 (fun ρ wJ => ∃ b11'0 : Bool, ∃ HJ : NP, ((((decide (aB < 0)) || (decide (aB ≥ 16))) || (decide (aD < 0))) = b11'0) ∧ Hst w0 None w0 HJ wJ ∧ HB HJ wJ [(p1, [(vi aC), (vi aB), (vi aD), (vu aF), (vs aG), (vi aH), (vi aI)], 106)] ∧ Has ρ [(1, (vp (some p1))), (3, (vb ((aC == 8) || (aC == 9)))), (29, (vb (b11'0 || (decide (aD ≥ 16)))))]) ?_ ?_
     ·rintro ρ w12 ⟨b11'0, H12, he0, hs, hb, hH⟩
      subst he0
      refine wpL_has hH ?_
      refine q0 (vb ((((decide (aB < 0)) || (decide (aB ≥ 16))) || (decide (aD < 0))) || (decide (aD ≥ 16)))) ?_
      rcases Bool.eq_false_or_eq_true ((((decide (aB < 0)) || (decide (aB ≥ 16))) || (decide (aD < 0))) || (decide (aD ≥ 16))) with hg20 | hg20
      ·refine sk (yD 30 hg20) (sk (yD 30 hg20) (sm (sm (sm (sm (sm (sk (yD 30 hg20) (q2 (vb true) (xT hg20) (wpL_nil (th_n ?_))))))))))
       exact ⟨true, _, hg20, hs, hb, hm⟩
      ·refine q1 (vb ((aC == 8) || (aC == 9))) (want1 rfl (yD 30 hg20)) (q1 (vb ((aC == 8) || (aC == 9))) (want1 rfl (yD 30 hg20)) ?_)
       refine wpL_join 6 (fun ρ wJ => ∃ b12'0 : Bool, ∃ HJ : NP, (((aC == 8) || (aC == 9)) = b12'0) ∧ Hst w0 None w0 HJ wJ ∧ HB HJ wJ [(p1, [(vi aC), (vi aB), (vi aD), (vu aF), (vs aG), (vi aH), (vi aI)], 106)] ∧ Has ρ [(30, (vb ((((decide (aB < 0)) || (decide (aB ≥ 16))) || (decide (aD < 0))) || (decide (aD ≥ 16))))), (38, (vb (b12'0 && (aB == aD))))]) ?_ ?_
       ·rintro ρ w13 ⟨b12'0, H13, he0, hs, hb, hH⟩
        subst he0
        refine wpL_has hH ?_
        refine q2 (vb (((aC == 8) || (aC == 9)) && (aB == aD))) (xF hg20) (wpL_nil (th_n ?_))
        exact ⟨false, _, hg20, hs, hb, hm⟩
       ·rcases Bool.eq_false_or_eq_true ((aC == 8) || (aC == 9)) with hg22 | hg22
        ·refine q1 (vp (some (p1.add 1))) (want1 rfl (yD 32 hg22)) (stp (v := (vi aB)) (want1 rfl (yD 32 hg22)) (xl (Try.isAgg3 _) (hb.c 0 1 gZ)) (q1 (vp (some (p1.add 2))) (want1 rfl (yD 32 hg22)) (stp (v := (vi aD)) (want1 rfl (yD 32 hg22)) (xl (Try.isAgg3 _) (hb.c 0 2 gZ)) (q1 (vb (aB == aD)) (want1 rfl (yD 32 hg22)) (stp (v := (vb (aB == aD))) (want1 rfl (yD 30 hg20)) (xT hg22) (wpL_nil ?_))))))
         exact ⟨true, _, hg22, hs, hb, hm⟩
        ·refine sk (yD 32 hg22) (sk (yD 32 hg22) (sk (yD 32 hg22) (sk (yD 32 hg22) (sk (yD 32 hg22) (stp (v := (vb false)) (want1 rfl (yD 30 hg20)) (xF hg22) (wpL_nil ?_))))))
         exact ⟨false, _, hg22, hs, hb, hm⟩
     ·rcases Bool.eq_false_or_eq_true (((decide (aB < 0)) || (decide (aB ≥ 16))) || (decide (aD < 0))) with hg19 | hg19
      ·refine sk (yD 25 hg19) (sk (yD 25 hg19) (sk (yD 25 hg19) (q2 (vb true) (xT hg19) (wpL_nil ?_))))
       exact ⟨true, _, hg19, hs, hb, hm⟩
      ·refine q1 (vp (some (p1.add 2))) (want1 rfl (yD 25 hg19)) (stp (v := (vi aD)) (want1 rfl (yD 25 hg19)) (xl (Try.isAgg3 _) (hb.c 0 2 gZ)) (q1 (vb (decide (aD ≥ 16))) (want1 rfl (yD 25 hg19)) (q2 (vb (decide (aD ≥ 16))) (xF hg19) (wpL_nil ?_))))
       exact ⟨false, _, hg19, hs, hb, hm⟩
    ·rcases Bool.eq_false_or_eq_true ((decide (aB < 0)) || (decide (aB ≥ 16))) with hg17 | hg17
     ·refine sk (yD 20 hg17) (sk (yD 20 hg17) (sk (yD 20 hg17) (q2 (vb true) (xT hg17) (wpL_nil ?_))))
      exact ⟨true, _, hg17, hs, hb, hm⟩
     ·refine q1 (vp (some (p1.add 2))) (want1 rfl (yD 20 hg17)) (stp (v := (vi aD)) (want1 rfl (yD 20 hg17)) (xl (Try.isAgg3 _) (hb.c 0 2 gZ)) (q1 (vb (decide (aD < 0))) (want1 rfl (yD 20 hg17)) (q2 (vb (decide (aD < 0))) (xF hg17) (wpL_nil ?_))))
      exact ⟨false, _, hg17, hs, hb, hm⟩
   ·rcases Bool.eq_false_or_eq_true (decide (aB < 0)) with hg15 | hg15
    ·refine sk (yD 15 hg15) (sk (yD 15 hg15) (sk (yD 15 hg15) (q2 (vb true) (xT hg15) (wpL_nil ?_))))
     exact ⟨true, _, hg15, hs, hb, hm⟩
    ·refine q1 (vp (some (p1.add 1))) (want1 rfl (yD 15 hg15)) (stp (v := (vi aB)) (want1 rfl (yD 15 hg15)) (xl (Try.isAgg3 _) (hb.c 0 1 gZ)) (q1 (vb (decide (aB ≥ 16))) (want1 rfl (yD 15 hg15)) (q2 (vb (decide (aB ≥ 16))) (xF hg15) (wpL_nil ?_))))
     exact ⟨false, _, hg15, hs, hb, hm⟩
  ·rintro ρ w9 ⟨b8'0, H9, he0, hs, hb, hH⟩
   subst he0
   refine norm_has hH ?_
   refine th_n ?_
   refine wpE_cond (t := (((((decide (aB < 0)) || (decide (aB ≥ 16))) || (decide (aD < 0))) || (decide (aD ≥ 16))) || (((aC == 8) || (aC == 9)) && (aB == aD)))) (by kernel_rfl) (fun hc1 => ?_) (fun hc1 => ?_)
   ·refine wpE_seq (rg (q0 (vi 50) (wpL_nil (th_n (wpE_ret (th_r (rs1 Try.results186 (v := (vi 50)) ?_)))))))
    exact ⟨true, hc1, by kernel_rfl, (Ext.refl (F := None) _).hst hs⟩
   ·refine wpE_skip (th_n (wpE_seq (rg (q0 (vi 0) (wpL_nil (th_n (wpE_ret (rs1 Try.results186 (v := (vi 0)) ?_))))))))
    exact ⟨false, hc1, by kernel_rfl, (Ext.refl (F := None) _).hst hs⟩
theorem p_G (aC aB : Int) (aD aF : Int) (aG : ByteArray) (aH aI : Int) (w0 : World) : Calls Try.prog 186 #[(.agg #[(.int .i64 aC), (.int .i64 aB), (.int .i64 aD), (.int .u64 aF), (.string aG), (.int .i64 aH), (.int .i64 aI)])] w0 (fun e w' => e = .returned (.int .i64 (s_G aC aB aD aF aG aH aI)) ∧ Pure w0 w') := by
 refine (pw_G aC aB aD aF aG aH aI w0).mono ?_
 rintro e w' ⟨b'0, e0, h, E⟩
 subst e0
 exact ⟨h, E⟩
def m_C_j4 (aE : Option Addr) (p1 : Addr) (H : NP) (w : World) (K : Int → WP) : Prop :=
 ∃ bI bJ : Int, ∃ bK bL : Int, ∃ bM : ByteArray, ∃ bV bW : Int, Row w p1 [(vi bI), (vi bJ), (vi bK), (vu bL), (vs bM), (vi bV), (vi bW)] ∧
 Calls Try.prog 138 #[(vp aE), (.agg #[(vi bI), (vi bJ), (vi bK), (vu bL), (vs bM), (vi bV), (vi bW)])] w (fun e w14 => ∃ r8 : Int, ∃ r9 : Bool, e = .returned (.tuple #[(vi r8), (vb r9)]) ∧ 
  Kept H w w14 ∧
  Br r9
   (K 72 w14)
   (∃ bX bY : Int, ∃ bZ cA : Int, ∃ cB : ByteArray, ∃ cC cD : Int, Row w14 p1 [(vi bX), (vi bY), (vi bZ), (vu cA), (vs cB), (vi cC), (vi cD)] ∧
   Calls Try.prog 130 #[(vp aE), (.agg #[(vi bX), (vi bY), (vi bZ), (vu cA), (vs cB), (vi cC), (vi cD)])] w14 (fun e w15 => ∃ r10 r11 : Int, e = .returned (.tuple #[(vi r10), (vi r11)]) ∧ 
    Kept H w14 w15 ∧
    K r11 w15)))
def m_C_j3 (aE : Option Addr) (p1 : Addr) (H : NP) (w : World) (K : Int → WP) : Prop :=
 ∃ v7 : Int, w.cell? (p1.add 11) = some (vi v7) ∧
 Br (decide (v7 > 1))
  (∃ v8 : Int, w.cell? (p1.add 10) = some (vu v8) ∧
  CanW w (p1.add 6) ∧ ¬ H (p1.add 6).block ∧ ∀ w16 : World, w16 = w.setCell (p1.add 6) (vi (q6.wrap (IntKind.u64.wrap (v8 + 1)))) →
  m_C_j4 aE p1 H w16 K)
  (m_C_j4 aE p1 H w K)
def m_C_j2 (aE : Option Addr) (p1 : Addr) (x2 : Bool) (H : NP) (w : World) (K : Int → WP) : Prop :=
 Br x2
  (K 71 w)
  (∃ v6 : Int, w.cell? (p1.add 11) = some (vi v6) ∧
  Br (decide (v6 > 0))
   (∃ v9 : Int, w.cell? (p1.add 9) = some (vu v9) ∧
   CanW w (p1.add 5) ∧ ¬ H (p1.add 5).block ∧ ∀ w17 : World, w17 = w.setCell (p1.add 5) (vi (q6.wrap (IntKind.u64.wrap (v9 + 1)))) →
   m_C_j3 aE p1 H w17 K)
   (m_C_j3 aE p1 H w K))
def m_C_j5 (aE : Option Addr) (p1 : Addr) (r7 : Int) (x3 : Bool) (H : NP) (w : World) (K : Int → WP) : Prop :=
 Br x3
  (m_C_j2 aE p1 true H w K)
  (∃ v11 : Int, w.cell? (p1.add 11) = some (vi v11) ∧
  Br (decide (v11 > 1))
   (∃ v12 : Int, w.cell? (p1.add 10) = some (vu v12) ∧
   m_C_j2 aE p1 (decide (v12 ≥ (IntKind.u64.wrap r7))) H w K)
   (m_C_j2 aE p1 false H w K))
def m_C_l1 (aE : Option Addr) (r1 : Option Addr) (p1 : Addr) (v2 : Sl) (x1 : Int) (w0 : World) (Hl1 : NP) (wl1 : World) (Kc1 : Int → NP → WP) (K : Int → WP) : Prop :=
 Br (decide (x1 < (v2.len : Int)))
  (∃ a1 : Addr, At v2 x1 2 a1 ∧
  ∃ vput1 : Value, ∃ vget1 : Value, Row wl1 a1 [vput1, vget1] ∧
  ∀ (p2 : Addr) (w3 : World), New wl1 (.cells #[(.nilFunc : Value), (.nilFunc : Value)] 195) p2 w3 →
  ([vput1, vget1].all oneCell = true ∧ ∀ j, j < 2 → CanW w3 (p2.add j)) ∧ ¬ Hl1 p2.block ∧ ∀ w4 : World, w4 = storeRow w3 p2 [vput1, vget1] →
  ∃ v3 : Value, w4.cell? (p2.add 1) = some v3 ∧
  ∃ (f1 : FuncId) (fs1 cs1 : Array Value), v3 = .func (.func f1) fs1 cs1 ∧
  (∀ args w, (callFunc f1 args).run Try.prog w = .ok (.enter f1 args) w) ∧ Calls Try.prog f1 (fs1 ++ #[(vp r1), (vp (some p1))] ++ cs1) w4 (fun e w5 => e = .returned (.tuple #[]) ∧ 
   Kept Hl1 w4 w5 ∧
   Kc1 (q6.wrap (x1 + 1)) Hl1 w5))
  (Calls Try.prog 184 #[(vp r1)] wl1 (fun e w6 => ∃ r3 r4 : Int, e = .returned (.tuple #[(vi r3), (vi r4)]) ∧ 
   Kept Hl1 wl1 w6 ∧
   Br (r3 != 0)
    (K r3 w6)
    (∃ C1 : WP, C1 w6.drew ∧ ∀ w7, w7 = w6.drew →
    ∃ v4 : Int, w7.cell? (p1.add 7) = some (vu v4) ∧
    ∃ v5 : Int, (∀ w', C1 w' → w'.cell? (p1.add 8) = some (vu v5)) ∧
    Calls Try.prog 185 #[(vu v4)] w7 (fun e w8 => ∃ r5 : Int, e = .returned (vi r5) ∧ C1 w8 ∧ 
     Kept Hl1 w7 w8 ∧
     Calls Try.prog 185 #[(vu v5)] w8 (fun e w9 => ∃ r6 : Int, e = .returned (vi r6) ∧ C1 w9 ∧ 
      Kept Hl1 w8 w9 ∧
      CanW w9 (p1.add 1) ∧ ¬ Hl1 (p1.add 1).block ∧ ∀ w10 : World, w10 = w9.setCell (p1.add 1) (vi r5) → C1 w10 ∧
      CanW w10 (p1.add 2) ∧ ¬ Hl1 (p1.add 2).block ∧ ∀ w11 : World, w11 = w10.setCell (p1.add 2) (vi r6) →
      ∃ aA aV : Int, ∃ aN aM : Int, ∃ aK : ByteArray, ∃ aL aJ : Int, Row w11 p1 [(vi aA), (vi aV), (vi aN), (vu aM), (vs aK), (vi aL), (vi aJ)] ∧
      Br (((s_G aA aV aN aM aK aL aJ) : Int) != 0)
       (∀ (w12 : World), Hst w0 Hl1 w11 Hl1 w12 →
       K (s_G aA aV aN aM aK aL aJ) w12)
       (∀ (w12 : World), Hst w0 Hl1 w11 Hl1 w12 →
       Calls Try.prog 35 #[(vp aE)] w12 (fun e w13 => ∃ r7 : Int, e = .returned (vi r7) ∧ 
        Kept Hl1 w12 w13 ∧
        ∃ v10 : Int, w13.cell? (p1.add 11) = some (vi v10) ∧
        Br (decide (v10 > 0))
         (∃ v13 : Int, w13.cell? (p1.add 9) = some (vu v13) ∧
         m_C_j5 aE p1 r7 (decide (v13 ≥ (IntKind.u64.wrap r7))) Hl1 w13 K)
         (m_C_j5 aE p1 r7 false Hl1 w13 K))))))))
def m_C (aE : Option Addr) (r1 : Option Addr) (kinds1 : Option Nat) (w0 : World) (K : Int → WP) : Prop :=
 Calls Try.prog 183 #[(vp r1)] w0 (fun e w1 => ∃ r2 : Int, e = .returned (.int .u8 r2) ∧ 
  Kept None w0 w1 ∧
  ∀ (p1 : Addr) (w2 : World), New w1 (.cells #[(vi (q6.wrap r2)), (vi 0), (vi 0), (vu 0), (vs ⟨#[]⟩), (vi 0), (vi 0), (vu 0), (vu 0), (vu 0), (vu 0), (vi 0)] 227) p1 w2 →
  ∃ v1 : Int, w2.cell? p1 = some (vi v1) ∧
  ∃ v2 : Sl, ∃ ok1 : Bool, (Instr.lookup 189 (.map kinds1) (vi v1) true).run Try.prog w2 = .ok (.tuple #[v2.v, (vb ok1)]) w2 ∧
  Br (!ok1)
   (K 70 w2)
   (∃ (I1 : Int → NP → WP) (mu1 : Int → World → Nat), I1 0 None w2 ∧
    ∀ (x1 : Int) (Hl1 : NP) (wl1 : World), Hst w0 Hl1 wl1 Hl1 wl1 → I1 x1 Hl1 wl1 → m_C_l1 aE r1 p1 v2 x1 w0 Hl1 wl1 (fun y'0 H' w' => I1 y'0 H' w' ∧ mu1 y'0 w' < mu1 x1 wl1) K))
theorem w_C (aE : Option Addr) (r1 : Option Addr) (kinds1 : Option Nat) (w0 : World) (K : Int → WP) (h : m_C aE r1 kinds1 w0 K) :
  Calls Try.prog 129 #[(vp aE), (vp r1), (.map kinds1)] w0 (fun e w' => ∃ r12 : Int, e = .returned (vi r12) ∧ K r12 w') := by
 unfold m_C at h
 refine cw (args := [(vp aE), (vp r1), (.map kinds1)]) Try.func129 Try.ntmps129 ?_
 have hs := Hst.start w0
 have hb := HB.nil None w0
 refine wpE_seq (rg (q0 (vi 0) (wpL_nil (th_n (wpE_seq (rg (q0 (vp r1) ?_)))))))
 refine sc Try.call183 (h.mono ?_)
 rintro e w1 ⟨r2, rfl, hk, h⟩
 refine ⟨_, rfl, ?_⟩
 obtain ⟨hs, hb⟩ := hk.hh hs hb
 refine q0 (vi (q6.wrap r2)) (q0 (.agg #[(vi (q6.wrap r2)), (vi 0), (vi 0), (vu 0), (vs ⟨#[]⟩), (vi 0), (vi 0)]) (q0 (.agg #[(vi (q6.wrap r2)), (vi 0), (vi 0), (vu 0), (vs ⟨#[]⟩), (vi 0), (vi 0), (vu 0), (vu 0), (vu 0), (vu 0), (vi 0)]) (sn (O := (.cells #[(vi (q6.wrap r2)), (vi 0), (vi 0), (vu 0), (vs ⟨#[]⟩), (vi 0), (vi 0), (vu 0), (vu 0), (vu 0), (vu 0), (vi 0)] 227)) xb ?_)))
 intro p1 w2 hn7
 have h := h p1 w2 hn7
 have hs := hs.again (Ext.new (F := None) hn7).keptP
 have hb := hb.kept (Ext.new (F := None) hn7).keptP
 refine q0 (vp (some p1)) (wpL_nil (th_n (wpE_seq (rg (q0 (.map kinds1) (q0 (vp (some p1)) (q0 (vp (some p1)) (q0 (vp (some p1)) (q0 (vp (some p1)) ?_)))))))))
 obtain ⟨v1, hv18, h⟩ := h
 refine q2 (vi v1) (xl (Try.isAgg3 _) hv18) ?_
 obtain ⟨v2, ok1, hv17, h⟩ := h
 refine q2 (.tuple #[v2.v, (vb ok1)]) (x_lookup (by kernel_rfl) (by kernel_rfl) hv17) (q0 (.tuple #[v2.v, (vb ok1)]) (q0 v2.v (q0 (vb ok1) (q0 v2.v (q0 (vb ok1) (wpL_nil (th_n (wpE_seq (wpE_seq (rg (q0 (vb ok1) ?_)))))))))))
 refine q0 (vb (!ok1)) (wpL_nil (th_n ?_))
 refine wpE_cond (t := (!ok1)) (by kernel_rfl) (fun hc1 => ?_) (fun hc1 => ?_)
 ·have h := h.1 hc1
  refine wpE_seq (rg (q0 (vi 70) (wpL_nil (th_n (wpE_ret (th_r (rs1 Try.results129 (v := (vi 70)) ?_)))))))
  exact ⟨70, rfl, h⟩
 ·have h := h.2 hc1
  refine wpE_skip (th_n (wpE_seq (wpE_seq (rg (q0 v2.v (q0 (vi (v2.len : Int)) (q0 (vi 0) (wpL_nil (th_n (wpE_block ?_))))))))))
  obtain ⟨I1, mu1, h0, hr⟩ := h
  refine wpE_loop (σ := Int × NP × World) (fun s ρ w => w = s.2.2 ∧ Has ρ [(0, (vp aE)), (1, (vp r1)), (7, (vp (some p1))), (38, v2.v), (39, (vi (v2.len : Int))), (40, (vi s.1))] ∧ Hst w0 s.2.1 w s.2.1 w ∧ HB s.2.1 w [] ∧ I1 s.1 s.2.1 s.2.2) (fun s => mu1 s.1 s.2.2) (0, None, w2) ⟨rfl, hm, hs, hb, h0⟩ ?_
  rintro ⟨x1, Hl1, wl1⟩ ρ w ⟨hw, hH, hs, hb, hI⟩
  obtain rfl : wl1 = w := (show w = wl1 from hw).symm
  have hH : Has ρ [(0, (vp aE)), (1, (vp r1)), (7, (vp (some p1))), (38, v2.v), (39, (vi (v2.len : Int))), (40, (vi x1))] := hH
  have hs : Hst w0 Hl1 wl1 Hl1 wl1 := hs
  have hb : HB Hl1 wl1 [] := hb
  have h := hr x1 Hl1 wl1 hs hI
  unfold m_C_l1 at h
  refine wpE_has hH ?_
  refine wpE_seq (rg (q0 (vb (decide (x1 < (v2.len : Int)))) (wpL_nil (th_n (wpE_seq ?_)))))
  refine wpE_cond (t := (decide (x1 < (v2.len : Int)))) (by kernel_rfl) (fun hc2 => ?_) (fun hc2 => ?_)
  ·have h := h.1 hc2
   refine wpE_skip (th_n (wpE_seq (wpE_block (wpE_seq (rg ?_)))))
   obtain ⟨a1, hv3, h⟩ := h
   refine q2 (vp (some a1)) (xi (Try.runUnderlying191 _) (Try.sizeOf195 _) hv3) ?_
   obtain ⟨vput1, vget1, hv2, h⟩ := h
   refine q2 (.agg #[vput1, vget1]) (x_loadA (a := a1) (vs := [vput1, vget1]) (by kernel_rfl) (Try.isAgg195 _) (Try.sizeOf195 _) rfl hv2) (sn (O := (.cells #[(.nilFunc : Value), (.nilFunc : Value)] 195)) (x_alloc (Try.zeroValue195 _) rfl) ?_)
   intro p2 w3 hn2
   have h := h p2 w3 hn2
   have hs := hs.again (Ext.new (F := None) hn2).keptP
   have hb := hb.kept (Ext.new (F := None) hn2).keptP
   obtain ⟨hp1, hnh, h⟩ := h
   refine st_set (want0 rfl) (x_storeA (a := p2) (vs := [vput1, vget1]) (by kernel_rfl) (by kernel_rfl) hp1.1 (Try.sizeOf195 _) rfl hp1.2) ?_
   intro w4 hn1
   have h := h w4 hn1
   have hk : Kept Hl1 w3 w4 := by rw [hn1]; exact Kept.storeRow hnh
   obtain ⟨hs, hb⟩ := hk.hh hs hb
   refine wpL_nil (th_n (rg (q0 (vp (some (p2.add 1))) ?_)))
   obtain ⟨v3, hv1, h⟩ := h
   refine q2 v3 (xl (Try.isAgg193 _) hv1) (q0 (vp r1) (q0 (vp (some p1)) ?_))
   obtain ⟨f1, fs1, cs1, hp2, h⟩ := h
   obtain ⟨hf1, h⟩ := h
   refine st_call (want0 rfl) (x_callmE (fs := fs1) (caps := cs1) (args := #[(vp r1), (vp (some p1))]) (by kernel_rfl) hp2 hf1 (by kernel_rfl) rfl) (h.mono ?_)
   rintro e w5 ⟨rfl, hk, h⟩
   refine ⟨_, rfl, ?_⟩
   obtain ⟨hs, hb⟩ := hk.hh hs hb
   refine wpL_nil (bl_n (th_n (rg (q0 (vi (q6.wrap (x1 + 1))) (q0 (vi (q6.wrap (x1 + 1))) (wpL_nil (th_n ?_)))))))
   exact ⟨((q6.wrap (x1 + 1)), Hl1, w5), ⟨rfl, hm, hs, hb, h.1⟩, h.2⟩
  ·have h := h.2 hc2
   refine wpE_exit (th_x (th_x (bl_eq (th_n (wpE_seq (wpE_seq (rg (q0 (vp r1) ?_))))))))
   refine sc Try.call184 (h.mono ?_)
   rintro e w6 ⟨r3, r4, rfl, hk, h⟩
   refine ⟨_, rfl, ?_⟩
   obtain ⟨hs, hb⟩ := hk.hh hs hb
   refine q0 (.tuple #[(vi r3), (vi r4)]) (q0 (vi r3) (q0 (vi r4) (q0 (vi r3) (q0 (vi r4) (wpL_nil (th_n (wpE_seq (rg (q0 (vi r3) (q0 (vb (r3 != 0)) (wpL_nil ?_)))))))))))
   refine th_n ?_
   refine wpE_cond (t := (r3 != 0)) (by kernel_rfl) (fun hc3 => ?_) (fun hc3 => ?_)
   ·have h := h.1 hc3
    refine wpE_seq (rg (q0 (vi r3) (q0 (vi r3) (wpL_nil (th_n (wpE_ret (th_r (rs1 Try.results129 (v := (vi r3)) ?_))))))))
    exact ⟨r3, rfl, h⟩
   ·have h := h.2 hc3
    refine wpE_skip (th_n (wpE_seq ?_))
    obtain ⟨C1, hC, h⟩ := h
    refine wpE_drawnC C1 [6, 11, 15, 19] [19] (by kernel_rfl) (by kernel_rfl) (by kernel_rfl) (by kernel_rfl) hC ?_
    intro w7 hw7
    have h := h w7 hw7
    have hs : Hst w0 Hl1 w6 Hl1 w7 := by rw [hw7]; exact hs.drew
    have hb : HB Hl1 w7 [] := by rw [hw7]; exact hb.drew
    have hs := hs.here
    refine qx 0 (vp (some p1)) Kp0 (qx 1 (vp (some p1)) Kp1 (qx 2 (vp (some p1)) Kp2 (qx 3 (vp (some p1)) Kp3 (qx 4 (vp (some (p1.add 7))) Kp4 (qg 5 ?_)))))
    obtain ⟨v4, hv16, h⟩ := h
    refine sye Kp5 (xl (Try.isAgg50 _) hv16) (qx 7 (vp (some p1)) Kp7 (qx 8 (vp (some p1)) Kp8 (qx 9 (vp (some (p1.add 8))) Kp9 (qg 10 ?_))))
    obtain ⟨v5, hv15, h⟩ := h
    refine sy (v := (vu v5)) (pickA (S8 (pickS (pickS pickZ)))) (fun w' hw' => (xl (Try.isAgg50 _) (hv15 w' hw'))) (lg 6 ?_)
    refine sl_call Kp6 (want0 rfl) (by kernel_rfl) (xc Try.call185) (h.mono ?_)
    rintro e w8 ⟨r5, rfl, hC, hk, h⟩
    refine ⟨_, rfl, .inr hC, ?_⟩
    obtain ⟨hs, hb⟩ := hk.hh hs hb
    refine lg 11 ?_
    refine sl_call (pickA (S8 (pickS (pickS (pickS pickZ))))) (want0 rfl) (by kernel_rfl) (xc Try.call185) (h.mono ?_)
    rintro e w9 ⟨r6, rfl, hC, hk, h⟩
    refine ⟨_, rfl, .inr hC, ?_⟩
    obtain ⟨hs, hb⟩ := hk.hh hs hb
    refine qx 12 (vp (some p1)) (pickA (S8 (S4 pickZ))) (qx 13 (vp (some p1)) (pickA (S8 (S4 (pickS pickZ)))) (qx 14 (vp (some (p1.add 1))) (pickA (S8 (S4 (pickS (pickS pickZ))))) (lg 15 ?_)))
    obtain ⟨hp3, hnh, h⟩ := h
    refine sl_t (pickA (S8 (S4 (pickS (pickS (pickS pickZ)))))) (xs (v := (vi r5)) (Try.sizeOf3 _) hp3) ?_
    intro w10 hn3
    have h := h w10 hn3
    refine ⟨.inr h.1, ?_⟩
    have h := h.2
    have hk := Kept.sc hnh hn3
    obtain ⟨hs, hb⟩ := hk.hh hs hb
    refine qx 16 (vp (some p1)) (pickA (S8 (S8 pickZ))) (qx 17 (vp (some p1)) (pickA (S8 (S8 (pickS pickZ)))) (qx 18 (vp (some (p1.add 2))) (pickA (S8 (S8 (pickS (pickS pickZ))))) (lg 19 ?_)))
    obtain ⟨hp4, hnh, h⟩ := h
    refine sl_t (pickA (S8 (S8 (pickS (pickS (pickS pickZ)))))) (xs (v := (vi r6)) (Try.sizeOf3 _) hp4) ?_
    intro w11 hn4
    have h := h w11 hn4
    refine ⟨.inl (by kernel_rfl), ?_⟩
    have hk := Kept.sc hnh hn4
    obtain ⟨hs, hb⟩ := hk.hh hs hb
    refine wn (th_n (wpE_seq (wpE_seq (rg (q0 (vp (some p1)) (q0 (vp (some p1)) (q0 (vp (some p1)) ?_)))))))
    obtain ⟨aA, aV, aN, aM, aK, aL, aJ, hv14, h⟩ := h
    refine q2 (.agg #[(vi aA), (vi aV), (vi aN), (vu aM), (vs aK), (vi aL), (vi aJ)]) (x_loadA (a := p1) (vs := [(vi aA), (vi aV), (vi aN), (vu aM), (vs aK), (vi aL), (vi aJ)]) (by kernel_rfl) (Try.isAgg106 _) (Try.sizeOf106 _) rfl hv14) ?_
    refine sc Try.call186 ((p_G aA aV aN aM aK aL aJ w11).mono ?_)
    rintro e w12 ⟨he, hE⟩
    refine ⟨(vi (s_G aA aV aN aM aK aL aJ)), he.trans (by kernel_rfl), ?_⟩
    have hs := hs.pure hE
    have hb := hb.pure hE
    refine q0 (vi (s_G aA aV aN aM aK aL aJ)) (wpL_nil (th_n (wpE_seq (rg (q0 (vi (s_G aA aV aN aM aK aL aJ)) (q0 (vb (((s_G aA aV aN aM aK aL aJ) : Int) != 0)) (wpL_nil (th_n ?_))))))))
    refine wpE_cond (t := (((s_G aA aV aN aM aK aL aJ) : Int) != 0)) (by kernel_rfl) (fun hc4 => ?_) (fun hc4 => ?_)
    ·have h := h.1 hc4
     refine wpE_seq (rg (q0 (vi (s_G aA aV aN aM aK aL aJ)) (q0 (vi (s_G aA aV aN aM aK aL aJ)) (wpL_nil (th_n (wpE_ret (th_r ?_)))))))
     have h := h w12 hs
     have hs := hs.here
     refine rs1 Try.results129 (v := (vi (s_G aA aV aN aM aK aL aJ))) ?_
     exact ⟨(s_G aA aV aN aM aK aL aJ), rfl, h⟩
    ·have h := h.2 hc4
     refine wpE_skip (th_n (wpE_seq (rg (q0 (vp aE) ?_))))
     have h := h w12 hs
     have hs := hs.here
     refine sc Try.call35 (h.mono ?_)
     rintro e w13 ⟨r7, rfl, hk, h⟩
     refine ⟨_, rfl, ?_⟩
     obtain ⟨hs, hb⟩ := hk.hh hs hb
     refine q0 (vu (IntKind.u64.wrap r7)) (q0 (vu (IntKind.u64.wrap r7)) (wpL_nil (th_n (wpE_seq (wpE_seq ?_)))))
     refine wpE_joinT (fun ρ w => ∃ x2 : Bool, ∃ H : NP, Has ρ [(0, (vp aE)), (7, (vp (some p1))), (114, (vb x2))] ∧ Hst w0 H w H w ∧ HB H w [] ∧ m_C_j2 aE p1 x2 H w K) ?_ ?_
     ·rintro ρ w ⟨x2, H, hH, hs, hb, h⟩
      unfold m_C_j2 at h
      refine wpE_has hH ?_
      refine wpE_cond (t := x2) (by kernel_rfl) (fun hc5 => ?_) (fun hc5 => ?_)
      ·have h := h.1 hc5
       refine wpE_seq (rg (q0 (vi 71) (wpL_nil (th_n (wpE_ret (th_r (rs1 Try.results129 (v := (vi 71)) ?_)))))))
       exact ⟨71, rfl, h⟩
      ·have h := h.2 hc5
       refine wpE_skip (th_n (wpE_seq (wpE_seq (rg (q0 (vp (some p1)) (q0 (vp (some p1)) (q0 (vp (some (p1.add 11))) ?_)))))))
       obtain ⟨v6, hv9, h⟩ := h
       refine q2 (vi v6) (xl (Try.isAgg3 _) hv9) (q0 (vb (decide (v6 > 0))) (wpL_nil (th_n ?_)))
       refine wpE_joinT (fun ρ w => ∃ H : NP, Has ρ [(0, (vp aE)), (7, (vp (some p1)))] ∧ Hst w0 H w H w ∧ HB H w [] ∧ m_C_j3 aE p1 H w K) ?_ ?_
       ·rintro ρ w ⟨H, hH, hs, hb, h⟩
        unfold m_C_j3 at h
        refine wpE_has hH ?_
        refine wpE_seq (wpE_seq (rg (q0 (vp (some p1)) (q0 (vp (some p1)) (q0 (vp (some (p1.add 11))) ?_)))))
        obtain ⟨v7, hv7, h⟩ := h
        refine q2 (vi v7) (xl (Try.isAgg3 _) hv7) (q0 (vb (decide (v7 > 1))) (wpL_nil (th_n ?_)))
        refine wpE_joinT (fun ρ w => ∃ H : NP, Has ρ [(0, (vp aE)), (7, (vp (some p1)))] ∧ Hst w0 H w H w ∧ HB H w [] ∧ m_C_j4 aE p1 H w K) ?_ ?_
        ·rintro ρ w ⟨H, hH, hs, hb, h⟩
         unfold m_C_j4 at h
         refine wpE_has hH ?_
         refine wpE_seq (wpE_seq (rg (q0 (vp aE) (q0 (vp (some p1)) (q0 (vp (some p1)) (q0 (vp (some p1)) ?_))))))
         obtain ⟨bI, bJ, bK, bL, bM, bV, bW, hv5, h⟩ := h
         refine q2 (.agg #[(vi bI), (vi bJ), (vi bK), (vu bL), (vs bM), (vi bV), (vi bW)]) (x_loadA (a := p1) (vs := [(vi bI), (vi bJ), (vi bK), (vu bL), (vs bM), (vi bV), (vi bW)]) (by kernel_rfl) (Try.isAgg106 _) (Try.sizeOf106 _) rfl hv5) ?_
         refine sc Try.call138 (h.mono ?_)
         rintro e w14 ⟨r8, r9, rfl, hk, h⟩
         refine ⟨_, rfl, ?_⟩
         obtain ⟨hs, hb⟩ := hk.hh hs hb
         refine q0 (.tuple #[(vi r8), (vb r9)]) (q0 (vi r8) (q0 (vb r9) (q0 (vi r8) (q0 (vb r9) (wpL_nil (th_n (wpE_seq (rg (q0 (vb r9) (wpL_nil (th_n ?_)))))))))))
         refine wpE_cond (t := r9) (by kernel_rfl) (fun hc6 => ?_) (fun hc6 => ?_)
         ·have h := h.1 hc6
          refine wpE_seq (rg (q0 (vi 72) (wpL_nil (th_n (wpE_ret (th_r (rs1 Try.results129 (v := (vi 72)) ?_)))))))
          exact ⟨72, rfl, h⟩
         ·have h := h.2 hc6
          refine wpE_skip (th_n (wpE_seq (rg (q0 (vp aE) (q0 (vp (some p1)) (q0 (vp (some p1)) (q0 (vp (some p1)) ?_)))))))
          obtain ⟨bX, bY, bZ, cA, cB, cC, cD, hv4, h⟩ := h
          refine q2 (.agg #[(vi bX), (vi bY), (vi bZ), (vu cA), (vs cB), (vi cC), (vi cD)]) (x_loadA (a := p1) (vs := [(vi bX), (vi bY), (vi bZ), (vu cA), (vs cB), (vi cC), (vi cD)]) (by kernel_rfl) (Try.isAgg106 _) (Try.sizeOf106 _) rfl hv4) ?_
          refine sc Try.call130 (h.mono ?_)
          rintro e w15 ⟨r10, r11, rfl, hk, h⟩
          refine ⟨_, rfl, ?_⟩
          obtain ⟨hs, hb⟩ := hk.hh hs hb
          refine q0 (.tuple #[(vi r10), (vi r11)]) (q0 (vi r10) (q0 (vi r11) (q0 (vi r10) (q0 (vi r11) (wpL_nil (th_n (wpE_seq (rg (q0 (vi r11) (q0 (vi r11) (wpL_nil ?_)))))))))))
          refine th_n (wpE_ret (rs1 Try.results129 (v := (vi r11)) ?_))
          exact ⟨r11, rfl, h⟩
        ·refine wpE_cond (t := (decide (v7 > 1))) (by kernel_rfl) (fun hc7 => ?_) (fun hc7 => ?_)
         ·have h := h.1 hc7
          refine rg (q0 (vp (some p1)) (q0 (vp (some p1)) (q0 (vp (some p1)) (q0 (vp (some (p1.add 10))) ?_))))
          obtain ⟨v8, hv6, h⟩ := h
          refine q2 (vu v8) (xl (Try.isAgg50 _) hv6) (q0 (vu (IntKind.u64.wrap (v8 + 1))) (q0 (vi (q6.wrap (IntKind.u64.wrap (v8 + 1)))) (q0 (vp (some p1)) (q0 (vp (some p1)) (q0 (vp (some (p1.add 6))) ?_)))))
          obtain ⟨hp5, hnh, h⟩ := h
          refine st_set (want0 rfl) (x_store (a := (p1.add 6)) (v := (vi (q6.wrap (IntKind.u64.wrap (v8 + 1))))) (by kernel_rfl) (by kernel_rfl) rfl (Try.sizeOf32 _) hp5) ?_
          intro w16 hn5
          have h := h w16 hn5
          have hk := Kept.sc hnh hn5
          obtain ⟨hs, hb⟩ := hk.hh hs hb
          refine wpL_nil (th_n ?_)
          exact ⟨H, hm, hs, hb, h⟩
         ·have h := h.2 hc7
          refine wpE_skip (th_n ?_)
          exact ⟨H, hm, hs, hb, h⟩
       ·refine wpE_cond (t := (decide (v6 > 0))) (by kernel_rfl) (fun hc8 => ?_) (fun hc8 => ?_)
        ·have h := h.1 hc8
         refine rg (q0 (vp (some p1)) (q0 (vp (some p1)) (q0 (vp (some p1)) (q0 (vp (some (p1.add 9))) ?_))))
         obtain ⟨v9, hv8, h⟩ := h
         refine q2 (vu v9) (xl (Try.isAgg50 _) hv8) (q0 (vu (IntKind.u64.wrap (v9 + 1))) (q0 (vi (q6.wrap (IntKind.u64.wrap (v9 + 1)))) (q0 (vp (some p1)) (q0 (vp (some p1)) (q0 (vp (some (p1.add 5))) ?_)))))
         obtain ⟨hp6, hnh, h⟩ := h
         refine st_set (want0 rfl) (x_store (a := (p1.add 5)) (v := (vi (q6.wrap (IntKind.u64.wrap (v9 + 1))))) (by kernel_rfl) (by kernel_rfl) rfl (Try.sizeOf32 _) hp6) ?_
         intro w17 hn6
         have h := h w17 hn6
         have hk := Kept.sc hnh hn6
         obtain ⟨hs, hb⟩ := hk.hh hs hb
         refine wpL_nil (th_n ?_)
         exact ⟨H, hm, hs, hb, h⟩
        ·have h := h.2 hc8
         refine wpE_skip (th_n ?_)
         exact ⟨H, hm, hs, hb, h⟩
     ·refine rg (q0 (vp (some p1)) (q0 (vp (some p1)) (q0 (vp (some (p1.add 11))) ?_)))
      obtain ⟨v10, hv13, h⟩ := h
      refine q2 (vi v10) (xl (Try.isAgg3 _) hv13) (q0 (vb (decide (v10 > 0))) (q0 (vb (decide (v10 > 0))) ?_))
      refine wpL_join 7 (fun ρ w => ∃ x3 : Bool, ∃ H : NP, Has ρ [(0, (vp aE)), (7, (vp (some p1))), (15, (vu (IntKind.u64.wrap r7))), (99, (vb x3))] ∧ Hst w0 H w H w ∧ HB H w [] ∧ m_C_j5 aE p1 r7 x3 H w K) ?_ ?_
      ·rintro ρ w ⟨x3, H, hH, hs, hb, h⟩
       unfold m_C_j5 at h
       refine wpL_has hH ?_
       refine q0 (vb x3) ?_
       rcases Bool.eq_false_or_eq_true x3 with hg1 | hg1
       ·have h := h.1 hg1
        refine sk (yD 100 hg1) (sk (yD 100 hg1) (sk (yD 100 hg1) (sk (yD 100 hg1) (sk (yD 100 hg1) (sk (yD 100 hg1) (sm (sm (sm (sm (sm (sm ?_)))))))))))
        refine sk (yD 100 hg1) (q2 (vb true) (xT hg1) (wpL_nil (th_n ?_)))
        exact ⟨true, H, hm, hs, hb, h⟩
       ·have h := h.2 hg1
        refine q1 (vp (some p1)) (want1 rfl (yD 100 hg1)) (q1 (vp (some p1)) (want1 rfl (yD 100 hg1)) (q1 (vp (some (p1.add 11))) (want1 rfl (yD 100 hg1)) ?_))
        obtain ⟨v11, hv11, h⟩ := h
        refine stp (v := (vi v11)) (want1 rfl (yD 100 hg1)) (xl (Try.isAgg3 _) hv11) (q1 (vb (decide (v11 > 1))) (want1 rfl (yD 100 hg1)) (q1 (vb (decide (v11 > 1))) (want1 rfl (yD 100 hg1)) ?_))
        rcases Bool.eq_false_or_eq_true (decide (v11 > 1)) with hg2 | hg2
        ·have h := h.1 hg2
         refine q1 (vp (some p1)) (want1 rfl (yD 106 hg2)) (q1 (vp (some p1)) (want1 rfl (yD 106 hg2)) (q1 (vp (some (p1.add 10))) (want1 rfl (yD 106 hg2)) ?_))
         obtain ⟨v12, hv10, h⟩ := h
         refine stp (v := (vu v12)) (want1 rfl (yD 106 hg2)) (xl (Try.isAgg50 _) hv10) (q1 (vu (IntKind.u64.wrap r7)) (want1 rfl (yD 106 hg2)) (q1 (vb (decide (v12 ≥ (IntKind.u64.wrap r7)))) (want1 rfl (yD 106 hg2)) (stp (v := (vb (decide (v12 ≥ (IntKind.u64.wrap r7))))) (want1 rfl (yD 100 hg1)) (xT hg2) (q2 (vb (decide (v12 ≥ (IntKind.u64.wrap r7)))) (xF hg1) (wpL_nil (th_n ?_))))))
         exact ⟨(decide (v12 ≥ (IntKind.u64.wrap r7))), H, hm, hs, hb, h⟩
        ·have h := h.2 hg2
         refine sk (yD 106 hg2) (sk (yD 106 hg2) (sk (yD 106 hg2) (sk (yD 106 hg2) (sk (yD 106 hg2) (sk (yD 106 hg2) (stp (v := (vb false)) (want1 rfl (yD 100 hg1)) (xF hg2) (q2 (vb false) (xF hg1) (wpL_nil (th_n ?_)))))))))
         exact ⟨false, H, hm, hs, hb, h⟩
      ·rcases Bool.eq_false_or_eq_true (decide (v10 > 0)) with hg3 | hg3
       ·have h := h.1 hg3
        refine q1 (vp (some p1)) (want1 rfl (yD 92 hg3)) (q1 (vp (some p1)) (want1 rfl (yD 92 hg3)) (q1 (vp (some (p1.add 9))) (want1 rfl (yD 92 hg3)) ?_))
        obtain ⟨v13, hv12, h⟩ := h
        refine stp (v := (vu v13)) (want1 rfl (yD 92 hg3)) (xl (Try.isAgg50 _) hv12) (q1 (vu (IntKind.u64.wrap r7)) (want1 rfl (yD 92 hg3)) (q1 (vb (decide (v13 ≥ (IntKind.u64.wrap r7)))) (want1 rfl (yD 92 hg3)) (q2 (vb (decide (v13 ≥ (IntKind.u64.wrap r7)))) (xT hg3) (wpL_nil ?_))))
        exact ⟨(decide (v13 ≥ (IntKind.u64.wrap r7))), Hl1, hm, hs, hb, h⟩
       ·have h := h.2 hg3
        refine sk (yD 92 hg3) (sk (yD 92 hg3) (sk (yD 92 hg3) (sk (yD 92 hg3) (sk (yD 92 hg3) (sk (yD 92 hg3) (q2 (vb false) (xF hg3) (wpL_nil ?_)))))))
        exact ⟨false, Hl1, hm, hs, hb, h⟩
def m_W_l1 (r1 : Option Addr) (r2 : Option Addr) (r3 : Option Nat) (places1 : Sl) (w0 : World) (Hl1 : NP) (wl1 : World) (Kc1 : Sl → NP → WP) (K : (Option Addr) → Int → Int → WP) : Prop :=
 Calls Try.prog 127 #[(vp r2)] wl1 (fun e w4 => ∃ r4 : Int, e = .returned (vi r4) ∧ 
  Kept Hl1 wl1 w4 ∧
  Br (decide (r4 > 0))
   (Calls Try.prog 128 #[(vp r2)] w4 (fun e w5 => ∃ r5 : Int, e = .returned (vi r5) ∧ 
    Kept Hl1 w4 w5 ∧
    Calls Try.prog 129 #[(vp r1), (vp r2), (.map r3)] w5 (fun e w6 => ∃ r6 : Int, e = .returned (vi r6) ∧ 
     Kept Hl1 w5 w6 ∧
     Br (r6 != 0)
      (K none r6 r5 w6)
      (∀ (p1 : Addr) (w7 : World), New w6 (.cells #[(vi r5)] 3) p1 w7 →
      ∃ s1 : Sl, ∃ w8 : World, (Builtin.append_ #[69, 69] 69 #[places1.v, (Sl.mk (some p1) 1 1).v]).run Try.prog w7 = .ok s1.v w8 ∧
      Kept Hl1 w7 w8 ∧
      Kc1 s1 Hl1 w8))))
   (∀ (p2 : Addr) (w9 : World), New w4 (.cells #[(vi 0)] 3) p2 w9 →
   CanW w9 p2 ∧ ¬ Hl1 p2.block ∧ ∀ w10 : World, w10 = w9.setCell p2 (vi 0) →
   Calls Try.prog 35 #[(vp r1)] w10 (fun e w11 => ∃ r7 : Int, e = .returned (vi r7) ∧ 
    Kept Hl1 w10 w11 ∧
    Calls Try.prog 30 #[(vp r1), (vi r7)] w11 (fun e w12 => ∃ r8 : Value, e = .returned r8 ∧ 
     Kept Hl1 w11 w12 ∧
     ∃ (f1 : FuncId) (cs1 : Array Value), r8 = .func (.func f1) #[] cs1 ∧ (∀ args w, (callFunc f1 args).run Try.prog w = .ok (.enter f1 args) w) ∧
     ∃ (xs1 : List (Int)) (Rd1 : WP), IterC Try.prog f1 cs1 (fun (z2 : Int) => #[(vi z2)]) xs1 Rd1 w12 ∧
     ∃ (I2 Ix1 : List (Int) → NP → WP), RngI w0 Rd1 I2 Ix1 (fun _ _ _ => False) ∧ I2 [] Hl1 w12 ∧
     (∀ (pre1 : List (Int)) (z2 : Int) (Y1 : NP) (A1 : World), I2 pre1 Y1 A1 → Hst w0 Y1 A1 Y1 A1 → (∃ post, xs1 = pre1 ++ z2 :: post) →
      ∃ v1 : Int, A1.cell? p2 = some (vi v1) ∧
      Br (z2 != (q6.wrap (v1 + 1)))
       (Kept Y1 A1 A1 ∧ Ix1 (pre1 ++ [z2]) Y1 A1)
       (∃ v2 : Int, A1.cell? p2 = some (vi v2) ∧
       CanW A1 p2 ∧ ¬ None p2.block ∧ ∀ w13 : World, w13 = A1.setCell p2 (vi (q6.wrap (v2 + 1))) →
       Kept Y1 A1 w13 ∧ I2 (pre1 ++ [z2]) Y1 w13)) ∧
     ∀ (H1 : NP) (w14 : World), Hst w0 H1 w14 H1 w14 → (∀ b, Hl1 b → H1 b) → Kept Hl1 w12 w14 → (I2 xs1 H1 w14 ∨ ∃ pre, Ix1 pre H1 w14) →
     ∃ v3 : Int, w14.cell? p2 = some (vi v3) ∧
     Br (decide (v3 < (places1.len : Int)))
      (∀ (w15 : World), Hst w0 H1 w14 H1 w15 →
      ∃ v4 : Int, w15.cell? p2 = some (vi v4) ∧
      ∃ a1 : Addr, At places1 v4 1 a1 ∧
      ∃ v5 : Int, w15.cell? a1 = some (vi v5) ∧
      ∀ (w16 : World), Hst w0 H1 w15 H1 w16 →
      K none 73 v5 w16)
      (∀ (w17 : World), Hst w0 H1 w14 H1 w17 →
      K r1 0 0 w17)))))
def m_W (b1 : Sl) (w0 : World) (K : (Option Addr) → Int → Int → WP) : Prop :=
 Br (decide ((b1.len : Int) > 4096))
  (K none 1 0 w0)
  (Br (((b1.len : Int) : Int) == 0)
   (K none 3 0 w0)
   (Calls Try.prog 27 #[] w0 (fun e w1 => ∃ r1 : Option Addr, e = .returned (vp r1) ∧ 
    Kept None w0 w1 ∧
    Calls Try.prog 126 #[b1.v] w1 (fun e w2 => ∃ r2 : Option Addr, e = .returned (vp r2) ∧ 
     Kept None w1 w2 ∧
     Calls Try.prog 125 #[] w2 (fun e w3 => ∃ r3 : Option Nat, e = .returned (.map r3) ∧ 
      Kept None w2 w3 ∧
      ∃ (I1 : Sl → NP → WP) (mu1 : Sl → World → Nat), I1 Sl.nil None w3 ∧
       ∀ (places1 : Sl) (Hl1 : NP) (wl1 : World), Hst w0 Hl1 wl1 Hl1 wl1 → I1 places1 Hl1 wl1 → m_W_l1 r1 r2 r3 places1 w0 Hl1 wl1 (fun y'0 H' w' => I1 y'0 H' w' ∧ mu1 y'0 w' < mu1 places1 wl1) K)))))
theorem w_W (b1 : Sl) (w0 : World) (K : (Option Addr) → Int → Int → WP) (h : m_W b1 w0 K) :
  Calls Try.prog 77 #[b1.v] w0 (fun e w' => ∃ r9 : Option Addr, ∃ r10 r11 : Int, e = .returned (.tuple #[(vp r9), (vi r10), (vi r11)]) ∧ K r9 r10 r11 w') := by
 unfold m_W at h
 refine cw (args := [b1.v]) Try.func77 Try.ntmps77 ?_
 have hs := Hst.start w0
 have hb := HB.nil None w0
 refine wpE_seq (rg (q0 (vp none) (q0 (vi 0) (q0 (vi 0) (wpL_nil (th_n (wpE_scope rfl (fun _ _ _ h => h) (wpE_seq (wpE_block (wpE_seq (rg ?_)))))))))))
 refine q0 b1.v (q0 (vi (b1.len : Int)) (q0 (vb (decide ((b1.len : Int) > 4096))) (q0 (vb (decide ((b1.len : Int) > 4096))) (wpL_nil (th_n ?_)))))
 refine wpE_cond (t := (decide ((b1.len : Int) > 4096))) (by kernel_rfl) (fun hc1 => ?_) (fun hc1 => ?_)
 ·have h := h.1 hc1
  refine wpE_seq (rg (q0 (vp none) (q0 (vi 1) (q0 (vi 0) (wpL_nil (th_n (wpE_ret (bl_r (th_r (res3 (.inl rfl) Try.results77 (v := (vp none)) (by kernel_rfl) (v' := (vi 1)) (by kernel_rfl) (v'' := (vi 0)) (by kernel_rfl) ?_))))))))))
  exact ⟨none, 1, 0, rfl, h⟩
 ·have h := h.2 hc1
  refine wpE_seq (rg (q0 b1.v (q0 (vi (b1.len : Int)) (q0 (vb (((b1.len : Int) : Int) == 0)) (q0 (vb (((b1.len : Int) : Int) == 0)) (wpL_nil (th_n ?_)))))))
  refine wpE_cond (t := (((b1.len : Int) : Int) == 0)) (by kernel_rfl) (fun hc2 => ?_) (fun hc2 => ?_)
  ·have h := h.1 hc2
   refine wpE_seq (rg (q0 (vp none) (q0 (vi 3) (q0 (vi 0) (wpL_nil (th_n (wpE_ret (bl_r (th_r (res3 (.inl rfl) Try.results77 (v := (vp none)) (by kernel_rfl) (v' := (vi 3)) (by kernel_rfl) (v'' := (vi 0)) (by kernel_rfl) ?_))))))))))
   exact ⟨none, 3, 0, rfl, h⟩
  ·have h := h.2 hc2
   refine wpE_skip (bl_n (th_n (wpE_seq (rg ?_))))
   refine sc Try.call27 (h.mono ?_)
   rintro e w1 ⟨r1, rfl, hk, h⟩
   refine ⟨_, rfl, ?_⟩
   obtain ⟨hs, hb⟩ := hk.hh hs hb
   refine q0 (vp r1) (wpL_nil (th_n (wpE_seq (rg (q0 b1.v ?_)))))
   refine sc Try.call126 (h.mono ?_)
   rintro e w2 ⟨r2, rfl, hk, h⟩
   refine ⟨_, rfl, ?_⟩
   obtain ⟨hs, hb⟩ := hk.hh hs hb
   refine q0 (vp r2) (wpL_nil (th_n (wpE_seq (rg ?_))))
   refine sc Try.call125 (h.mono ?_)
   rintro e w3 ⟨r3, rfl, hk, h⟩
   refine ⟨_, rfl, ?_⟩
   obtain ⟨hs, hb⟩ := hk.hh hs hb
   refine q0 (.map r3) (wpL_nil (th_n (wpE_seq (rg (q0 Sl.nil.v (wpL_nil (th_n (wpE_seq (wpE_block ?_)))))))))
   obtain ⟨I1, mu1, h0, hr⟩ := h
   refine wpE_loop (σ := Sl × NP × World) (fun s ρ w => w = s.2.2 ∧ Has ρ [(5, (vp r1)), (6, (vp r2)), (7, (.map r3)), (8, s.1.v)] ∧ Hst w0 s.2.1 w s.2.1 w ∧ HB s.2.1 w [] ∧ I1 s.1 s.2.1 s.2.2) (fun s => mu1 s.1 s.2.2) (Sl.nil, None, w3) ⟨rfl, hm, hs, hb, h0⟩ ?_
   rintro ⟨places1, Hl1, wl1⟩ ρ w ⟨hw, hH, hs, hb, hI⟩
   obtain rfl : wl1 = w := (show w = wl1 from hw).symm
   have hH : Has ρ [(5, (vp r1)), (6, (vp r2)), (7, (.map r3)), (8, places1.v)] := hH
   have hs : Hst w0 Hl1 wl1 Hl1 wl1 := hs
   have hb : HB Hl1 wl1 [] := hb
   have h := hr places1 Hl1 wl1 hs hI
   unfold m_W_l1 at h
   refine wpE_has hH ?_
   refine wpE_seq (wpE_seq (rg (q0 (vp r2) ?_)))
   refine sc Try.call127 (h.mono ?_)
   rintro e w4 ⟨r4, rfl, hk, h⟩
   refine ⟨_, rfl, ?_⟩
   obtain ⟨hs, hb⟩ := hk.hh hs hb
   refine q0 (vb (decide (r4 > 0))) (wpL_nil (th_n ?_))
   refine wpE_cond (t := (decide (r4 > 0))) (by kernel_rfl) (fun hc3 => ?_) (fun hc3 => ?_)
   ·have h := h.1 hc3
    refine wpE_skip (th_n (wpE_block (wpE_seq (rg (q0 (vp r2) ?_)))))
    refine sc Try.call128 (h.mono ?_)
    rintro e w5 ⟨r5, rfl, hk, h⟩
    refine ⟨_, rfl, ?_⟩
    obtain ⟨hs, hb⟩ := hk.hh hs hb
    refine q0 (vi r5) (wpL_nil (th_n (wpE_seq (wpE_seq (rg (q0 (vp r1) (q0 (vp r2) (q0 (.map r3) ?_))))))))
    refine sc Try.call129 (h.mono ?_)
    rintro e w6 ⟨r6, rfl, hk, h⟩
    refine ⟨_, rfl, ?_⟩
    obtain ⟨hs, hb⟩ := hk.hh hs hb
    refine q0 (vi r6) (wpL_nil (th_n (wpE_seq (rg (q0 (vi r6) (q0 (vb (r6 != 0)) (wpL_nil (th_n ?_))))))))
    refine wpE_cond (t := (r6 != 0)) (by kernel_rfl) (fun hc4 => ?_) (fun hc4 => ?_)
    ·have h := h.1 hc4
     refine wpE_seq (rg (q0 (vi r6) (q0 (vi r5) (q0 (vp none) (q0 (vi r6) (q0 (vi r5) (wpL_nil (th_n (wpE_ret (th_r (bl_r ?_)))))))))))
     refine th_r (bl_r (th_r (res3 (.inl rfl) Try.results77 (v := (vp none)) (by kernel_rfl) (v' := (vi r6)) (by kernel_rfl) (v'' := (vi r5)) (by kernel_rfl) ?_)))
     exact ⟨none, r6, r5, rfl, h⟩
    ·have h := h.2 hc4
     refine wpE_skip (th_n (rg (q0 places1.v (q0 (vi r5) (st_new (O := (.cells #[(vi r5)] 3)) (fun p => (Sl.mk (some p) 1 1).v) (want0 rfl) (x_buildSlice (vs := #[(0, (vi r5))]) (by kernel_rfl) (by kernel_rfl)) ?_)))))
     intro p1 w7 hn1
     have h := h p1 w7 hn1
     have hs := hs.again (Ext.new (F := None) hn1).keptP
     have hb := hb.kept (Ext.new (F := None) hn1).keptP
     obtain ⟨s1, w8, hv1, hk, h⟩ := h
     refine st (v := s1.v) (want0 rfl) (x_builtin (args := #[places1.v, (Sl.mk (some p1) 1 1).v]) (by kernel_rfl) (fun _ => rfl) hv1) ?_
     obtain ⟨hs, hb⟩ := hk.hh hs hb
     refine q0 s1.v (wpL_nil (bl_n (th_n ?_)))
     exact ⟨(s1, Hl1, w8), ⟨rfl, hm, hs, hb, h.1⟩, h.2⟩
   ·have h := h.2 hc3
    refine wpE_exit (th_x (th_x (bl_eq (th_n (wpE_seq (rg (sn (O := (.cells #[(vi 0)] 3)) (x_alloc (Try.zeroValue3 _) rfl) ?_)))))))
    intro p2 w9 hn4
    have h := h p2 w9 hn4
    have hs := hs.again (Ext.new (F := None) hn4).keptP
    have hb := hb.kept (Ext.new (F := None) hn4).keptP
    obtain ⟨hp1, hnh, h⟩ := h
    refine st_set (want0 rfl) (x_store (a := p2) (v := (vi 0)) (by kernel_rfl) (by kernel_rfl) rfl (Try.sizeOf3 _) hp1) ?_
    intro w10 hn2
    have h := h w10 hn2
    have hk := Kept.sc hnh hn2
    obtain ⟨hs, hb⟩ := hk.hh hs hb
    refine wpL_nil (th_n (wpE_seq (wpE_label (th_n (wpE_seqC (rg (q0 (vp r1) (q0 (vp r1) ?_))))))))
    refine sc Try.call35 (h.mono ?_)
    rintro e w11 ⟨r7, rfl, hk, h⟩
    refine ⟨_, rfl, ?_⟩
    obtain ⟨hs, hb⟩ := hk.hh hs hb
    refine sc Try.call30 (h.mono ?_)
    rintro e w12 ⟨r8, rfl, hk, h⟩
    refine ⟨_, rfl, ?_⟩
    obtain ⟨hs, hb⟩ := hk.hh hs hb
    refine wpL_nil (th_n ?_)
    obtain ⟨f1, cs1, hv2, hf1, h⟩ := h
    obtain ⟨xs1, Rd1, hit, I2, Ix1, hRI, h0, hbody, h⟩ := h
    refine wpB_range (encs := (fun (z2 : Int) => #[(vi z2)])) (Eq.trans (b := r8) (by kernel_rfl) hv2) hf1 hit (fun _ => rfl) (by decide) hs I2 Ix1 (fun _ _ _ => False) hRI h0 ?ha ?hr ?ht
    case ha =>
     intro l z2 w18
     refine rg (q0 (vi z2) (wpL_nil (th_n ?_)))
     refine ⟨rfl, ?_⟩
     intro pre1 Y1 A1 hi hY hpost
     have h := hbody pre1 z2 Y1 A1 hi hY hpost
     have hs := Hst.start A1
     have hb := HB.nil None A1
     refine wpE_block (wpE_seq (wpE_seq (rg (q0 (vi z2) ?_))))
     obtain ⟨v1, hv4, h⟩ := h
     refine q2 (vi v1) (xl (Try.isAgg3 _) hv4) (q0 (vi (q6.wrap (v1 + 1))) (q0 (vb (z2 != (q6.wrap (v1 + 1)))) (wpL_nil (th_n ?_))))
     refine wpE_cond (t := (z2 != (q6.wrap (v1 + 1)))) (by kernel_rfl) (fun hc5 => ?_) (fun hc5 => ?_)
     ·have h := h.1 hc5
      refine wpE_exit (th_x (bl_ne rfl ?_))
      exact rd_x h
     ·have h := h.2 hc5
      refine wpE_skip (th_n (rg ?_))
      obtain ⟨v2, hv3, h⟩ := h
      refine q2 (vi v2) (xl (Try.isAgg3 _) hv3) (q0 (vi (q6.wrap (v2 + 1))) ?_)
      obtain ⟨hp2, hnh, h⟩ := h
      refine st_set (want0 rfl) (x_store (a := p2) (v := (vi (q6.wrap (v2 + 1)))) (by kernel_rfl) (by kernel_rfl) rfl (Try.sizeOf3 _) hp2) ?_
      intro w13 hn3
      have h := h w13 hn3
      have hk := Kept.sc hnh hn3
      obtain ⟨hs, hb⟩ := hk.hh hs hb
      refine wpL_nil (bl_n ?_)
      exact rd_n h
    case hr =>
     intro D1 H1 w14 hs' hD hDe bO hk1 hio1
     have hb' := hb.behind hk1 bO hD hDe
     have hs := hs'
     have hb := hb'
     have h := h H1 w14 hs bO hk1 hio1
     refine wpE_seq (wpE_seq (rg ?_))
     obtain ⟨v3, hv8, h⟩ := h
     refine q2 (vi v3) (xl (Try.isAgg3 _) hv8) (q0 places1.v (q0 (vi (places1.len : Int)) (q0 (vb (decide (v3 < (places1.len : Int)))) (wpL_nil (th_n ?_)))))
     refine wpE_cond (t := (decide (v3 < (places1.len : Int)))) (by kernel_rfl) (fun hc6 => ?_) (fun hc6 => ?_)
     ·have h := h.1 hc6
      refine wpE_seq (wpE_drawnQ (by kernel_rfl) (by kernel_rfl) (by kernel_rfl) (by kernel_rfl) ?_)
      intro w15 hw15
      have hs : Hst w0 H1 w14 H1 w15 := by rw [hw15]; exact hs.drew
      have hb : HBZ [(D1, .deferred (some []))] H1 w15 [] := by rw [hw15]; exact hb.drew
      refine qq 0 places1.v Kp0 (qg 1 ?_)
      have h := h w15 hs
      have hs := hs.here
      obtain ⟨v4, hv7, h⟩ := h
      refine sxQ (v := (vi v4)) Kp1 (want0 rfl) rfl (xl (Try.isAgg3 _) hv7) (qg 2 ?_)
      obtain ⟨a1, hv6, h⟩ := h
      refine sxQ (v := (vp (some a1))) Kp2 (want0 rfl) rfl (xi (Try.runUnderlying69 _) (Try.sizeOf3 _) hv6) (qg 3 ?_)
      obtain ⟨v5, hv5, h⟩ := h
      refine sxQ (v := (vi v5)) Kp3 (want0 rfl) rfl (xl (Try.isAgg3 _) hv5) (qq 4 (vp none) Kp4 (qq 5 (vi 73) Kp5 (qq 6 (vi v5) Kp6 (wn (th_n (wpE_ret (th_r (af_r hb.dead ?_))))))))
      intro w16 hw'
      have hl := hb.leave hs hw'
      obtain ⟨hs, hb⟩ := hl
      -- behind the loop
      have h := h w16 hs
      have hs := hs.here
      refine res3 (.inl rfl) Try.results77 (v := (vp none)) (by kernel_rfl) (v' := (vi 73)) (by kernel_rfl) (v'' := (vi v5)) (by kernel_rfl) ?_
      exact ⟨none, 73, v5, rfl, h⟩
     ·have h := h.2 hc6
      refine wpE_skip (th_n (wpE_seq (rg (q0 (vp r1) (q0 (vp r1) (q0 (vi 0) (q0 (vi 0) (wpL_nil (th_n (wpE_ret (af_r hb.dead ?_)))))))))))
      intro w17 hw'
      have hl := hb.leave hs hw'
      obtain ⟨hs, hb⟩ := hl
      -- behind the loop
      have h := h w17 hs
      have hs := hs.here
      refine res3 (.inl rfl) Try.results77 (v := (vp r1)) (by kernel_rfl) (v' := (vi 0)) (by kernel_rfl) (v'' := (vi 0)) (by kernel_rfl) ?_
      exact ⟨r1, 0, 0, rfl, h⟩
    case ht =>
     intro _ _ _ _ _ _ _ h
     exact h.elim
def m_J1 (p1 : Option Addr) (b1 : Sl) (w0 : World) (K : Int → Int → Int → WP) : Prop :=
 Br (Option.isNone p1)
  (K 0 2 0 w0)
  (Calls Try.prog 77 #[b1.v] w0 (fun e w1 => ∃ r1 : Option Addr, ∃ r2 r3 : Int, e = .returned (.tuple #[(vp r1), (vi r2), (vi r3)]) ∧ 
   Br (r2 != 0)
    (K 0 r2 r3 w1)
    (Calls Try.prog 35 #[(vp r1)] w1 (fun e w2 => ∃ r4 : Int, e = .returned (vi r4) ∧ 
     Calls Try.prog 78 #[(vp p1), (vp r1), (vi r4)] w2 (fun e w3 => ∃ r5 r6 : Int, e = .returned (.tuple #[(vi r5), (vi r6)]) ∧ 
      K r5 r6 0 w3)))))
theorem w_J1 (p1 : Option Addr) (b1 : Sl) (w0 : World) (K : Int → Int → Int → WP) (h : m_J1 p1 b1 w0 K) :
  Calls Try.prog 22 #[(vp p1), b1.v] w0 (fun e w' => ∃ r7 r8 r9 : Int, e = .returned (.tuple #[(vi r7), (vi r8), (vi r9)]) ∧ K r7 r8 r9 w') := by
 unfold m_J1 at h
 refine cw (args := [(vp p1), b1.v]) Try.func22 Try.ntmps22 (wpE_seq (rg (q0 (vi 0) (q0 (vi 0) (q0 (vi 0) (wpL_nil (th_n (wpE_seq (wpE_seq (rg (q0 (vp p1) ?_)))))))))))
 refine q2 (vb (Option.isNone p1)) (x_ptreq (by kernel_rfl) rfl Try.underlying36) (wpL_nil (th_n ?_))
 refine wpE_cond (t := (Option.isNone p1)) (by kernel_rfl) (fun hc1 => ?_) (fun hc1 => ?_)
 ·have h := h.1 hc1
  refine wpE_seq (rg (q0 (vi 0) (q0 (vi 2) (q0 (vi 0) (wpL_nil (th_n (wpE_ret (th_r (res3 (.inl rfl) Try.results22 (v := (vi 0)) (by kernel_rfl) (v' := (vi 2)) (by kernel_rfl) (v'' := (vi 0)) (by kernel_rfl) ?_)))))))))
  exact ⟨0, 2, 0, rfl, h⟩
 ·have h := h.2 hc1
  refine wpE_skip (th_n (wpE_seq (rg (q0 b1.v ?_))))
  refine sc Try.call77 (h.mono ?_)
  rintro e w1 ⟨r1, r2, r3, rfl, h⟩
  refine ⟨_, rfl, ?_⟩
  refine q0 (.tuple #[(vp r1), (vi r2), (vi r3)]) (q0 (vp r1) (q0 (vi r2) (q0 (vi r3) (q0 (vp r1) (q0 (vi r2) (q0 (vi r3) (wpL_nil (th_n (wpE_seq (wpE_seq (rg ?_)))))))))))
  refine q0 (vi r2) (q0 (vb (r2 != 0)) (wpL_nil (th_n ?_)))
  refine wpE_cond (t := (r2 != 0)) (by kernel_rfl) (fun hc2 => ?_) (fun hc2 => ?_)
  ·have h := h.1 hc2
   refine wpE_seq (rg (q0 (vi r2) (q0 (vi r3) (q0 (vi 0) (q0 (vi r2) (q0 (vi r3) (wpL_nil (th_n (wpE_ret (th_r (res3 (.inl rfl) Try.results22 (v := (vi 0)) (by kernel_rfl) (v' := (vi r2)) (by kernel_rfl) (v'' := (vi r3)) (by kernel_rfl) ?_)))))))))))
   exact ⟨0, r2, r3, rfl, h⟩
  ·have h := h.2 hc2
   refine wpE_skip (th_n (wpE_seq (rg (q0 (vp p1) (q0 (vp r1) (q0 (vp r1) ?_))))))
   refine sc Try.call35 (h.mono ?_)
   rintro e w2 ⟨r4, rfl, h⟩
   refine ⟨_, rfl, ?_⟩
   refine sc Try.call78 (h.mono ?_)
   rintro e w3 ⟨r5, r6, rfl, h⟩
   refine ⟨_, rfl, ?_⟩
   refine q0 (.tuple #[(vi r5), (vi r6)]) (q0 (vi r5) (q0 (vi r6) (q0 (vi r5) (q0 (vi r6) (wpL_nil (th_n (wpE_seq (rg (q0 (vi r5) (q0 (vi r6) (q0 (vi r5) ?_)))))))))))
   refine q0 (vi r6) (q0 (vi 0) (wpL_nil (th_n (wpE_ret (res3 (.inl rfl) Try.results22 (v := (vi r5)) (by kernel_rfl) (v' := (vi r6)) (by kernel_rfl) (v'' := (vi 0)) (by kernel_rfl) ?_)))))
   exact ⟨r5, r6, 0, rfl, h⟩
def s_I (e1 : Int) : Int :=
 e1
theorem pw_I (e1 : Int) (w0 : World) :
  Calls Try.prog 23 #[(vi e1)] w0 (fun e w' => (e = .returned (vi e1)) ∧ Pure w0 w') := by
 refine cw (args := [(vi e1)]) Try.func23 Try.ntmps23 (wpE_seq (rg (q0 (vi 0) (wpL_nil (th_n (wpE_seq (rg (q0 (vi e1) (q0 (vi e1) (wpL_nil (th_n ?_)))))))))))
 refine wpE_ret (rs1 Try.results23 (v := (vi e1)) ?_)
 exact ⟨by kernel_rfl, Ext.refl _⟩
theorem p_I (e1 : Int) (w0 : World) : Calls Try.prog 23 #[(.int .i64 e1)] w0 (fun e w' => e = .returned (.int .i64 (s_I e1)) ∧ Pure w0 w') := pw_I e1 w0
def m_K1 (b1 : Sl) (w0 : World) (K : Int → Int → WP) : Prop :=
 Calls Try.prog 77 #[b1.v] w0 (fun e w1 => ∃ r1 : Option Addr, ∃ r2 r3 : Int, e = .returned (.tuple #[(vp r1), (vi r2), (vi r3)]) ∧ 
  K r2 r3 w1)
theorem w_K1 (b1 : Sl) (w0 : World) (K : Int → Int → WP) (h : m_K1 b1 w0 K) :
  Calls Try.prog 81 #[b1.v] w0 (fun e w' => ∃ r4 r5 : Int, e = .returned (.tuple #[(vi r4), (vi r5)]) ∧ K r4 r5 w') := by
 unfold m_K1 at h
 refine cw (args := [b1.v]) Try.func81 Try.ntmps81 (wpE_seq (rg (q0 (vi 0) (q0 (vi 0) (wpL_nil (th_n (wpE_seq (rg (q0 b1.v ?_)))))))))
 refine sc Try.call77 (h.mono ?_)
 rintro e w1 ⟨r1, r2, r3, rfl, h⟩
 refine ⟨_, rfl, ?_⟩
 refine q0 (.tuple #[(vp r1), (vi r2), (vi r3)]) (q0 (vp r1) (q0 (vi r2) (q0 (vi r3) (q0 (vp r1) (q0 (vi r2) (q0 (vi r3) (wpL_nil (th_n (wpE_seq (rg (q0 (vi r2) ?_)))))))))))
 refine q0 (vi r3) (q0 (vi r2) (q0 (vi r3) (wpL_nil (th_n (wpE_ret (res2 (.inl rfl) Try.results81 (v := (vi r2)) (by kernel_rfl) (v' := (vi r3)) (by kernel_rfl) ?_))))))
 exact ⟨r2, r3, rfl, h⟩
def m_L_j1 (r4 r8 : Int) (r9 r11 r12 : Int) (x1 : Bool) (w0 : World) (H : NP) (w : World) (K : Bool → WP) : Prop :=
 ∀ y1 : Bool, y1 = ((((x1 && (r9 == 0)) && (r8 == r4)) && (r4 == 2)) && (r11 == 72)) →
 ∀ (H6 : NP) (w20 : World), Hst w0 H w H6 w20 →
 K (y1 && (r12 == 2)) w20
def m_L  (w0 : World) (K : Bool → WP) : Prop :=
 Calls Try.prog 27 #[] w0 (fun e w1 => ∃ r1 : Option Addr, e = .returned (vp r1) ∧ 
  Kept None w0 w1 ∧
  Br (Option.isNone r1)
   (K false w1)
   (Calls Try.prog 79 #[(vp r1), (vi 0)] w1 (fun e w2 => ∃ r2 r3 : Int, e = .returned (.tuple #[(vi r2), (vi r3)]) ∧ 
    Kept None w1 w2 ∧
    Calls Try.prog 80 #[(vp r1), (vi r2), (vi r2)] w2 (fun e w3 => ∃ r4 r5 : Int, e = .returned (.tuple #[(vi r4), (vi r5)]) ∧ 
     Kept None w2 w3 ∧
     Calls Try.prog 21 #[(vp r1), (vi r4)] w3 (fun e w4 => ∃ r6 : Sl, ∃ r7 : Int, e = .returned (.tuple #[r6.v, (vi r7)]) ∧ 
      Kept None w3 w4 ∧
      Calls Try.prog 22 #[(vp r1), r6.v] w4 (fun e w5 => ∃ r8 r9 r10 : Int, e = .returned (.tuple #[(vi r8), (vi r9), (vi r10)]) ∧ 
       Kept None w4 w5 ∧
       ∀ (p1 : Addr) (w6 : World), New w5 (.cells #[(.int .u8 1), (.int .u8 0), (.int .u8 1), (.int .u8 0)] 5) p1 w6 →
       Calls Try.prog 81 #[(Sl.mk (some p1) 4 4).v] w6 (fun e w7 => ∃ r11 r12 : Int, e = .returned (.tuple #[(vi r11), (vi r12)]) ∧ 
        Kept None w6 w7 ∧
        Br ((r5 == 0) && (r7 == 0))
         (∀ (H1 : NP) (w10 : World), Hst w0 None w7 H1 w10 →
         ∃ c1 : ByteArray, (convert 44 9 r6.v).run Try.prog w10 = .ok (vs c1) w10 ∧
         m_L_j1 r4 r8 r9 r11 r12 (decide (c1 = (⟨#[1, 0, 4, 0, 0]⟩ : ByteArray))) w0 H1 w10 K)
         (∀ (H1 : NP) (w10 : World), Hst w0 None w7 H1 w10 →
         m_L_j1 r4 r8 r9 r11 r12 false w0 H1 w10 K))))))))
theorem w_L  (w0 : World) (K : Bool → WP) (h : m_L  w0 K) :
  Calls Try.prog 25 #[] w0 (fun e w' => ∃ r13 : Bool, e = .returned (vb r13) ∧ K r13 w') := by
 unfold m_L at h
 refine cw (args := []) Try.func25 Try.ntmps25 ?_
 have hs := Hst.start w0
 have hb := HB.nil None w0
 refine wpE_seq (rg (q0 (vb false) (wpL_nil (th_n (wpE_seq (rg ?_))))))
 refine sc Try.call27 (h.mono ?_)
 rintro e w1 ⟨r1, rfl, hk, h⟩
 refine ⟨_, rfl, ?_⟩
 obtain ⟨hs, hb⟩ := hk.hh hs hb
 refine q0 (vp r1) (wpL_nil (th_n (wpE_seq (wpE_seq (rg (q0 (vp r1) (q2 (vb (Option.isNone r1)) (x_ptreq (by kernel_rfl) rfl Try.underlying36) (wpL_nil (th_n ?_)))))))))
 refine wpE_cond (t := (Option.isNone r1)) (by kernel_rfl) (fun hc1 => ?_) (fun hc1 => ?_)
 ·have h := h.1 hc1
  refine wpE_seq (rg (q0 (vb false) (wpL_nil (th_n (wpE_ret (th_r (rs1 Try.results25 (v := (vb false)) ?_)))))))
  exact ⟨false, rfl, h⟩
 ·have h := h.2 hc1
  refine wpE_skip (th_n (wpE_seq (rg (q0 (vp r1) ?_))))
  refine sc Try.call79 (h.mono ?_)
  rintro e w2 ⟨r2, r3, rfl, hk, h⟩
  refine ⟨_, rfl, ?_⟩
  obtain ⟨hs, hb⟩ := hk.hh hs hb
  refine q0 (.tuple #[(vi r2), (vi r3)]) (q0 (vi r2) (q0 (vi r3) (q0 (vi r2) (q0 (vi r3) (wpL_nil (th_n (wpE_seq (rg (q0 (vp r1) (q0 (vi r2) (q0 (vi r2) ?_)))))))))))
  refine sc Try.call80 (h.mono ?_)
  rintro e w3 ⟨r4, r5, rfl, hk, h⟩
  refine ⟨_, rfl, ?_⟩
  obtain ⟨hs, hb⟩ := hk.hh hs hb
  refine q0 (.tuple #[(vi r4), (vi r5)]) (q0 (vi r4) (q0 (vi r5) (q0 (vi r4) (q0 (vi r5) (wpL_nil (th_n (wpE_seq (rg (q0 (vp r1) (q0 (vi r4) ?_))))))))))
  refine sc Try.call21 (h.mono ?_)
  rintro e w4 ⟨r6, r7, rfl, hk, h⟩
  refine ⟨_, rfl, ?_⟩
  obtain ⟨hs, hb⟩ := hk.hh hs hb
  refine q0 (.tuple #[r6.v, (vi r7)]) (q0 r6.v (q0 (vi r7) (q0 r6.v (q0 (vi r7) (wpL_nil (th_n (wpE_seq (rg (q0 (vp r1) (q0 r6.v ?_))))))))))
  refine sc Try.call22 (h.mono ?_)
  rintro e w5 ⟨r8, r9, r10, rfl, hk, h⟩
  refine ⟨_, rfl, ?_⟩
  obtain ⟨hs, hb⟩ := hk.hh hs hb
  refine q0 (.tuple #[(vi r8), (vi r9), (vi r10)]) (q0 (vi r8) (q0 (vi r9) (q0 (vi r10) (q0 (vi r8) (q0 (vi r9) (q0 (vi r10) (wpL_nil (th_n (wpE_seq (rg (st_new (O := (.cells #[(.int .u8 1), (.int .u8 0), (.int .u8 1), (.int .u8 0)] 5)) (fun p => (Sl.mk (some p) 4 4).v) (want0 rfl) (x_buildSlice (vs := #[(0, (.int .u8 1)), (1, (.int .u8 0)), (2, (.int .u8 1)), (3, (.int .u8 0))]) (by kernel_rfl) (by kernel_rfl)) ?_)))))))))))
  intro p1 w6 hn1
  have h := h p1 w6 hn1
  have hs := hs.again (Ext.new (F := None) hn1).keptP
  have hb := hb.kept (Ext.new (F := None) hn1).keptP
  refine sc Try.call81 (h.mono ?_)
  rintro e w7 ⟨r11, r12, rfl, hk, h⟩
  refine ⟨_, rfl, ?_⟩
  obtain ⟨hs, hb⟩ := hk.hh hs hb
  refine q0 (.tuple #[(vi r11), (vi r12)]) (q0 (vi r11) (q0 (vi r12) (q0 (vi r11) (q0 (vi r12) (wpL_nil (th_n (wpE_seq (rg (q0 (vi r5) ?_)))))))))
  refine sc Try.call23 ((p_I r5 w7).mono ?_)
  rintro e w8 ⟨he, hE⟩
  refine ⟨(vi r5), he.trans (by kernel_rfl), ?_⟩
  have hs := hs.pure hE
  have hb := hb.pure hE
  refine q0 (vb (r5 == 0)) (q0 (vb (r5 == 0)) ?_)
  refine wpL_join 4 (fun ρ wJ => ∃ b1'0 : Bool, ∃ HJ : NP, ((r5 == 0) = b1'0) ∧ Hst w0 None w7 HJ wJ ∧ HB HJ wJ [] ∧ Has ρ [(4, (vi r4)), (6, r6.v), (8, (vi r8)), (9, (vi r9)), (11, (vi r11)), (12, (vi r12)), (53, (vb (b1'0 && (r7 == 0))))]) ?_ ?_
  ·rintro ρ w10 ⟨b1'0, H1, he0, hs, hb, hH⟩
   subst he0
   refine wpL_has hH ?_
   refine q0 (vb ((r5 == 0) && (r7 == 0))) ?_
   refine wpL_join 4 (fun ρ w => ∃ x1 : Bool, ∃ H : NP, Has ρ [(4, (vi r4)), (8, (vi r8)), (9, (vi r9)), (11, (vi r11)), (12, (vi r12)), (58, (vb x1))] ∧ Hst w0 H w H w ∧ HB H w [] ∧ m_L_j1 r4 r8 r9 r11 r12 x1 w0 H w K) ?_ ?_
   ·rintro ρ w ⟨x1, H, hH, hs, hb, h⟩
    unfold m_L_j1 at h
    refine wpL_has hH ?_
    refine q0 (vb x1) ?_
    refine wpL_join 4 (fun ρ wJ => ∃ b2'0 : Bool, ∃ HJ : NP, (x1 = b2'0) ∧ Hst w0 H w HJ wJ ∧ HB HJ wJ [] ∧ Has ρ [(4, (vi r4)), (8, (vi r8)), (11, (vi r11)), (12, (vi r12)), (63, (vb (b2'0 && (r9 == 0))))]) ?_ ?_
    ·rintro ρ w13 ⟨b2'0, H2, he0, hs, hb, hH⟩
     subst he0
     refine wpL_has hH ?_
     refine q0 (vb (x1 && (r9 == 0))) ?_
     refine wpL_join 4 (fun ρ wJ => ∃ b3'0 : Bool, ∃ HJ : NP, ((x1 && (r9 == 0)) = b3'0) ∧ Hst w0 H w HJ wJ ∧ HB HJ wJ [] ∧ Has ρ [(4, (vi r4)), (11, (vi r11)), (12, (vi r12)), (68, (vb (b3'0 && (r8 == r4))))]) ?_ ?_
     ·rintro ρ w15 ⟨b3'0, H3, he0, hs, hb, hH⟩
      subst he0
      refine wpL_has hH ?_
      refine q0 (vb ((x1 && (r9 == 0)) && (r8 == r4))) ?_
      refine wpL_join 3 (fun ρ wJ => ∃ b4'0 : Bool, ∃ HJ : NP, (((x1 && (r9 == 0)) && (r8 == r4)) = b4'0) ∧ Hst w0 H w HJ wJ ∧ HB HJ wJ [] ∧ Has ρ [(11, (vi r11)), (12, (vi r12)), (72, (vb (b4'0 && (r4 == 2))))]) ?_ ?_
      ·rintro ρ w16 ⟨b4'0, H4, he0, hs, hb, hH⟩
       subst he0
       refine wpL_has hH ?_
       refine q0 (vb (((x1 && (r9 == 0)) && (r8 == r4)) && (r4 == 2))) ?_
       refine wpL_join 4 (fun ρ wJ => ∃ b5'0 y1 : Bool, ∃ HJ : NP, ((((x1 && (r9 == 0)) && (r8 == r4)) && (r4 == 2)) = b5'0) ∧ (y1 = (b5'0 && (r11 == 72))) ∧ Hst w0 H w HJ wJ ∧ HB HJ wJ [] ∧ Has ρ [(12, (vi r12)), (77, (vb y1))]) ?_ ?_
       ·rintro ρ w18 ⟨b5'0, y1, H5, he0, hy1, hs, hb, hH⟩
        subst he0
        have h := h y1 hy1
        refine wpL_has hH ?_
        refine q0 (vb y1) ?_
        refine wpL_join 3 (fun ρ wJ => ∃ b6'0 : Bool, ∃ HJ : NP, (y1 = b6'0) ∧ Hst w0 H w HJ wJ ∧ HB HJ wJ [] ∧ Has ρ [(81, (vb (b6'0 && (r12 == 2))))]) ?_ ?_
        ·rintro ρ w20 ⟨b6'0, H6, he0, hs, hb, hH⟩
         subst he0
         refine wpL_has hH ?_
         refine q0 (vb (y1 && (r12 == 2))) (wpL_nil (th_n (wpE_ret ?_)))
         have h := h H6 w20 hs
         have hs := hs.here
         refine rs1 Try.results25 (v := (vb (y1 && (r12 == 2)))) ?_
         exact ⟨(y1 && (r12 == 2)), rfl, h⟩
        ·rcases Bool.eq_false_or_eq_true y1 with hg12 | hg12
         ·refine q1 (vi r12) (want1 rfl (yD 78 hg12)) (q1 (vb (r12 == 2)) (want1 rfl (yD 78 hg12)) (q2 (vb (r12 == 2)) (xT hg12) (wpL_nil ?_)))
          exact ⟨true, _, hg12, hs, hb, hm⟩
         ·refine sk (yD 78 hg12) (sk (yD 78 hg12) (q2 (vb false) (xF hg12) (wpL_nil ?_)))
          exact ⟨false, _, hg12, hs, hb, hm⟩
       ·rcases Bool.eq_false_or_eq_true (((x1 && (r9 == 0)) && (r8 == r4)) && (r4 == 2)) with hg10 | hg10
        ·refine q1 (vi r11) (want1 rfl (yD 73 hg10)) ?_
         refine st_call (want1 rfl (yD 73 hg10)) (xc Try.call23) ((p_I r11 w16).mono ?_)
         rintro e w19 ⟨he, hE⟩
         refine ⟨(vi r11), he.trans (by kernel_rfl), ?_⟩
         have hs := hs.pure hE
         have hb := hb.pure hE
         refine q1 (vb (r11 == 72)) (want1 rfl (yD 73 hg10)) (q2 (vb (r11 == 72)) (xT hg10) (wpL_nil ?_))
         exact ⟨true, _, _, hg10, rfl, hs, hb, hm⟩
        ·refine sk (yD 73 hg10) (sk (yD 73 hg10) (sk (yD 73 hg10) (q2 (vb false) (xF hg10) (wpL_nil ?_))))
         exact ⟨false, _, _, hg10, rfl, hs, hb, hm⟩
      ·rcases Bool.eq_false_or_eq_true ((x1 && (r9 == 0)) && (r8 == r4)) with hg8 | hg8
       ·refine q1 (vi r4) (want1 rfl (yD 69 hg8)) (q1 (vb (r4 == 2)) (want1 rfl (yD 69 hg8)) (q2 (vb (r4 == 2)) (xT hg8) (wpL_nil ?_)))
        exact ⟨true, _, hg8, hs, hb, hm⟩
       ·refine sk (yD 69 hg8) (sk (yD 69 hg8) (q2 (vb false) (xF hg8) (wpL_nil ?_)))
        exact ⟨false, _, hg8, hs, hb, hm⟩
     ·rcases Bool.eq_false_or_eq_true (x1 && (r9 == 0)) with hg6 | hg6
      ·refine q1 (vi r8) (want1 rfl (yD 64 hg6)) (q1 (vi r4) (want1 rfl (yD 64 hg6)) (q1 (vb (r8 == r4)) (want1 rfl (yD 64 hg6)) (q2 (vb (r8 == r4)) (xT hg6) (wpL_nil ?_))))
       exact ⟨true, _, hg6, hs, hb, hm⟩
      ·refine sk (yD 64 hg6) (sk (yD 64 hg6) (sk (yD 64 hg6) (q2 (vb false) (xF hg6) (wpL_nil ?_))))
       exact ⟨false, _, hg6, hs, hb, hm⟩
    ·rcases Bool.eq_false_or_eq_true x1 with hg4 | hg4
     ·refine q1 (vi r9) (want1 rfl (yD 59 hg4)) ?_
      refine st_call (want1 rfl (yD 59 hg4)) (xc Try.call23) ((p_I r9 w).mono ?_)
      rintro e w14 ⟨he, hE⟩
      refine ⟨(vi r9), he.trans (by kernel_rfl), ?_⟩
      have hs := hs.pure hE
      have hb := hb.pure hE
      refine q1 (vb (r9 == 0)) (want1 rfl (yD 59 hg4)) (q2 (vb (r9 == 0)) (xT hg4) (wpL_nil ?_))
      exact ⟨true, _, hg4, hs, hb, hm⟩
     ·refine sk (yD 59 hg4) (sk (yD 59 hg4) (sk (yD 59 hg4) (q2 (vb false) (xF hg4) (wpL_nil ?_))))
      exact ⟨false, _, hg4, hs, hb, hm⟩
   ·rcases Bool.eq_false_or_eq_true ((r5 == 0) && (r7 == 0)) with hg13 | hg13
    ·have h := h.1 hg13
     refine q1 r6.v (want1 rfl (yD 54 hg13)) ?_
     have h := h H1 w10 hs
     have hs := hs.here
     obtain ⟨c1, hv1, h⟩ := h
     refine stp (v := (vs c1)) (want1 rfl (yD 54 hg13)) (x_convert (by kernel_rfl) hv1) (stp (v := (vb (decide (c1 = (⟨#[1, 0, 4, 0, 0]⟩ : ByteArray))))) (want1 rfl (yD 54 hg13)) (x_streq (by kernel_rfl) (by kernel_rfl)) (q2 (vb (decide (c1 = (⟨#[1, 0, 4, 0, 0]⟩ : ByteArray)))) (xT hg13) (wpL_nil ?_)))
     exact ⟨(decide (c1 = (⟨#[1, 0, 4, 0, 0]⟩ : ByteArray))), H1, hm, hs, hb, h⟩
    ·have h := h.2 hg13
     refine sk (yD 54 hg13) (sk (yD 54 hg13) (sk (yD 54 hg13) (q2 (vb false) (xF hg13) (wpL_nil ?_))))
     have h := h H1 w10 hs
     have hs := hs.here
     exact ⟨false, H1, hm, hs, hb, h⟩
  ·rcases Bool.eq_false_or_eq_true (r5 == 0) with hg2 | hg2
   ·refine q1 (vi r7) (want1 rfl (yD 49 hg2)) ?_
    refine st_call (want1 rfl (yD 49 hg2)) (xc Try.call23) ((p_I r7 w8).mono ?_)
    rintro e w11 ⟨he, hE⟩
    refine ⟨(vi r7), he.trans (by kernel_rfl), ?_⟩
    have hs := hs.pure hE
    have hb := hb.pure hE
    refine q1 (vb (r7 == 0)) (want1 rfl (yD 49 hg2)) (q2 (vb (r7 == 0)) (xT hg2) (wpL_nil ?_))
    exact ⟨true, _, hg2, hs, hb, hm⟩
   ·refine sk (yD 49 hg2) (sk (yD 49 hg2) (sk (yD 49 hg2) (q2 (vb false) (xF hg2) (wpL_nil ?_))))
    exact ⟨false, _, hg2, hs, hb, hm⟩
def m_L1 (l1 : Sl) (w0 : World) (K : Bool → WP) : Prop :=
 Br (decide ((l1.len : Int) > 50))
  (K true w0)
  (Calls Try.prog 66 #[(.agg #[(vi 0), (vi 0), (vi 0), (vu 0), (vs ⟨#[]⟩), l1.v]), (vi 6000)] w0 (fun e w1 => ∃ r1 : Int, e = .returned (vi r1) ∧ 
   K (decide (r1 > 6000)) w1))
theorem w_L1 (l1 : Sl) (w0 : World) (K : Bool → WP) (h : m_L1 l1 w0 K) :
  Calls Try.prog 26 #[l1.v] w0 (fun e w' => ∃ r2 : Bool, e = .returned (vb r2) ∧ K r2 w') := by
 unfold m_L1 at h
 refine cw (args := [l1.v]) Try.func26 Try.ntmps26 (wpE_seq (rg (q0 (vb false) (wpL_nil (th_n (wpE_seq (rg (q0 l1.v (q0 (vi (l1.len : Int)) (q0 (vb (decide ((l1.len : Int) > 50))) (q0 (vb (decide ((l1.len : Int) > 50))) ?_)))))))))))
 rcases Bool.eq_false_or_eq_true (decide ((l1.len : Int) > 50)) with hg1 | hg1
 ·have h := h.1 hg1
  refine sk (yD 6 hg1) (sk (yD 6 hg1) (sk (yD 6 hg1) (sk (yD 6 hg1) (q2 (vb true) (xT hg1) (q0 (vb true) (wpL_nil (th_n (wpE_ret (rs1 Try.results26 (v := (vb true)) ?_)))))))))
  exact ⟨true, rfl, h⟩
 ·have h := h.2 hg1
  refine q1 l1.v (want1 rfl (yD 6 hg1)) (q1 (.agg #[(vi 0), (vi 0), (vi 0), (vu 0), (vs ⟨#[]⟩), l1.v]) (want1 rfl (yD 6 hg1)) ?_)
  refine st_call (want1 rfl (yD 6 hg1)) (xc Try.call66) (h.mono ?_)
  rintro e w1 ⟨r1, rfl, h⟩
  refine ⟨_, rfl, ?_⟩
  refine q1 (vb (decide (r1 > 6000))) (want1 rfl (yD 6 hg1)) (q2 (vb (decide (r1 > 6000))) (xF hg1) (q0 (vb (decide (r1 > 6000))) (wpL_nil (th_n (wpE_ret (rs1 Try.results26 (v := (vb (decide (r1 > 6000)))) ?_))))))
  exact ⟨(decide (r1 > 6000)), rfl, h⟩
def m_H_j2 (b1 : Sl) (r2 : Option Addr) (w0 : World) (H : NP) (w : World) (K : Bool → WP) : Prop :=
 ∀ (p2 : Addr) (w12 : World), New w (.cells #[] 5) p2 w12 →
 ∃ s1 : Sl, ∃ w13 : World, (Builtin.append_ #[44, 44] 44 #[(Sl.mk (some p2) 0 0).v, b1.v]).run Try.prog w12 = .ok s1.v w13 ∧
 Kept H w12 w13 ∧
 Calls Try.prog 22 #[(vp r2), s1.v] w13 (fun e w14 => ∃ r7 r8 r9 : Int, e = .returned (.tuple #[(vi r7), (vi r8), (vi r9)]) ∧ 
  Kept H w13 w14 ∧
  Br (r8 == 0)
   (∀ (w15 : World), Hst w0 H w14 H w15 →
   Calls Try.prog 21 #[(vp r2), (vi r7)] w15 (fun e w16 => ∃ r10 : Sl, ∃ r11 : Int, e = .returned (.tuple #[r10.v, (vi r11)]) ∧ 
    Kept H w15 w16 ∧
    Br (r11 != 0)
     (∀ (w17 : World), Hst w0 H w16 H w17 →
     K false w17)
     (∀ (w17 : World), Hst w0 H w16 H w17 →
     ∃ c1 : ByteArray, (convert 44 9 r10.v).run Try.prog w17 = .ok (vs c1) w17 ∧
     ∃ c2 : ByteArray, (convert 44 9 b1.v).run Try.prog w17 = .ok (vs c2) w17 ∧
     Br (!(decide (c1 = c2)))
      (K false w17)
      (Calls Try.prog 25 #[] w17 (fun e w18 => ∃ r12 : Bool, e = .returned (vb r12) ∧ 
       Kept H w17 w18 ∧
       K r12 w18)))))
   (∀ (w15 : World), Hst w0 H w14 H w15 →
   Calls Try.prog 25 #[] w15 (fun e w19 => ∃ r13 : Bool, e = .returned (vb r13) ∧ 
    Kept H w15 w19 ∧
    K r13 w19)))
def m_H_j1 (aO aP : Int) (aQ aR : Int) (aS : ByteArray) (aT b1 : Sl) (x1 : Bool) (w0 : World) (H : NP) (w : World) (K : Bool → WP) : Prop :=
 Br x1
  (Calls Try.prog 25 #[] w (fun e w2 => ∃ r1 : Bool, e = .returned (vb r1) ∧ 
   Kept H w w2 ∧
   K r1 w2))
  (Calls Try.prog 27 #[] w (fun e w3 => ∃ r2 : Option Addr, e = .returned (vp r2) ∧ 
   Kept H w w3 ∧
   Br (Option.isNone r2)
    (K false w3)
    (Calls Try.prog 29 #[(.agg #[(vi aO), (vi aP), (vi aQ), (vu aR), (vs aS), aT.v])] w3 (fun e w4 => ∃ aU aW : Int, ∃ aX aY : Int, ∃ aZ : ByteArray, ∃ bN : Sl, e = .returned (.agg #[(vi aU), (vi aW), (vi aX), (vu aY), (vs aZ), bN.v]) ∧ 
     Kept H w3 w4 ∧
     Calls Try.prog 28 #[(vp r2), (.agg #[(vi aU), (vi aW), (vi aX), (vu aY), (vs aZ), bN.v])] w4 (fun e w5 => ∃ r3 r4 : Int, e = .returned (.tuple #[(vi r3), (vi r4)]) ∧ 
      Kept H w4 w5 ∧
      Calls Try.prog 21 #[(vp r2), (vi r3)] w5 (fun e w6 => ∃ r5 : Sl, ∃ r6 : Int, e = .returned (.tuple #[r5.v, (vi r6)]) ∧ 
       Kept H w5 w6 ∧
       Br ((r4 == 0) && (r6 == 0))
        (∀ (H2 : NP) (w9 : World), Hst w0 H w6 H2 w9 →
        Calls Try.prog 27 #[] w9 (fun e w20 => ∃ r14 : Option Addr, e = .returned (vp r14) ∧ 
         Kept H2 w9 w20 ∧
         Calls Try.prog 22 #[(vp r14), r5.v] w20 (fun e w21 => ∃ r15 r16 r17 : Int, e = .returned (.tuple #[(vi r15), (vi r16), (vi r17)]) ∧ 
          Kept H2 w20 w21 ∧
          Calls Try.prog 22 #[(vp r2), r5.v] w21 (fun e w22 => ∃ r18 r19 r20 : Int, e = .returned (.tuple #[(vi r18), (vi r19), (vi r20)]) ∧ 
           Kept H2 w21 w22 ∧
           ∃ C1 : WP, C1 w22.drew ∧ ∀ w23, w23 = w22.drew →
           Calls Try.prog 23 #[(vi r16)] w23 (fun e w24 => ∃ r21 : Int, e = .returned (vi r21) ∧ C1 w24 ∧ 
            Kept H2 w23 w24 ∧
            Br (r21 != 0)
             (K false w24)
             (Calls Try.prog 23 #[(vi r19)] w24 (fun e w25 => ∃ r22 : Int, e = .returned (vi r22) ∧ C1 w25 ∧ 
              Kept H2 w24 w25 ∧
              Br (r22 != 0)
               (K false w25)
               (Br (r18 != r3)
                (K false w25)
                (Calls Try.prog 37 #[(vp r14), (vi r15)] w25 (fun e w26 => ∃ bP bQ : Int, ∃ bR bS : Int, ∃ bT : ByteArray, ∃ bU : Sl, e = .returned (.agg #[(vi bP), (vi bQ), (vi bR), (vu bS), (vs bT), bU.v]) ∧ C1 w26 ∧ 
                 Kept H2 w25 w26 ∧
                 Calls Try.prog 36 #[(.agg #[(vi bP), (vi bQ), (vi bR), (vu bS), (vs bT), bU.v]), (.agg #[(vi aO), (vi aP), (vi aQ), (vu aR), (vs aS), aT.v])] w26 (fun e w27 => ∃ r23 : Bool, e = .returned (vb r23) ∧ C1 w27 ∧ 
                  Kept H2 w26 w27 ∧
                  Br (!r23)
                   (K false w27)
                   (m_H_j2 b1 r2 w0 H2 w27 K))))))))))))
        (∀ (H2 : NP) (w9 : World), Hst w0 H w6 H2 w9 →
        m_H_j2 b1 r2 w0 H2 w9 K)))))))
def m_H (aO aP : Int) (aQ aR : Int) (aS : ByteArray) (aT b1 : Sl) (w0 : World) (K : Bool → WP) : Prop :=
 ∀ (H1 : NP) (w1 : World), Hst w0 None w0 H1 w1 →
 ∀ (p3 : Addr) (w28 : World), New w1 (.cells #[(vi aO), (vi aP), (vi aQ), (vu aR), (vs aS), aT.v] 52) p3 w28 →
 Calls Try.prog 26 #[(Sl.mk (some p3) 1 1).v] w28 (fun e w29 => ∃ r24 : Bool, e = .returned (vb r24) ∧ 
  Kept H1 w28 w29 ∧
  ∀ (H3 : NP) (w30 : World), Hst w0 H1 w29 H3 w30 →
  m_H_j1 aO aP aQ aR aS aT b1 (r24 || (decide ((b1.len : Int) > 8192))) w0 H3 w30 K)
theorem w_H (aO aP : Int) (aQ aR : Int) (aS : ByteArray) (aT b1 : Sl) (w0 : World) (K : Bool → WP) (h : m_H aO aP aQ aR aS aT b1 w0 K) :
  Calls Try.prog 7 #[(.agg #[(vi aO), (vi aP), (vi aQ), (vu aR), (vs aS), aT.v]), b1.v] w0 (fun e w' => ∃ r25 : Bool, e = .returned (vb r25) ∧ K r25 w') := by
 unfold m_H at h
 refine cw (args := [(.agg #[(vi aO), (vi aP), (vi aQ), (vu aR), (vs aS), aT.v]), b1.v]) Try.func7 Try.ntmps7 ?_
 have hs := Hst.start w0
 have hb := HB.nil None w0
 refine wpE_seq (rg (sn (O := (.cells #[(vi aO), (vi aP), (vi aQ), (vu aR), (vs aS), aT.v] 52)) xb ?_))
 intro p1 w1 hn1
 obtain ⟨H1, hs, hb⟩ := hs.alloc hb hn1
 refine q0 (vb false) (wpL_nil (th_n (wpE_seq (wpE_seq ?_))))
 refine wpE_joinT (fun ρ w => ∃ x1 : Bool, ∃ H : NP, Has ρ [(1, b1.v), (2, (vp (some p1))), (29, (vb x1))] ∧ Hst w0 H w H w ∧ HB H w [(p1, [(vi aO), (vi aP), (vi aQ), (vu aR), (vs aS), aT.v], 52)] ∧ m_H_j1 aO aP aQ aR aS aT b1 x1 w0 H w K) ?_ ?_
 ·rintro ρ w ⟨x1, H, hH, hs, hb, h⟩
  unfold m_H_j1 at h
  refine wpE_has hH ?_
  refine wpE_cond (t := x1) (by kernel_rfl) (fun hc1 => ?_) (fun hc1 => ?_)
  ·have h := h.1 hc1
   refine wpE_seq (rg ?_)
   refine sc Try.call25 (h.mono ?_)
   rintro e w2 ⟨r1, rfl, hk, h⟩
   refine ⟨_, rfl, ?_⟩
   obtain ⟨hs, hb⟩ := hk.hh hs hb
   refine q0 (vb r1) (wpL_nil (th_n (wpE_ret (th_r (rs1 Try.results7 (v := (vb r1)) ?_)))))
   exact ⟨r1, rfl, h⟩
  ·have h := h.2 hc1
   refine wpE_skip (th_n (wpE_seq (rg ?_)))
   refine sc Try.call27 (h.mono ?_)
   rintro e w3 ⟨r2, rfl, hk, h⟩
   refine ⟨_, rfl, ?_⟩
   obtain ⟨hs, hb⟩ := hk.hh hs hb
   refine q0 (vp r2) (wpL_nil (th_n (wpE_seq (wpE_seq (rg (q0 (vp r2) (q2 (vb (Option.isNone r2)) (x_ptreq (by kernel_rfl) rfl Try.underlying36) (wpL_nil (th_n ?_)))))))))
   refine wpE_cond (t := (Option.isNone r2)) (by kernel_rfl) (fun hc2 => ?_) (fun hc2 => ?_)
   ·have h := h.1 hc2
    refine wpE_seq (rg (q0 (vb false) (wpL_nil (th_n (wpE_ret (th_r (rs1 Try.results7 (v := (vb false)) ?_)))))))
    exact ⟨false, rfl, h⟩
   ·have h := h.2 hc2
    refine wpE_skip (th_n (wpE_seq (rg (q0 (vp r2) (q2 (.agg #[(vi aO), (vi aP), (vi aQ), (vu aR), (vs aS), aT.v]) (x_loadA (a := p1) (vs := [(vi aO), (vi aP), (vi aQ), (vu aR), (vs aS), aT.v]) (by kernel_rfl) (Try.isAgg52 _) (Try.sizeOf52 _) rfl (hb.row0 0 6 gZ (by kernel_rfl))) ?_)))))
    refine sc Try.call29 (h.mono ?_)
    rintro e w4 ⟨aU, aW, aX, aY, aZ, bN, rfl, hk, h⟩
    refine ⟨_, rfl, ?_⟩
    obtain ⟨hs, hb⟩ := hk.hh hs hb
    refine sc Try.call28 (h.mono ?_)
    rintro e w5 ⟨r3, r4, rfl, hk, h⟩
    refine ⟨_, rfl, ?_⟩
    obtain ⟨hs, hb⟩ := hk.hh hs hb
    refine q0 (.tuple #[(vi r3), (vi r4)]) (q0 (vi r3) (q0 (vi r4) (q0 (vi r3) (q0 (vi r4) (wpL_nil (th_n (wpE_seq (rg (q0 (vp r2) (q0 (vi r3) ?_))))))))))
    refine sc Try.call21 (h.mono ?_)
    rintro e w6 ⟨r5, r6, rfl, hk, h⟩
    refine ⟨_, rfl, ?_⟩
    obtain ⟨hs, hb⟩ := hk.hh hs hb
    refine q0 (.tuple #[r5.v, (vi r6)]) (q0 r5.v (q0 (vi r6) (q0 r5.v (q0 (vi r6) (wpL_nil (th_n (wpE_seq (wpE_seq ?_))))))))
    refine wpE_via (fun ρ wJ => ∃ b2'0 : Bool, ∃ HJ : NP, ((r4 == 0) = b2'0) ∧ Hst w0 H w6 HJ wJ ∧ HB HJ wJ [(p1, [(vi aO), (vi aP), (vi aQ), (vu aR), (vs aS), aT.v], 52)] ∧ Has ρ [(1, b1.v), (2, (vp (some p1))), (5, (vp r2)), (6, (vi r3)), (8, r5.v), (54, (vb (b2'0 && (r6 == 0))))]) ?_ ?_
    ·refine rg (q0 (vi r4) ?_)
     refine sc Try.call23 ((p_I r4 w6).mono ?_)
     rintro e w10 ⟨he, hE⟩
     refine ⟨(vi r4), he.trans (by kernel_rfl), ?_⟩
     have hs := hs.pure hE
     have hb := hb.pure hE
     refine q0 (vb (r4 == 0)) (q0 (vb (r4 == 0)) ?_)
     rcases Bool.eq_false_or_eq_true (r4 == 0) with hg2 | hg2
     ·refine q1 (vi r6) (want1 rfl (yD 50 hg2)) ?_
      refine st_call (want1 rfl (yD 50 hg2)) (xc Try.call23) ((p_I r6 w10).mono ?_)
      rintro e w11 ⟨he, hE⟩
      refine ⟨(vi r6), he.trans (by kernel_rfl), ?_⟩
      have hs := hs.pure hE
      have hb := hb.pure hE
      refine q1 (vb (r6 == 0)) (want1 rfl (yD 50 hg2)) (q2 (vb (r6 == 0)) (xT hg2) (wpL_nil (th_n ?_)))
      exact ⟨true, _, hg2, hs, hb, hm⟩
     ·refine sk (yD 50 hg2) (sk (yD 50 hg2) (sk (yD 50 hg2) (q2 (vb false) (xF hg2) (wpL_nil (th_n ?_)))))
      exact ⟨false, _, hg2, hs, hb, hm⟩
    ·rintro ρ w9 ⟨b2'0, H2, he0, hs, hb, hH⟩
     subst he0
     refine norm_has hH ?_
     refine th_n ?_
     refine wpE_joinT (fun ρ w => ∃ H : NP, Has ρ [(1, b1.v), (5, (vp r2))] ∧ Hst w0 H w H w ∧ HB H w [(p1, [(vi aO), (vi aP), (vi aQ), (vu aR), (vs aS), aT.v], 52)] ∧ m_H_j2 b1 r2 w0 H w K) ?_ ?_
     ·rintro ρ w ⟨H, hH, hs, hb, h⟩
      unfold m_H_j2 at h
      refine wpE_has hH ?_
      refine wpE_seq (rg (q0 (vp r2) (st_new (O := (.cells #[] 5)) (fun p => (Sl.mk (some p) 0 0).v) (want0 rfl) (x_buildSlice (vs := #[]) (by kernel_rfl) (by kernel_rfl)) ?_)))
      intro p2 w12 hn2
      have h := h p2 w12 hn2
      have hs := hs.again (Ext.new (F := None) hn2).keptP
      have hb := hb.kept (Ext.new (F := None) hn2).keptP
      refine q0 b1.v ?_
      obtain ⟨s1, w13, hv3, hk, h⟩ := h
      refine st (v := s1.v) (want0 rfl) (x_builtin (args := #[(Sl.mk (some p2) 0 0).v, b1.v]) (by kernel_rfl) (fun _ => rfl) hv3) ?_
      obtain ⟨hs, hb⟩ := hk.hh hs hb
      refine sc Try.call22 (h.mono ?_)
      rintro e w14 ⟨r7, r8, r9, rfl, hk, h⟩
      refine ⟨_, rfl, ?_⟩
      obtain ⟨hs, hb⟩ := hk.hh hs hb
      refine q0 (.tuple #[(vi r7), (vi r8), (vi r9)]) (q0 (vi r7) (q0 (vi r8) (q0 (vi r9) (q0 (vi r7) (q0 (vi r8) (q0 (vi r9) (wpL_nil (th_n (wpE_seq (wpE_seq (rg ?_)))))))))))
      refine q0 (vi r8) ?_
      refine sc Try.call23 ((p_I r8 w14).mono ?_)
      rintro e w15 ⟨he, hE⟩
      refine ⟨(vi r8), he.trans (by kernel_rfl), ?_⟩
      have hs := hs.pure hE
      have hb := hb.pure hE
      refine q0 (vb (r8 == 0)) (wpL_nil (th_n ?_))
      refine wpE_cond (t := (r8 == 0)) (by kernel_rfl) (fun hc3 => ?_) (fun hc3 => ?_)
      ·have h := h.1 hc3
       refine wpE_seq (rg (q0 (vp r2) (q0 (vi r7) ?_)))
       have h := h w15 hs
       have hs := hs.here
       refine sc Try.call21 (h.mono ?_)
       rintro e w16 ⟨r10, r11, rfl, hk, h⟩
       refine ⟨_, rfl, ?_⟩
       obtain ⟨hs, hb⟩ := hk.hh hs hb
       refine q0 (.tuple #[r10.v, (vi r11)]) (q0 r10.v (q0 (vi r11) (q0 r10.v (q0 (vi r11) (wpL_nil (th_n (wpE_seq (rg (q0 (vi r11) ?_)))))))))
       refine sc Try.call23 ((p_I r11 w16).mono ?_)
       rintro e w17 ⟨he, hE⟩
       refine ⟨(vi r11), he.trans (by kernel_rfl), ?_⟩
       have hs := hs.pure hE
       have hb := hb.pure hE
       refine q0 (vb (r11 != 0)) (q0 (vb (r11 != 0)) ?_)
       rcases Bool.eq_false_or_eq_true (r11 != 0) with hg3 | hg3
       ·have h := h.1 hg3
        refine sk (yD 112 hg3) (sk (yD 112 hg3) (sk (yD 112 hg3) (sk (yD 112 hg3) (sk (yD 112 hg3) (q2 (vb true) (xT hg3) (wpL_nil (th_n (wpE_condT (by kernel_rfl) (wpE_seq (rg (q0 (vb false) ?_)))))))))))
        refine wpL_nil (th_n (wpE_ret (th_r ?_)))
        have h := h w17 hs
        have hs := hs.here
        refine rs1 Try.results7 (v := (vb false)) ?_
        exact ⟨false, rfl, h⟩
       ·have h := h.2 hg3
        refine q1 r10.v (want1 rfl (yD 112 hg3)) ?_
        have h := h w17 hs
        have hs := hs.here
        obtain ⟨c1, hv2, h⟩ := h
        refine stp (v := (vs c1)) (want1 rfl (yD 112 hg3)) (x_convert (by kernel_rfl) hv2) (q1 b1.v (want1 rfl (yD 112 hg3)) ?_)
        obtain ⟨c2, hv1, h⟩ := h
        refine stp (v := (vs c2)) (want1 rfl (yD 112 hg3)) (x_convert (by kernel_rfl) hv1) (stp (v := (vb (!(decide (c1 = c2))))) (want1 rfl (yD 112 hg3)) (x_strneq (by kernel_rfl) (by kernel_rfl)) (q2 (vb (!(decide (c1 = c2)))) (xF hg3) (wpL_nil (th_n ?_))))
        refine wpE_cond (t := (!(decide (c1 = c2)))) (by kernel_rfl) (fun hc4 => ?_) (fun hc4 => ?_)
        ·have h := h.1 hc4
         refine wpE_seq (rg (q0 (vb false) (wpL_nil (th_n (wpE_ret (th_r (rs1 Try.results7 (v := (vb false)) ?_)))))))
         exact ⟨false, rfl, h⟩
        ·have h := h.2 hc4
         refine wpE_skip (th_n (wpE_seq (rg ?_)))
         refine sc Try.call25 (h.mono ?_)
         rintro e w18 ⟨r12, rfl, hk, h⟩
         refine ⟨_, rfl, ?_⟩
         obtain ⟨hs, hb⟩ := hk.hh hs hb
         refine q0 (vb r12) (wpL_nil (th_n (wpE_ret (rs1 Try.results7 (v := (vb r12)) ?_))))
         exact ⟨r12, rfl, h⟩
      ·have h := h.2 hc3
       refine wpE_skip (th_n (wpE_seq (rg ?_)))
       have h := h w15 hs
       have hs := hs.here
       refine sc Try.call25 (h.mono ?_)
       rintro e w19 ⟨r13, rfl, hk, h⟩
       refine ⟨_, rfl, ?_⟩
       obtain ⟨hs, hb⟩ := hk.hh hs hb
       refine q0 (vb r13) (wpL_nil (th_n (wpE_ret (rs1 Try.results7 (v := (vb r13)) ?_))))
       exact ⟨r13, rfl, h⟩
     ·refine wpE_cond (t := ((r4 == 0) && (r6 == 0))) (by kernel_rfl) (fun hc5 => ?_) (fun hc5 => ?_)
      ·have h := h.1 hc5
       refine wpE_seq (rg ?_)
       have h := h H2 w9 hs
       have hs := hs.here
       refine sc Try.call27 (h.mono ?_)
       rintro e w20 ⟨r14, rfl, hk, h⟩
       refine ⟨_, rfl, ?_⟩
       obtain ⟨hs, hb⟩ := hk.hh hs hb
       refine q0 (vp r14) (wpL_nil (th_n (wpE_seq (rg (q0 (vp r14) (q0 r5.v ?_))))))
       refine sc Try.call22 (h.mono ?_)
       rintro e w21 ⟨r15, r16, r17, rfl, hk, h⟩
       refine ⟨_, rfl, ?_⟩
       obtain ⟨hs, hb⟩ := hk.hh hs hb
       refine q0 (.tuple #[(vi r15), (vi r16), (vi r17)]) (q0 (vi r15) (q0 (vi r16) (q0 (vi r17) (q0 (vi r15) (q0 (vi r16) (q0 (vi r17) (wpL_nil (th_n (wpE_seq (rg (q0 (vp r2) ?_)))))))))))
       refine q0 r5.v ?_
       refine sc Try.call22 (h.mono ?_)
       rintro e w22 ⟨r18, r19, r20, rfl, hk, h⟩
       refine ⟨_, rfl, ?_⟩
       obtain ⟨hs, hb⟩ := hk.hh hs hb
       refine q0 (.tuple #[(vi r18), (vi r19), (vi r20)]) (q0 (vi r18) (q0 (vi r19) (q0 (vi r20) (q0 (vi r18) (q0 (vi r19) (q0 (vi r20) (wpL_nil (th_n (wpE_seq ?_)))))))))
       obtain ⟨C1, hC, h⟩ := h
       refine wpE_drawnC (fun x => C1 x ∧ HB H2 x [(p1, [(vi aO), (vi aP), (vi aQ), (vu aR), (vs aS), aT.v], 52)]) [1, 5, 16, 18] [] (by kernel_rfl) (by kernel_rfl) (by kernel_rfl) (by kernel_rfl) ⟨hC, hb.drew⟩ ?_
       intro w23 hw23
       have h := h w23 hw23
       have hs : Hst w0 H2 w22 H2 w23 := by rw [hw23]; exact hs.drew
       have hb : HB H2 w23 [(p1, [(vi aO), (vi aP), (vi aQ), (vu aR), (vs aS), aT.v], 52)] := by rw [hw23]; exact hb.drew
       have hs := hs.here
       refine qx 0 (vi r16) Kp0 (lg 1 ?_)
       refine sl_call Kp1 (want0 rfl) (by kernel_rfl) (xc Try.call23) (h.mono ?_)
       rintro e w24 ⟨r21, rfl, hC, hk, h⟩
       refine ⟨_, rfl, .inr ⟨hC, hb.kept hk⟩, ?_⟩
       obtain ⟨hs, hb⟩ := hk.hh hs hb
       refine qx 2 (vb (r21 != 0)) Kp2 (qx 3 (vb (r21 != 0)) Kp3 (qg 4 ?_))
       rcases Bool.eq_false_or_eq_true (r21 != 0) with hg4 | hg4
       ·have h := h.1 hg4
        refine sx_not Kp4 (unwant rfl (yD 73 hg4) rfl) (lg 5 (sx_not Kp5 (unwant rfl (yD 73 hg4) rfl) (qn 6 Kp6 (unwant rfl (yD 73 hg4) rfl) (qz 7 (vb true) Kp7 (fun _ _ => (xT hg4)) (qx 8 (vb true) Kp8 (qn 9 Kp9 (unwant rfl (yD (c := true) 78 rfl) rfl) (qn 10 (pickA (S8 (pickS (pickS pickZ)))) (unwant rfl (yD (c := true) 78 rfl) rfl) (qn 11 (pickA (S8 (pickS (pickS (pickS pickZ))))) (unwant rfl (yD (c := true) 78 rfl) rfl) (qx 12 (vb true) (pickA (S8 (S4 pickZ))) (qx 13 (vb true) (pickA (S8 (S4 (pickS pickZ)))) (qn 14 (pickA (S8 (S4 (pickS (pickS pickZ))))) (unwant rfl (yD (c := true) 83 rfl) rfl) ?_)))))))))))
        refine qn 15 (pickA (S8 (S4 (pickS (pickS (pickS pickZ)))))) (unwant rfl (yD (c := true) 83 rfl) rfl) (qn 17 (pickA (S8 (S8 (pickS pickZ)))) (unwant rfl (yD (c := true) 83 rfl) rfl) (lg 16 (sx_not (pickA (S8 (S8 pickZ))) (unwant rfl (yD (c := true) 83 rfl) rfl) (lg 18 (sx_not (pickA (S8 (S8 (pickS (pickS pickZ))))) (unwant rfl (yD (c := true) 83 rfl) rfl) (qn 19 (pickA (S8 (S8 (pickS (pickS (pickS pickZ)))))) (unwant rfl (yD (c := true) 83 rfl) rfl) (qx 20 (vb true) (pickA (S8 (S8 (S4 pickZ)))) (wn (th_n (wpE_condT (by kernel_rfl) (wpE_seq ?_)))))))))))
        refine rg (q0 (vb false) (wpL_nil (th_n (wpE_ret (th_r (rs1 Try.results7 (v := (vb false)) ?_))))))
        exact ⟨false, rfl, h⟩
       ·have h := h.2 hg4
        refine sz (v := (vi r19)) Kp4 (want1 rfl (yD 73 hg4)) (fun _ _ => (by kernel_rfl)) (lg 5 ?_)
        refine sl_call Kp5 (want1 rfl (yD 73 hg4)) (by kernel_rfl) (xc Try.call23) (h.mono ?_)
        rintro e w25 ⟨r22, rfl, hC, hk, h⟩
        refine ⟨_, rfl, .inr ⟨hC, hb.kept hk⟩, ?_⟩
        obtain ⟨hs, hb⟩ := hk.hh hs hb
        refine qw 6 (vb (r22 != 0)) Kp6 (want1 rfl (yD 73 hg4)) (qz 7 (vb (r22 != 0)) Kp7 (fun _ _ => (xF hg4)) (qx 8 (vb (r22 != 0)) Kp8 (qg 9 ?_)))
        rcases Bool.eq_false_or_eq_true (r22 != 0) with hg5 | hg5
        ·have h := h.1 hg5
         refine sx_not Kp9 (unwant rfl (yD 78 hg5) rfl) (qn 10 (pickA (S8 (pickS (pickS pickZ)))) (unwant rfl (yD 78 hg5) rfl) (qn 11 (pickA (S8 (pickS (pickS (pickS pickZ))))) (unwant rfl (yD 78 hg5) rfl) (qz 12 (vb true) (pickA (S8 (S4 pickZ))) (fun _ _ => (xT hg5)) (qx 13 (vb true) (pickA (S8 (S4 (pickS pickZ)))) (qn 14 (pickA (S8 (S4 (pickS (pickS pickZ))))) (unwant rfl (yD (c := true) 83 rfl) rfl) (qn 15 (pickA (S8 (S4 (pickS (pickS (pickS pickZ)))))) (unwant rfl (yD (c := true) 83 rfl) rfl) (qn 17 (pickA (S8 (S8 (pickS pickZ)))) (unwant rfl (yD (c := true) 83 rfl) rfl) (lg 16 (sx_not (pickA (S8 (S8 pickZ))) (unwant rfl (yD (c := true) 83 rfl) rfl) (lg 18 (sx_not (pickA (S8 (S8 (pickS (pickS pickZ))))) (unwant rfl (yD (c := true) 83 rfl) rfl) ?_)))))))))))
         refine qn 19 (pickA (S8 (S8 (pickS (pickS (pickS pickZ)))))) (unwant rfl (yD (c := true) 83 rfl) rfl) (qx 20 (vb true) (pickA (S8 (S8 (S4 pickZ)))) (wn (th_n (wpE_condT (by kernel_rfl) (wpE_seq (rg (q0 (vb false) (wpL_nil (th_n (wpE_ret (th_r ?_)))))))))))
         refine rs1 Try.results7 (v := (vb false)) ?_
         exact ⟨false, rfl, h⟩
        ·have h := h.2 hg5
         refine sz (v := (vi r18)) Kp9 (want1 rfl (yD 78 hg5)) (fun _ _ => (by kernel_rfl)) (qw 10 (vi r3) (pickA (S8 (pickS (pickS pickZ)))) (want1 rfl (yD 78 hg5)) (qw 11 (vb (r18 != r3)) (pickA (S8 (pickS (pickS (pickS pickZ))))) (want1 rfl (yD 78 hg5)) (qz 12 (vb (r18 != r3)) (pickA (S8 (S4 pickZ))) (fun _ _ => (xF hg5)) (qx 13 (vb (r18 != r3)) (pickA (S8 (S4 (pickS pickZ)))) (qg 14 ?_)))))
         rcases Bool.eq_false_or_eq_true (r18 != r3) with hg6 | hg6
         ·have h := h.1 hg6
          refine sx_not (pickA (S8 (S4 (pickS (pickS pickZ))))) (unwant rfl (yD 83 hg6) rfl) (qn 15 (pickA (S8 (S4 (pickS (pickS (pickS pickZ)))))) (unwant rfl (yD 83 hg6) rfl) (qn 17 (pickA (S8 (S8 (pickS pickZ)))) (unwant rfl (yD 83 hg6) rfl) (lg 16 (sx_not (pickA (S8 (S8 pickZ))) (unwant rfl (yD 83 hg6) rfl) (lg 18 (sx_not (pickA (S8 (S8 (pickS (pickS pickZ))))) (unwant rfl (yD 83 hg6) rfl) (qn 19 (pickA (S8 (S8 (pickS (pickS (pickS pickZ)))))) (unwant rfl (yD 83 hg6) rfl) (qz 20 (vb true) (pickA (S8 (S8 (S4 pickZ)))) (fun _ _ => (xT hg6)) (wn (th_n (wpE_condT (by kernel_rfl) ?_)))))))))))
          refine wpE_seq (rg (q0 (vb false) (wpL_nil (th_n (wpE_ret (th_r (rs1 Try.results7 (v := (vb false)) ?_)))))))
          exact ⟨false, rfl, h⟩
         ·have h := h.2 hg6
          refine sz (v := (vp r14)) (pickA (S8 (S4 (pickS (pickS pickZ))))) (want1 rfl (yD 83 hg6)) (fun _ _ => (by kernel_rfl)) (qw 15 (vi r15) (pickA (S8 (S4 (pickS (pickS (pickS pickZ)))))) (want1 rfl (yD 83 hg6)) (qg 17 (sz (v := (.agg #[(vi aO), (vi aP), (vi aQ), (vu aR), (vs aS), aT.v])) (pickA (S8 (S8 (pickS pickZ)))) (want1 rfl (yD 83 hg6)) (fun w' hw' => (x_loadA (a := p1) (vs := [(vi aO), (vi aP), (vi aQ), (vu aR), (vs aS), aT.v]) (by kernel_rfl) (Try.isAgg52 _) (Try.sizeOf52 _) rfl (hw'.2.row0 0 6 gZ (by kernel_rfl)))) (lg 16 ?_))))
          refine sl_call (pickA (S8 (S8 pickZ))) (want1 rfl (yD 83 hg6)) (by kernel_rfl) (xc Try.call37) (h.mono ?_)
          rintro e w26 ⟨bP, bQ, bR, bS, bT, bU, rfl, hC, hk, h⟩
          refine ⟨_, rfl, .inr ⟨hC, hb.kept hk⟩, ?_⟩
          obtain ⟨hs, hb⟩ := hk.hh hs hb
          refine lg 18 ?_
          refine sl_call (pickA (S8 (S8 (pickS (pickS pickZ))))) (want1 rfl (yD 83 hg6)) (by kernel_rfl) (xc Try.call36) (h.mono ?_)
          rintro e w27 ⟨r23, rfl, hC, hk, h⟩
          refine ⟨_, rfl, .inr ⟨hC, hb.kept hk⟩, ?_⟩
          obtain ⟨hs, hb⟩ := hk.hh hs hb
          refine qw 19 (vb (!r23)) (pickA (S8 (S8 (pickS (pickS (pickS pickZ)))))) (want1 rfl (yD 83 hg6)) (qz 20 (vb (!r23)) (pickA (S8 (S8 (S4 pickZ)))) (fun _ _ => (xF hg6)) (wn (th_n ?_)))
          refine wpE_cond (t := (!r23)) (by kernel_rfl) (fun hc6 => ?_) (fun hc6 => ?_)
          ·have h := h.1 hc6
           refine wpE_seq (rg (q0 (vb false) (wpL_nil (th_n (wpE_ret (th_r (rs1 Try.results7 (v := (vb false)) ?_)))))))
           exact ⟨false, rfl, h⟩
          ·have h := h.2 hc6
           refine wpE_skip (th_n ?_)
           exact ⟨H2, hm, hs, hb, h⟩
      ·have h := h.2 hc5
       refine wpE_skip ?_
       have h := h H2 w9 hs
       have hs := hs.here
       refine th_n ?_
       exact ⟨H2, hm, hs, hb, h⟩
 ·refine rg (q2 (.agg #[(vi aO), (vi aP), (vi aQ), (vu aR), (vs aS), aT.v]) (x_loadA (a := p1) (vs := [(vi aO), (vi aP), (vi aQ), (vu aR), (vs aS), aT.v]) (by kernel_rfl) (Try.isAgg52 _) (Try.sizeOf52 _) rfl (hb.row0 0 6 gZ (by kernel_rfl))) ?_)
  have h := h H1 w1 hs
  have hs := hs.here
  refine st_new (O := (.cells #[(vi aO), (vi aP), (vi aQ), (vu aR), (vs aS), aT.v] 52)) (fun p => (Sl.mk (some p) 1 1).v) (want0 rfl) (x_buildSlice (vs := #[(0, (.agg #[(vi aO), (vi aP), (vi aQ), (vu aR), (vs aS), aT.v]))]) (by kernel_rfl) (by kernel_rfl)) ?_
  intro p3 w28 hn3
  have h := h p3 w28 hn3
  have hs := hs.again (Ext.new (F := None) hn3).keptP
  have hb := hb.kept (Ext.new (F := None) hn3).keptP
  refine sc Try.call26 (h.mono ?_)
  rintro e w29 ⟨r24, rfl, hk, h⟩
  refine ⟨_, rfl, ?_⟩
  obtain ⟨hs, hb⟩ := hk.hh hs hb
  refine q0 (vb r24) ?_
  refine wpL_join 4 (fun ρ wJ => ∃ b3'0 : Bool, ∃ HJ : NP, (r24 = b3'0) ∧ Hst w0 H1 w29 HJ wJ ∧ HB HJ wJ [(p1, [(vi aO), (vi aP), (vi aQ), (vu aR), (vs aS), aT.v], 52)] ∧ Has ρ [(1, b1.v), (2, (vp (some p1))), (29, (vb (b3'0 || (decide ((b1.len : Int) > 8192)))))]) ?_ ?_
  ·rintro ρ w30 ⟨b3'0, H3, he0, hs, hb, hH⟩
   subst he0
   refine wpL_has hH ?_
   refine wpL_nil ?_
   have h := h H3 w30 hs
   have hs := hs.here
   refine th_n ?_
   exact ⟨(r24 || (decide ((b1.len : Int) > 8192))), H3, hm, hs, hb, h⟩
  ·rcases Bool.eq_false_or_eq_true r24 with hg8 | hg8
   ·refine sk (yD 25 hg8) (sk (yD 25 hg8) (sk (yD 25 hg8) (q2 (vb true) (xT hg8) (wpL_nil ?_))))
    exact ⟨true, _, hg8, hs, hb, hm⟩
   ·refine q1 b1.v (want1 rfl (yD 25 hg8)) (q1 (vi (b1.len : Int)) (want1 rfl (yD 25 hg8)) (q1 (vb (decide ((b1.len : Int) > 8192))) (want1 rfl (yD 25 hg8)) (q2 (vb (decide ((b1.len : Int) > 8192))) (xF hg8) (wpL_nil ?_))))
    exact ⟨false, _, hg8, hs, hb, hm⟩
def m_X_l1 (b2 : Sl) (n2 : Int) (wl1 : World) (Kc1 : Sl → Int → WP) (K : Sl → WP) : Prop :=
 Br (decide (n2 ≥ 128))
  (∃ z1 : Int, (Go.binOp .or 5 (.int .u8 (IntKind.u8.wrap n2)) (.int .u8 128)).run Try.prog wl1 = .ok (.int .u8 z1) wl1 ∧
  ∀ (p1 : Addr) (w2 : World), New wl1 (.cells #[(.int .u8 z1)] 5) p1 w2 →
  ∃ s1 : Sl, ∃ w3 : World, (Builtin.append_ #[44, 44] 44 #[b2.v, (Sl.mk (some p1) 1 1).v]).run Try.prog w2 = .ok s1.v w3 ∧
  ∃ z2 : Int, (Go.binOp .shr 50 (vu n2) (vu 7)).run Try.prog w3 = .ok (vu z2) w3 ∧
  Kc1 s1 z2 w3)
  (∀ (p2 : Addr) (w4 : World), New wl1 (.cells #[(.int .u8 (IntKind.u8.wrap n2))] 5) p2 w4 →
  ∃ s2 : Sl, ∃ w5 : World, (Builtin.append_ #[44, 44] 44 #[b2.v, (Sl.mk (some p2) 1 1).v]).run Try.prog w4 = .ok s2.v w5 ∧
  K s2 w5)
def m_X (b1 : Sl) (n1 : Int) (w0 : World) (K : Sl → WP) : Prop :=
 Calls Try.prog 182 #[b1.v] w0 (fun e w1 => ∃ r1 : Sl, e = .returned r1.v ∧ 
  ∃ (I1 : Sl → Int → WP) (mu1 : Sl → Int → World → Nat), I1 r1 n1 w1 ∧
   ∀ (b2 : Sl) (n2 : Int) (wl1 : World), I1 b2 n2 wl1 → m_X_l1 b2 n2 wl1 (fun y'0 y'1 w' => I1 y'0 y'1 w' ∧ mu1 y'0 y'1 w' < mu1 b2 n2 wl1) K)
theorem w_X (b1 : Sl) (n1 : Int) (w0 : World) (K : Sl → WP) (h : m_X b1 n1 w0 K) :
  Calls Try.prog 167 #[b1.v, (vu n1)] w0 (fun e w' => ∃ r2 : Sl, e = .returned r2.v ∧ K r2 w') := by
 unfold m_X at h
 refine cw (args := [b1.v, (vu n1)]) Try.func167 Try.ntmps167 (wpE_seq (rg (q0 Sl.nil.v (wpL_nil (th_n (wpE_seq (rg (q0 b1.v ?_))))))))
 refine sc Try.call182 (h.mono ?_)
 rintro e w1 ⟨r1, rfl, h⟩
 refine ⟨_, rfl, ?_⟩
 refine q0 r1.v (wpL_nil (th_n (wpE_seq (wpE_block ?_))))
 obtain ⟨I1, mu1, h0, hr⟩ := h
 refine wpE_loop (σ := Sl × Int × World) (fun s ρ w => w = s.2.2 ∧ Has ρ [(0, s.1.v), (1, (vu s.2.1))] ∧ I1 s.1 s.2.1 s.2.2) (fun s => mu1 s.1 s.2.1 s.2.2) (r1, n1, w1) ⟨rfl, hm, h0⟩ ?_
 rintro ⟨b2, n2, wl1⟩ ρ w ⟨hw, hH, hI⟩
 obtain rfl : wl1 = w := (show w = wl1 from hw).symm
 have hH : Has ρ [(0, b2.v), (1, (vu n2))] := hH
 have h := hr b2 n2 wl1 hI
 unfold m_X_l1 at h
 refine wpE_has hH ?_
 refine wpE_seq (wpE_seq (rg (q0 (vu n2) (q0 (vb (decide (n2 ≥ 128))) (wpL_nil (th_n ?_))))))
 refine wpE_cond (t := (decide (n2 ≥ 128))) (by kernel_rfl) (fun hc1 => ?_) (fun hc1 => ?_)
 ·have h := h.1 hc1
  refine wpE_skip (th_n (wpE_block (wpE_seq (rg (q0 b2.v (q0 (vu n2) (q0 (.int .u8 (IntKind.u8.wrap n2)) ?_)))))))
  obtain ⟨z1, hv3, h⟩ := h
  refine q2 (.int .u8 z1) (x_bin (by kernel_rfl) (by kernel_rfl) (by kernel_rfl) hv3) (st_new (O := (.cells #[(.int .u8 z1)] 5)) (fun p => (Sl.mk (some p) 1 1).v) (want0 rfl) (x_buildSlice (vs := #[(0, (.int .u8 z1))]) (by kernel_rfl) (by kernel_rfl)) ?_)
  intro p1 w2 hn1
  have h := h p1 w2 hn1
  obtain ⟨s1, w3, hv2, h⟩ := h
  refine st (v := s1.v) (want0 rfl) (x_builtin (args := #[b2.v, (Sl.mk (some p1) 1 1).v]) (by kernel_rfl) (fun _ => rfl) hv2) (q0 s1.v (wpL_nil (th_n (rg (q0 (vu n2) ?_)))))
  obtain ⟨z2, hv1, h⟩ := h
  refine q2 (vu z2) (x_bin (by kernel_rfl) (by kernel_rfl) (by kernel_rfl) hv1) (q0 (vu z2) (wpL_nil (bl_n (th_n ?_))))
  exact ⟨(s1, z2, w3), ⟨rfl, hm, h.1⟩, h.2⟩
 ·have h := h.2 hc1
  refine wpE_exit (th_x (th_x (bl_eq (th_n (wpE_seq (rg (q0 b2.v (q0 (vu n2) (q0 (.int .u8 (IntKind.u8.wrap n2)) (st_new (O := (.cells #[(.int .u8 (IntKind.u8.wrap n2))] 5)) (fun p => (Sl.mk (some p) 1 1).v) (want0 rfl) (x_buildSlice (vs := #[(0, (.int .u8 (IntKind.u8.wrap n2)))]) (by kernel_rfl) (by kernel_rfl)) ?_))))))))))
  intro p2 w4 hn2
  have h := h p2 w4 hn2
  obtain ⟨s2, w5, hv4, h⟩ := h
  refine st (v := s2.v) (want0 rfl) (x_builtin (args := #[b2.v, (Sl.mk (some p2) 1 1).v]) (by kernel_rfl) (fun _ => rfl) hv4) (q0 s2.v (wpL_nil (th_n (wpE_ret (rs1 Try.results167 (v := s2.v) ?_)))))
  exact ⟨s2, rfl, h⟩
def m_M1 (b1 : Sl) (aC aB : Int) (aD aF : Int) (aG : ByteArray) (aH aI : Int) (x1 : Option Nat) (w0 : World) (K : Sl → WP) : Prop :=
 ∀ (H1 : NP) (w1 : World), Hst w0 None w0 H1 w1 →
 Calls Try.prog 167 #[b1.v, (vu (IntKind.u64.wrap aB))] w1 (fun e w2 => ∃ r1 : Sl, e = .returned r1.v ∧ 
  Kept H1 w1 w2 ∧
  K r1 w2)
theorem w_M1 (b1 : Sl) (aC aB : Int) (aD aF : Int) (aG : ByteArray) (aH aI : Int) (x1 : Option Nat) (w0 : World) (K : Sl → WP) (h : m_M1 b1 aC aB aD aF aG aH aI x1 w0 K) :
  Calls Try.prog 166 #[b1.v, (.agg #[(vi aC), (vi aB), (vi aD), (vu aF), (vs aG), (vi aH), (vi aI)]), (.map x1)] w0 (fun e w' => ∃ r2 : Sl, e = .returned r2.v ∧ K r2 w') := by
 unfold m_M1 at h
 refine cw (args := [b1.v, (.agg #[(vi aC), (vi aB), (vi aD), (vu aF), (vs aG), (vi aH), (vi aI)]), (.map x1)]) Try.func166 Try.ntmps166 ?_
 have hs := Hst.start w0
 have hb := HB.nil None w0
 refine wpE_seq (rg (sn (O := (.cells #[(vi aC), (vi aB), (vi aD), (vu aF), (vs aG), (vi aH), (vi aI)] 106)) xb ?_))
 intro p1 w1 hn1
 obtain ⟨H1, hs, hb⟩ := hs.alloc hb hn1
 refine q0 Sl.nil.v (wpL_nil (th_n (wpE_seq (rg (q0 b1.v (q0 (vp (some (p1.add 1))) (q2 (vi aB) (xl (Try.isAgg3 _) (hb.c 0 1 gZ)) (q0 (vu (IntKind.u64.wrap aB)) ?_))))))))
 have h := h H1 w1 hs
 have hs := hs.here
 refine sc Try.call167 (h.mono ?_)
 rintro e w2 ⟨r1, rfl, hk, h⟩
 refine ⟨_, rfl, ?_⟩
 obtain ⟨hs, hb⟩ := hk.hh hs hb
 refine q0 r1.v (wpL_nil (th_n (wpE_ret (rs1 Try.results166 (v := r1.v) ?_))))
 exact ⟨r1, rfl, h⟩
def m_N1 (r1 : Option Addr) (w0 : World) (K : Int → WP) : Prop :=
 ∀ (p1 : Addr) (w1 : World), New w0 (.cells #[(vp r1)] 196) p1 w1 →
 ∀ (p2 : Addr) (w2 : World), New w1 (.cells #[(vu 0)] 50) p2 w2 →
 ∃ v1 : Option Addr, w2.cell? p1 = some (vp v1) ∧
 Calls Try.prog 207 #[(vp v1), (.func (.func 208) #[] #[(vp (some p1)), (vp (some p2))])] w2 (fun e w3 => e = .returned (.tuple #[]) ∧ 
  ∃ v2 : Int, w3.cell? p2 = some (vu v2) ∧
  CanW w3 p2 ∧ ∀ w4 : World, w4 = w3.setCell p2 (vu v2) →
  ∃ aE : Int, w4.cell? p2 = some (vu aE) ∧
  K aE w4)
theorem w_N1 (r1 : Option Addr) (w0 : World) (K : Int → WP) (h : m_N1 r1 w0 K) :
  Calls Try.prog 169 #[(vp r1)] w0 (fun e w' => ∃ r2 : Int, e = .returned (vu r2) ∧ K r2 w') := by
 unfold m_N1 at h
 refine cw (args := [(vp r1)]) Try.func169 Try.ntmps169 (wpE_seq (rg (sn (O := (.cells #[(vp r1)] 196)) xb ?_)))
 intro p1 w1 hn3
 have h := h p1 w1 hn3
 refine sn (O := (.cells #[(vu 0)] 50)) (x_alloc (Try.zeroValue50 _) rfl) ?_
 intro p2 w2 hn2
 have h := h p2 w2 hn2
 refine wpL_nil (th_n (wpE_seq (rg ?_)))
 obtain ⟨v1, hv3, h⟩ := h
 refine q2 (vp v1) (xl (Try.isAgg196 _) hv3) (q0 (.func (.func 208) #[] #[(vp (some p1)), (vp (some p2))]) ?_)
 refine sc Try.call207 (h.mono ?_)
 rintro e w3 ⟨rfl, h⟩
 refine ⟨_, rfl, ?_⟩
 refine wpL_nil (th_n (wpE_seq (rg ?_)))
 obtain ⟨v2, hv2, h⟩ := h
 refine q2 (vu v2) (xl (Try.isAgg50 _) hv2) ?_
 obtain ⟨hp1, h⟩ := h
 refine st_set (want0 rfl) (x_store (a := p2) (v := (vu v2)) (by kernel_rfl) (by kernel_rfl) rfl (Try.sizeOf50 _) hp1) ?_
 intro w4 hn1
 have h := h w4 hn1
 refine wpL_nil (th_n (wpE_ret ?_))
 obtain ⟨aE, hv1, h⟩ := h
 refine resG (.inl rfl) (vs := [(vu aE)]) (v := (vu aE)) Try.results169 ⟨(RV.cell1 (A := p2) (by kernel_rfl) (Try.isAgg50 _) hv1), trivial⟩ (by kernel_rfl) ?_
 exact ⟨aE, rfl, h⟩
def m_O1 (r1 : Option Addr) (n1 : Option Addr) (w0 : World) (K : WP) : Prop :=
 Calls Try.prog 169 #[(vp r1)] w0 (fun e w1 => ∃ r2 : Int, e = .returned (vu r2) ∧ 
  ∃ a1 : Addr, n1 = some a1 ∧
  CanW w1 (a1.add 7) ∧ ∀ w2 : World, w2 = w1.setCell (a1.add 7) (vu r2) →
  K w2)
theorem w_O1 (r1 : Option Addr) (n1 : Option Addr) (w0 : World) (K : WP) (h : m_O1 r1 n1 w0 K) :
  Calls Try.prog 168 #[(vp r1), (vp n1)] w0 (fun e w' => e = .returned (.tuple #[]) ∧ K  w') := by
 unfold m_O1 at h
 refine cw (args := [(vp r1), (vp n1)]) Try.func168 Try.ntmps168 (rg (q0 (vp n1) (q0 (vp r1) ?_)))
 refine sc Try.call169 (h.mono ?_)
 rintro e w1 ⟨r2, rfl, h⟩
 refine ⟨_, rfl, ?_⟩
 obtain ⟨a1, hp1, h⟩ := h
 refine q2 (vp (some a1)) (x_nilCheck (p := n1) (by kernel_rfl) hp1) (q0 (vp (some (a1.add 7))) ?_)
 obtain ⟨hp2, h⟩ := h
 refine st_set (want0 rfl) (x_store (a := (a1.add 7)) (v := (vu r2)) (by kernel_rfl) (by kernel_rfl) rfl (Try.sizeOf50 _) hp2) ?_
 intro w2 hn1
 have h := h w2 hn1
 refine wpL_nil (res0 (.inr rfl) Try.results168 ?_)
 exact ⟨rfl, h⟩
def m_P1 (b1 : Sl) (aC aB : Int) (aD aF : Int) (aG : ByteArray) (aH aI : Int) (x1 : Option Nat) (w0 : World) (K : Sl → WP) : Prop :=
 ∀ (H1 : NP) (w1 : World), Hst w0 None w0 H1 w1 →
 Calls Try.prog 167 #[b1.v, (vu (IntKind.u64.wrap aD))] w1 (fun e w2 => ∃ r1 : Sl, e = .returned r1.v ∧ 
  Kept H1 w1 w2 ∧
  K r1 w2)
theorem w_P1 (b1 : Sl) (aC aB : Int) (aD aF : Int) (aG : ByteArray) (aH aI : Int) (x1 : Option Nat) (w0 : World) (K : Sl → WP) (h : m_P1 b1 aC aB aD aF aG aH aI x1 w0 K) :
  Calls Try.prog 170 #[b1.v, (.agg #[(vi aC), (vi aB), (vi aD), (vu aF), (vs aG), (vi aH), (vi aI)]), (.map x1)] w0 (fun e w' => ∃ r2 : Sl, e = .returned r2.v ∧ K r2 w') := by
 unfold m_P1 at h
 refine cw (args := [b1.v, (.agg #[(vi aC), (vi aB), (vi aD), (vu aF), (vs aG), (vi aH), (vi aI)]), (.map x1)]) Try.func170 Try.ntmps170 ?_
 have hs := Hst.start w0
 have hb := HB.nil None w0
 refine wpE_seq (rg (sn (O := (.cells #[(vi aC), (vi aB), (vi aD), (vu aF), (vs aG), (vi aH), (vi aI)] 106)) xb ?_))
 intro p1 w1 hn1
 obtain ⟨H1, hs, hb⟩ := hs.alloc hb hn1
 refine q0 Sl.nil.v (wpL_nil (th_n (wpE_seq (rg (q0 b1.v (q0 (vp (some (p1.add 2))) (q2 (vi aD) (xl (Try.isAgg3 _) (hb.c 0 2 gZ)) (q0 (vu (IntKind.u64.wrap aD)) ?_))))))))
 have h := h H1 w1 hs
 have hs := hs.here
 refine sc Try.call167 (h.mono ?_)
 rintro e w2 ⟨r1, rfl, hk, h⟩
 refine ⟨_, rfl, ?_⟩
 obtain ⟨hs, hb⟩ := hk.hh hs hb
 refine q0 r1.v (wpL_nil (th_n (wpE_ret (rs1 Try.results170 (v := r1.v) ?_))))
 exact ⟨r1, rfl, h⟩
def m_Q1 (r1 : Option Addr) (n1 : Option Addr) (w0 : World) (K : WP) : Prop :=
 Calls Try.prog 169 #[(vp r1)] w0 (fun e w1 => ∃ r2 : Int, e = .returned (vu r2) ∧ 
  ∃ a1 : Addr, n1 = some a1 ∧
  CanW w1 (a1.add 8) ∧ ∀ w2 : World, w2 = w1.setCell (a1.add 8) (vu r2) →
  K w2)
theorem w_Q1 (r1 : Option Addr) (n1 : Option Addr) (w0 : World) (K : WP) (h : m_Q1 r1 n1 w0 K) :
  Calls Try.prog 171 #[(vp r1), (vp n1)] w0 (fun e w' => e = .returned (.tuple #[]) ∧ K  w') := by
 unfold m_Q1 at h
 refine cw (args := [(vp r1), (vp n1)]) Try.func171 Try.ntmps171 (rg (q0 (vp n1) (q0 (vp r1) ?_)))
 refine sc Try.call169 (h.mono ?_)
 rintro e w1 ⟨r2, rfl, h⟩
 refine ⟨_, rfl, ?_⟩
 obtain ⟨a1, hp1, h⟩ := h
 refine q2 (vp (some a1)) (x_nilCheck (p := n1) (by kernel_rfl) hp1) (q0 (vp (some (a1.add 8))) ?_)
 obtain ⟨hp2, h⟩ := h
 refine st_set (want0 rfl) (x_store (a := (a1.add 8)) (v := (vu r2)) (by kernel_rfl) (by kernel_rfl) rfl (Try.sizeOf50 _) hp2) ?_
 intro w2 hn1
 have h := h w2 hn1
 refine wpL_nil (res0 (.inr rfl) Try.results171 ?_)
 exact ⟨rfl, h⟩
def m_R1 (b1 : Sl) (aC aB : Int) (aD aF : Int) (aG : ByteArray) (aH aI : Int) (x1 : Option Nat) (w0 : World) (K : Sl → WP) : Prop :=
 ∀ (H1 : NP) (w1 : World), Hst w0 None w0 H1 w1 →
 Calls Try.prog 167 #[b1.v, (vu aF)] w1 (fun e w2 => ∃ r1 : Sl, e = .returned r1.v ∧ 
  Kept H1 w1 w2 ∧
  K r1 w2)
theorem w_R1 (b1 : Sl) (aC aB : Int) (aD aF : Int) (aG : ByteArray) (aH aI : Int) (x1 : Option Nat) (w0 : World) (K : Sl → WP) (h : m_R1 b1 aC aB aD aF aG aH aI x1 w0 K) :
  Calls Try.prog 172 #[b1.v, (.agg #[(vi aC), (vi aB), (vi aD), (vu aF), (vs aG), (vi aH), (vi aI)]), (.map x1)] w0 (fun e w' => ∃ r2 : Sl, e = .returned r2.v ∧ K r2 w') := by
 unfold m_R1 at h
 refine cw (args := [b1.v, (.agg #[(vi aC), (vi aB), (vi aD), (vu aF), (vs aG), (vi aH), (vi aI)]), (.map x1)]) Try.func172 Try.ntmps172 ?_
 have hs := Hst.start w0
 have hb := HB.nil None w0
 refine wpE_seq (rg (sn (O := (.cells #[(vi aC), (vi aB), (vi aD), (vu aF), (vs aG), (vi aH), (vi aI)] 106)) xb ?_))
 intro p1 w1 hn1
 obtain ⟨H1, hs, hb⟩ := hs.alloc hb hn1
 refine q0 Sl.nil.v (wpL_nil (th_n (wpE_seq (rg (q0 b1.v (q0 (vp (some (p1.add 3))) (q2 (vu aF) (xl (Try.isAgg50 _) (hb.c 0 3 gZ)) ?_)))))))
 have h := h H1 w1 hs
 have hs := hs.here
 refine sc Try.call167 (h.mono ?_)
 rintro e w2 ⟨r1, rfl, hk, h⟩
 refine ⟨_, rfl, ?_⟩
 obtain ⟨hs, hb⟩ := hk.hh hs hb
 refine q0 r1.v (wpL_nil (th_n (wpE_ret (rs1 Try.results172 (v := r1.v) ?_))))
 exact ⟨r1, rfl, h⟩
def m_S1 (r1 : Option Addr) (n1 : Option Addr) (w0 : World) (K : WP) : Prop :=
 Calls Try.prog 169 #[(vp r1)] w0 (fun e w1 => ∃ r2 : Int, e = .returned (vu r2) ∧ 
  ∃ a1 : Addr, n1 = some a1 ∧
  CanW w1 (a1.add 3) ∧ ∀ w2 : World, w2 = w1.setCell (a1.add 3) (vu r2) →
  K w2)
theorem w_S1 (r1 : Option Addr) (n1 : Option Addr) (w0 : World) (K : WP) (h : m_S1 r1 n1 w0 K) :
  Calls Try.prog 173 #[(vp r1), (vp n1)] w0 (fun e w' => e = .returned (.tuple #[]) ∧ K  w') := by
 unfold m_S1 at h
 refine cw (args := [(vp r1), (vp n1)]) Try.func173 Try.ntmps173 (rg (q0 (vp n1) (q0 (vp r1) ?_)))
 refine sc Try.call169 (h.mono ?_)
 rintro e w1 ⟨r2, rfl, h⟩
 refine ⟨_, rfl, ?_⟩
 obtain ⟨a1, hp1, h⟩ := h
 refine q2 (vp (some a1)) (x_nilCheck (p := n1) (by kernel_rfl) hp1) (q0 (vp (some a1)) (q0 (vp (some (a1.add 3))) ?_))
 obtain ⟨hp2, h⟩ := h
 refine st_set (want0 rfl) (x_store (a := (a1.add 3)) (v := (vu r2)) (by kernel_rfl) (by kernel_rfl) rfl (Try.sizeOf50 _) hp2) ?_
 intro w2 hn1
 have h := h w2 hn1
 refine wpL_nil (res0 (.inr rfl) Try.results173 ?_)
 exact ⟨rfl, h⟩
def m_T1 (b1 : Sl) (s1 : ByteArray) (w0 : World) (K : Sl → WP) : Prop :=
 Calls Try.prog 167 #[b1.v, (vu (IntKind.u64.wrap (s1.size : Int)))] w0 (fun e w1 => ∃ r1 : Sl, e = .returned r1.v ∧ 
  ∃ s2 : Sl, ∃ w2 : World, (Builtin.append_ #[44, 9] 44 #[r1.v, (vs s1)]).run Try.prog w1 = .ok s2.v w2 ∧
  K s2 w2)
theorem w_T1 (b1 : Sl) (s1 : ByteArray) (w0 : World) (K : Sl → WP) (h : m_T1 b1 s1 w0 K) :
  Calls Try.prog 175 #[b1.v, (vs s1)] w0 (fun e w' => ∃ r2 : Sl, e = .returned r2.v ∧ K r2 w') := by
 unfold m_T1 at h
 refine cw (args := [b1.v, (vs s1)]) Try.func175 Try.ntmps175 (wpE_seq (rg (q0 Sl.nil.v (wpL_nil (th_n (wpE_seq (rg (q0 b1.v (q0 (vs s1) (q0 (vi (s1.size : Int)) (q0 (vu (IntKind.u64.wrap (s1.size : Int))) ?_)))))))))))
 refine sc Try.call167 (h.mono ?_)
 rintro e w1 ⟨r1, rfl, h⟩
 refine ⟨_, rfl, ?_⟩
 refine q0 (vs s1) ?_
 obtain ⟨s2, w2, hv1, h⟩ := h
 refine st (v := s2.v) (want0 rfl) (x_builtin (args := #[r1.v, (vs s1)]) (by kernel_rfl) (fun _ => rfl) hv1) (q0 s2.v (wpL_nil (th_n (wpE_ret (rs1 Try.results175 (v := s2.v) ?_)))))
 exact ⟨s2, rfl, h⟩
def m_U1 (b1 : Sl) (aC aB : Int) (aD aF : Int) (aG : ByteArray) (aH aI : Int) (x1 : Option Nat) (w0 : World) (K : Sl → WP) : Prop :=
 ∀ (H1 : NP) (w1 : World), Hst w0 None w0 H1 w1 →
 Calls Try.prog 175 #[b1.v, (vs aG)] w1 (fun e w2 => ∃ r1 : Sl, e = .returned r1.v ∧ 
  Kept H1 w1 w2 ∧
  K r1 w2)
theorem w_U1 (b1 : Sl) (aC aB : Int) (aD aF : Int) (aG : ByteArray) (aH aI : Int) (x1 : Option Nat) (w0 : World) (K : Sl → WP) (h : m_U1 b1 aC aB aD aF aG aH aI x1 w0 K) :
  Calls Try.prog 174 #[b1.v, (.agg #[(vi aC), (vi aB), (vi aD), (vu aF), (vs aG), (vi aH), (vi aI)]), (.map x1)] w0 (fun e w' => ∃ r2 : Sl, e = .returned r2.v ∧ K r2 w') := by
 unfold m_U1 at h
 refine cw (args := [b1.v, (.agg #[(vi aC), (vi aB), (vi aD), (vu aF), (vs aG), (vi aH), (vi aI)]), (.map x1)]) Try.func174 Try.ntmps174 ?_
 have hs := Hst.start w0
 have hb := HB.nil None w0
 refine wpE_seq (rg (sn (O := (.cells #[(vi aC), (vi aB), (vi aD), (vu aF), (vs aG), (vi aH), (vi aI)] 106)) xb ?_))
 intro p1 w1 hn1
 obtain ⟨H1, hs, hb⟩ := hs.alloc hb hn1
 refine q0 Sl.nil.v (wpL_nil (th_n (wpE_seq (rg (q0 b1.v (q0 (vp (some (p1.add 4))) (q2 (vs aG) (xl (Try.isAgg9 _) (hb.c 0 4 gZ)) ?_)))))))
 have h := h H1 w1 hs
 have hs := hs.here
 refine sc Try.call175 (h.mono ?_)
 rintro e w2 ⟨r1, rfl, hk, h⟩
 refine ⟨_, rfl, ?_⟩
 obtain ⟨hs, hb⟩ := hk.hh hs hb
 refine q0 r1.v (wpL_nil (th_n (wpE_ret (rs1 Try.results174 (v := r1.v) ?_))))
 exact ⟨r1, rfl, h⟩
def m_V1 (r1 : Option Addr) (most1 : Int) (w0 : World) (K : ByteArray → WP) : Prop :=
 ∀ (p1 : Addr) (w1 : World), New w0 (.cells #[(vp r1)] 196) p1 w1 →
 ∀ (p2 : Addr) (w2 : World), New w1 (.cells #[(vi most1)] 3) p2 w2 →
 ∀ (p3 : Addr) (w3 : World), New w2 (.cells #[(vs ⟨#[]⟩)] 9) p3 w3 →
 ∃ v1 : Option Addr, w3.cell? p1 = some (vp v1) ∧
 Calls Try.prog 207 #[(vp v1), (.func (.func 210) #[] #[(vp (some p1)), (vp (some p2)), (vp (some p3))])] w3 (fun e w4 => e = .returned (.tuple #[]) ∧ 
  ∃ v2 : ByteArray, w4.cell? p3 = some (vs v2) ∧
  CanW w4 p3 ∧ ∀ w5 : World, w5 = w4.setCell p3 (vs v2) →
  ∃ aE : ByteArray, w5.cell? p3 = some (vs aE) ∧
  K aE w5)
theorem w_V1 (r1 : Option Addr) (most1 : Int) (w0 : World) (K : ByteArray → WP) (h : m_V1 r1 most1 w0 K) :
  Calls Try.prog 177 #[(vp r1), (vi most1)] w0 (fun e w' => ∃ r2 : ByteArray, e = .returned (vs r2) ∧ K r2 w') := by
 unfold m_V1 at h
 refine cw (args := [(vp r1), (vi most1)]) Try.func177 Try.ntmps177 (wpE_seq (rg (sn (O := (.cells #[(vp r1)] 196)) xb ?_)))
 intro p1 w1 hn4
 have h := h p1 w1 hn4
 refine sn (O := (.cells #[(vi most1)] 3)) xb ?_
 intro p2 w2 hn3
 have h := h p2 w2 hn3
 refine sn (O := (.cells #[(vs ⟨#[]⟩)] 9)) (x_alloc (Try.zeroValue9 _) rfl) ?_
 intro p3 w3 hn2
 have h := h p3 w3 hn2
 refine wpL_nil (th_n (wpE_seq (rg ?_)))
 obtain ⟨v1, hv3, h⟩ := h
 refine q2 (vp v1) (xl (Try.isAgg196 _) hv3) (q0 (.func (.func 210) #[] #[(vp (some p1)), (vp (some p2)), (vp (some p3))]) ?_)
 refine sc Try.call207 (h.mono ?_)
 rintro e w4 ⟨rfl, h⟩
 refine ⟨_, rfl, ?_⟩
 refine wpL_nil (th_n (wpE_seq (rg ?_)))
 obtain ⟨v2, hv2, h⟩ := h
 refine q2 (vs v2) (xl (Try.isAgg9 _) hv2) ?_
 obtain ⟨hp1, h⟩ := h
 refine st_set (want0 rfl) (x_store (a := p3) (v := (vs v2)) (by kernel_rfl) (by kernel_rfl) rfl (Try.sizeOf9 _) hp1) ?_
 intro w5 hn1
 have h := h w5 hn1
 refine wpL_nil (th_n (wpE_ret ?_))
 obtain ⟨aE, hv1, h⟩ := h
 refine resG (.inl rfl) (vs := [(vs aE)]) (v := (vs aE)) Try.results177 ⟨(RV.cell1 (A := p3) (by kernel_rfl) (Try.isAgg9 _) hv1), trivial⟩ (by kernel_rfl) ?_
 exact ⟨aE, rfl, h⟩
def m_W1 (r1 : Option Addr) (n1 : Option Addr) (w0 : World) (K : WP) : Prop :=
 Calls Try.prog 177 #[(vp r1), (vi 64)] w0 (fun e w1 => ∃ r2 : ByteArray, e = .returned (vs r2) ∧ 
  ∃ a1 : Addr, n1 = some a1 ∧
  CanW w1 (a1.add 4) ∧ ∀ w2 : World, w2 = w1.setCell (a1.add 4) (vs r2) →
  K w2)
theorem w_W1 (r1 : Option Addr) (n1 : Option Addr) (w0 : World) (K : WP) (h : m_W1 r1 n1 w0 K) :
  Calls Try.prog 176 #[(vp r1), (vp n1)] w0 (fun e w' => e = .returned (.tuple #[]) ∧ K  w') := by
 unfold m_W1 at h
 refine cw (args := [(vp r1), (vp n1)]) Try.func176 Try.ntmps176 (rg (q0 (vp n1) (q0 (vp r1) ?_)))
 refine sc Try.call177 (h.mono ?_)
 rintro e w1 ⟨r2, rfl, h⟩
 refine ⟨_, rfl, ?_⟩
 obtain ⟨a1, hp1, h⟩ := h
 refine q2 (vp (some a1)) (x_nilCheck (p := n1) (by kernel_rfl) hp1) (q0 (vp (some a1)) (q0 (vp (some (a1.add 4))) ?_))
 obtain ⟨hp2, h⟩ := h
 refine st_set (want0 rfl) (x_store (a := (a1.add 4)) (v := (vs r2)) (by kernel_rfl) (by kernel_rfl) rfl (Try.sizeOf9 _) hp2) ?_
 intro w2 hn1
 have h := h w2 hn1
 refine wpL_nil (res0 (.inr rfl) Try.results176 ?_)
 exact ⟨rfl, h⟩
def m_X1 (b1 : Sl) (aC aB : Int) (aD aF : Int) (aG : ByteArray) (aH aI : Int) (number1 : Option Nat) (w0 : World) (K : Sl → WP) : Prop :=
 ∀ (H1 : NP) (w1 : World), Hst w0 None w0 H1 w1 →
 ∃ v1 : Int, (Instr.lookup 155 (.map number1) (vi aH) false).run Try.prog w1 = .ok (vi v1) w1 ∧
 Calls Try.prog 167 #[b1.v, (vu (IntKind.u64.wrap v1))] w1 (fun e w2 => ∃ r1 : Sl, e = .returned r1.v ∧ 
  Kept H1 w1 w2 ∧
  K r1 w2)
theorem w_X1 (b1 : Sl) (aC aB : Int) (aD aF : Int) (aG : ByteArray) (aH aI : Int) (number1 : Option Nat) (w0 : World) (K : Sl → WP) (h : m_X1 b1 aC aB aD aF aG aH aI number1 w0 K) :
  Calls Try.prog 178 #[b1.v, (.agg #[(vi aC), (vi aB), (vi aD), (vu aF), (vs aG), (vi aH), (vi aI)]), (.map number1)] w0 (fun e w' => ∃ r2 : Sl, e = .returned r2.v ∧ K r2 w') := by
 unfold m_X1 at h
 refine cw (args := [b1.v, (.agg #[(vi aC), (vi aB), (vi aD), (vu aF), (vs aG), (vi aH), (vi aI)]), (.map number1)]) Try.func178 Try.ntmps178 ?_
 have hs := Hst.start w0
 have hb := HB.nil None w0
 refine wpE_seq (rg (sn (O := (.cells #[(vi aC), (vi aB), (vi aD), (vu aF), (vs aG), (vi aH), (vi aI)] 106)) xb ?_))
 intro p1 w1 hn1
 obtain ⟨H1, hs, hb⟩ := hs.alloc hb hn1
 refine q0 Sl.nil.v (wpL_nil (th_n (wpE_seq (rg (q0 b1.v (q0 (.map number1) (q0 (vp (some (p1.add 5))) (q2 (vi aH) (xl (Try.isAgg32 _) (hb.c 0 5 gZ)) ?_))))))))
 have h := h H1 w1 hs
 have hs := hs.here
 obtain ⟨v1, hv1, h⟩ := h
 refine q2 (vi v1) (x_lookup (by kernel_rfl) (by kernel_rfl) hv1) (q0 (vu (IntKind.u64.wrap v1)) ?_)
 refine sc Try.call167 (h.mono ?_)
 rintro e w2 ⟨r1, rfl, hk, h⟩
 refine ⟨_, rfl, ?_⟩
 obtain ⟨hs, hb⟩ := hk.hh hs hb
 refine q0 r1.v (wpL_nil (th_n (wpE_ret (rs1 Try.results178 (v := r1.v) ?_))))
 exact ⟨r1, rfl, h⟩
def m_Y1 (r1 : Option Addr) (n1 : Option Addr) (w0 : World) (K : WP) : Prop :=
 Calls Try.prog 169 #[(vp r1)] w0 (fun e w1 => ∃ r2 : Int, e = .returned (vu r2) ∧ 
  ∃ a1 : Addr, n1 = some a1 ∧
  CanW w1 (a1.add 9) ∧ ∀ w2 : World, w2 = w1.setCell (a1.add 9) (vu r2) →
  ∃ a2 : Addr, n1 = some a2 ∧
  CanW w2 (a2.add 11) ∧ ∀ w3 : World, w3 = w2.setCell (a2.add 11) (vi 1) →
  K w3)
theorem w_Y1 (r1 : Option Addr) (n1 : Option Addr) (w0 : World) (K : WP) (h : m_Y1 r1 n1 w0 K) :
  Calls Try.prog 179 #[(vp r1), (vp n1)] w0 (fun e w' => e = .returned (.tuple #[]) ∧ K  w') := by
 unfold m_Y1 at h
 refine cw (args := [(vp r1), (vp n1)]) Try.func179 Try.ntmps179 (rg (q0 (vp n1) (q0 (vp n1) (q0 (vp r1) ?_))))
 refine sc Try.call169 (h.mono ?_)
 rintro e w1 ⟨r2, rfl, h⟩
 refine ⟨_, rfl, ?_⟩
 obtain ⟨a1, hp1, h⟩ := h
 refine q2 (vp (some a1)) (x_nilCheck (p := n1) (by kernel_rfl) hp1) (q0 (vp (some (a1.add 9))) ?_)
 obtain ⟨hp2, h⟩ := h
 refine st_set (want0 rfl) (x_store (a := (a1.add 9)) (v := (vu r2)) (by kernel_rfl) (by kernel_rfl) rfl (Try.sizeOf50 _) hp2) ?_
 intro w2 hn1
 have h := h w2 hn1
 obtain ⟨a2, hp3, h⟩ := h
 refine q2 (vp (some a2)) (x_nilCheck (p := n1) (by kernel_rfl) hp3) (q0 (vp (some (a2.add 11))) ?_)
 obtain ⟨hp4, h⟩ := h
 refine st_set (want0 rfl) (x_store (a := (a2.add 11)) (v := (vi 1)) (by kernel_rfl) (by kernel_rfl) rfl (Try.sizeOf3 _) hp4) ?_
 intro w3 hn2
 have h := h w3 hn2
 refine wpL_nil (res0 (.inr rfl) Try.results179 ?_)
 exact ⟨rfl, h⟩
def m_Z1 (b1 : Sl) (aC aB : Int) (aD aF : Int) (aG : ByteArray) (aH aI : Int) (number1 : Option Nat) (w0 : World) (K : Sl → WP) : Prop :=
 ∀ (H1 : NP) (w1 : World), Hst w0 None w0 H1 w1 →
 ∃ v1 : Int, (Instr.lookup 155 (.map number1) (vi aI) false).run Try.prog w1 = .ok (vi v1) w1 ∧
 Calls Try.prog 167 #[b1.v, (vu (IntKind.u64.wrap v1))] w1 (fun e w2 => ∃ r1 : Sl, e = .returned r1.v ∧ 
  Kept H1 w1 w2 ∧
  K r1 w2)
theorem w_Z1 (b1 : Sl) (aC aB : Int) (aD aF : Int) (aG : ByteArray) (aH aI : Int) (number1 : Option Nat) (w0 : World) (K : Sl → WP) (h : m_Z1 b1 aC aB aD aF aG aH aI number1 w0 K) :
  Calls Try.prog 180 #[b1.v, (.agg #[(vi aC), (vi aB), (vi aD), (vu aF), (vs aG), (vi aH), (vi aI)]), (.map number1)] w0 (fun e w' => ∃ r2 : Sl, e = .returned r2.v ∧ K r2 w') := by
 unfold m_Z1 at h
 refine cw (args := [b1.v, (.agg #[(vi aC), (vi aB), (vi aD), (vu aF), (vs aG), (vi aH), (vi aI)]), (.map number1)]) Try.func180 Try.ntmps180 ?_
 have hs := Hst.start w0
 have hb := HB.nil None w0
 refine wpE_seq (rg (sn (O := (.cells #[(vi aC), (vi aB), (vi aD), (vu aF), (vs aG), (vi aH), (vi aI)] 106)) xb ?_))
 intro p1 w1 hn1
 obtain ⟨H1, hs, hb⟩ := hs.alloc hb hn1
 refine q0 Sl.nil.v (wpL_nil (th_n (wpE_seq (rg (q0 b1.v (q0 (.map number1) (q0 (vp (some (p1.add 6))) (q2 (vi aI) (xl (Try.isAgg32 _) (hb.c 0 6 gZ)) ?_))))))))
 have h := h H1 w1 hs
 have hs := hs.here
 obtain ⟨v1, hv1, h⟩ := h
 refine q2 (vi v1) (x_lookup (by kernel_rfl) (by kernel_rfl) hv1) (q0 (vu (IntKind.u64.wrap v1)) ?_)
 refine sc Try.call167 (h.mono ?_)
 rintro e w2 ⟨r1, rfl, hk, h⟩
 refine ⟨_, rfl, ?_⟩
 obtain ⟨hs, hb⟩ := hk.hh hs hb
 refine q0 r1.v (wpL_nil (th_n (wpE_ret (rs1 Try.results180 (v := r1.v) ?_))))
 exact ⟨r1, rfl, h⟩
def m_A2 (r1 : Option Addr) (n1 : Option Addr) (w0 : World) (K : WP) : Prop :=
 Calls Try.prog 169 #[(vp r1)] w0 (fun e w1 => ∃ r2 : Int, e = .returned (vu r2) ∧ 
  ∃ a1 : Addr, n1 = some a1 ∧
  CanW w1 (a1.add 10) ∧ ∀ w2 : World, w2 = w1.setCell (a1.add 10) (vu r2) →
  ∃ a2 : Addr, n1 = some a2 ∧
  CanW w2 (a2.add 11) ∧ ∀ w3 : World, w3 = w2.setCell (a2.add 11) (vi 2) →
  K w3)
theorem w_A2 (r1 : Option Addr) (n1 : Option Addr) (w0 : World) (K : WP) (h : m_A2 r1 n1 w0 K) :
  Calls Try.prog 181 #[(vp r1), (vp n1)] w0 (fun e w' => e = .returned (.tuple #[]) ∧ K  w') := by
 unfold m_A2 at h
 refine cw (args := [(vp r1), (vp n1)]) Try.func181 Try.ntmps181 (rg (q0 (vp n1) (q0 (vp n1) (q0 (vp r1) ?_))))
 refine sc Try.call169 (h.mono ?_)
 rintro e w1 ⟨r2, rfl, h⟩
 refine ⟨_, rfl, ?_⟩
 obtain ⟨a1, hp1, h⟩ := h
 refine q2 (vp (some a1)) (x_nilCheck (p := n1) (by kernel_rfl) hp1) (q0 (vp (some (a1.add 10))) ?_)
 obtain ⟨hp2, h⟩ := h
 refine st_set (want0 rfl) (x_store (a := (a1.add 10)) (v := (vu r2)) (by kernel_rfl) (by kernel_rfl) rfl (Try.sizeOf50 _) hp2) ?_
 intro w2 hn1
 have h := h w2 hn1
 obtain ⟨a2, hp3, h⟩ := h
 refine q2 (vp (some a2)) (x_nilCheck (p := n1) (by kernel_rfl) hp3) (q0 (vp (some (a2.add 11))) ?_)
 obtain ⟨hp4, h⟩ := h
 refine st_set (want0 rfl) (x_store (a := (a2.add 11)) (v := (vi 2)) (by kernel_rfl) (by kernel_rfl) rfl (Try.sizeOf3 _) hp4) ?_
 intro w3 hn2
 have h := h w3 hn2
 refine wpL_nil (res0 (.inr rfl) Try.results181 ?_)
 exact ⟨rfl, h⟩
def m_P_j1 (r1 : Option Addr) (w0 : World) (H : NP) (w : World) (K : Option (List PanicEntry) → Int → WP) : Prop :=
 ∃ a3 : Addr, r1 = some a3 ∧
 ∃ v3 : Int, w.cell? (a3.add 1) = some (vi v3) ∧
 ∃ a4 : Addr, r1 = some a4 ∧
 CanW w (a4.add 1) ∧ ¬ H (a4.add 1).block ∧ ∀ w2 : World, w2 = w.setCell (a4.add 1) (vi (q6.wrap (v3 + 1))) →
 ∃ a5 : Addr, r1 = some a5 ∧
 ∀ (w3 : World), Hst w0 H w2 H w3 →
 ∃ v4 : Sl, w3.cell? a5 = some v4.v ∧
 ∃ a6 : Addr, r1 = some a6 ∧
 ∃ v5 : Int, w3.cell? (a6.add 1) = some (vi v5) ∧
 ∃ a7 : Addr, At v4 (q6.wrap (v5 - 1)) 1 a7 ∧
 ∃ v6 : Int, w3.cell? a7 = some (.int .u8 v6) ∧
 K none v6 w3
def m_P (r1 : Option Addr) (w0 : World) (K : Option (List PanicEntry) → Int → WP) : Prop :=
 ∃ a1 : Addr, r1 = some a1 ∧
 ∀ (w1 : World), Hst w0 None w0 None w1 →
 ∃ v1 : Int, w1.cell? (a1.add 1) = some (vi v1) ∧
 ∃ a2 : Addr, r1 = some a2 ∧
 ∃ v2 : Sl, w1.cell? a2 = some v2.v ∧
 Br (v1 == (v2.len : Int))
  (K (some [{ v := (.iface 254 (vi 3)), recovered := false }]) 0 w1)
  (m_P_j1 r1 w0 None w1 K)
theorem w_P (r1 : Option Addr) (w0 : World) (K : Option (List PanicEntry) → Int → WP) (h : m_P r1 w0 K) :
  Calls Try.prog 212 #[(vp r1)] w0 (fun e w' => (∃ r2 : Int, e = .returned (.int .u8 r2) ∧ K none r2 w') ∨ ∃ ch, e = .panicked ch ∧ K (some ch) 0 w') := by
 unfold m_P at h
 refine calls_of_wpEP (args := [(vp r1)]) Try.func212 rfl Try.ntmps212 (Nat.le_of_ble_eq_true rfl) ?_
 have hs := Hst.start w0
 have hb := HB.nil None w0
 refine wpE_seq (rg (q0 (.int .u8 0) (wpL_nil (th_n (wpE_seq (wpE_seq (wpE_drawnQ (by kernel_rfl) (by kernel_rfl) (by kernel_rfl) (by kernel_rfl) ?_)))))))
 intro w1 hw1
 have hs : Hst w0 None w0 None w1 := by rw [hw1]; exact hs.drew
 have hb : HB None w1 [] := by rw [hw1]; exact hb.drew
 refine qq 0 (vp r1) Kp0 (qg 1 ?_)
 obtain ⟨a1, hp1, h⟩ := h
 refine sxQ (v := (vp (some a1))) Kp1 (want0 rfl) rfl (x_nilCheck (p := r1) (by kernel_rfl) hp1) (qq 2 (vp (some (a1.add 1))) Kp2 (qg 3 ?_))
 have h := h w1 hs
 have hs := hs.here
 obtain ⟨v1, hv7, h⟩ := h
 refine sxQ (v := (vi v1)) Kp3 (want0 rfl) rfl (xl (Try.isAgg3 _) hv7) (qq 4 (vp r1) Kp4 (qg 5 ?_))
 obtain ⟨a2, hp2, h⟩ := h
 refine sxQ (v := (vp (some a2))) Kp5 (want0 rfl) rfl (x_nilCheck (p := r1) (by kernel_rfl) hp2) (qq 6 (vp (some a2)) Kp6 (qg 7 ?_))
 obtain ⟨v2, hv6, h⟩ := h
 refine sxQ (v := v2.v) Kp7 (want0 rfl) rfl (xl (Try.isAgg44 _) hv6) (qq 8 (vi (v2.len : Int)) Kp8 (qq 9 (vb (v1 == (v2.len : Int))) Kp9 (wn (th_n ?_))))
 refine wpE_joinT (fun ρ w => ∃ H : NP, Has ρ [(0, (vp r1))] ∧ Hst w0 H w H w ∧ HB H w [] ∧ m_P_j1 r1 w0 H w K) ?_ ?_
 ·rintro ρ w ⟨H, hH, hs, hb, h⟩
  unfold m_P_j1 at h
  refine wpE_has hH ?_
  refine wpE_seq (rg (q0 (vp r1) ?_))
  obtain ⟨a3, hp3, h⟩ := h
  refine q2 (vp (some a3)) (x_nilCheck (p := r1) (by kernel_rfl) hp3) (q0 (vp (some (a3.add 1))) ?_)
  obtain ⟨v3, hv5, h⟩ := h
  refine q2 (vi v3) (xl (Try.isAgg3 _) hv5) (q0 (vi (q6.wrap (v3 + 1))) ?_)
  obtain ⟨a4, hp4, h⟩ := h
  refine q2 (vp (some a4)) (x_nilCheck (p := r1) (by kernel_rfl) hp4) (q0 (vp (some (a4.add 1))) ?_)
  obtain ⟨hp5, hnh, h⟩ := h
  refine st_set (want0 rfl) (x_store (a := (a4.add 1)) (v := (vi (q6.wrap (v3 + 1)))) (by kernel_rfl) (by kernel_rfl) rfl (Try.sizeOf3 _) hp5) ?_
  intro w2 hn1
  have h := h w2 hn1
  have hk := Kept.sc hnh hn1
  obtain ⟨hs, hb⟩ := hk.hh hs hb
  refine wpL_nil (th_n (wpE_seq (wpE_drawnQ (by kernel_rfl) (by kernel_rfl) (by kernel_rfl) (by kernel_rfl) ?_)))
  intro w3 hw3
  have hs : Hst w0 H w2 H w3 := by rw [hw3]; exact hs.drew
  have hb : HB H w3 [] := by rw [hw3]; exact hb.drew
  refine qq 0 (vp r1) Kp0 (qg 1 ?_)
  obtain ⟨a5, hp6, h⟩ := h
  refine sxQ (v := (vp (some a5))) Kp1 (want0 rfl) rfl (x_nilCheck (p := r1) (by kernel_rfl) hp6) (qq 2 (vp (some a5)) Kp2 (qg 3 ?_))
  have h := h w3 hs
  have hs := hs.here
  obtain ⟨v4, hv4, h⟩ := h
  refine sxQ (v := v4.v) Kp3 (want0 rfl) rfl (xl (Try.isAgg44 _) hv4) (qq 4 (vp r1) Kp4 (qg 5 ?_))
  obtain ⟨a6, hp7, h⟩ := h
  refine sxQ (v := (vp (some a6))) Kp5 (want0 rfl) rfl (x_nilCheck (p := r1) (by kernel_rfl) hp7) (qq 6 (vp (some (a6.add 1))) Kp6 (qg 7 ?_))
  obtain ⟨v5, hv3, h⟩ := h
  refine sxQ (v := (vi v5)) Kp7 (want0 rfl) rfl (xl (Try.isAgg3 _) hv3) (qq 8 (vi (q6.wrap (v5 - 1))) Kp8 (qg 9 ?_))
  obtain ⟨a7, hv2, h⟩ := h
  refine sxQ (v := (vp (some a7))) Kp9 (want0 rfl) rfl (xi (Try.runUnderlying44 _) (Try.sizeOf5 _) hv2) (qg 10 ?_)
  obtain ⟨v6, hv1, h⟩ := h
  refine sxQ (v := (.int .u8 v6)) (pickA (S8 (pickS (pickS pickZ)))) (want0 rfl) rfl (xl (Try.isAgg5 _) hv1) (qq 11 (.int .u8 v6) (pickA (S8 (pickS (pickS (pickS pickZ))))) (wn (th_n (wpE_ret (ep (rs1 Try.results212 (v := (.int .u8 v6)) ?_))))))
  exact .inl ⟨v6, rfl, h⟩
 ·refine wpE_cond (t := (v1 == (v2.len : Int))) (by kernel_rfl) (fun hc1 => ?_) (fun hc1 => ?_)
  ·have h := h.1 hc1
   refine wpE_regionP (by kernel_rfl) (wpLP_split 1 (q0 (.iface 254 (vi 3)) (wpL_nil ?_)))
   refine sp_panic (want0 rfl) (by intro c hc; cases hc) (x_panic (by kernel_rfl)) (fun ρ' => .inr ⟨_, rfl, h⟩)
  ·have h := h.2 hc1
   refine wpE_skip (th_n ?_)
   exact ⟨None, hm, hs, hb, h⟩
def m_J_j2 (n1 i1 r2 : Int) (w : World) (Kc1 : Int → Int → WP) (K : Option (List PanicEntry) → Int → WP) : Prop :=
 ∃ z1 : Int, (Go.binOp .and 5 (.int .u8 r2) (.int .u8 127)).run Try.prog w = .ok (.int .u8 z1) w ∧
 ∃ z2 : Int, (Go.binOp .shl 50 (vu (IntKind.u64.wrap z1)) (vi (q6.wrap (7 * i1)))).run Try.prog w = .ok (vu z2) w ∧
 ∃ z3 : Int, (Go.binOp .or 50 (vu n1) (vu z2)).run Try.prog w = .ok (vu z3) w ∧
 Br (decide (r2 < 128))
  (Br ((r2 == 0) && (decide (i1 > 0)))
   (K (some [{ v := (.iface 254 (vi 10)), recovered := false }]) 0 w)
   (K none z3 w))
  (Kc1 z3 (q6.wrap (i1 + 1)) w)
def m_J_l1 (r1 : Option Addr) (n1 i1 : Int) (wl1 : World) (Kc1 : Int → Int → WP) (K : Option (List PanicEntry) → Int → WP) : Prop :=
 Calls Try.prog 212 #[(vp r1)] wl1 (fun e w1 => (∃ r2 : Int, e = .returned (.int .u8 r2) ∧
  Br ((i1 == 9) && (decide (r2 > 1)))
   (K (some [{ v := (.iface 254 (vi 11)), recovered := false }]) 0 w1)
   (m_J_j2 n1 i1 r2 w1 Kc1 K)) ∨ ∃ ch, e = .panicked ch ∧ K (some ch) 0 w1)
def m_J (r1 : Option Addr) (w0 : World) (K : Option (List PanicEntry) → Int → WP) : Prop :=
 ∃ (I1 : Int → Int → WP) (mu1 : Int → Int → World → Nat), I1 0 0 w0 ∧
  ∀ (n1 i1 : Int) (wl1 : World), I1 n1 i1 wl1 → m_J_l1 r1 n1 i1 wl1 (fun y'0 y'1 w' => I1 y'0 y'1 w' ∧ mu1 y'0 y'1 w' < mu1 n1 i1 wl1) K
theorem w_J (r1 : Option Addr) (w0 : World) (K : Option (List PanicEntry) → Int → WP) (h : m_J r1 w0 K) :
  Calls Try.prog 209 #[(vp r1)] w0 (fun e w' => (∃ r3 : Int, e = .returned (vu r3) ∧ K none r3 w') ∨ ∃ ch, e = .panicked ch ∧ K (some ch) 0 w') := by
 unfold m_J at h
 refine calls_of_wpEP (args := [(vp r1)]) Try.func209 rfl Try.ntmps209 (Nat.le_of_ble_eq_true rfl) (wpE_seq (rg (q0 (vu 0) (wpL_nil (th_n (wpE_seq (rg (q0 (vu 0) (wpL_nil (th_n (wpE_seq ?_)))))))))))
 refine rg (q0 (vi 0) (wpL_nil (th_n (wpE_block ?_))))
 obtain ⟨I1, mu1, h0, hr⟩ := h
 refine wpE_loop (σ := Int × Int × World) (fun s ρ w => w = s.2.2 ∧ Has ρ [(0, (vp r1)), (3, (vu s.1)), (4, (vi s.2.1))] ∧ I1 s.1 s.2.1 s.2.2) (fun s => mu1 s.1 s.2.1 s.2.2) (0, 0, w0) ⟨rfl, hm, h0⟩ ?_
 rintro ⟨n1, i1, wl1⟩ ρ w ⟨hw, hH, hI⟩
 obtain rfl : wl1 = w := (show w = wl1 from hw).symm
 have hH : Has ρ [(0, (vp r1)), (3, (vu n1)), (4, (vi i1))] := hH
 have h := hr n1 i1 wl1 hI
 unfold m_J_l1 at h
 refine wpE_has hH ?_
 refine wpE_seq (wpE_block (wpE_seq (wpE_regionP (by kernel_rfl) (wpLP_split 1 (q0 (vp r1) (wpL_nil ?_))))))
 refine sp_call (want0 rfl) (by intro c hc; cases hc) (xc Try.call212) (h.mono ?_)
 rintro e w1 (⟨r2, rfl, h⟩ | ⟨ch, rfl, h⟩)
 rotate_left
 ·exact .inr ⟨ch, rfl, fun ρ' => .inr ⟨ch, rfl, h⟩⟩
 refine .inl ⟨_, rfl, ?_⟩
 refine wpLP_last (q0 (.int .u8 r2) (wpL_nil (th_n (wpE_seq (wpE_seq ?_)))))
 refine wpE_via (fun ρ wJ => ∃ b1'0 : Bool, ((i1 == 9) = b1'0) ∧ w1 = wJ ∧ Has ρ [(0, (vp r1)), (3, (vu n1)), (4, (vi i1)), (5, (.int .u8 r2)), (15, (vb (b1'0 && (decide (r2 > 1)))))]) ?_ ?_
 ·refine rg (q0 (vi i1) (q0 (vb (i1 == 9)) (q0 (vb (i1 == 9)) ?_)))
  rcases Bool.eq_false_or_eq_true (i1 == 9) with hg2 | hg2
  ·refine q1 (.int .u8 r2) (want1 rfl (yD 12 hg2)) (q1 (vb (decide (r2 > 1))) (want1 rfl (yD 12 hg2)) (q2 (vb (decide (r2 > 1))) (xT hg2) (wpL_nil (th_n ?_))))
   exact ⟨true, hg2, rfl, hm⟩
  ·refine sk (yD 12 hg2) (sk (yD 12 hg2) (q2 (vb false) (xF hg2) (wpL_nil (th_n ?_))))
   exact ⟨false, hg2, rfl, hm⟩
 ·rintro ρ w2 ⟨b1'0, he0, hw, hH⟩
  subst he0
  subst hw
  refine norm_has hH ?_
  refine th_n ?_
  refine wpE_joinT (fun ρ w => Has ρ [(0, (vp r1)), (3, (vu n1)), (4, (vi i1)), (5, (.int .u8 r2))] ∧ m_J_j2 n1 i1 r2 w (fun y'0 y'1 w' => I1 y'0 y'1 w' ∧ mu1 y'0 y'1 w' < mu1 n1 i1 wl1) K) ?_ ?_
  ·rintro ρ w ⟨hH, h⟩
   unfold m_J_j2 at h
   refine wpE_has hH ?_
   refine wpE_seq (rg (q0 (vu n1) (q0 (.int .u8 r2) ?_)))
   obtain ⟨z1, hv3, h⟩ := h
   refine q2 (.int .u8 z1) (x_bin (by kernel_rfl) (by kernel_rfl) (by kernel_rfl) hv3) (q0 (vu (IntKind.u64.wrap z1)) (q0 (vi i1) (q0 (vi (q6.wrap (7 * i1))) ?_)))
   obtain ⟨z2, hv2, h⟩ := h
   refine q2 (vu z2) (x_bin (by kernel_rfl) (by kernel_rfl) (by kernel_rfl) hv2) ?_
   obtain ⟨z3, hv1, h⟩ := h
   refine q2 (vu z3) (x_bin (by kernel_rfl) (by kernel_rfl) (by kernel_rfl) hv1) (q0 (vu z3) (wpL_nil (th_n (wpE_seq (rg (q0 (.int .u8 r2) (q0 (vb (decide (r2 < 128))) (wpL_nil (th_n ?_)))))))))
   refine wpE_cond (t := (decide (r2 < 128))) (by kernel_rfl) (fun hc1 => ?_) (fun hc1 => ?_)
   ·have h := h.1 hc1
    refine wpE_seq (wpE_seq ?_)
    refine wpE_via (fun ρ wJ => ∃ b2'0 : Bool, ((r2 == 0) = b2'0) ∧ w = wJ ∧ Has ρ [(3, (vu z3)), (32, (vb (b2'0 && (decide (i1 > 0)))))]) ?_ ?_
    ·refine rg (q0 (.int .u8 r2) (q0 (vb (r2 == 0)) (q0 (vb (r2 == 0)) ?_)))
     rcases Bool.eq_false_or_eq_true (r2 == 0) with hg4 | hg4
     ·refine q1 (vi i1) (want1 rfl (yD 29 hg4)) (q1 (vb (decide (i1 > 0))) (want1 rfl (yD 29 hg4)) (q2 (vb (decide (i1 > 0))) (xT hg4) (wpL_nil (th_n ?_))))
      exact ⟨true, hg4, rfl, hm⟩
     ·refine sk (yD 29 hg4) (sk (yD 29 hg4) (q2 (vb false) (xF hg4) (wpL_nil (th_n ?_))))
      exact ⟨false, hg4, rfl, hm⟩
    ·rintro ρ w3 ⟨b2'0, he0, hw, hH⟩
     subst he0
     subst hw
     refine norm_has hH ?_
     refine th_n ?_
     refine wpE_cond (t := ((r2 == 0) && (decide (i1 > 0)))) (by kernel_rfl) (fun hc2 => ?_) (fun hc2 => ?_)
     ·have h := h.1 hc2
      refine wpE_regionP (by kernel_rfl) (wpLP_split 1 (q0 (.iface 254 (vi 10)) (wpL_nil ?_)))
      refine sp_panic (want0 rfl) (by intro c hc; cases hc) (x_panic (by kernel_rfl)) (fun ρ' => .inr ⟨_, rfl, h⟩)
     ·have h := h.2 hc2
      refine wpE_skip (th_n (wpE_seq (rg (q0 (vu z3) (q0 (vu z3) (wpL_nil (th_n (wpE_ret (bl_r (th_r (th_r ?_)))))))))))
      refine bl_r (ep (rs1 Try.results209 (v := (vu z3)) ?_))
      exact .inl ⟨z3, rfl, h⟩
   ·have h := h.2 hc1
    refine wpE_skip (bl_n (th_n (rg (q0 (vi i1) (q0 (vi (q6.wrap (i1 + 1))) (q0 (vi (q6.wrap (i1 + 1))) (wpL_nil (th_n ?_))))))))
    exact ⟨(z3, (q6.wrap (i1 + 1)), w), ⟨rfl, hm, h.1⟩, h.2⟩
  ·refine wpE_cond (t := ((i1 == 9) && (decide (r2 > 1)))) (by kernel_rfl) (fun hc3 => ?_) (fun hc3 => ?_)
   ·have h := h.1 hc3
    refine wpE_regionP (by kernel_rfl) (wpLP_split 1 (q0 (.iface 254 (vi 11)) (wpL_nil ?_)))
    refine sp_panic (want0 rfl) (by intro c hc; cases hc) (x_panic (by kernel_rfl)) (fun ρ' => .inr ⟨_, rfl, h⟩)
   ·have h := h.2 hc3
    refine wpE_skip (th_n ?_)
    exact ⟨hm, h⟩
def m_B2 (cap1 cap2 : Addr) (w0 : World) (K : Option (List PanicEntry) → WP) : Prop :=
 ∃ v1 : Option Addr, w0.cell? cap1 = some (vp v1) ∧
 Calls Try.prog 209 #[(vp v1)] w0 (fun e w1 => (∃ r1 : Int, e = .returned (vu r1) ∧
  CanW w1 cap2 ∧ ∀ w2 : World, w2 = w1.setCell cap2 (vu r1) →
  K none w2) ∨ ∃ ch, e = .panicked ch ∧ K (some ch)  w1)
theorem w_B2 (cap1 cap2 : Addr) (w0 : World) (K : Option (List PanicEntry) → WP) (h : m_B2 cap1 cap2 w0 K) :
  Calls Try.prog 208 #[(vp (some cap1)), (vp (some cap2))] w0 (fun e w' => (e = .returned (.tuple #[]) ∧ K none  w') ∨ ∃ ch, e = .panicked ch ∧ K (some ch)  w') := by
 unfold m_B2 at h
 refine calls_of_wpEP (args := [(vp (some cap1)), (vp (some cap2))]) Try.func208 rfl Try.ntmps208 (Nat.le_of_ble_eq_true rfl) (wpE_regionP (by kernel_rfl) (wpLP_split 1 ?_))
 obtain ⟨v1, hv1, h⟩ := h
 refine q2 (vp v1) (xl (Try.isAgg196 _) hv1) (wpL_nil ?_)
 refine sp_call (want0 rfl) (by intro c hc; cases hc) (xc Try.call209) (h.mono ?_)
 rintro e w1 (⟨r1, rfl, h⟩ | ⟨ch, rfl, h⟩)
 rotate_left
 ·exact .inr ⟨ch, rfl, fun ρ' => .inr ⟨ch, rfl, h⟩⟩
 refine .inl ⟨_, rfl, ?_⟩
 refine wpLP_last ?_
 obtain ⟨hp1, h⟩ := h
 refine st_set (want0 rfl) (x_store (a := cap2) (v := (vu r1)) (by kernel_rfl) (by kernel_rfl) rfl (Try.sizeOf50 _) hp1) ?_
 intro w2 hn1
 have h := h w2 hn1
 refine wpL_nil (ep (res0 (.inr rfl) Try.results208 ?_))
 exact .inl ⟨rfl, h⟩
def m_F_j3 (cap1 cap3 : Addr) (r1 : Int) (H : NP) (w : World) (K : Option (List PanicEntry) → WP) : Prop :=
 ∃ C1 : WP, C1 w.drew ∧ ∀ w3, w3 = w.drew →
 ∃ v6 : Option Addr, w3.cell? cap1 = some (vp v6) ∧
 ∃ a3 : Addr, v6 = some a3 ∧
 ∃ v7 : Sl, w3.cell? a3 = some v7.v ∧
 ∃ v8 : Option Addr, w3.cell? cap1 = some (vp v8) ∧
 ∃ a4 : Addr, v8 = some a4 ∧
 ∃ v9 : Int, w3.cell? (a4.add 1) = some (vi v9) ∧
 ∃ v10 : Option Addr, w3.cell? cap1 = some (vp v10) ∧
 ∃ a5 : Addr, v10 = some a5 ∧
 ∃ v11 : Int, w3.cell? (a5.add 1) = some (vi v11) ∧
 ∃ s1 : Sl, (Instr.sliceAt 44 v7.v (some (vi v9)) (some (vi (q6.wrap (v11 + (q6.wrap r1))))) none).run Try.prog w3 = .ok s1.v w3 ∧
 ∃ c1 : ByteArray, (convert 44 9 s1.v).run Try.prog w3 = .ok (vs c1) w3 ∧
 CanW w3 cap3 ∧ ¬ H cap3.block ∧ ∀ w4 : World, w4 = w3.setCell cap3 (vs c1) →
 ∃ v12 : Option Addr, w4.cell? cap1 = some (vp v12) ∧
 ∃ a6 : Addr, v12 = some a6 ∧
 ∃ v13 : Int, w4.cell? (a6.add 1) = some (vi v13) ∧
 ∃ a7 : Addr, v12 = some a7 ∧
 CanW w4 (a7.add 1) ∧ ¬ H (a7.add 1).block ∧ ∀ w5 : World, w5 = w4.setCell (a7.add 1) (vi (q6.wrap (v13 + (q6.wrap r1)))) →
 K none w5
def m_F_j2 (cap1 cap3 : Addr) (r1 : Int) (w0 : World) (H : NP) (w : World) (K : Option (List PanicEntry) → WP) : Prop :=
 ∀ (w2 : World), Hst w0 H w H w2 →
 ∃ v2 : Option Addr, w2.cell? cap1 = some (vp v2) ∧
 ∃ a1 : Addr, v2 = some a1 ∧
 ∃ v3 : Sl, w2.cell? a1 = some v3.v ∧
 ∃ v4 : Option Addr, w2.cell? cap1 = some (vp v4) ∧
 ∃ a2 : Addr, v4 = some a2 ∧
 ∃ v5 : Int, w2.cell? (a2.add 1) = some (vi v5) ∧
 Br (decide (r1 > (IntKind.u64.wrap (q6.wrap ((v3.len : Int) - v5)))))
  (K (some [{ v := (.iface 254 (vi 3)), recovered := false }])  w2)
  (m_F_j3 cap1 cap3 r1 H w2 K)
def m_F_j1 (cap1 cap3 : Addr) (r1 : Int) (x1 : Bool) (w0 : World) (H : NP) (w : World) (K : Option (List PanicEntry) → WP) : Prop :=
 Br x1
  (K (some [{ v := (.iface 254 (vi 1)), recovered := false }])  w)
  (m_F_j2 cap1 cap3 r1 w0 H w K)
def m_F (cap1 cap2 cap3 : Addr) (w0 : World) (K : Option (List PanicEntry) → WP) : Prop :=
 ∃ v1 : Option Addr, w0.cell? cap1 = some (vp v1) ∧
 Calls Try.prog 209 #[(vp v1)] w0 (fun e w1 => (∃ r1 : Int, e = .returned (vu r1) ∧
  Kept None w0 w1 ∧
  ∃ v14 : Int, w1.cell? cap2 = some (vi v14) ∧
  Br (decide (v14 < 0))
   (m_F_j1 cap1 cap3 r1 true w0 None w1 K)
   (∃ v15 : Int, w1.cell? cap2 = some (vi v15) ∧
   m_F_j1 cap1 cap3 r1 (decide (r1 > (IntKind.u64.wrap v15))) w0 None w1 K)) ∨ ∃ ch, e = .panicked ch ∧ K (some ch)  w1)
theorem w_F (cap1 cap2 cap3 : Addr) (w0 : World) (K : Option (List PanicEntry) → WP) (h : m_F cap1 cap2 cap3 w0 K) :
  Calls Try.prog 210 #[(vp (some cap1)), (vp (some cap2)), (vp (some cap3))] w0 (fun e w' => (e = .returned (.tuple #[]) ∧ K none  w') ∨ ∃ ch, e = .panicked ch ∧ K (some ch)  w') := by
 unfold m_F at h
 refine calls_of_wpEP (args := [(vp (some cap1)), (vp (some cap2)), (vp (some cap3))]) Try.func210 rfl Try.ntmps210 (Nat.le_of_ble_eq_true rfl) ?_
 have hs := Hst.start w0
 have hb := HB.nil None w0
 refine wpE_seq (wpE_regionP (by kernel_rfl) (wpLP_split 1 ?_))
 obtain ⟨v1, hv17, h⟩ := h
 refine q2 (vp v1) (xl (Try.isAgg196 _) hv17) (wpL_nil ?_)
 refine sp_call (want0 rfl) (by intro c hc; cases hc) (xc Try.call209) (h.mono ?_)
 rintro e w1 (⟨r1, rfl, hk, h⟩ | ⟨ch, rfl, h⟩)
 rotate_left
 ·exact .inr ⟨ch, rfl, fun ρ' => .inr ⟨ch, rfl, h⟩⟩
 refine .inl ⟨_, rfl, ?_⟩
 obtain ⟨hs, hb⟩ := hk.hh hs hb
 refine wpLP_last (q0 (vu r1) (wpL_nil (th_n (wpE_seq (wpE_seq ?_)))))
 refine wpE_joinT (fun ρ w => ∃ x1 : Bool, ∃ H : NP, Has ρ [(0, (vp (some cap1))), (2, (vp (some cap3))), (3, (vu r1)), (13, (vb x1))] ∧ Hst w0 H w H w ∧ HB H w [] ∧ m_F_j1 cap1 cap3 r1 x1 w0 H w K) ?_ ?_
 ·rintro ρ w ⟨x1, H, hH, hs, hb, h⟩
  unfold m_F_j1 at h
  refine wpE_has hH ?_
  refine wpE_joinT (fun ρ w => ∃ H : NP, Has ρ [(0, (vp (some cap1))), (2, (vp (some cap3))), (3, (vu r1))] ∧ Hst w0 H w H w ∧ HB H w [] ∧ m_F_j2 cap1 cap3 r1 w0 H w K) ?_ ?_
  ·rintro ρ w ⟨H, hH, hs, hb, h⟩
   unfold m_F_j2 at h
   refine wpE_has hH ?_
   refine wpE_seq (wpE_seq (wpE_drawnQ (by kernel_rfl) (by kernel_rfl) (by kernel_rfl) (by kernel_rfl) ?_))
   intro w2 hw2
   have hs : Hst w0 H w H w2 := by rw [hw2]; exact hs.drew
   have hb : HB H w2 [] := by rw [hw2]; exact hb.drew
   refine qq 0 (vu r1) Kp0 (qg 1 ?_)
   have h := h w2 hs
   have hs := hs.here
   obtain ⟨v2, hv14, h⟩ := h
   refine sxQ (v := (vp v2)) Kp1 (want0 rfl) rfl (xl (Try.isAgg196 _) hv14) (qg 2 ?_)
   obtain ⟨a1, hp1, h⟩ := h
   refine sxQ (v := (vp (some a1))) Kp2 (want0 rfl) rfl (x_nilCheck (p := v2) (by kernel_rfl) hp1) (qq 3 (vp (some a1)) Kp3 (qg 4 ?_))
   obtain ⟨v3, hv13, h⟩ := h
   refine sxQ (v := v3.v) Kp4 (want0 rfl) rfl (xl (Try.isAgg44 _) hv13) (qq 5 (vi (v3.len : Int)) Kp5 (qg 6 ?_))
   obtain ⟨v4, hv12, h⟩ := h
   refine sxQ (v := (vp v4)) Kp6 (want0 rfl) rfl (xl (Try.isAgg196 _) hv12) (qg 7 ?_)
   obtain ⟨a2, hp2, h⟩ := h
   refine sxQ (v := (vp (some a2))) Kp7 (want0 rfl) rfl (x_nilCheck (p := v4) (by kernel_rfl) hp2) (qq 8 (vp (some (a2.add 1))) Kp8 (qg 9 ?_))
   obtain ⟨v5, hv11, h⟩ := h
   refine sxQ (v := (vi v5)) Kp9 (want0 rfl) rfl (xl (Try.isAgg3 _) hv11) (qq 10 (vi (q6.wrap ((v3.len : Int) - v5))) (pickA (S8 (pickS (pickS pickZ)))) (qq 11 (vu (IntKind.u64.wrap (q6.wrap ((v3.len : Int) - v5)))) (pickA (S8 (pickS (pickS (pickS pickZ))))) (qq 12 (vb (decide (r1 > (IntKind.u64.wrap (q6.wrap ((v3.len : Int) - v5)))))) (pickA (S8 (S4 pickZ))) (wn (th_n ?_)))))
   refine wpE_joinT (fun ρ w => ∃ H : NP, Has ρ [(0, (vp (some cap1))), (2, (vp (some cap3))), (3, (vu r1))] ∧ Hst w0 H w H w ∧ HB H w [] ∧ m_F_j3 cap1 cap3 r1 H w K) ?_ ?_
   ·rintro ρ w ⟨H, hH, hs, hb, h⟩
    unfold m_F_j3 at h
    refine wpE_has hH ?_
    refine wpE_seq ?_
    obtain ⟨C1, hC, h⟩ := h
    refine wpE_drawnC C1 [17] [17] (by kernel_rfl) (by kernel_rfl) (by kernel_rfl) (by kernel_rfl) hC ?_
    intro w3 hw3
    have h := h w3 hw3
    have hs : Hst w0 H w H w3 := by rw [hw3]; exact hs.drew
    have hb : HB H w3 [] := by rw [hw3]; exact hb.drew
    have hs := hs.here
    refine qg 0 ?_
    obtain ⟨v6, hv10, h⟩ := h
    refine sye Kp0 (xl (Try.isAgg196 _) hv10) (qg 1 ?_)
    obtain ⟨a3, hp3, h⟩ := h
    refine sy (v := (vp (some a3))) Kp1 (fun _ _ => (x_nilCheck (p := v6) (by kernel_rfl) hp3)) (qx 2 (vp (some a3)) Kp2 (qg 3 ?_))
    obtain ⟨v7, hv9, h⟩ := h
    refine sye Kp3 (xl (Try.isAgg44 _) hv9) (qg 4 ?_)
    obtain ⟨v8, hv8, h⟩ := h
    refine sye Kp4 (xl (Try.isAgg196 _) hv8) (qg 5 ?_)
    obtain ⟨a4, hp4, h⟩ := h
    refine sy (v := (vp (some a4))) Kp5 (fun _ _ => (x_nilCheck (p := v8) (by kernel_rfl) hp4)) (qx 6 (vp (some (a4.add 1))) Kp6 (qg 7 ?_))
    obtain ⟨v9, hv7, h⟩ := h
    refine sye Kp7 (xl (Try.isAgg3 _) hv7) (qg 8 ?_)
    obtain ⟨v10, hv6, h⟩ := h
    refine sye Kp8 (xl (Try.isAgg196 _) hv6) (qg 9 ?_)
    obtain ⟨a5, hp5, h⟩ := h
    refine sy (v := (vp (some a5))) Kp9 (fun _ _ => (x_nilCheck (p := v10) (by kernel_rfl) hp5)) (qx 10 (vp (some (a5.add 1))) (pickA (S8 (pickS (pickS pickZ)))) (qg 11 ?_))
    obtain ⟨v11, hv5, h⟩ := h
    refine sye (pickA (S8 (pickS (pickS (pickS pickZ))))) (xl (Try.isAgg3 _) hv5) (qx 12 (vu r1) (pickA (S8 (S4 pickZ))) (qx 13 (vi (q6.wrap r1)) (pickA (S8 (S4 (pickS pickZ)))) (qx 14 (vi (q6.wrap (v11 + (q6.wrap r1)))) (pickA (S8 (S4 (pickS (pickS pickZ))))) (qg 15 ?_))))
    obtain ⟨s1, hv4, h⟩ := h
    refine sye (v := s1.v) (pickA (S8 (S4 (pickS (pickS (pickS pickZ)))))) (x_slice (by kernel_rfl) (by kernel_rfl) (by kernel_rfl) (by kernel_rfl) hv4) (qg 16 ?_)
    obtain ⟨c1, hv3, h⟩ := h
    refine sye (v := (vs c1)) (pickA (S8 (S8 pickZ))) (x_convert (by kernel_rfl) hv3) (lg 17 ?_)
    obtain ⟨hp6, hnh, h⟩ := h
    refine sl_t (pickA (S8 (S8 (pickS pickZ)))) (xs (v := (vs c1)) (Try.sizeOf9 _) hp6) ?_
    intro w4 hn1
    have h := h w4 hn1
    refine ⟨.inl (by kernel_rfl), ?_⟩
    have hk := Kept.sc hnh hn1
    obtain ⟨hs, hb⟩ := hk.hh hs hb
    refine wn (th_n (rg ?_))
    obtain ⟨v12, hv2, h⟩ := h
    refine q2 (vp v12) (xl (Try.isAgg196 _) hv2) ?_
    obtain ⟨a6, hp7, h⟩ := h
    refine q2 (vp (some a6)) (x_nilCheck (p := v12) (by kernel_rfl) hp7) (q0 (vp (some (a6.add 1))) ?_)
    obtain ⟨v13, hv1, h⟩ := h
    refine q2 (vi v13) (xl (Try.isAgg3 _) hv1) (q0 (vu r1) (q0 (vi (q6.wrap r1)) (q0 (vi (q6.wrap (v13 + (q6.wrap r1)))) ?_)))
    obtain ⟨a7, hp8, h⟩ := h
    refine q2 (vp (some a7)) (x_nilCheck (p := v12) (by kernel_rfl) hp8) (q0 (vp (some (a7.add 1))) ?_)
    obtain ⟨hp9, hnh, h⟩ := h
    refine st_set (want0 rfl) (x_store (a := (a7.add 1)) (v := (vi (q6.wrap (v13 + (q6.wrap r1))))) (by kernel_rfl) (by kernel_rfl) rfl (Try.sizeOf3 _) hp9) ?_
    intro w5 hn2
    have h := h w5 hn2
    have hk := Kept.sc hnh hn2
    obtain ⟨hs, hb⟩ := hk.hh hs hb
    refine wpL_nil (ep (res0 (.inr rfl) Try.results210 ?_))
    exact .inl ⟨rfl, h⟩
   ·refine wpE_cond (t := (decide (r1 > (IntKind.u64.wrap (q6.wrap ((v3.len : Int) - v5)))))) (by kernel_rfl) (fun hc1 => ?_) (fun hc1 => ?_)
    ·have h := h.1 hc1
     refine wpE_regionP (by kernel_rfl) (wpLP_split 1 (q0 (.iface 254 (vi 3)) (wpL_nil ?_)))
     refine sp_panic (want0 rfl) (by intro c hc; cases hc) (x_panic (by kernel_rfl)) (fun ρ' => .inr ⟨_, rfl, h⟩)
    ·have h := h.2 hc1
     refine wpE_skip (th_n ?_)
     exact ⟨H, hm, hs, hb, h⟩
  ·refine wpE_cond (t := x1) (by kernel_rfl) (fun hc2 => ?_) (fun hc2 => ?_)
   ·have h := h.1 hc2
    refine wpE_regionP (by kernel_rfl) (wpLP_split 1 (q0 (.iface 254 (vi 1)) (wpL_nil ?_)))
    refine sp_panic (want0 rfl) (by intro c hc; cases hc) (x_panic (by kernel_rfl)) (fun ρ' => .inr ⟨_, rfl, h⟩)
   ·have h := h.2 hc2
    refine wpE_skip (th_n ?_)
    exact ⟨H, hm, hs, hb, h⟩
 ·refine rg ?_
  obtain ⟨v14, hv16, h⟩ := h
  refine q2 (vi v14) (xl (Try.isAgg3 _) hv16) (q0 (vb (decide (v14 < 0))) (q0 (vb (decide (v14 < 0))) ?_))
  rcases Bool.eq_false_or_eq_true (decide (v14 < 0)) with hg1 | hg1
  ·have h := h.1 hg1
   refine sk (yD 8 hg1) (sk (yD 8 hg1) (sk (yD 8 hg1) (sk (yD 8 hg1) (q2 (vb true) (xT hg1) (wpL_nil (th_n ?_))))))
   exact ⟨true, None, hm, hs, hb, h⟩
  ·have h := h.2 hg1
   refine q1 (vu r1) (want1 rfl (yD 8 hg1)) ?_
   obtain ⟨v15, hv15, h⟩ := h
   refine stp (v := (vi v15)) (want1 rfl (yD 8 hg1)) (xl (Try.isAgg3 _) hv15) (q1 (vu (IntKind.u64.wrap v15)) (want1 rfl (yD 8 hg1)) (q1 (vb (decide (r1 > (IntKind.u64.wrap v15)))) (want1 rfl (yD 8 hg1)) (q2 (vb (decide (r1 > (IntKind.u64.wrap v15)))) (xF hg1) (wpL_nil (th_n ?_)))))
   exact ⟨(decide (r1 > (IntKind.u64.wrap v15))), None, hm, hs, hb, h⟩
def m_C2 (cap1 cap2 : Addr) (w0 : World) (K : Option (List PanicEntry) → WP) : Prop :=
 ∃ v1 : Option Addr, w0.cell? cap1 = some (vp v1) ∧
 Calls Try.prog 212 #[(vp v1)] w0 (fun e w1 => (∃ r1 : Int, e = .returned (.int .u8 r1) ∧
  CanW w1 cap2 ∧ ∀ w2 : World, w2 = w1.setCell cap2 (.int .u8 r1) →
  K none w2) ∨ ∃ ch, e = .panicked ch ∧ K (some ch)  w1)
theorem w_C2 (cap1 cap2 : Addr) (w0 : World) (K : Option (List PanicEntry) → WP) (h : m_C2 cap1 cap2 w0 K) :
  Calls Try.prog 211 #[(vp (some cap1)), (vp (some cap2))] w0 (fun e w' => (e = .returned (.tuple #[]) ∧ K none  w') ∨ ∃ ch, e = .panicked ch ∧ K (some ch)  w') := by
 unfold m_C2 at h
 refine calls_of_wpEP (args := [(vp (some cap1)), (vp (some cap2))]) Try.func211 rfl Try.ntmps211 (Nat.le_of_ble_eq_true rfl) (wpE_regionP (by kernel_rfl) (wpLP_split 1 ?_))
 obtain ⟨v1, hv1, h⟩ := h
 refine q2 (vp v1) (xl (Try.isAgg196 _) hv1) (wpL_nil ?_)
 refine sp_call (want0 rfl) (by intro c hc; cases hc) (xc Try.call212) (h.mono ?_)
 rintro e w1 (⟨r1, rfl, h⟩ | ⟨ch, rfl, h⟩)
 rotate_left
 ·exact .inr ⟨ch, rfl, fun ρ' => .inr ⟨ch, rfl, h⟩⟩
 refine .inl ⟨_, rfl, ?_⟩
 refine wpLP_last ?_
 obtain ⟨hp1, h⟩ := h
 refine st_set (want0 rfl) (x_store (a := cap2) (v := (.int .u8 r1)) (by kernel_rfl) (by kernel_rfl) rfl (Try.sizeOf5 _) hp1) ?_
 intro w2 hn1
 have h := h w2 hn1
 refine wpL_nil (ep (res0 (.inr rfl) Try.results211 ?_))
 exact .inl ⟨rfl, h⟩
end Go.Proofs
end
section
open Go Go.SE
namespace Go.SE
def byr (bs : List UInt8) : List (List Value) := bs.map fun b => [.int .u8 (b.toNat : Int)]
theorem byr_len (bs : List UInt8) : (byr bs).length = bs.length := by simp [byr]
theorem byr_one (bs : List UInt8) : ∀ q ∈ byr bs, q.all oneCell = true := by intro q hq; obtain ⟨t, _, rfl⟩ := List.mem_map.1 hq; rfl
theorem byr_sz (bs : List UInt8) : ∀ q ∈ byr bs, q.length = 1 := by intro q hq; obtain ⟨t, _, rfl⟩ := List.mem_map.1 hq; rfl
theorem byr_flat (bs : List UInt8) : (byr bs).flatten = bs.map fun b => Value.int .u8 (b.toNat : Int) := by
 induction bs with
 | nil => rfl
 | cons b bs ih => simp only [byr, List.map_cons, List.flatten_cons] at ih ⊢; rw [ih]; rfl
theorem byr_app (a b : List UInt8) : byr (a ++ b) = byr a ++ byr b := by simp [byr]
theorem by_nth {S : NP} {w : World} {s : Sl} {bs : List UInt8} (h : Lst S w 1 s (byr bs)) {j : Nat} (hj : j < bs.length) : ∃ a, At s j 1 a ∧ S a.block ∧ w.cell? a = some (.int .u8 (bs[j].toNat : Int)) := by
 obtain ⟨a, h1, h2, h3⟩ := h.at_ j (by simpa [byr] using hj)
 exact ⟨a, h1, h2, row_cell (by simpa [byr] using h3)⟩
theorem wrap_u8 (n : Nat) : IntKind.u8.wrap (n : Int) = ((UInt8.ofNat n).toNat : Int) := by
 rw [UInt8.toNat_ofNat']; simp [IntKind.wrap, IntKind.bits, IntKind.signed]
theorem run_str {P : Program} {src dst e : TypeId} (hs : P.underlying src = some (.slice e)) (he : P.underlying e = some (.int .u8)) (hd : P.underlying dst = some .string) {S : NP} {w : World} {s : Sl} {bs : List UInt8} (h : Lst S w 1 s (byr bs)) :
  (convert src dst s.v).run P w = .ok (.string ⟨bs.toArray⟩) w := by
 have hl : s.len = bs.length := by rw [h.len, byr_len]
 cases ha : s.a with
 | none =>
  have hb : bs = [] := by
   cases bs with
   | nil => rfl
   | cons b bs => obtain ⟨_, ⟨_, _, p, hp, _⟩, _⟩ := by_nth h (j := 0) (by simp); rw [ha] at hp; cases hp
  subst hb
  have : s.v = .slice none 0 s.cap := by unfold Sl.v; rw [ha, hl]; rfl
  rw [this, run_convert_bytes_string w src dst e none 0 s.cap hs he hd]; rfl
 | some p =>
  have : s.v = .slice (some p) bs.length s.cap := by unfold Sl.v; rw [ha, hl]
  rw [this]
  refine run_convert_bytes_back w src dst e p s.cap bs hs he hd fun j hj => ?_
  obtain ⟨a, ⟨_, _, b, hb, rfl⟩, _, hc⟩ := by_nth h hj
  rw [ha] at hb; cases hb
  simpa using hc
section
variable {P : Program} {t u e ty : TypeId} {w : World}
theorem firstCells_str (b : ByteArray) : (Builtin.firstCells 1 b.size (.string b)).run P w = .ok (b.data.map fun x => Value.int .u8 (x.toNat : Int)) w := by
 have hx : (Array.map (fun b : UInt8 => Value.int IntKind.u8 (b.toNat : Int)) b.data).extract 0 b.size = Array.map (fun b : UInt8 => Value.int IntKind.u8 (b.toNat : Int)) b.data := by
  have hs : b.size = (Array.map (fun b : UInt8 => Value.int IntKind.u8 (b.toNat : Int)) b.data).size := by rw [Array.size_map]; rfl
  rw [hs, Array.extract_size]
 simp [Builtin.firstCells, hx]
theorem run_append_none_str (T : SlType P t e 1 1) (hu : P.underlying u = some .string) (s : Sl) (hc : s.len ≤ s.cap) (b : ByteArray) (hb : b.size = 0) : (Builtin.append_ #[t, u] ty #[s.v, .string b]).run P w = .ok s.v w := by
 obtain ⟨a, n, c⟩ := s
 simp only at hc
 have hbd : b = ⟨#[]⟩ := by cases b; simp only [ByteArray.size] at hb; congr; exact Array.eq_empty_of_size_eq_zero hb
 subst hbd
 cases a <;> simp [Builtin.append_, Sl.v, run_underlying T.ht, run_underlying hu, T.sizeOf, Builtin.lenOf, Builtin.firstCells, storeCells, hc, ByteArray.size]
theorem Rws.appendStr (T : SlType P t e 1 1) (hu : P.underlying u = some .string) {s : Sl} {rs : List (List Value)} (h : Rws w e 1 s rs) (b : ByteArray) (hb : rs.length + b.size ≤ 140737488355328) (hm : rs.length + b.size ≤ maxLen) :
  ∃ s' w', (Builtin.append_ #[t, u] ty #[s.v, .string b]).run P w = .ok s'.v w' ∧ Rws w' e 1 s' (rs ++ byr b.data.toList) ∧ Ext s.blk w w' ∧ (∀ b, s'.blk b → s.blk b ∨ w.heap.size ≤ b) := by
 obtain ⟨i, z, hi, hz, hsz, hby, hzs⟩ := T.hi
 have hbl : b.data.toList.length = b.size := by rw [Array.length_toList]; rfl
 by_cases h0 : b.size = 0
 ·have hc : s.len ≤ s.cap := by
   rcases h.own with ⟨rfl, _⟩ | ⟨g, cur, _, _, hc, _⟩
   ·exact Nat.le_refl _
   ·rw [h.len]; exact hc
  have : b.data.toList = [] := List.length_eq_zero_iff.1 (by omega)
  rw [this]
  exact ⟨s, w, run_append_none_str T hu s hc b h0, by simpa [byr] using h, Ext.refl w, fun b hb => .inl hb⟩
 have hml : rs.length + b.size ≤ 9223372036854775807 := by simp only [maxLen] at hm; omega
 have hfl := flatten_len h.each
 have hql : (byr b.data.toList).length = b.size := by rw [byr_len, hbl]
 have heach : ∀ q ∈ rs ++ byr b.data.toList, q.length = 1 := fun q hq => (List.mem_append.1 hq).elim (h.each q) (byr_sz _ q)
 have hfq : (b.data.map (fun x => Value.int .u8 (x.toNat : Int))).toList = (byr b.data.toList).flatten := by rw [byr_flat]; simp
 have hsv : (b.data.map (fun x => Value.int .u8 (x.toNat : Int))).size = b.size := by rw [Array.size_map]; rfl
 rcases h.own with ⟨rfl, rfl⟩ | ⟨g, cur, ha, hg, hcap, hcm, hcs, htake⟩
 ·simp only [List.length_nil, Nat.zero_add] at hb hml hm
  have hrun := run_append_nil_string (P := P) w t u ty e i z T.ht hu hi hz b (by omega) (by omega) (by rw [hby]; omega)
  have hgr := Rws.grown (w := w) (e := e) (sz := 1) (rs := byr b.data.toList) (byr_sz _) (cur := b.data.map (fun x => Value.int .u8 (x.toNat : Int))) (by rw [hzs]) hfq (cap := grownCap w b.size 0 e) (by rw [hql]; exact grownCap_ge w _ 0 e) (grownCap_le_maxLen w _ 0 e hm)
  rw [hql] at hgr
  exact ⟨⟨some ⟨w.heap.size, 0, none⟩, b.size, grownCap w b.size 0 e⟩, _, hrun, by simpa using hgr, ⟨rfl, rfl, rfl, by simp, fun b hb _ => alloc_old' w.drew _ b hb⟩, fun b hb => by obtain ⟨a, ha, rfl⟩ := hb; cases ha; right; exact Nat.le_refl _⟩
 ·have hs' : s.v = .slice (some ⟨g, 0, none⟩) rs.length s.cap := by unfold Sl.v; rw [ha, h.len]
  by_cases hroom : rs.length + b.size ≤ s.cap
  ·have hfit : rs.length + (byr b.data.toList).flatten.length ≤ cur.size := by rw [flatten_len (byr_sz _), hql, hcs]; omega
   have h1' : ∀ u ∈ (byr b.data.toList).flatten, u.oneCell' = true := fun u hu => by
    rw [byr_flat] at hu
    obtain ⟨x, _, rfl⟩ := List.mem_map.1 hu; rfl
   have hst := run_storeCells_at P g rs.length e (byr b.data.toList).flatten 0 cur w hg (by simpa using hfit) h1'
   have hrun : (Builtin.append_ #[t, u] ty #[s.v, .string b]).run P w = .ok (.slice (some ⟨g, 0, none⟩) (rs.length + b.size) s.cap) (w.setRow g (cur.toList.take rs.length ++ (byr b.data.toList).flatten ++ cur.toList.drop (rs.length + (byr b.data.toList).flatten.length)).toArray) := by
    rw [hs']
    simp only [Nat.add_zero] at hst
    have hf := firstCells_str (P := P) (w := w) b
    rw [byr_flat] at hst ⊢
    simp [Builtin.append_, run_underlying T.ht, run_underlying hu, T.sizeOf, Builtin.lenOf, hroom, hf, Addr.add_lit, hst]
   refine ⟨⟨some ⟨g, 0, none⟩, rs.length + b.size, s.cap⟩, _, hrun, ⟨heach, by simp [hql], .inr ⟨g, _, rfl, setRow_heap w g cur _ e _ hg, by simpa [hql] using hroom, hcm, ?_, ?_⟩⟩, ⟨rfl, rfl, rfl, by simp, fun b hb hf => setRow_other w g b _ (fun e => hf ⟨_, ha, e.symm⟩)⟩, fun b hb => by obtain ⟨a, ha', rfl⟩ := hb; cases ha'; exact .inl ⟨_, ha, rfl⟩⟩
   ·simp only [List.size_toArray, List.length_append, List.length_take, List.length_drop, Array.length_toList]
    omega
   ·simp only [Nat.mul_one] at htake hfl ⊢
    rw [htake, List.flatten_append, List.length_append, hql]
    rw [flatten_len (byr_sz _), hql, ← hfl]
    simp only [Nat.mul_one]
    rw [show rs.flatten.length + b.size = (rs.flatten ++ (byr b.data.toList).flatten).length by rw [List.length_append, flatten_len (byr_sz _), hql]; omega]
    exact List.take_left
  ·have holds : ∀ j u, rs.flatten[j]? = some u → w.cell? ((⟨g, 0, none⟩ : Addr).add j) = some u := fun j u hu => by
    have hadd : (⟨g, 0, none⟩ : Addr).add j = ⟨g, j, none⟩ := by unfold Addr.add; split <;> simp_all
    rw [hadd, cell_of_row w g j cur e (0, 0) hg]
    rw [← htake, List.getElem?_take] at hu
    split at hu
    ·simpa using hu
    ·cases hu
   have hfit := growslice_fits (need := rs.length + b.size) (old := s.cap) (bytes := 1) (by omega) (by omega)
   have hgr := Rws.grown (w := w) (e := e) (sz := 1) (rs := rs ++ byr b.data.toList) heach (cur := rs.flatten.toArray ++ b.data.map (fun x => Value.int .u8 (x.toNat : Int))) (by rw [hzs]) (by simp [← hfq]) (cap := grownCap w (rs.length + b.size) s.cap e) (by rw [List.length_append, hql]; exact grownCap_ge w _ s.cap e) (grownCap_le_maxLen w _ _ e hm)
   have hrun : (Builtin.append_ #[t, u] ty #[s.v, .string b]).run P w = .ok (.slice (some ⟨w.heap.size, 0, none⟩) (rs.length + b.size) (grownCap w (rs.length + b.size) s.cap e)) (w.drew.alloc (.cells (rs.flatten.toArray ++ b.data.map (fun x => Value.int .u8 (x.toNat : Int)) ++ Builtin.zeroCells z.cells (grownCap w (rs.length + b.size) s.cap e - (rs.length + b.size))) e)) := by
    rw [hs']
    have hn : ¬ (rs.length + b.size ≤ s.cap) := by omega
    have h63' : ¬ (9223372036854775807 < ((rs.length : Int) + (b.size : Int))) := by omega
    have h48' : ¬ (281474976710656 < Builtin.nextslicecap (rs.length + b.size) s.cap * i.bytes) := by rw [hby]; omega
    have hfo := run_firstCells_some (P := P) w.drew i.size rs.length ⟨g, 0, none⟩ rs.length s.cap rs.flatten (by rw [hsz]; exact hfl) (by simpa using holds)
    have hf := firstCells_str (P := P) (w := w.drew) b
    rw [hsz] at hfo
    simp [Builtin.append_, run_underlying T.ht, run_underlying hu, sizeOf, typeInfo, zeroValue, hi, hz, Builtin.lenOf, hn, h63', h48', Question.forced, hf, hfo, newRow, grownCap, hsz]
    try (congr 2; apply Array.ext'; simp [List.append_assoc])
   rw [List.length_append, hql] at hgr
   exact ⟨⟨some ⟨w.heap.size, 0, none⟩, rs.length + b.size, grownCap w (rs.length + b.size) s.cap e⟩, _, hrun, hgr, ⟨rfl, rfl, rfl, by simp, fun b hb _ => alloc_old' w.drew _ b hb⟩, fun b hb => by obtain ⟨a, ha, rfl⟩ := hb; cases ha; right; exact Nat.le_refl _⟩
end
section
variable {P : Program} {w : World} {t : TypeId}
set_option maxRecDepth 4000 in
theorem or128 : ∀ m : Fin 256, m.val ||| 128 = m.val % 128 + 128 := by decide
theorem run_or128 (n : Nat) : (Go.binOp .or t (.int .u8 (IntKind.u8.wrap (n : Int))) (.int .u8 128)).run P w = .ok (.int .u8 ((UInt8.ofNat (n % 128 + 128)).toNat : Int)) w := by
 have h : IntKind.u8.wrap ((BitVec.ofInt IntKind.u8.bits (IntKind.u8.wrap (n : Int)) ||| BitVec.ofInt IntKind.u8.bits 128).toNat : Int) = ((UInt8.ofNat (n % 128 + 128)).toNat : Int) := by
  have e1 : (BitVec.ofInt IntKind.u8.bits (IntKind.u8.wrap (n : Int))).toNat = n % 256 := by
   rw [wrap_u8, UInt8.toNat_ofNat', BitVec.toNat_ofInt]
   simp [IntKind.bits]
   omega
  have e2 : (BitVec.ofInt IntKind.u8.bits 128).toNat = 128 := by decide
  rw [BitVec.toNat_or, e1, e2, or128 ⟨n % 256, Nat.mod_lt _ (by omega)⟩, wrap_u8]
  simp only [UInt8.toNat_ofNat']
  omega
 show ((pure (Value.int .u8 _) : Sem Value)).run P w = _
 rw [h]; rfl
theorem run_shr7 (n : Nat) : (Go.binOp .shr t (.int .u64 (n : Int)) (.int .u64 7)).run P w = .ok (.int .u64 ((n / 128 : Nat) : Int)) w := by
 simp [Go.binOp, go_sem, IntKind.bits]
theorem run_and127 (c : Nat) (h : c < 256) : (Go.binOp .and t (.int .u8 (c : Int)) (.int .u8 127)).run P w = .ok (.int .u8 ((c % 128 : Nat) : Int)) w := by
 have hr : IntKind.u8.wrap ((BitVec.ofInt IntKind.u8.bits (c : Int) &&& BitVec.ofInt IntKind.u8.bits 127).toNat : Int) = ((c % 128 : Nat) : Int) := by
  have e1 : (BitVec.ofInt IntKind.u8.bits (c : Int)).toNat = c := by
   rw [BitVec.toNat_ofInt]; simp [IntKind.bits]; omega
  have e2 : (BitVec.ofInt IntKind.u8.bits 127).toNat = 2 ^ 7 - 1 := by decide
  rw [BitVec.toNat_and, e1, e2, Nat.and_two_pow_sub_one_eq_mod, wrap_u8]
  simp only [UInt8.toNat_ofNat']
  omega
 show ((pure (Value.int .u8 _) : Sem Value)).run P w = _
 rw [hr]; rfl
theorem wrap_u64 {n : Nat} (h : n < 18446744073709551616) : IntKind.u64.wrap (n : Int) = (n : Int) := by
 simp [IntKind.wrap, IntKind.bits, IntKind.signed]; omega
theorem run_shl (x k : Nat) (hk : k < 64) (h : x * 2 ^ k < 18446744073709551616) : (Go.binOp .shl t (.int .u64 (x : Int)) (.int .i64 (k : Int))).run P w = .ok (.int .u64 ((x * 2 ^ k : Nat) : Int)) w := by
 have hr : IntKind.u64.wrap ((x : Int) * 2 ^ min (k : Int).toNat IntKind.u64.bits) = ((x * 2 ^ k : Nat) : Int) := by
  have : min (k : Int).toNat IntKind.u64.bits = k := by simp [IntKind.bits]; omega
  rw [this, ← wrap_u64 h]; simp
 have h0 : ¬ ((k : Int) < 0) := by omega
 show (Op.shift .shl .u64 (x : Int) .i64 (k : Int)).run P w = _
 unfold Op.shift
 rw [if_neg h0]
 show ((pure (Value.int .u64 (IntKind.u64.wrap ((x : Int) * 2 ^ min (k : Int).toNat IntKind.u64.bits))) : Sem Value)).run P w = _
 rw [hr]; rfl
theorem run_or64 (x y : Nat) (hx : x < 18446744073709551616) (hy : y < 18446744073709551616) : (Go.binOp .or t (.int .u64 (x : Int)) (.int .u64 (y : Int))).run P w = .ok (.int .u64 ((x ||| y : Nat) : Int)) w := by
 have hr : IntKind.u64.wrap ((BitVec.ofInt IntKind.u64.bits (x : Int) ||| BitVec.ofInt IntKind.u64.bits (y : Int)).toNat : Int) = ((x ||| y : Nat) : Int) := by
  have e (z : Nat) (hz : z < 18446744073709551616) : (BitVec.ofInt IntKind.u64.bits (z : Int)).toNat = z := by
   rw [BitVec.toNat_ofInt]; simp [IntKind.bits]; omega
  rw [BitVec.toNat_or, e x hx, e y hy, wrap_u64 (Nat.or_lt_two_pow (n := 64) hx hy)]
 show ((pure (Value.int .u64 _) : Sem Value)).run P w = _
 rw [hr]; rfl
theorem or_add {x y k : Nat} (h : x < 2 ^ k) : x ||| (y * 2 ^ k) = x + y * 2 ^ k := by
 have := Nat.shiftLeft_add_eq_or_of_lt h y
 rw [Nat.shiftLeft_eq] at this
 rw [Nat.or_comm, ← this, Nat.add_comm]
end
theorem Lst.sub {P : Program} {t e : TypeId} {sz bytes : Nat} {S : NP} (T : SlType P t e sz bytes) {w : World} {s : Sl} {rs : List (List Value)} (h : Lst S w sz s rs) (hcap : s.len ≤ s.cap) {k : IntKind} {lo n : Nat} (hn : lo + n ≤ rs.length) :
  ∃ s' : Sl, (Instr.sliceAt t s.v (some (.int k (lo : Int))) (some (.int k ((lo + n : Nat) : Int))) none).run P w = .ok s'.v w ∧ Lst S w sz s' ((rs.drop lo).take n) := by
 have h1 : ((lo + n : Nat) : Int) ≤ (s.cap : Int) := by rw [h.len] at hcap; omega
 have h2 : (lo : Int) ≤ ((lo + n : Nat) : Int) := by omega
 refine ⟨⟨if s.cap = lo then s.a else s.a.map (·.add (lo * sz)), n, s.cap - lo⟩, ?_, ⟨by simp; omega, fun i hi => ?_⟩⟩
 ·simp [Instr.sliceAt, Instr.slice, Sl.v, run_underlying T.ht, Instr.sliceBounds, Instr.sliceBound, asIntOf, T.sizeOf]
  rw [if_pos (by omega), if_pos (by omega), show ((lo : Int) + (n : Int)).toNat - lo = n by omega]
 ·have hi' : lo + i < rs.length := by simp at hi; omega
  obtain ⟨a, ⟨_, hlt, p, hp, rfl⟩, hS, hr⟩ := h.at_ (lo + i) hi'
  refine ⟨_, ⟨by omega, by simp at hi ⊢; omega, p.add (lo * sz), ?_, rfl⟩, ?_, ?_⟩
  ·rw [if_neg (by rw [h.len] at hcap; omega), hp]; rfl
  ·simpa [add_block] using hS
  ·have : (p.add (lo * sz)).add ((i : Int).toNat * sz) = p.add (((lo + i : Nat) : Int).toNat * sz) := by
    rw [add_add, Int.toNat_natCast, Int.toNat_natCast, Nat.add_mul]
   rw [this, List.getElem_take, List.getElem_drop]; exact hr
end Go.SE
end
section
open Go Go.SE
open Go.IntKind renaming i64 → q6
namespace Go.Proofs
set_option maxRecDepth 100000
set_option maxHeartbeats 4000000
attribute [local irreducible] wpL wpX opE wpE Calls
end Go.Proofs
end
section
open Go Go.SE
namespace Go.Proofs
attribute [local irreducible] Calls
def tmr (ts : List Int) : List (List Value) := ts.map fun t => [.int .i64 t]
theorem tmr_len (ts : List Int) : (tmr ts).length = ts.length := by simp [tmr]
theorem slT_tm : SlType Try.prog 39 32 1 8 := by
 refine ⟨Try.underlying39, ⟨Try.t32, _, by kernel_rfl, (by kernel_rfl : Try.t32.zero = some (.int .i64 0)), by kernel_rfl, by kernel_rfl, rfl⟩, by omega⟩
structure RetO (w : World) (e : TypeId) (sz : Nat) (rs : List (List Value)) (s : Sl) (w' : World) : Prop where
 rows : Rws w' e sz s rs
 own : ∀ b, s.blk b → w.heap.size ≤ b
 pure : Pure w w'
theorem RetO.kept {w : World} {H : NP} {e : TypeId} {sz : Nat} {rs : List (List Value)} {s : Sl} {w' : World} (h : RetO w e sz rs s w') : Kept H w w' := h.pure.keptP
theorem tm_nth {S : NP} {w : World} {s : Sl} {ts : List Int} (h : Lst S w 1 s (tmr ts)) {j : Nat} (hj : j < ts.length) : ∃ a, At s j 1 a ∧ S a.block ∧ w.cell? a = some (.int .i64 ts[j]) := by
 obtain ⟨a, h1, h2, h3⟩ := h.at_ j (by simpa [tmr] using hj)
 exact ⟨a, h1, h2, row_cell (by simpa [tmr] using h3)⟩
theorem run_equalIn_slnil {P : Program} (w : World) (d : Nat) {t e : TypeId} (a : Option Addr) (l c : Nat) (h : P.underlying t = some (.slice e)) : (Op.equalIn (d + 1) t (.slice a l c) (.slice none 0 0)).run P w = .ok a.isNone w := by
 cases a <;> simp [Op.equalIn, run_underlying h]
theorem run_eql_slnil {P : Program} (w : World) {t e : TypeId} (a : Option Addr) (l c : Nat) (h : P.underlying t = some (.slice e)) : (Go.binOp .eql t (.slice a l c) (.slice none 0 0)).run P w = .ok (.bool a.isNone) w := by
 simp only [Go.binOp]
 simp [Op.equal, Op.maxDepth, run_equalIn_slnil w 9999 a l c h]
end Go.Proofs
end
section
open Nat
namespace Go.Proofs
def varint (n : Nat) : List UInt8 := if h : n < 128 then [UInt8.ofNat n] else UInt8.ofNat (n % 128 + 128) :: varint (n / 128)
theorem varint_lt {n : Nat} (h : n < 128) : varint n = [UInt8.ofNat n] := by rw [varint, dif_pos h]
theorem varint_ge {n : Nat} (h : 128 ≤ n) : varint n = UInt8.ofNat (n % 128 + 128) :: varint (n / 128) := by rw [varint, dif_neg (by omega)]
theorem varint_len (k : Nat) : ∀ n, n < 128 ^ (k + 1) → (varint n).length ≤ k + 1 := by
 induction k with
 | zero => intro n h; rw [varint_lt (by simpa using h)]; simp
 | succ k ih =>
  intro n h
  by_cases h1 : n < 128
  ·rw [varint_lt h1]; simp
  ·rw [varint_ge (by omega), List.length_cons]
   have := ih (n / 128) (by rw [Nat.div_lt_iff_lt_mul (by omega)]; rw [Nat.pow_succ] at h; exact h)
   omega
theorem varint_le10 {n : Nat} (h : n < 18446744073709551616) : (varint n).length ≤ 10 := varint_len 9 n (by omega)
def textBytes (s : ByteArray) : List UInt8 := varint s.size ++ s.data.toList
def rdNum : Nat → Nat → List UInt8 → Except Nat (Nat × Nat)
 | _, _, [] => .error 3
 | i, n, c :: l =>
  if i = 9 ∧ 1 < c.toNat then .error 11
  else if c.toNat < 128 then (if c.toNat = 0 ∧ 0 < i then .error 10 else .ok (n + c.toNat * 128 ^ i, i + 1))
  else rdNum (i + 1) (n + c.toNat % 128 * 128 ^ i) l
theorem rdNum_cons (i n : Nat) (c : UInt8) (l : List UInt8) : rdNum i n (c :: l) = (if i = 9 ∧ 1 < c.toNat then .error 11
  else if c.toNat < 128 then (if c.toNat = 0 ∧ 0 < i then .error 10 else .ok (n + c.toNat * 128 ^ i, i + 1))
  else rdNum (i + 1) (n + c.toNat % 128 * 128 ^ i) l) := rfl
structure Rd where
 at_ : Nat
 err : Nat
 spot : Nat
def rNum (bs : List UInt8) (r : Rd) : Nat × Rd :=
 if r.err = 0 then match rdNum 0 0 (bs.drop r.at_) with
  | .ok (n, k) => (n, ⟨r.at_ + k, 0, r.spot⟩)
  | .error x => (0, ⟨r.at_, x, r.at_⟩)
 else (0, r)
def rByte (bs : List UInt8) (r : Rd) : Nat × Rd :=
 if r.err = 0 then (if h : r.at_ < bs.length then (bs[r.at_].toNat, ⟨r.at_ + 1, 0, r.spot⟩) else (0, ⟨r.at_, 3, r.at_⟩))
 else (0, r)
def rText (bs : List UInt8) (most : Nat) (r : Rd) : List UInt8 × Rd :=
 if r.err = 0 then match rdNum 0 0 (bs.drop r.at_) with
  | .ok (n, k) => if most < n then ([], ⟨r.at_, 1, r.at_⟩) else if bs.length < r.at_ + k + n then ([], ⟨r.at_, 3, r.at_⟩) else ((bs.drop (r.at_ + k)).take n, ⟨r.at_ + k + n, 0, r.spot⟩)
  | .error x => ([], ⟨r.at_, x, r.at_⟩)
 else ([], r)
end Go.Proofs
end
section
open Go Go.SE
namespace Go.Proofs
attribute [local irreducible] Calls
theorem slT_by : SlType Try.prog 44 5 1 1 := by
 refine ⟨Try.underlying44, ⟨Try.t5, _, by kernel_rfl, (by kernel_rfl : Try.t5.zero = some (.int .u8 0)), by kernel_rfl, by kernel_rfl, rfl⟩, by omega⟩
theorem c_byClone {S : NP} (s : Sl) (bs : List UInt8) (w0 : World) (hs : Lst S w0 1 s (byr bs)) (hz : s.a = none → s = Sl.nil) (hn : bs.length ≤ 100000000000) :
  Calls Try.prog 182 #[s.v] w0 (fun e w' => ∃ r : Sl, e = .returned r.v ∧ RetO w0 5 1 (byr bs) r w') := by
 refine w_B1 _ w0 (fun r w' => RetO w0 5 1 (byr bs) r w') ?_
 unfold m_B1
 refine ⟨s.a.isNone, ?_, fun h => ?_, fun h => ?_⟩
 ·exact run_eql_slnil w0 s.a s.len s.cap Try.underlying44
 ·have hs0 := hz (Option.isNone_iff_eq_none.1 h)
  subst hs0
  have : bs = [] := by have := hs.len; rw [byr_len] at this; exact List.length_eq_zero_iff.1 this.symm
  subst this
  exact ⟨Rws.nil _ _ _, fun b hb => (by obtain ⟨a, ha, _⟩ := hb; cases ha), Ext.refl _⟩
 ·intro p1 w1 h1
  have E1 : Pure w0 w1 := Ext.new h1
  obtain ⟨s2, w2, hr, hR, hE, hb⟩ := (Rws.empty (sz := 1) h1).appendL (P := Try.prog) (ty := 44) slT_by (hs.pure E1) (byr_sz _) (byr_one _) (by rw [byr_len]; simp; omega) (by rw [byr_len]; simp [maxLen]; omega)
  have hp := h1.at_size
  have hp' : ∀ b, (Sl.mk (some p1) 0 0).blk b → w0.heap.size ≤ b := fun b hb => (by obtain ⟨a, ha, e⟩ := hb; cases ha; omega)
  exact ⟨s2, w2, hr, by simpa using hR, fun b h => (hb b h).elim (hp' b) (fun h => by have := E1.size; omega), E1.trans' hE (fun i hi h => by have := hp' i h; omega)⟩
theorem RetO.put {w0 w w1 : World} {s : Sl} {bs : List UInt8} {x : UInt8} {p : Addr} (h : RetO w0 5 1 (byr bs) s w) (hn : New w (.cells #[.int .u8 (x.toNat : Int)] 5) p w1) (hl : bs.length ≤ 100000000000) :
  ∃ s' w', (Builtin.append_ #[44, 44] 44 #[s.v, (Sl.mk (some p) 1 1).v]).run Try.prog w1 = .ok s'.v w' ∧ RetO w0 5 1 (byr (bs ++ [x])) s' w' := by
 have E1 : Pure w w1 := Ext.new hn
 have hrow : Row w1 p [.int .u8 (x.toNat : Int)] := (Box.of_newA hn).row
 obtain ⟨s', w', hr, hR, hE, hb⟩ := (h.rows.pure E1).append (ty := 44) (c := 1) slT_by hrow rfl rfl (by rw [byr_len]; omega) (by rw [byr_len]; simp [maxLen]; omega)
 have h1 := (h.pure.trans E1)
 exact ⟨s', w', hr, by rw [byr_app]; exact hR, fun b hb' => (hb b hb').elim (h.own b) (fun h2 => by have := h1.size; omega), h1.trans' hE (fun i hi h2 => by have := h.own i h2; omega)⟩
theorem RetO.text {w0 w : World} {s : Sl} {bs : List UInt8} {x : ByteArray} (h : RetO w0 5 1 (byr (bs ++ varint x.size)) s w) (hn : bs.length ≤ 10000000000) (hN : x.size ≤ 10000000000) :
  ∃ s' w', (Builtin.append_ #[44, 9] 44 #[s.v, .string x]).run Try.prog w = .ok s'.v w' ∧ RetO w0 5 1 (byr (bs ++ textBytes x)) s' w' := by
 have hv := varint_le10 (n := x.size) (by omega)
 obtain ⟨s', w', hr, hR, hE, hb⟩ := h.rows.appendStr (ty := 44) slT_by Try.underlying9 x (by rw [byr_len, List.length_append]; omega) (by rw [byr_len, List.length_append]; simp [maxLen]; omega)
 refine ⟨s', w', hr, ?_, fun b hb' => (hb b hb').elim (h.own b) (fun h2 => by have := h.pure.size; omega), h.pure.trans' hE (fun i hi h2 => by have := h.own i h2; omega)⟩
 rw [textBytes, ← List.append_assoc, byr_app]; exact hR
theorem c_putNum {S : NP} (s : Sl) (bs : List UInt8) (n : Nat) (w0 : World) (hs : Lst S w0 1 s (byr bs)) (hz : s.a = none → s = Sl.nil) (hn : bs.length ≤ 10000000000) (hN : n < 18446744073709551616) :
  Calls Try.prog 167 #[s.v, .int .u64 (n : Int)] w0 (fun e w' => ∃ r : Sl, e = .returned r.v ∧ RetO w0 5 1 (byr (bs ++ varint n)) r w') := by
 refine w_X _ _ w0 (fun r w' => RetO w0 5 1 (byr (bs ++ varint n)) r w') ?_
 unfold m_X
 refine (c_byClone s bs w0 hs hz (by omega)).mono ?_
 rintro _ w1 ⟨r1, rfl, h1⟩
 refine ⟨r1, rfl, fun b m w => ∃ k : Nat, ∃ xs : List UInt8, m = (k : Int) ∧ k < 18446744073709551616 ∧ xs ++ varint k = bs ++ varint n ∧ RetO w0 5 1 (byr xs) b w, fun _ m _ => m.toNat, ⟨n, bs, rfl, hN, rfl, h1⟩, ?_⟩
 rintro b _ w ⟨k, xs, rfl, hk, hx, hR⟩
 have hlen : xs.length ≤ 10000000010 := by
  have := congrArg List.length hx
  have := varint_le10 hN
  simp only [List.length_append] at *
  omega
 unfold m_X_l1
 refine ⟨fun h => ?_, fun h => ?_⟩
 ·have h := of_decide_eq_true h
  refine ⟨_, run_or128 k, fun p2 w2 h2 => ?_⟩
  obtain ⟨s', w', hr, hR'⟩ := hR.put h2 (by omega)
  refine ⟨s', w', hr, _, run_shr7 k, ⟨k / 128, xs ++ [UInt8.ofNat (k % 128 + 128)], rfl, by omega, ?_, hR'⟩, by show (((k / 128 : Nat) : Int)).toNat < ((k : Int)).toNat; omega⟩
  rw [← hx, varint_ge (n := k) (by omega)]; simp
 ·have h := of_decide_eq_false h
  intro p2 w2 h2
  rw [wrap_u8] at h2
  obtain ⟨s', w', hr, hR'⟩ := hR.put h2 (by omega)
  refine ⟨s', w', hr, ?_⟩
  rw [← hx, varint_lt (n := k) (by omega)]; exact hR'
theorem c_putText {S : NP} (s : Sl) (bs : List UInt8) (x : ByteArray) (w0 : World) (hs : Lst S w0 1 s (byr bs)) (hz : s.a = none → s = Sl.nil) (hn : bs.length ≤ 10000000000) (hN : x.size ≤ 10000000000) :
  Calls Try.prog 175 #[s.v, .string x] w0 (fun e w' => ∃ r : Sl, e = .returned r.v ∧ RetO w0 5 1 (byr (bs ++ textBytes x)) r w') := by
 refine w_T1 _ _ w0 (fun r w' => RetO w0 5 1 (byr (bs ++ textBytes x)) r w') ?_
 unfold m_T1
 rw [show IntKind.u64.wrap (x.size : Int) = (x.size : Int) by simp [IntKind.wrap, IntKind.bits, IntKind.signed]; omega]
 refine (c_putNum s bs x.size w0 hs hz hn (by omega)).mono ?_
 rintro _ w1 ⟨r1, rfl, h1⟩
 exact ⟨r1, rfl, h1.text hn hN⟩
end Go.Proofs
end
section
namespace Go.SE
section
variable {P : Program} {n : Nat} {ρ : Env} {w : World} {ds : List Deferred} {Q : Exit → Act → World → Prop} {a : Act}
theorem wpD_first {c1 c2 : Code} (ha : Rep ds n ρ a)
  (h : wpE (x := ⟨none, ds⟩) P n c1 (fun e ρ' w' => match e with | .normal => ∀ a', Rep ds n ρ' a' → c2.wp P Q a' w' | .panic ch => ∀ a', Rep ds n ρ' a' → Q (.panic ch) a' w' | _ => False) ρ w) : (Code.seq c1 c2).wp P Q a w := by
 refine wp_seq (wpIn_wide.1 (wpIn_mono (h a ha) ?_))
 rintro e a' w' ⟨ρ', ⟨hr, hq⟩ | ⟨rfl, _, _, D, hr, hD, hq⟩⟩
 ·cases e <;> first | exact hq.elim | exact hq _ hr
 ·exact hq.elim
theorem wpD_last {c : Code} (ha : Rep ds n ρ a)
  (h : wpE (x := ⟨none, ds⟩) P n c (fun e ρ' w' => match e with | .normal => ∀ a', Rep ds n ρ' a' → Q .normal a' w' | .panic ch => ∀ a', Rep ds n ρ' a' → Q (.panic ch) a' w' | _ => False) ρ w) : c.wp P Q a w := by
 refine wpIn_wide.1 (wpIn_mono (h a ha) ?_)
 rintro e a' w' ⟨ρ', ⟨hr, hq⟩ | ⟨rfl, _, _, D, hr, hD, hq⟩⟩
 ·cases e <;> first | exact hq.elim | exact hq _ hr
 ·exact hq.elim
theorem wpD_defer {id t : Nat} {f : FuncId} {caps : Array Operand} {ty ty' : TypeId} {pos pos' : String} {aft aft' : Array Edge} {c2 : Code} (ha : Rep ds n ρ a) (ht : t < n)
  (h : ∀ a', Rep (⟨.fn (.func f) (caps.map (evE ρ)), #[]⟩ :: ds) n (put ρ (some t) (.func (.func f) #[] (caps.map (evE ρ)))) a' → c2.wp P Q a' w) :
  (Code.seq (.region id #[⟨some t, .makeFunc (.func f) #[] caps, ty, pos, aft, none⟩, ⟨none, .defer ⟨.value (.tmp t), #[], #[]⟩, ty', pos', aft', none⟩] false) c2).wp P Q a w := by
 have h1 : Rep ds n (put ρ (some t) (.func (.func f) #[] (caps.map (evE ρ)))) (a.put (some t) (.func (.func f) #[] (caps.map (evE ρ)))) := ha.put (fun k e => by cases e; exact ht) _
 have h2 := h ({ (a.put (some t) (.func (.func f) #[] (caps.map (evE ρ)))) with defers := ⟨.fn (.func f) (caps.map (evE ρ)), #[]⟩ :: ds }.put none undef) ⟨rfl, h1.size, h1.get⟩
 refine wp_seq ((wpIn_wide (n := 0)).1 (wpIn_region_lit (l := [_, _]) ?_))
 unfold wpListIn
 rw [if_pos (by simp [Region.wanted])]
 refine wpIn_of_yldP (ro := none) ⟨by simp, ?_⟩
 rw [ha.eval]
 simp only [execOp, Instr.makeFunc]
 show wpListIn _ 0 P _ _ _ _ _
 unfold wpListIn
 rw [if_pos (by simp [Region.wanted])]
 refine ⟨fun f _ => trivial, ?_⟩
 have hev : (a.put (some t) (.func (.func f) #[] (caps.map (evE ρ)))).eval (.tmp t) = .func (.func f) #[] (caps.map (evE ρ)) := by
  rw [h1.eval]; simp [evE, put, upd]
 have hd := h1.defers
 simp [Oper.semAt, Fence.wide, execOp, resolve, hev, Deferred.ofValue, Oper.uponIn, wpListIn, Exit.then, hd]
 exact h2
theorem calls_of_wpD {f : FuncId} {fn : Func} {c : Code} {args : List Value} {R : Ending → World → Prop} (hf : P.funcs[f]? = some fn) (hb : fn.body = some c) (hn : fn.ntmps = n) (hl : args.length ≤ n)
  (h : ∀ a, Rep [] n (argsE args) a → c.wp P (bodyPostD P fn R) a w) : Calls P f args.toArray w R := by
 subst hn; exact calls_of_wp_defers hf hb (h _ (rep_args args hl))
inductive Recov : FrameMode → Value → FrameMode → Prop
 | idle : Recov .returning .nilIface .returning
 | hit (v : Value) (older : List PanicEntry) : Recov (.panicking ({ v := v, recovered := false } :: older)) v (.panicking ({ v := v, recovered := true } :: older))
def bodyEN (P : Program) (fn : Func) (n : Nat) (R : Ending → World → Prop) : Exit → Env → World → Prop
 | .normal, ρ, w => ∃ v, (∀ ds a, Rep ds n ρ a → (results fn a.tmps).run P w = .ok v w) ∧ R (.returned v) w
 | .panic ch, _, w => R (.panicked ch) w
 | _, _, _ => False
theorem callsD_recover {id t t2 : Nat} {f : FuncId} {fn : Func} {c : Code} {args : List Value} {v : Value} {u u' : FrameMode} {R : Ending → World → Prop} {ty ty' : TypeId} {pos pos' : String} {aft aft' : Array Edge}
  (hu : Recov u v u') (hf : P.funcs[f]? = some fn)
  (hb : fn.body = some (Code.seq (.region id #[⟨some t, .call ⟨.builtin .recover, #[], #[]⟩, ty, pos, aft, none⟩, ⟨some t2, .assign (.tmp t), ty', pos', aft', none⟩] false) c))
  (hn : fn.ntmps = n) (hl : args.length ≤ n) (ht : t < n) (ht2 : t2 < n)
  (h : wpE (x := ⟨none, []⟩) P n c (bodyEN P fn n R) (put (put (argsE args) (some t) v) (some t2) v) w) :
  CallsD P f args.toArray u w (fun e u1 w' => u1 = u' ∧ R e w') := by
 subst hn
 refine callsD_of_wpS hf hb fun c₀ cs hm => ?_
 apply wpS_seq
 apply wpS_region
 have hr := rep_args args hl
 have h1 : Rep [] fn.ntmps (put (argsE args) (some t) v) _ := hr.put (d := some t) (fun k e => by cases e; exact ht) v
 have h2 : Rep [] fn.ntmps (put (put (argsE args) (some t) v) (some t2) v) _ := h1.put (d := some t2) (fun k e => by cases e; exact ht2) v
 have hv : ((Act.mk (args.toArray ++ Array.replicate (fn.ntmps - args.toArray.size) undef) []).put (some t) v).eval (.tmp t) = v := by
  rw [h1.eval]; simp [evE, put, upd]
 have key : ∀ cs', cs' = { c₀ with mode := u' } :: cs → c.wpS P (bodyPostS P fn c₀ cs fun e u1 w' => u1 = u' ∧ R e w') ((((Act.mk (args.toArray ++ Array.replicate (fn.ntmps - args.toArray.size) undef) []).put (some t) v)).put (some t2) v) cs' w := by
  rintro cs' rfl
  refine wpS_of_wp (wpD_last h2 (wpE_mono ?_ h))
  intro e ρ' w' hq
  cases e with
  | normal =>
   intro a' ha'
   obtain ⟨x, hx, hR⟩ := hq
   exact ⟨ha'.defers, u', rfl, x, hx _ a' ha', rfl, hR⟩
  | panic ch =>
   intro a' ha'
   exact ⟨ha'.defers, u', rfl, rfl, hq⟩
  | _ => exact hq.elim
 have h0 : (execOp (Act.mk (args.toArray ++ Array.replicate (fn.ntmps - args.toArray.size) undef) []).eval ⟨some t, .call ⟨.builtin .recover, #[], #[]⟩, ty, pos, aft, none⟩).run P w = .ok .recover w := by
  simp [execOp, resolve, invoke, builtin]
 show wpOpsS P _ _ [0, 1] _ _ _
 cases hu with
 | idle =>
  have hrd : recoverD (c₀ :: cs) = none := by simp [recoverD, hm]
  simp only [wpOpsS, List.getElem?_toArray, List.getElem?_cons_zero, List.getElem?_cons_succ]
  rw [if_pos (by simp [Region.wanted]), h0]
  simp only [hrd]
  rw [if_pos (by simp [Region.wanted])]
  simp only [execOp, hv, Oper.upon]
  exact key _ (by cases c₀; simp_all)
 | hit v older =>
  have hrd : recoverD (c₀ :: cs) = some (v, { c₀ with mode := .panicking ({ v := v, recovered := true } :: older) } :: cs) := by simp [recoverD, hm]
  simp only [wpOpsS, List.getElem?_toArray, List.getElem?_cons_zero, List.getElem?_cons_succ]
  rw [if_pos (by simp [Region.wanted]), h0]
  simp only [hrd]
  rw [if_pos (by simp [Region.wanted])]
  simp only [execOp, hv, Oper.upon]
  exact key _ rfl
end
end Go.SE
end
section
open Go Go.SE
namespace Go.Proofs
attribute [local irreducible] Calls CallsD
theorem x_assertOk {P : Program} {ε : Operand → Value} {w : World} {d : Option Tmp} {ty : TypeId} {pos : String} {aft : Array Edge} {g : Option (Nat × Bool)} {x : Operand} {X T : TypeId} {v : Value} {td : TypeDesc} (hx : ε x = .iface T v) (ht : P.underlying T = some td) (hi : ∀ m, td ≠ .interface m) :
  (execOp ε ⟨d, .typeAssert x X T true, ty, pos, aft, g⟩).run P w = .ok (.value (.tuple #[v, .bool true])) w := by
 simp only [execOp, hx]
 have : (Instr.typeAssert (.iface T v) X T true).run P w = .ok (.tuple #[v, .bool true]) w := by
  unfold Instr.typeAssert
  simp only [Sem.run_bind, run_underlying ht, Result.andThen]
  cases td <;> first | exact absurd rfl (hi _) | simp
 simp [this]
set_option maxRecDepth 100000 in
theorem c_recIdle (pf pr : Addr) (w : World) : CallsD Try.prog 225 #[.pointer (some pf), .pointer (some pr)] .returning w (fun e u' w' => u' = .returning ∧ (e = .returned (.tuple #[]) ∧ w' = w)) := by
 refine callsD_recover (args := [.pointer (some pf), .pointer (some pr)]) (R := fun e w' => e = .returned (.tuple #[]) ∧ w' = w) .idle Try.func225 rfl Try.ntmps225 (Nat.le_of_ble_eq_true rfl) (by decide) (by decide) ?_
 refine wpE_seq ?_
 refine rg ?_
 refine q0 .nilIface ?_
 refine q0 (.bool false) ?_
 refine wpL_nil ?_
 refine th_n ?_
 refine wpE_cond (t := false) (by kernel_rfl) (fun hc1 => by cases hc1) (fun hc1 => ?_)
 refine wpE_skip ?_
 exact ⟨.tuple #[], fun ds a ha => by rw [results_none Try.results225], rfl, rfl⟩
set_option maxRecDepth 100000 in
theorem c_recHit (pf pr r : Addr) (from_ e : Int) (older : List PanicEntry) (w : World) (hf : w.cell? pf = some (.int .i64 from_)) (hr : w.cell? pr = some (.pointer (some r))) (h1 : CanW w (r.add 1)) (h2 : CanW w (r.add 2)) (h3 : CanW w (r.add 3)) :
  CallsD Try.prog 225 #[.pointer (some pf), .pointer (some pr)] (.panicking ({ v := .iface 254 (.int .i64 e), recovered := false } :: older)) w (fun e' u' w' => u' = .panicking ({ v := .iface 254 (.int .i64 e), recovered := true } :: older) ∧
   (e' = .returned (.tuple #[]) ∧ w' = ((w.setCell (r.add 1) (.int .i64 from_)).setCell (r.add 2) (.int .i64 e)).setCell (r.add 3) (.int .i64 from_))) := by
 refine callsD_recover (args := [.pointer (some pf), .pointer (some pr)]) (R := fun e' w' => e' = .returned (.tuple #[]) ∧ w' = ((w.setCell (r.add 1) (.int .i64 from_)).setCell (r.add 2) (.int .i64 e)).setCell (r.add 3) (.int .i64 from_)) (.hit _ older) Try.func225 rfl Try.ntmps225 (Nat.le_of_ble_eq_true rfl) (by decide) (by decide) ?_
 refine wpE_seq ?_
 refine rg ?_
 refine q0 (.iface 254 (.int .i64 e)) ?_
 refine q0 (.bool true) ?_
 refine wpL_nil ?_
 refine th_n ?_
 refine wpE_cond (t := true) (by kernel_rfl) (fun hc1 => ?_) (fun hc1 => by cases hc1)
 refine wpE_seq ?_
 refine rg ?_
 refine q0 (.iface 254 (.int .i64 e)) ?_
 refine q2 (.tuple #[.int .i64 e, .bool true]) (x_assertOk (by kernel_rfl) Try.underlying254 (by intro m; simp)) ?_
 refine q0 (.tuple #[.int .i64 e, .bool true]) ?_
 refine q0 (.int .i64 e) ?_
 refine q0 (.bool true) ?_
 refine q0 (.int .i64 e) ?_
 refine q0 (.bool true) ?_
 refine wpL_nil ?_
 refine th_n ?_
 refine wpE_seq ?_
 refine wpE_seq ?_
 refine rg ?_
 refine q0 (.bool true) ?_
 refine q0 (.bool false) ?_
 refine wpL_nil ?_
 refine th_n ?_
 refine wpE_cond (t := false) (by kernel_rfl) (fun hc1 => by cases hc1) (fun hc1 => ?_)
 refine wpE_skip ?_
 refine th_n ?_
 refine rg ?_
 refine q2 (.pointer (some r)) (x_load (a := pr) (by kernel_rfl) (Try.isAgg196 _) hr) ?_
 refine q2 (.pointer (some r)) (x_load (a := pr) (by kernel_rfl) (Try.isAgg196 _) hr) ?_
 refine q2 (.pointer (some r)) (x_load (a := pr) (by kernel_rfl) (Try.isAgg196 _) hr) ?_
 refine q2 (.int .i64 from_) (x_load (a := pf) (by kernel_rfl) (Try.isAgg3 _) hf) ?_
 refine q0 (.int .i64 e) ?_
 refine q2 (.int .i64 from_) (x_load (a := pf) (by kernel_rfl) (Try.isAgg3 _) hf) ?_
 refine q0 (.pointer (some r)) ?_
 refine q0 (.pointer (some (r.add 1))) ?_
 refine st_set (want0 rfl) (x_store (a := r.add 1) (v := .int .i64 from_) (by kernel_rfl) (by kernel_rfl) rfl (Try.sizeOf3 _) h1) ?_
 rintro w1 rfl
 refine q0 (.pointer (some r)) ?_
 refine q0 (.pointer (some (r.add 2))) ?_
 refine st_set (want0 rfl) (x_store (a := r.add 2) (v := .int .i64 e) (by kernel_rfl) (by kernel_rfl) rfl (Try.sizeOf33 _) (CanW.setCell h2)) ?_
 rintro w2 rfl
 refine q0 (.pointer (some r)) ?_
 refine q0 (.pointer (some (r.add 3))) ?_
 refine st_set (want0 rfl) (x_store (a := r.add 3) (v := .int .i64 from_) (by kernel_rfl) (by kernel_rfl) rfl (Try.sizeOf3 _) (CanW.setCell (CanW.setCell h3))) ?_
 rintro w3 rfl
 refine wpL_nil ?_
 exact ⟨.tuple #[], fun ds a ha => by rw [results_none Try.results225], rfl, rfl⟩
end Go.Proofs
end
section
open Go Go.SE
namespace Go.Proofs
attribute [local irreducible] Calls CallsD
theorem inv_of {P : Program} {w : World} {f : FuncId} {cap args : Array Value} (hc : ∀ args w, (callFunc f args).run P w = .ok (.enter f args) w) (h : cap = args) : (invoke (.fn (.func f) cap) #[]).run P w = .ok (.enter f args) w := by
 subst h; simp [invoke, hc]
set_option maxRecDepth 100000 in
theorem c_readsOff (r : Addr) (do_ : Value) (e : Int) (w0 : World) (he : w0.cell? (r.add 2) = some (.int .i64 e)) (h0 : e ≠ 0) :
  Calls Try.prog 207 #[.pointer (some r), do_] w0 (fun e w' => e = .returned (.tuple #[]) ∧ Pure w0 w') := by
 refine calls_of_wpE (args := [.pointer (some r), do_]) Try.func207 rfl Try.ntmps207 (Nat.le_of_ble_eq_true rfl) ?_
 refine wpE_seq ?_
 refine rg ?_
 refine st_new (O := (.cells #[(.pointer (some r))] 196)) (fun p => .pointer (some p)) (want0 rfl) (x_box (cs := #[(.pointer (some r))]) (by kernel_rfl)) ?_
 intro p1 w1 hn1
 have E1 : Pure w0 w1 := Ext.new hn1
 have hp1 : w1.cell? p1 = some (.pointer (some r)) := (Box.of_newA hn1).cell0
 have he1 := E1.cell he id
 refine wpL_nil ?_
 refine th_n ?_
 refine wpE_seq ?_
 refine wpE_seq ?_
 refine rg ?_
 refine q2 (.pointer (some r)) (x_load (a := p1) (by kernel_rfl) (Try.isAgg196 _) hp1) ?_
 refine q2 (.bool false) (x_ptreq (x := some r) (by kernel_rfl) rfl Try.underlying196) ?_
 refine q0 (.bool false) ?_
 refine q2 (.pointer (some r)) (x_load (a := p1) (by kernel_rfl) (Try.isAgg196 _) hp1) ?_
 refine q0 (.pointer (some r)) ?_
 refine q0 (.pointer (some (r.add 2))) ?_
 refine q2 (.int .i64 e) (x_load (a := r.add 2) (by kernel_rfl) (Try.isAgg33 _) he1) ?_
 refine q0 (.bool ((e : Int) != 0)) ?_
 refine q0 (.bool ((e : Int) != 0)) ?_
 refine wpL_nil ?_
 refine th_n ?_
 refine wpE_cond (t := true) (by rw [show ((e : Int) != 0) = true by simpa using h0]; kernel_rfl) (fun hc1 => ?_) (fun hc1 => by cases hc1)
 refine wpE_ret ?_
 refine th_r ?_
 exact res0 (.inl rfl) Try.results207 ⟨rfl, E1⟩
set_option maxRecDepth 100000 in
theorem c_reads (r : Addr) (fd : FuncId) (caps : Array Value) (at_ : Int) (w0 : World) (K : WP) (h1 : w0.cell? (r.add 1) = some (.int .i64 at_)) (h2 : w0.cell? (r.add 2) = some (.int .i64 0))
  (hc : ∀ args w, (callFunc fd args).run Try.prog w = .ok (.enter fd args) w)
  (hdo : ∀ w1 p pf, Pure w0 w1 → w0.heap.size ≤ Addr.block p → w0.heap.size ≤ Addr.block pf → w1.cell? p = some (.pointer (some r)) → w1.cell? pf = some (.int .i64 at_) →
   Calls Try.prog fd caps w1 (fun e w2 => (e = .returned (.tuple #[]) ∧ K w2) ∨ ∃ x, e = .panicked [{ v := .iface 254 (.int .i64 x), recovered := false }] ∧ w2.cell? p = some (.pointer (some r)) ∧ w2.cell? pf = some (.int .i64 at_) ∧ CanW w2 (r.add 1) ∧ CanW w2 (r.add 2) ∧ CanW w2 (r.add 3) ∧
    K (((w2.setCell (r.add 1) (.int .i64 at_)).setCell (r.add 2) (.int .i64 x)).setCell (r.add 3) (.int .i64 at_)))) :
  Calls Try.prog 207 #[.pointer (some r), .func (.func fd) #[] caps] w0 (fun e w' => e = .returned (.tuple #[]) ∧ K w') := by
 refine calls_of_wpD (args := [.pointer (some r), .func (.func fd) #[] caps]) Try.func207 rfl Try.ntmps207 (Nat.le_of_ble_eq_true rfl) ?_
 intro a ha
 refine wpD_first ha ?_
 refine rg ?_
 refine st_new (O := (.cells #[(.pointer (some r))] 196)) (fun p => .pointer (some p)) (want0 rfl) (x_box (cs := #[(.pointer (some r))]) (by kernel_rfl)) ?_
 intro p1 w1 hn1
 have E1 : Pure w0 w1 := Ext.new hn1
 have hp1 : w1.cell? p1 = some (.pointer (some r)) := (Box.of_newA hn1).cell0
 have he1 := E1.cell h2 id
 have hb1 := hn1.at_size
 clear ha
 refine wpL_nil ?_
 intro a ha
 refine wpD_first ha ?_
 refine wpE_seq ?_
 refine rg ?_
 refine q2 (.pointer (some r)) (x_load (a := p1) (by kernel_rfl) (Try.isAgg196 _) hp1) ?_
 refine q2 (.bool false) (x_ptreq (x := some r) (by kernel_rfl) rfl Try.underlying196) ?_
 refine q0 (.bool false) ?_
 refine q2 (.pointer (some r)) (x_load (a := p1) (by kernel_rfl) (Try.isAgg196 _) hp1) ?_
 refine q0 (.pointer (some r)) ?_
 refine q0 (.pointer (some (r.add 2))) ?_
 refine q2 (.int .i64 0) (x_load (a := r.add 2) (by kernel_rfl) (Try.isAgg33 _) he1) ?_
 refine q0 (.bool false) ?_
 refine q0 (.bool false) ?_
 refine wpL_nil ?_
 refine th_n ?_
 refine wpE_cond (t := false) (by kernel_rfl) (fun hc1 => by cases hc1) (fun hc1 => ?_)
 refine wpE_skip ?_
 clear ha
 intro a ha
 refine wpD_first ha ?_
 refine rg ?_
 refine q2 (.pointer (some r)) (x_load (a := p1) (by kernel_rfl) (Try.isAgg196 _) hp1) ?_
 refine q0 (.pointer (some r)) ?_
 refine q0 (.pointer (some (r.add 1))) ?_
 refine q2 (.int .i64 at_) (x_load (a := r.add 1) (by kernel_rfl) (Try.isAgg3 _) (E1.cell h1 id)) ?_
 refine st_new (O := (.cells #[(.int .i64 0)] 3)) (fun p => .pointer (some p)) (want0 rfl) (x_alloc (Try.zeroValue3 _) rfl) ?_
 intro p2 w2 hn2
 have E2 : Pure w0 w2 := E1.trans (Ext.new hn2)
 have hb2 := hn2.at_size
 have B2 := Box.of_newA hn2
 refine st_set (want0 rfl) (x_store (a := p2) (v := .int .i64 at_) (by kernel_rfl) (by kernel_rfl) rfl (Try.sizeOf3 _) (B2.canW0 (by simp))) ?_
 intro w3 hw3
 have hb3 := World.block_lt_of_cell? w1 p1 hp1
 have E3 : Pure w0 w3 := E2.own (p := p2) (by have := E1.size; omega) (hw3 ▸ Ext.setCell p2 _)
 have hp3 : w3.cell? p1 = some (.pointer (some r)) := by
  rw [hw3]; exact (Ext.setCell p2 _).cell ((Ext.new (F := None) hn2).cell hp1 id) (fun e => by omega)
 have hf3 : w3.cell? p2 = some (.int .i64 at_) := by
  rw [hw3]; exact (B2.set0).cell0
 refine wpL_nil ?_
 clear ha
 intro a ha
 refine wpD_defer ha (by decide) ?_
 clear ha
 intro a ha
 refine wpD_last ha ?_
 refine wpE_regionP (by kernel_rfl) ?_
 refine wpLP_split 1 ?_
 refine q0 (.func (.func fd) #[] caps) ?_
 refine wpL_nil ?_
 refine sp_call (want0 rfl) (by intro c hc; cases hc) (x_callv (caps := caps) (args := #[]) (args' := caps) (by kernel_rfl) hc rfl (by simp)) ((hdo w3 p1 p2 E3 (by omega) (by have := E1.size; omega) hp3 hf3).mono ?_)
 rintro e w4 (⟨rfl, hK⟩ | ⟨x, rfl, ha1, ha2, hw1, hw2, hw3', hK⟩)
 ·refine .inl ⟨_, rfl, ?_⟩
  refine wpLP_nil ?_
  clear ha
  intro a ha
  show Leaves _ _ _ _ _ _ _
  rw [ha.defers]
  refine leaves_cons (f := 225) (args := #[.pointer (some p2), .pointer (some p1)]) (by simp) (inv_of Try.call225 (by simp [evE, put, upd])) ?_
  refine (c_recIdle p2 p1 w4).mono ?_
  rintro e u' w5 ⟨rfl, rfl, rfl⟩
  exact ⟨_, results_none Try.results207 _ _ _, rfl, hK⟩
 ·refine .inr ⟨_, rfl, ?_⟩
  intro ρ' 
  clear ha
  intro a ha
  show Leaves _ _ _ _ _ _ _
  rw [ha.defers]
  refine leaves_cons (f := 225) (args := #[.pointer (some p2), .pointer (some p1)]) (by simp) (inv_of Try.call225 (by simp [evE, put, upd])) ?_
  refine (c_recHit p2 p1 r at_ x [] w4 ha2 ha1 hw1 hw2 hw3').mono ?_
  rintro e u' w5 ⟨rfl, rfl, rfl⟩
  exact ⟨_, results_none Try.results207 _ _ _, rfl, hK⟩
end Go.Proofs
end
section
open Go Go.SE
namespace Go.Proofs
attribute [local irreducible] Calls CallsD
structure RdAt (S : NP) (w : World) (a : Addr) (s : Sl) (bs : List UInt8) (at_ err spot : Int) : Prop where
 box : Box w a [s.v, .int .i64 at_, .int .i64 err, .int .i64 spot] 231
 lst : Lst S w 1 s (byr bs)
 apart : ∀ b, S b → b ≠ a.block
 small : bs.length ≤ 100000000000
 room : s.len ≤ s.cap
def gave (e : Int) : List PanicEntry := [{ v := .iface 254 (.int .i64 e), recovered := false }]
section
variable {S : NP} {w w' : World} {a : Addr} {s : Sl} {bs : List UInt8} {at_ err spot : Int}
theorem RdAt.ext {F : NP} (h : RdAt S w a s bs at_ err spot) (E : Ext F w w') (hF : ∀ b, S b → ¬ F b) (ha : ¬ F a.block) : RdAt S w' a s bs at_ err spot :=
 ⟨h.box.ext E ha, h.lst.ext E hF, h.apart, h.small, h.room⟩
theorem RdAt.pure (h : RdAt S w a s bs at_ err spot) (E : Pure w w') : RdAt S w' a s bs at_ err spot := h.ext E (fun _ _ h => h) id
theorem RdAt.atC (h : RdAt S w a s bs at_ err spot) : w.cell? (a.add 1) = some (.int .i64 at_) := h.box.cell (i := 1) rfl
theorem RdAt.errC (h : RdAt S w a s bs at_ err spot) : w.cell? (a.add 2) = some (.int .i64 err) := h.box.cell (i := 2) rfl
theorem RdAt.setAt (h : RdAt S w a s bs at_ err spot) (k : Int) : RdAt S (w.setCell (a.add 1) (.int .i64 k)) a s bs k err spot :=
 ⟨h.box.set 1 _, h.lst.ext (Ext.setCell _ _) (fun b hb e => h.apart b hb (by rw [add_block] at e; exact e)), h.apart, h.small, h.room⟩
theorem RdAt.setErr (h : RdAt S w a s bs at_ err spot) (k : Int) : RdAt S (w.setCell (a.add 2) (.int .i64 k)) a s bs at_ k spot :=
 ⟨h.box.set 2 _, h.lst.ext (Ext.setCell _ _) (fun b hb e => h.apart b hb (by rw [add_block] at e; exact e)), h.apart, h.small, h.room⟩
theorem RdAt.setSpot (h : RdAt S w a s bs at_ err spot) (k : Int) : RdAt S (w.setCell (a.add 3) (.int .i64 k)) a s bs at_ err k :=
 ⟨h.box.set 3 _, h.lst.ext (Ext.setCell _ _) (fun b hb e => h.apart b hb (by rw [add_block] at e; exact e)), h.apart, h.small, h.room⟩
theorem ext_set {k : Nat} {v : Value} : Ext (· = a.block) w (w.setCell (a.add k) v) := (Ext.setCell _ _).mono (fun i _ e => by rw [add_block] at e; exact e)
end
theorem c_byte {S : NP} (a : Addr) (s : Sl) (bs : List UInt8) (at_ : Nat) (err spot : Int) (w0 : World) (h : RdAt S w0 a s bs at_ err spot) (hat : at_ ≤ bs.length) :
  Calls Try.prog 212 #[.pointer (some a)] w0 (fun e w' => (∃ hlt : at_ < bs.length, e = .returned (.int .u8 (bs[at_].toNat : Int)) ∧ RdAt S w' a s bs ((at_ + 1 : Nat) : Int) err spot ∧ Ext (· = a.block) w0 w') ∨
   (at_ = bs.length ∧ e = .panicked (gave 3) ∧ RdAt S w' a s bs at_ err spot ∧ Ext (· = a.block) w0 w')) := by
 refine (w_P (some a) w0 (fun o r w' => (∃ hlt : at_ < bs.length, o = none ∧ r = (bs[at_].toNat : Int) ∧ RdAt S w' a s bs ((at_ + 1 : Nat) : Int) err spot ∧ Ext (· = a.block) w0 w') ∨ (at_ = bs.length ∧ o = some (gave 3) ∧ RdAt S w' a s bs at_ err spot ∧ Ext (· = a.block) w0 w')) ?_).mono ?_
 ·unfold m_P
  refine ⟨a, rfl, fun w1 hs => ?_⟩
  have h1 := h.pure hs.first
  have hl : s.len = bs.length := by rw [h.lst.len, byr_len]
  refine ⟨_, h1.atC, a, rfl, s, h1.box.cell0, fun hc => ?_, fun hc => ?_⟩
  ·have : at_ = bs.length := by have := beq_iff_eq.1 hc; omega
   exact .inr ⟨this, rfl, h1, Ext.pure hs.first⟩
  ·have hne : at_ ≠ bs.length := by have := beq_eq_false_iff_ne.1 hc; omega
   have hlt : at_ < bs.length := by omega
   unfold m_P_j1
   refine ⟨a, rfl, _, h1.atC, a, rfl, h1.box.canW (i := 1) (by simp), id, ?_⟩
   rintro w2 rfl
   have hw : IntKind.i64.wrap ((at_ : Int) + 1) = ((at_ + 1 : Nat) : Int) := wrap_succ hlt (by have := h.small; omega)
   rw [hw]
   have h2 := h1.setAt ((at_ + 1 : Nat) : Int)
   refine ⟨a, rfl, fun w3 hs3 => ?_⟩
   have h3 := h2.pure hs3.ext
   have hw2 : IntKind.i64.wrap (((at_ + 1 : Nat) : Int) - 1) = (at_ : Int) := by
    rw [IntWalk.i64_in _ (by have := h.small; omega)]; omega
   obtain ⟨c, hc1, _, hc3⟩ := by_nth h3.lst hlt
   refine ⟨s, h3.box.cell0, a, rfl, _, h3.atC, c, ?_, _, hc3, .inl ⟨hlt, rfl, rfl, h3, ((Ext.pure hs.first).trans ext_set).thenPure hs3.ext⟩⟩
   rw [hw2]; exact hc1
 ·rintro e w' (⟨r, rfl, h⟩ | ⟨ch, rfl, h⟩)
  ·rcases h with ⟨hlt, _, rfl, h⟩ | ⟨_, h, _⟩
   ·exact .inl ⟨hlt, rfl, h⟩
   ·cases h
  ·rcases h with ⟨hlt, h, _⟩ | ⟨h1, h2, h⟩
   ·cases h
   ·cases h2; exact .inr ⟨h1, rfl, h⟩
theorem c_num {S : NP} (a : Addr) (s : Sl) (bs : List UInt8) (at_ : Nat) (err spot : Int) (w0 : World) (h : RdAt S w0 a s bs at_ err spot) (hat : at_ ≤ bs.length) :
  Calls Try.prog 209 #[.pointer (some a)] w0 (fun e w' => (∃ n k : Nat, rdNum 0 0 (bs.drop at_) = .ok (n, k) ∧ e = .returned (.int .u64 (n : Int)) ∧ n < 18446744073709551616 ∧ at_ + k ≤ bs.length ∧ RdAt S w' a s bs ((at_ + k : Nat) : Int) err spot ∧ Ext (· = a.block) w0 w') ∨
   (∃ x : Nat, ∃ at' : Int, rdNum 0 0 (bs.drop at_) = .error x ∧ e = .panicked (gave x) ∧ RdAt S w' a s bs at' err spot ∧ Ext (· = a.block) w0 w')) := by
 refine (w_J (some a) w0 (fun o r w' => (∃ n k : Nat, rdNum 0 0 (bs.drop at_) = .ok (n, k) ∧ o = none ∧ r = (n : Int) ∧ n < 18446744073709551616 ∧ at_ + k ≤ bs.length ∧ RdAt S w' a s bs ((at_ + k : Nat) : Int) err spot ∧ Ext (· = a.block) w0 w') ∨
   (∃ x : Nat, ∃ at' : Int, rdNum 0 0 (bs.drop at_) = .error x ∧ o = some (gave x) ∧ RdAt S w' a s bs at' err spot ∧ Ext (· = a.block) w0 w')) ?_).mono ?_
 ·unfold m_J
  refine ⟨fun n i w => ∃ acc k : Nat, n = (acc : Int) ∧ i = (k : Int) ∧ k ≤ 9 ∧ acc < 2 ^ (7 * k) ∧ at_ + k ≤ bs.length ∧ rdNum k acc (bs.drop (at_ + k)) = rdNum 0 0 (bs.drop at_) ∧ RdAt S w a s bs ((at_ + k : Nat) : Int) err spot ∧ Ext (· = a.block) w0 w, fun _ i _ => (10 - i).toNat, ⟨0, 0, rfl, rfl, by omega, by simp, by simpa using hat, rfl, by simpa using h, Ext.refl _⟩, ?_⟩
  rintro _ _ wl ⟨acc, k, rfl, rfl, hk, hacc, hle, hrd, hR, hE⟩
  unfold m_J_l1
  refine (c_byte a s bs (at_ + k) err spot wl hR hle).mono ?_
  rintro e w1 (⟨hlt, rfl, hR1, hE1⟩ | ⟨heq, rfl, hR1, hE1⟩)
  ·refine .inl ⟨_, rfl, ?_⟩
   have hdrop : bs.drop (at_ + k) = bs[at_ + k] :: bs.drop (at_ + k + 1) := List.drop_eq_getElem_cons hlt
   generalize hcc : bs[at_ + k] = c at *
   have hc := c.toNat_lt
   rw [hdrop, rdNum_cons] at hrd
   refine ⟨fun hb => ?_, fun hb => ?_⟩
   ·have hb' : k = 9 ∧ 1 < c.toNat := by simp at hb; omega
    rw [if_pos hb'] at hrd
    exact .inr ⟨11, _, hrd.symm, rfl, hR1, hE.trans hE1⟩
   ·have hb' : ¬ (k = 9 ∧ 1 < c.toNat) := by intro hh; simp at hb; omega
    rw [if_neg hb'] at hrd
    have hpw : c.toNat % 128 * 2 ^ (7 * k) < 18446744073709551616 := by
     by_cases h9 : k = 9
     ·subst h9; omega
     ·have h8 : 2 ^ (7 * k) ≤ 2 ^ 56 := Nat.pow_le_pow_right (by omega) (by omega)
      have h127 : c.toNat % 128 ≤ 127 := by omega
      calc c.toNat % 128 * 2 ^ (7 * k) ≤ 127 * 2 ^ 56 := Nat.mul_le_mul h127 h8
       _ < 18446744073709551616 := by decide
    have hac : acc < 18446744073709551616 := Nat.lt_of_lt_of_le hacc (by
     calc 2 ^ (7 * k) ≤ 2 ^ 63 := Nat.pow_le_pow_right (by omega) (by omega)
      _ ≤ 18446744073709551616 := by decide)
    have h7 : IntKind.i64.wrap (7 * (k : Int)) = ((7 * k : Nat) : Int) := by rw [IntWalk.i64_in _ (by omega)]; simp
    have h128 : 128 ^ k = 2 ^ (7 * k) := by rw [Nat.pow_mul]
    have hsum : acc ||| (c.toNat % 128 * 2 ^ (7 * k)) = acc + c.toNat % 128 * 2 ^ (7 * k) := or_add hacc
    have hsl : acc + c.toNat % 128 * 2 ^ (7 * k) < 18446744073709551616 := by
     rw [← hsum]; exact Nat.or_lt_two_pow (n := 64) hac hpw
    unfold m_J_j2
    rw [h7]
    refine ⟨_, run_and127 c.toNat hc, _, by rw [wrap_u64 (by omega)]; exact run_shl _ _ (by omega) hpw, _, run_or64 _ _ hac hpw, ?_⟩
    rw [hsum]
    refine ⟨fun hs => ?_, fun hs => ?_⟩
    ·have hs' : c.toNat < 128 := by have := of_decide_eq_true hs; omega
     rw [if_pos hs'] at hrd
     refine ⟨fun hz => ?_, fun hz => ?_⟩
     ·have hz' : c.toNat = 0 ∧ 0 < k := by simp at hz; omega
      rw [if_pos hz'] at hrd
      exact .inr ⟨10, _, hrd.symm, rfl, hR1, hE.trans hE1⟩
     ·have hz' : ¬ (c.toNat = 0 ∧ 0 < k) := by intro hh; simp at hz; omega
      rw [if_neg hz', h128] at hrd
      rw [Nat.mod_eq_of_lt hs'] at hsl ⊢
      exact .inl ⟨_, k + 1, hrd.symm, rfl, rfl, hsl, by omega, hR1, hE.trans hE1⟩
    ·have hs' : ¬ c.toNat < 128 := by have := of_decide_eq_false hs; omega
     rw [if_neg hs', h128] at hrd
     have hk9 : k ≠ 9 := by omega
     rw [wrap_succ (n := 10) (by omega) (by omega)]
     refine ⟨⟨_, k + 1, rfl, rfl, by omega, ?_, by omega, hrd, hR1, hE.trans hE1⟩, by show (10 - ((k + 1 : Nat) : Int)).toNat < (10 - (k : Int)).toNat; omega⟩
     have : 2 ^ (7 * (k + 1)) = 128 * 2 ^ (7 * k) := by rw [Nat.mul_add, Nat.pow_add]; omega
     rw [this]
     have h127 : c.toNat % 128 * 2 ^ (7 * k) ≤ 127 * 2 ^ (7 * k) := Nat.mul_le_mul_right _ (by omega)
     omega
  ·refine .inr ⟨_, rfl, .inr ⟨3, _, ?_, rfl, hR1, hE.trans hE1⟩⟩
   rw [← hrd, heq, List.drop_length]; rfl
 ·rintro e w' (⟨r, rfl, h⟩ | ⟨ch, rfl, h⟩)
  ·rcases h with ⟨n, k, h1, _, rfl, h⟩ | ⟨_, _, _, h, _⟩
   ·exact .inl ⟨n, k, h1, rfl, h⟩
   ·cases h
  ·rcases h with ⟨n, k, h1, h, _⟩ | ⟨x, at', h1, h2, h⟩
   ·cases h
   ·cases h2; exact .inr ⟨x, at', h1, rfl, h⟩
end Go.Proofs
end
section
open Go Go.SE
namespace Go.Proofs
attribute [local irreducible] Calls CallsD
abbrev RdS (S : NP) (w : World) (a : Addr) (s : Sl) (bs : List UInt8) (r : Rd) : Prop := RdAt S w a s bs r.at_ r.err r.spot
theorem box_set {w : World} {p : Addr} {u v : Value} {T : TypeId} (h : Box w p [u] T) : Box (w.setCell p v) p [v] T := h.set0
theorem RdAt.gives {S : NP} {w : World} {a : Addr} {s : Sl} {bs : List UInt8} {at_ err spot : Int} (h : RdAt S w a s bs at_ err spot) (f e : Int) :
  CanW w (a.add 1) ∧ CanW w (a.add 2) ∧ CanW w (a.add 3) ∧ RdAt S (((w.setCell (a.add 1) (.int .i64 f)).setCell (a.add 2) (.int .i64 e)).setCell (a.add 3) (.int .i64 f)) a s bs f e f :=
 ⟨h.box.canW (i := 1) (by simp), h.box.canW (i := 2) (by simp), h.box.canW (i := 3) (by simp), ((h.setAt f).setErr e).setSpot f⟩
theorem ext_set3 {w : World} {a : Addr} {u v x : Value} : Ext (· = a.block) w (((w.setCell (a.add 1) u).setCell (a.add 2) v).setCell (a.add 3) x) := (ext_set.trans ext_set).trans ext_set
theorem c_RNum {S : NP} (a : Addr) (s : Sl) (bs : List UInt8) (r : Rd) (w0 : World) (h : RdS S w0 a s bs r) (hat : r.at_ ≤ bs.length) (hS : ∀ b, S b → b < w0.heap.size) :
  Calls Try.prog 169 #[.pointer (some a)] w0 (fun e w' => ∃ x : Int, e = .returned (.int .u64 x) ∧ x = ((rNum bs r).1 : Int) ∧ RdS S w' a s bs (rNum bs r).2 ∧ Ext (· = a.block) w0 w') := by
 refine w_N1 (some a) w0 (fun x w' => x = ((rNum bs r).1 : Int) ∧ RdS S w' a s bs (rNum bs r).2 ∧ Ext (· = a.block) w0 w') ?_
 unfold m_N1
 intro p1 w1 n1 p2 w2 n2
 have E1 : Pure w0 w1 := Ext.new n1
 have E2 : Pure w0 w2 := E1.trans (Ext.new n2)
 have hp1 : w2.cell? p1 = some (.pointer (some a)) := (Ext.new (F := None) n2).cell (Box.of_newA n1).cell0 id
 have b1 := n1.at_size
 have b2 := n2.at_size
 have b12 : p1.block ≠ p2.block := by have := World.block_lt_of_cell? w1 p1 (Box.of_newA n1).cell0; omega
 have ha0 := World.block_lt_of_cell? w0 a h.box.cell0
 have B2 := Box.of_newA n2
 have h2 := h.pure E2
 refine ⟨some a, hp1, ?_⟩
 have fin : ∀ w3, (Box w3 p2 [.int .u64 ((rNum bs r).1 : Int)] 50 ∧ RdS S w3 a s bs (rNum bs r).2 ∧ Ext (· = a.block) w0 w3) → ∃ v2 : Int, w3.cell? p2 = some (.int .u64 v2) ∧ CanW w3 p2 ∧ ∀ w4 : World, w4 = w3.setCell p2 (.int .u64 v2) → ∃ qV1 : Int, w4.cell? p2 = some (.int .u64 qV1) ∧ (qV1 = ((rNum bs r).1 : Int) ∧ RdS S w4 a s bs (rNum bs r).2 ∧ Ext (· = a.block) w0 w4) := by
  rintro w3 ⟨hB, hR, hE⟩
  refine ⟨_, hB.cell0, hB.canW0 (by simp), ?_⟩
  rintro w4 rfl
  have hx : Ext (· = p2.block) w3 (w3.setCell p2 (.int .u64 ((rNum bs r).1 : Int))) := Ext.setCell _ _
  exact ⟨_, (box_set hB).cell0, rfl, hR.ext hx (fun b hb e => by have := hS b hb; have := E1.size; omega) (fun e => by have := E1.size; omega), hE.trans' hx (fun i hi e => by have := E1.size; omega)⟩
 by_cases he : r.err = 0
 ·refine (c_reads a 208 _ r.at_ w2 (fun w3 => Box w3 p2 [.int .u64 ((rNum bs r).1 : Int)] 50 ∧ RdS S w3 a s bs (rNum bs r).2 ∧ Ext (· = a.block) w0 w3) h2.atC (by have := h2.errC; rw [he] at this; exact this) Try.call208 ?_).mono ?_
  ·intro w3 p pf E3 hp hpf hpc hpfc
   have h3 := h2.pure E3
   refine (w_B2 p1 p2 w3 (fun o w4 => (o = none ∧ (Box w4 p2 [.int .u64 ((rNum bs r).1 : Int)] 50 ∧ RdS S w4 a s bs (rNum bs r).2 ∧ Ext (· = a.block) w0 w4)) ∨ (∃ x, o = some (gave x) ∧ w4.cell? p = some (.pointer (some a)) ∧ w4.cell? pf = some (.int .i64 r.at_) ∧ CanW w4 (a.add 1) ∧ CanW w4 (a.add 2) ∧ CanW w4 (a.add 3) ∧
    (Box (((w4.setCell (a.add 1) (.int .i64 r.at_)).setCell (a.add 2) (.int .i64 x)).setCell (a.add 3) (.int .i64 r.at_)) p2 [.int .u64 ((rNum bs r).1 : Int)] 50 ∧ RdS S (((w4.setCell (a.add 1) (.int .i64 r.at_)).setCell (a.add 2) (.int .i64 x)).setCell (a.add 3) (.int .i64 r.at_)) a s bs (rNum bs r).2 ∧ Ext (· = a.block) w0 (((w4.setCell (a.add 1) (.int .i64 r.at_)).setCell (a.add 2) (.int .i64 x)).setCell (a.add 3) (.int .i64 r.at_))))) ?_).mono ?_
   ·unfold m_B2
    refine ⟨some a, E3.cell hp1 id, ?_⟩
    refine (c_num a s bs r.at_ r.err r.spot w3 h3 hat).mono ?_
    rintro e w4 (⟨n, k, hn, rfl, hlt, hle, hR, hE⟩ | ⟨x, at', hn, rfl, hR, hE⟩)
    ·refine .inl ⟨_, rfl, ?_⟩
     have hB4 : Box w4 p2 [.int .u64 0] 50 := (B2.pure E3).ext hE (fun e => by have := E1.size; omega)
     refine ⟨hB4.canW0 (by simp), ?_⟩
     rintro w5 rfl
     have hx : Ext (· = p2.block) w4 (w4.setCell p2 (.int .u64 (n : Int))) := Ext.setCell _ _
     have hrn : rNum bs r = (n, ⟨r.at_ + k, 0, r.spot⟩) := by simp [rNum, he, hn]
     rw [hrn]
     refine .inl ⟨rfl, box_set hB4, ?_, ((Ext.pure (E2.trans E3)).trans hE).trans' hx (fun i hi e => by have := E1.size; omega)⟩
     have := hR.ext hx (fun b hb e => by have := hS b hb; have := E1.size; omega) (fun e => by have := E1.size; omega)
     rw [he] at this
     exact this
    ·refine .inr ⟨_, rfl, .inr ⟨x, rfl, ?_⟩⟩
     have hrn : rNum bs r = (0, ⟨r.at_, x, r.at_⟩) := by simp [rNum, he, hn]
     have hB4 : Box w4 p2 [.int .u64 0] 50 := (B2.pure E3).ext hE (fun e => by have := E1.size; omega)
     obtain ⟨c1, c2, c3, hR'⟩ := hR.gives r.at_ x
     rw [hrn]
     exact ⟨hE.cell hpc (fun e => by have := E2.size; omega), hE.cell hpfc (fun e => by have := E2.size; omega), c1, c2, c3, hB4.ext ext_set3 (fun e => by have := E1.size; omega), hR', ((Ext.pure (E2.trans E3)).trans hE).trans ext_set3⟩
   ·rintro e w4 (⟨rfl, h⟩ | ⟨ch, rfl, h⟩)
    ·rcases h with ⟨_, h⟩ | ⟨_, h, _⟩
     ·exact .inl ⟨rfl, h⟩
     ·cases h
    ·rcases h with ⟨h, _⟩ | ⟨x, h1, h⟩
     ·cases h
     ·cases h1; exact .inr ⟨x, rfl, h⟩
  ·rintro e w3 ⟨rfl, hK⟩
   exact ⟨rfl, fin w3 hK⟩
 ·refine (c_readsOff a _ r.err w2 h2.errC (by omega)).mono ?_
  rintro e w3 ⟨rfl, E3⟩
  have hrn : rNum bs r = (0, r) := by simp [rNum, he]
  refine ⟨rfl, fin w3 ?_⟩
  rw [hrn]
  exact ⟨B2.pure E3, h2.pure E3, Ext.pure (E2.trans E3)⟩
theorem c_Byte {S : NP} (a : Addr) (s : Sl) (bs : List UInt8) (r : Rd) (w0 : World) (h : RdS S w0 a s bs r) (hat : r.at_ ≤ bs.length) (hS : ∀ b, S b → b < w0.heap.size) :
  Calls Try.prog 183 #[.pointer (some a)] w0 (fun e w' => ∃ x : Int, e = .returned (.int .u8 x) ∧ x = ((rByte bs r).1 : Int) ∧ RdS S w' a s bs (rByte bs r).2 ∧ Ext (· = a.block) w0 w') := by
 refine w_H1 (some a) w0 (fun x w' => x = ((rByte bs r).1 : Int) ∧ RdS S w' a s bs (rByte bs r).2 ∧ Ext (· = a.block) w0 w') ?_
 unfold m_H1
 intro p1 w1 n1 p2 w2 n2
 have E1 : Pure w0 w1 := Ext.new n1
 have E2 : Pure w0 w2 := E1.trans (Ext.new n2)
 have hp1 : w2.cell? p1 = some (.pointer (some a)) := (Ext.new (F := None) n2).cell (Box.of_newA n1).cell0 id
 have b1 := n1.at_size
 have b2 := n2.at_size
 have b12 : p1.block ≠ p2.block := by have := World.block_lt_of_cell? w1 p1 (Box.of_newA n1).cell0; omega
 have ha0 := World.block_lt_of_cell? w0 a h.box.cell0
 have B2 := Box.of_newA n2
 have h2 := h.pure E2
 refine ⟨some a, hp1, ?_⟩
 have fin : ∀ w3, (Box w3 p2 [.int .u8 ((rByte bs r).1 : Int)] 5 ∧ RdS S w3 a s bs (rByte bs r).2 ∧ Ext (· = a.block) w0 w3) → ∃ v2 : Int, w3.cell? p2 = some (.int .u8 v2) ∧ CanW w3 p2 ∧ ∀ w4 : World, w4 = w3.setCell p2 (.int .u8 v2) → ∃ qV1 : Int, w4.cell? p2 = some (.int .u8 qV1) ∧ (qV1 = ((rByte bs r).1 : Int) ∧ RdS S w4 a s bs (rByte bs r).2 ∧ Ext (· = a.block) w0 w4) := by
  rintro w3 ⟨hB, hR, hE⟩
  refine ⟨_, hB.cell0, hB.canW0 (by simp), ?_⟩
  rintro w4 rfl
  have hx : Ext (· = p2.block) w3 (w3.setCell p2 (.int .u8 ((rByte bs r).1 : Int))) := Ext.setCell _ _
  exact ⟨_, (box_set hB).cell0, rfl, hR.ext hx (fun b hb e => by have := hS b hb; have := E1.size; omega) (fun e => by have := E1.size; omega), hE.trans' hx (fun i hi e => by have := E1.size; omega)⟩
 by_cases he : r.err = 0
 ·refine (c_reads a 211 _ r.at_ w2 (fun w3 => Box w3 p2 [.int .u8 ((rByte bs r).1 : Int)] 5 ∧ RdS S w3 a s bs (rByte bs r).2 ∧ Ext (· = a.block) w0 w3) h2.atC (by have := h2.errC; rw [he] at this; exact this) Try.call211 ?_).mono ?_
  ·intro w3 p pf E3 hp hpf hpc hpfc
   have h3 := h2.pure E3
   refine (w_C2 p1 p2 w3 (fun o w4 => (o = none ∧ (Box w4 p2 [.int .u8 ((rByte bs r).1 : Int)] 5 ∧ RdS S w4 a s bs (rByte bs r).2 ∧ Ext (· = a.block) w0 w4)) ∨ (∃ x, o = some (gave x) ∧ w4.cell? p = some (.pointer (some a)) ∧ w4.cell? pf = some (.int .i64 r.at_) ∧ CanW w4 (a.add 1) ∧ CanW w4 (a.add 2) ∧ CanW w4 (a.add 3) ∧
    (Box (((w4.setCell (a.add 1) (.int .i64 r.at_)).setCell (a.add 2) (.int .i64 x)).setCell (a.add 3) (.int .i64 r.at_)) p2 [.int .u8 ((rByte bs r).1 : Int)] 5 ∧ RdS S (((w4.setCell (a.add 1) (.int .i64 r.at_)).setCell (a.add 2) (.int .i64 x)).setCell (a.add 3) (.int .i64 r.at_)) a s bs (rByte bs r).2 ∧ Ext (· = a.block) w0 (((w4.setCell (a.add 1) (.int .i64 r.at_)).setCell (a.add 2) (.int .i64 x)).setCell (a.add 3) (.int .i64 r.at_))))) ?_).mono ?_
   ·unfold m_C2
    refine ⟨some a, E3.cell hp1 id, ?_⟩
    refine (c_byte a s bs r.at_ r.err r.spot w3 h3 hat).mono ?_
    rintro e w4 (⟨hlt, rfl, hR, hE⟩ | ⟨heq, rfl, hR, hE⟩)
    ·refine .inl ⟨_, rfl, ?_⟩
     have hB4 : Box w4 p2 [.int .u8 0] 5 := (B2.pure E3).ext hE (fun e => by have := E1.size; omega)
     refine ⟨hB4.canW0 (by simp), ?_⟩
     rintro w5 rfl
     have hx : Ext (· = p2.block) w4 (w4.setCell p2 (.int .u8 (bs[r.at_].toNat : Int))) := Ext.setCell _ _
     have hrn : rByte bs r = (bs[r.at_].toNat, ⟨r.at_ + 1, 0, r.spot⟩) := by simp [rByte, he, hlt]
     rw [hrn]
     refine .inl ⟨rfl, box_set hB4, ?_, ((Ext.pure (E2.trans E3)).trans hE).trans' hx (fun i hi e => by have := E1.size; omega)⟩
     have := hR.ext hx (fun b hb e => by have := hS b hb; have := E1.size; omega) (fun e => by have := E1.size; omega)
     rw [he] at this
     exact this
    ·refine .inr ⟨_, rfl, .inr ⟨3, rfl, ?_⟩⟩
     have hrn : rByte bs r = (0, ⟨r.at_, 3, r.at_⟩) := by simp [rByte, he, heq]
     have hB4 : Box w4 p2 [.int .u8 0] 5 := (B2.pure E3).ext hE (fun e => by have := E1.size; omega)
     obtain ⟨c1, c2, c3, hR'⟩ := hR.gives r.at_ 3
     rw [hrn]
     exact ⟨hE.cell hpc (fun e => by have := E2.size; omega), hE.cell hpfc (fun e => by have := E2.size; omega), c1, c2, c3, hB4.ext ext_set3 (fun e => by have := E1.size; omega), hR', ((Ext.pure (E2.trans E3)).trans hE).trans ext_set3⟩
   ·rintro e w4 (⟨rfl, h⟩ | ⟨ch, rfl, h⟩)
    ·rcases h with ⟨_, h⟩ | ⟨_, h, _⟩
     ·exact .inl ⟨rfl, h⟩
     ·cases h
    ·rcases h with ⟨h, _⟩ | ⟨x, h1, h⟩
     ·cases h
     ·cases h1; exact .inr ⟨x, rfl, h⟩
  ·rintro e w3 ⟨rfl, hK⟩
   exact ⟨rfl, fin w3 hK⟩
 ·refine (c_readsOff a _ r.err w2 h2.errC (by omega)).mono ?_
  rintro e w3 ⟨rfl, E3⟩
  have hrn : rByte bs r = (0, r) := by simp [rByte, he]
  refine ⟨rfl, fin w3 ?_⟩
  rw [hrn]
  exact ⟨B2.pure E3, h2.pure E3, Ext.pure (E2.trans E3)⟩
end Go.Proofs
end
section
open Go Go.SE
namespace Go.Proofs
attribute [local irreducible] Calls CallsD
theorem c_Text {S : NP} (a : Addr) (s : Sl) (bs : List UInt8) (most : Nat) (r : Rd) (w0 : World) (h : RdS S w0 a s bs r) (hat : r.at_ ≤ bs.length) (hS : ∀ b, S b → b < w0.heap.size) (hm : most ≤ 1000000000) :
  Calls Try.prog 177 #[.pointer (some a), .int .i64 (most : Int)] w0 (fun e w' => ∃ x : ByteArray, e = .returned (.string x) ∧ x = ⟨(rText bs most r).1.toArray⟩ ∧ RdS S w' a s bs (rText bs most r).2 ∧ Ext (· = a.block) w0 w') := by
 refine w_V1 (some a) most w0 (fun x w' => x = ⟨(rText bs most r).1.toArray⟩ ∧ RdS S w' a s bs (rText bs most r).2 ∧ Ext (· = a.block) w0 w') ?_
 unfold m_V1
 intro p1 w1 n1 pm w1' nm p2 w2 n2
 have E1 : Pure w0 w1 := Ext.new n1
 have E1' : Pure w0 w1' := E1.trans (Ext.new nm)
 have E2 : Pure w0 w2 := E1'.trans (Ext.new n2)
 have hp1' : w1'.cell? p1 = some (.pointer (some a)) := (Ext.new (F := None) nm).cell (Box.of_newA n1).cell0 id
 have hp1 : w2.cell? p1 = some (.pointer (some a)) := (Ext.new (F := None) n2).cell hp1' id
 have hpm : w2.cell? pm = some (.int .i64 (most : Int)) := (Ext.new (F := None) n2).cell (Box.of_newA nm).cell0 id
 have b1 := n1.at_size
 have bm := nm.at_size
 have b2 := n2.at_size
 have b12 : p1.block ≠ p2.block := by have := World.block_lt_of_cell? w1' p1 hp1'; omega
 have ha0 := World.block_lt_of_cell? w0 a h.box.cell0
 have B2 := Box.of_newA n2
 have h2 := h.pure E2
 have g1 : w0.heap.size ≤ p2.block := by have := E1'.size; omega
 have g2 : w0.heap.size ≤ p1.block := by omega
 have g3 : w0.heap.size ≤ pm.block := by have := E1.size; omega
 refine ⟨some a, hp1, ?_⟩
 have fin : ∀ w3, (Box w3 p2 [.string ⟨(rText bs most r).1.toArray⟩] 9 ∧ RdS S w3 a s bs (rText bs most r).2 ∧ Ext (· = a.block) w0 w3) → ∃ v2 : ByteArray, w3.cell? p2 = some (.string v2) ∧ CanW w3 p2 ∧ ∀ w4 : World, w4 = w3.setCell p2 (.string v2) → ∃ qV1 : ByteArray, w4.cell? p2 = some (.string qV1) ∧ (qV1 = ⟨(rText bs most r).1.toArray⟩ ∧ RdS S w4 a s bs (rText bs most r).2 ∧ Ext (· = a.block) w0 w4) := by
  rintro w3 ⟨hB, hR, hE⟩
  refine ⟨_, hB.cell0, hB.canW0 (by simp), ?_⟩
  rintro w4 rfl
  have hx : Ext (· = p2.block) w3 (w3.setCell p2 (.string ⟨(rText bs most r).1.toArray⟩)) := Ext.setCell _ _
  exact ⟨_, (box_set hB).cell0, rfl, hR.ext hx (fun b hb e => by have := hS b hb; omega) (fun e => by omega), hE.trans' hx (fun i hi e => by omega)⟩
 by_cases he : r.err = 0
 ·refine (c_reads a 210 _ r.at_ w2 (fun w3 => Box w3 p2 [.string ⟨(rText bs most r).1.toArray⟩] 9 ∧ RdS S w3 a s bs (rText bs most r).2 ∧ Ext (· = a.block) w0 w3) h2.atC (by have := h2.errC; rw [he] at this; exact this) Try.call210 ?_).mono ?_
  ·intro w3 p pf E3 hp hpf hpc hpfc
   have h3 := h2.pure E3
   refine (w_F p1 pm p2 w3 (fun o w4 => (o = none ∧ (Box w4 p2 [.string ⟨(rText bs most r).1.toArray⟩] 9 ∧ RdS S w4 a s bs (rText bs most r).2 ∧ Ext (· = a.block) w0 w4)) ∨ (∃ x, o = some (gave x) ∧ w4.cell? p = some (.pointer (some a)) ∧ w4.cell? pf = some (.int .i64 r.at_) ∧ CanW w4 (a.add 1) ∧ CanW w4 (a.add 2) ∧ CanW w4 (a.add 3) ∧
    (Box (((w4.setCell (a.add 1) (.int .i64 r.at_)).setCell (a.add 2) (.int .i64 x)).setCell (a.add 3) (.int .i64 r.at_)) p2 [.string ⟨(rText bs most r).1.toArray⟩] 9 ∧ RdS S (((w4.setCell (a.add 1) (.int .i64 r.at_)).setCell (a.add 2) (.int .i64 x)).setCell (a.add 3) (.int .i64 r.at_)) a s bs (rText bs most r).2 ∧ Ext (· = a.block) w0 (((w4.setCell (a.add 1) (.int .i64 r.at_)).setCell (a.add 2) (.int .i64 x)).setCell (a.add 3) (.int .i64 r.at_))))) ?_).mono ?_
   ·unfold m_F
    refine ⟨some a, E3.cell hp1 id, ?_⟩
    refine (c_num a s bs r.at_ r.err r.spot w3 h3 hat).mono ?_
    have give : ∀ (x : Nat) (at' : Int) (w4 : World), rText bs most r = ([], ⟨r.at_, x, r.at_⟩) → RdAt S w4 a s bs at' r.err r.spot → Ext (· = a.block) w3 w4 → (∃ y, some (gave x) = some (gave y) ∧ w4.cell? p = some (.pointer (some a)) ∧ w4.cell? pf = some (.int .i64 r.at_) ∧ CanW w4 (a.add 1) ∧ CanW w4 (a.add 2) ∧ CanW w4 (a.add 3) ∧
     (Box (((w4.setCell (a.add 1) (.int .i64 r.at_)).setCell (a.add 2) (.int .i64 y)).setCell (a.add 3) (.int .i64 r.at_)) p2 [.string ⟨(rText bs most r).1.toArray⟩] 9 ∧ RdS S (((w4.setCell (a.add 1) (.int .i64 r.at_)).setCell (a.add 2) (.int .i64 y)).setCell (a.add 3) (.int .i64 r.at_)) a s bs (rText bs most r).2 ∧ Ext (· = a.block) w0 (((w4.setCell (a.add 1) (.int .i64 r.at_)).setCell (a.add 2) (.int .i64 y)).setCell (a.add 3) (.int .i64 r.at_)))) := by
     intro x at' w4 hrn hR hE
     have hB4 : Box w4 p2 [.string ⟨#[]⟩] 9 := (B2.pure E3).ext hE (fun e => by omega)
     obtain ⟨c1, c2, c3, hR'⟩ := hR.gives r.at_ x
     rw [hrn]
     exact ⟨x, rfl, hE.cell hpc (fun e => by have := E2.size; omega), hE.cell hpfc (fun e => by have := E2.size; omega), c1, c2, c3, hB4.ext ext_set3 (fun e => by omega), hR', ((Ext.pure (E2.trans E3)).trans hE).trans ext_set3⟩
    rintro e w4 (⟨n, k, hn, rfl, hlt, hle, hR, hE⟩ | ⟨x, at', hn, rfl, hR, hE⟩)
    ·refine .inl ⟨_, rfl, hE.kept (fun b hb => hb.elim), _, hE.cell (E3.cell hpm id) (fun e => by omega), fun hb => ?_, fun _ => ⟨_, hE.cell (E3.cell hpm id) (fun e => by omega), ?_⟩⟩
     ·have := of_decide_eq_true hb; omega
     ·rw [wrap_u64 (by omega)]
      refine ⟨fun hb => ?_, fun hb => ?_⟩
      ·have hlt' : most < n := by have := of_decide_eq_true hb; omega
       exact .inr (give 1 _ w4 (by simp [rText, he, hn, hlt']) hR hE)
      ·have hlt' : ¬ most < n := by have := of_decide_eq_false hb; omega
       unfold m_F_j2
       intro w5 hs5
       have E5 := hs5.ext
       have hR5 := hR.pure E5
       have hp5 : w5.cell? p1 = some (.pointer (some a)) := E5.cell (hE.cell (E3.cell hp1 id) (fun e => by omega)) id
       have hl : s.len = bs.length := by rw [h.lst.len, byr_len]
       have hsm := h.small
       have hE5 : Ext (· = a.block) w3 w5 := hE.thenPure E5
       refine ⟨_, hp5, a, rfl, s, hR5.box.cell0, _, hp5, a, rfl, _, hR5.atC, ?_⟩
       have hw1 : IntKind.u64.wrap (IntKind.i64.wrap ((s.len : Int) - ((r.at_ + k : Nat) : Int))) = ((bs.length - (r.at_ + k) : Nat) : Int) := by
        rw [hl, IntWalk.i64_in _ (by omega), show ((bs.length : Int) - ((r.at_ + k : Nat) : Int)) = ((bs.length - (r.at_ + k) : Nat) : Int) by omega, wrap_u64 (by omega)]
       rw [hw1]
       refine ⟨fun hb2 => ?_, fun hb2 => ?_⟩
       ·have hg : bs.length < r.at_ + k + n := by have := of_decide_eq_true hb2; omega
        exact .inr (give 3 _ w5 (by simp [rText, he, hn, hlt', hg]) hR5 hE5)
       ·have hg : ¬ bs.length < r.at_ + k + n := by have := of_decide_eq_false hb2; omega
        have hrn : rText bs most r = ((bs.drop (r.at_ + k)).take n, ⟨r.at_ + k + n, 0, r.spot⟩) := by simp [rText, he, hn, hlt', hg]
        unfold m_F_j3
        refine ⟨fun _ => True, trivial, ?_⟩
        intro w6 hw6
        have E6 : Pure w5 w6 := by rw [hw6]; exact Ext.drew _
        have hR6 := hR5.pure E6
        have hp6 := E6.cell hp5 id
        have hn1 : IntKind.i64.wrap (n : Int) = (n : Int) := IntWalk.i64_in _ (by omega)
        have hn2 : IntKind.i64.wrap (((r.at_ + k : Nat) : Int) + (n : Int)) = ((r.at_ + k + n : Nat) : Int) := by rw [IntWalk.i64_in _ (by omega)]; simp
        obtain ⟨s1, hr1, hL1⟩ := hR6.lst.sub (k := .i64) (lo := r.at_ + k) (n := n) slT_by h.room (by rw [byr_len]; omega)
        have hB6 : Box w6 p2 [.string ⟨#[]⟩] 9 := ((B2.pure E3).ext hE5 (fun e => by omega)).pure E6
        have hL2 : Lst S w6 1 s1 (byr ((bs.drop (r.at_ + k)).take n)) := by
         have e : (List.drop (r.at_ + k) (byr bs)).take n = byr ((bs.drop (r.at_ + k)).take n) := by simp [byr, List.map_take, List.map_drop]
         rw [← e]; exact hL1
        refine ⟨_, hp6, a, rfl, s, hR6.box.cell0, _, hp6, a, rfl, _, hR6.atC, _, hp6, a, rfl, _, hR6.atC, s1, by rw [hn1, hn2]; exact hr1, _, run_str Try.underlying44 Try.underlying5 Try.underlying9 hL2, hB6.canW0 (by simp), id, ?_⟩
        rintro w7 rfl
        have hx : Ext (· = p2.block) w6 (w6.setCell p2 (.string ⟨((bs.drop (r.at_ + k)).take n).toArray⟩)) := Ext.setCell _ _
        have hR7 := hR6.ext hx (fun b hb e => by have := hS b hb; omega) (fun e => by omega)
        refine ⟨_, hx.cell hp6 (fun e => b12 e), a, rfl, _, hR7.atC, a, rfl, hR7.box.canW (i := 1) (by simp), id, ?_⟩
        rintro w8 rfl
        rw [hn1, hn2, hrn]
        have hR8 := hR7.setAt ((r.at_ + k + n : Nat) : Int)
        rw [he] at hR8
        exact .inl ⟨rfl, (box_set hB6).ext ext_set (fun e => by omega), hR8, ((((Ext.pure (E2.trans E3)).trans hE5).thenPure E6).trans' hx (fun i hi e => by omega)).trans ext_set⟩
    ·exact .inr ⟨_, rfl, .inr (give x at' w4 (by simp [rText, he, hn]) hR hE)⟩
   ·rintro e w4 (⟨rfl, h⟩ | ⟨ch, rfl, h⟩)
    ·rcases h with ⟨_, h⟩ | ⟨_, h, _⟩
     ·exact .inl ⟨rfl, h⟩
     ·cases h
    ·rcases h with ⟨h, _⟩ | ⟨x, h1, h⟩
     ·cases h
     ·cases h1; exact .inr ⟨x, rfl, h⟩
  ·rintro e w3 ⟨rfl, hK⟩
   exact ⟨rfl, fin w3 hK⟩
 ·refine (c_readsOff a _ r.err w2 h2.errC (by omega)).mono ?_
  rintro e w3 ⟨rfl, E3⟩
  have hrn : rText bs most r = ([], r) := by simp [rText, he]
  refine ⟨rfl, fin w3 ?_⟩
  rw [hrn]
  exact ⟨B2.pure E3, h2.pure E3, Ext.pure (E2.trans E3)⟩
end Go.Proofs
end
section
open Go Go.SE
namespace Go.Proofs
attribute [local irreducible] Calls CallsD
theorem rws_room {w : World} {e : TypeId} {sz : Nat} {s : Sl} {rs : List (List Value)} (h : Rws w e sz s rs) : s.len ≤ s.cap := by
 rcases h.own with ⟨rfl, _⟩ | ⟨g, cur, _, _, hc, _⟩
 ·exact Nat.le_refl _
 ·rw [h.len]; exact hc
theorem c_cNew {S : NP} (s : Sl) (bs : List UInt8) (w0 : World) (hs : Lst S w0 1 s (byr bs)) (hz : s.a = none → s = Sl.nil) (hn : bs.length ≤ 100000000000) :
  Calls Try.prog 126 #[s.v] w0 (fun e w' => ∃ x : Option Addr, e = .returned (.pointer x) ∧ ∃ a s', x = some a ∧ RdS s'.blk w' a s' bs ⟨0, 0, 0⟩ ∧ Pure w0 w' ∧ w0.heap.size ≤ a.block ∧ (∀ b, s'.blk b → w0.heap.size ≤ b ∧ b < w'.heap.size)) := by
 refine w_E1 _ w0 (fun x w' => ∃ a s', x = some a ∧ RdS s'.blk w' a s' bs ⟨0, 0, 0⟩ ∧ Pure w0 w' ∧ w0.heap.size ≤ a.block ∧ (∀ b, s'.blk b → w0.heap.size ≤ b ∧ b < w'.heap.size)) ?_
 unfold m_E1
 refine (c_byClone s bs w0 hs hz hn).mono ?_
 rintro _ w1 ⟨r1, rfl, hR⟩
 refine ⟨r1, rfl, fun p2 w2 n2 => ⟨p2, r1, rfl, ?_, hR.pure.trans (Ext.new n2), by rw [n2.at_size]; exact hR.pure.size, fun b hb => ⟨hR.own b hb, ?_⟩⟩⟩
 ·have hb1 : ∀ b, r1.blk b → b < w1.heap.size := fun b hb => hR.rows.lt hb
  exact ⟨Box.of_newA n2, (hR.rows.pure (Ext.new n2)).lst, fun b hb e => by have := hb1 b hb; have := n2.at_size; omega, hn, rws_room hR.rows⟩
 ·exact (hR.rows.pure (Ext.new n2)).lt hb
theorem c_Left {S : NP} (a : Addr) (s : Sl) (bs : List UInt8) (r : Rd) (w0 : World) (h : RdS S w0 a s bs r) (hat : r.at_ ≤ bs.length) :
  Calls Try.prog 127 #[.pointer (some a)] w0 (fun e w' => ∃ x : Int, e = .returned (.int .i64 x) ∧ x = ((bs.length - r.at_ : Nat) : Int) ∧ Pure w0 w') := by
 refine w_F1 (some a) w0 (fun x w' => x = ((bs.length - r.at_ : Nat) : Int) ∧ Pure w0 w') ?_
 unfold m_F1
 refine ⟨fun hb => (by cases hb), fun _ => ⟨a, rfl, fun w1 hs => ?_⟩⟩
 have h1 := h.pure hs.first
 have hl : s.len = bs.length := by rw [h.lst.len, byr_len]
 refine ⟨s, h1.box.cell0, a, rfl, _, h1.atC, ?_, hs.first⟩
 rw [hl, IntWalk.i64_in _ (by have := h.small; omega)]; omega
theorem c_At {S : NP} (a : Addr) (s : Sl) (bs : List UInt8) (r : Rd) (w0 : World) (h : RdS S w0 a s bs r) :
  Calls Try.prog 128 #[.pointer (some a)] w0 (fun e w' => ∃ x : Int, e = .returned (.int .i64 x) ∧ x = (r.at_ : Int) ∧ w' = w0) := by
 refine w_G1 (some a) w0 (fun x w' => x = (r.at_ : Int) ∧ w' = w0) ?_
 unfold m_G1
 exact ⟨fun hb => (by cases hb), fun _ => ⟨a, rfl, _, h.atC, rfl, rfl⟩⟩
theorem c_Why {S : NP} (a : Addr) (s : Sl) (bs : List UInt8) (r : Rd) (w0 : World) (h : RdS S w0 a s bs r) :
  Calls Try.prog 184 #[.pointer (some a)] w0 (fun e w' => ∃ x y : Int, e = .returned (.tuple #[.int .i64 x, .int .i64 y]) ∧ x = (r.err : Int) ∧ y = (r.spot : Int) ∧ Pure w0 w') := by
 refine w_I1 (some a) w0 (fun x y w' => x = (r.err : Int) ∧ y = (r.spot : Int) ∧ Pure w0 w') ?_
 unfold m_I1
 refine ⟨fun hb => (by cases hb), fun _ => ⟨a, rfl, fun w1 hs => ?_⟩⟩
 have h1 := h.pure hs.first
 exact ⟨_, h1.errC, a, rfl, _, h1.box.cell (i := 3) rfl, rfl, rfl, hs.first⟩
end Go.Proofs
end
section
open Go Go.SE
namespace Go.Proofs
attribute [local irreducible] Calls CallsD
theorem RetO.after {w w1 w2 : World} {e : TypeId} {sz : Nat} {rs : List (List Value)} {s : Sl} (E : Pure w w1) (h : RetO w1 e sz rs s w2) : RetO w e sz rs s w2 :=
 ⟨h.rows, fun b hb => Nat.le_trans E.size (h.own b hb), E.trans h.pure⟩
section
variable {S : NP} (s : Sl) (bs : List UInt8) (k f t x a b : Int) (y : ByteArray) (m : Option Nat) (w0 : World) (hs : Lst S w0 1 s (byr bs)) (hz : s.a = none → s = Sl.nil) (hn : bs.length ≤ 10000000000)
include hs hz hn
theorem c_putFrom (n : Nat) (hf : f = n) (hN : n < 9223372036854775808) :
  Calls Try.prog 166 #[s.v, .agg #[.int .i64 k, .int .i64 f, .int .i64 t, .int .u64 x, .string y, .int .i64 a, .int .i64 b], .map m] w0 (fun e w' => ∃ r : Sl, e = .returned r.v ∧ RetO w0 5 1 (byr (bs ++ varint n)) r w') := by
 subst hf
 refine w_M1 s k n t x y a b m w0 (fun r w' => RetO w0 5 1 (byr (bs ++ varint n)) r w') ?_
 unfold m_M1
 intro H1 w1 hs1
 rw [wrap_u64 (by omega)]
 refine (c_putNum s bs n w1 (hs.pure hs1.first) hz hn (by omega)).mono ?_
 rintro _ w2 ⟨r, rfl, hR⟩
 exact ⟨r, rfl, hR.kept, hR.after hs1.first⟩
theorem c_putTo (n : Nat) (ht : t = n) (hN : n < 9223372036854775808) :
  Calls Try.prog 170 #[s.v, .agg #[.int .i64 k, .int .i64 f, .int .i64 t, .int .u64 x, .string y, .int .i64 a, .int .i64 b], .map m] w0 (fun e w' => ∃ r : Sl, e = .returned r.v ∧ RetO w0 5 1 (byr (bs ++ varint n)) r w') := by
 subst ht
 refine w_P1 s k f n x y a b m w0 (fun r w' => RetO w0 5 1 (byr (bs ++ varint n)) r w') ?_
 unfold m_P1
 intro H1 w1 hs1
 rw [wrap_u64 (by omega)]
 refine (c_putNum s bs n w1 (hs.pure hs1.first) hz hn (by omega)).mono ?_
 rintro _ w2 ⟨r, rfl, hR⟩
 exact ⟨r, rfl, hR.kept, hR.after hs1.first⟩
theorem c_putNumF (n : Nat) (hx : x = n) (hN : n < 18446744073709551616) :
  Calls Try.prog 172 #[s.v, .agg #[.int .i64 k, .int .i64 f, .int .i64 t, .int .u64 x, .string y, .int .i64 a, .int .i64 b], .map m] w0 (fun e w' => ∃ r : Sl, e = .returned r.v ∧ RetO w0 5 1 (byr (bs ++ varint n)) r w') := by
 subst hx
 refine w_R1 s k f t n y a b m w0 (fun r w' => RetO w0 5 1 (byr (bs ++ varint n)) r w') ?_
 unfold m_R1
 intro H1 w1 hs1
 refine (c_putNum s bs n w1 (hs.pure hs1.first) hz hn (by omega)).mono ?_
 rintro _ w2 ⟨r, rfl, hR⟩
 exact ⟨r, rfl, hR.kept, hR.after hs1.first⟩
theorem c_putTextF (hN : y.size ≤ 10000000000) :
  Calls Try.prog 174 #[s.v, .agg #[.int .i64 k, .int .i64 f, .int .i64 t, .int .u64 x, .string y, .int .i64 a, .int .i64 b], .map m] w0 (fun e w' => ∃ r : Sl, e = .returned r.v ∧ RetO w0 5 1 (byr (bs ++ textBytes y)) r w') := by
 refine w_U1 s k f t x y a b m w0 (fun r w' => RetO w0 5 1 (byr (bs ++ textBytes y)) r w') ?_
 unfold m_U1
 intro H1 w1 hs1
 refine (c_putText s bs y w1 (hs.pure hs1.first) hz hn hN).mono ?_
 rintro _ w2 ⟨r, rfl, hR⟩
 exact ⟨r, rfl, hR.kept, hR.after hs1.first⟩
theorem c_putA (mb : Nat) (M : List (Int × Int)) (n : Nat) (hM : IMap (fun i : Int => .int .i64 i) w0 mb M) (hk : SE.look M a = some (n : Int)) (hN : n < 9223372036854775808) :
  Calls Try.prog 178 #[s.v, .agg #[.int .i64 k, .int .i64 f, .int .i64 t, .int .u64 x, .string y, .int .i64 a, .int .i64 b], .map (some mb)] w0 (fun e w' => ∃ r : Sl, e = .returned r.v ∧ RetO w0 5 1 (byr (bs ++ varint n)) r w') := by
 refine w_X1 s k f t x y a b (some mb) w0 (fun r w' => RetO w0 5 1 (byr (bs ++ varint n)) r w') ?_
 unfold m_X1
 intro H1 w1 hs1
 rcases (hM.pure hs1.first).get (P := Try.prog) (T := 155) Try.underlying155 Try.underlying32 (Try.zeroValue3 _) a false with ⟨h1, _⟩ | ⟨v, h1, hg⟩
 ·rw [hk] at h1; cases h1
 rw [hk] at h1; cases h1
 refine ⟨_, hg, ?_⟩
 rw [wrap_u64 (by omega)]
 refine (c_putNum s bs n w1 (hs.pure hs1.first) hz hn (by omega)).mono ?_
 rintro _ w2 ⟨r, rfl, hR⟩
 exact ⟨r, rfl, hR.kept, hR.after hs1.first⟩
theorem c_putB (mb : Nat) (M : List (Int × Int)) (n : Nat) (hM : IMap (fun i : Int => .int .i64 i) w0 mb M) (hk : SE.look M b = some (n : Int)) (hN : n < 9223372036854775808) :
  Calls Try.prog 180 #[s.v, .agg #[.int .i64 k, .int .i64 f, .int .i64 t, .int .u64 x, .string y, .int .i64 a, .int .i64 b], .map (some mb)] w0 (fun e w' => ∃ r : Sl, e = .returned r.v ∧ RetO w0 5 1 (byr (bs ++ varint n)) r w') := by
 refine w_Z1 s k f t x y a b (some mb) w0 (fun r w' => RetO w0 5 1 (byr (bs ++ varint n)) r w') ?_
 unfold m_Z1
 intro H1 w1 hs1
 rcases (hM.pure hs1.first).get (P := Try.prog) (T := 155) Try.underlying155 Try.underlying32 (Try.zeroValue3 _) b false with ⟨h1, _⟩ | ⟨v, h1, hg⟩
 ·rw [hk] at h1; cases h1
 rw [hk] at h1; cases h1
 refine ⟨_, hg, ?_⟩
 rw [wrap_u64 (by omega)]
 refine (c_putNum s bs n w1 (hs.pure hs1.first) hz hn (by omega)).mono ?_
 rintro _ w2 ⟨r, rfl, hR⟩
 exact ⟨r, rfl, hR.kept, hR.after hs1.first⟩
end
end Go.Proofs
end
