import Derived.Test.YtcldldjildmdlaaProg
import Derived.KernelRfl
import Derived.Test.YtcldldjildmdlaaPa0
section
open Go Go.SE
open Go.IntKind renaming i64 → q6
namespace Go.Proofs
set_option maxRecDepth 100000
set_option maxHeartbeats 4000000
attribute [local irreducible] wpL wpX opE wpE Calls
def m_V_l1 (aD aG : Int) (aH aI : Int) (aJ : ByteArray) (aE : Sl) (i1 bI : Int) (bJ bK bL : Int) (bM : ByteArray) (bD : Sl) (w0 : World) (Hl1 : NP) (wl1 : World) (Kc1 : Int → Int → Int → Int → Int → ByteArray → Sl → NP → WP) (K : Int → Int → Int → Int → ByteArray → Sl → WP) : Prop :=
 Br (decide (i1 < (aE.len : Int)))
  (∃ C1 : WP, C1 wl1.drew ∧ ∀ w6, w6 = wl1.drew →
  ∃ a1 : Addr, At aE i1 6 a1 ∧
  ∃ aN aO : Int, ∃ aP aQ : Int, ∃ aR : ByteArray, ∃ aW : Sl, (∀ w', C1 w' → Row w' a1 [(vi aN), (vi aO), (vi aP), (vu aQ), (vs aR), aW.v]) ∧
  Calls Try.prog 29 #[(.agg #[(vi aN), (vi aO), (vi aP), (vu aQ), (vs aR), aW.v])] w6 (fun e w7 => ∃ bN bO : Int, ∃ bP bQ : Int, ∃ bR : ByteArray, ∃ bS : Sl, e = .returned (.agg #[(vi bN), (vi bO), (vi bP), (vu bQ), (vs bR), bS.v]) ∧ C1 w7 ∧ 
   Kept Hl1 w6 w7 ∧
   ∀ (p4 : Addr) (w8 : World), New w7 (.cells #[(vi bN), (vi bO), (vi bP), (vu bQ), (vs bR), bS.v] 52) p4 w8 → C1 w8 ∧
   ∃ s1 : Sl, ∃ w9 : World, (Builtin.append_ #[22, 22] 22 #[bD.v, (Sl.mk (some p4) 1 1).v]).run Try.prog w8 = .ok s1.v w9 ∧ C1 w9 ∧
   Kept Hl1 w8 w9 ∧
   ∀ (w10 : World), Hst w0 Hl1 w9 Hl1 w10 →
   Kc1 (q6.wrap (i1 + 1)) bI bJ bK bL bM s1 Hl1 w10))
  (∃ C2 : WP, C2 wl1.drew ∧ ∀ w11, w11 = wl1.drew →
  ∀ (p5 : Addr) (w12 : World), New w11 (.cells #[(vi (-1)), (vi 0), (vi 0), (vu 0), (vs ⟨#[]⟩), Sl.nil.v] 52) p5 w12 → C2 w12 ∧
  ∃ s2 : Sl, ∃ w13 : World, (Builtin.append_ #[22, 22] 22 #[bD.v, (Sl.mk (some p5) 1 1).v]).run Try.prog w12 = .ok s2.v w13 ∧ C2 w13 ∧
  Kept Hl1 w12 w13 ∧
  ∃ s3 : Sl, (∀ w', C2 w' → (Instr.sliceAt 22 s2.v none (some (vi (bD.len : Int))) none).run Try.prog w' = .ok s3.v w') ∧
  ∀ (w14 : World), Hst w0 Hl1 w13 Hl1 w14 →
  K aD aG aH aI aJ s3 w14)
def m_V (aD aG : Int) (aH aI : Int) (aJ : ByteArray) (aE : Sl) (w0 : World) (K : Int → Int → Int → Int → ByteArray → Sl → WP) : Prop :=
 ∀ (H3 : NP) (w5 : World), Hst w0 None w0 H3 w5 →
 ∃ (I1 : Int → Int → Int → Int → Int → ByteArray → Sl → NP → WP) (mu1 : Int → Int → Int → Int → Int → ByteArray → Sl → World → Nat), I1 0 aD aG aH aI aJ Sl.nil H3 w5 ∧
  ∀ (i1 bI : Int) (bJ bK bL : Int) (bM : ByteArray) (bD : Sl) (Hl1 : NP) (wl1 : World), Hst w0 Hl1 wl1 Hl1 wl1 → I1 i1 bI bJ bK bL bM bD Hl1 wl1 → m_V_l1 aD aG aH aI aJ aE i1 bI bJ bK bL bM bD w0 Hl1 wl1 (fun y'0 y'1 y'2 y'3 y'4 y'5 y'6 H' w' => I1 y'0 y'1 y'2 y'3 y'4 y'5 y'6 H' w' ∧ mu1 y'0 y'1 y'2 y'3 y'4 y'5 y'6 w' < mu1 i1 bI bJ bK bL bM bD wl1) K
theorem w_V (aD aG : Int) (aH aI : Int) (aJ : ByteArray) (aE : Sl) (w0 : World) (K : Int → Int → Int → Int → ByteArray → Sl → WP) (h : m_V aD aG aH aI aJ aE w0 K) :
  Calls Try.prog 29 #[(.agg #[(vi aD), (vi aG), (vi aH), (vu aI), (vs aJ), aE.v])] w0 (fun e w' => ∃ bZ cA : Int, ∃ cB cC : Int, ∃ cD : ByteArray, ∃ cE : Sl, e = .returned (.agg #[(vi bZ), (vi cA), (vi cB), (vu cC), (vs cD), cE.v]) ∧ K bZ cA cB cC cD cE w') := by
 unfold m_V at h
 refine cw (args := [(.agg #[(vi aD), (vi aG), (vi aH), (vu aI), (vs aJ), aE.v])]) Try.func29 Try.ntmps29 ?_
 have hs := Hst.start w0
 have hb := HB.nil None w0
 refine wpE_seq (rg (sn (O := (.cells #[(vi aD), (vi aG), (vi aH), (vu aI), (vs aJ), aE.v] 52)) xb ?_))
 intro p1 w1 hn1
 obtain ⟨H1, hs, hb⟩ := hs.alloc hb hn1
 refine sn (O := (.cells #[(vi 0), (vi 0), (vi 0), (vu 0), (vs ⟨#[]⟩), Sl.nil.v] 52)) (x_alloc (Try.zeroValue52 _) rfl) ?_
 intro p2 w2 hn2
 obtain ⟨H2, hs, hb⟩ := hs.alloc hb hn2
 refine wpL_nil (th_n (wpE_seq (rg (q2 (.agg #[(vi aD), (vi aG), (vi aH), (vu aI), (vs aJ), aE.v]) (x_loadA (a := p1) (vs := [(vi aD), (vi aG), (vi aH), (vu aI), (vs aJ), aE.v]) (by kernel_rfl) (Try.isAgg52 _) (Try.sizeOf52 _) rfl (hb.row0 1 6 (gS gZ) (by kernel_rfl))) (sn (O := (.cells #[(vi 0), (vi 0), (vi 0), (vu 0), (vs ⟨#[]⟩), Sl.nil.v] 52)) (x_alloc (Try.zeroValue52 _) rfl) ?_)))))
 intro p3 w3 hn3
 obtain ⟨H3, hs, hb⟩ := hs.alloc hb hn3
 refine st_set (want0 rfl) (x_storeA (a := p3) (vs := [(vi aD), (vi aG), (vi aH), (vu aI), (vs aJ), aE.v]) (by kernel_rfl) (by kernel_rfl) rfl (Try.sizeOf52 _) rfl (hb.canWs0 0 6 gZ (by kernel_rfl))) ?_
 intro w4 hn4
 have hsb : Hst w0 None w0 H3 w4 ∧ HB H3 w4 [(p3, [(vi aD), (vi aG), (vi aH), (vu aI), (vs aJ), aE.v], 52), (p2, [(vi 0), (vi 0), (vi 0), (vu 0), (vs ⟨#[]⟩), Sl.nil.v], 52), (p1, [(vi aD), (vi aG), (vi aH), (vu aI), (vs aJ), aE.v], 52)] := by
  rw [hn4]
  exact hb.store0 (i := 0) (vs := [(vi aD), (vi aG), (vi aH), (vu aI), (vs aJ), aE.v]) hs gZ (by kernel_rfl) (by kernel_rfl)
 obtain ⟨hs, hb⟩ := hsb
 refine wpL_nil (th_n (wpE_seq (rg (q0 (vp (some (p3.add 5))) (st_set (want0 rfl) (x_store (a := (p3.add 5)) (v := Sl.nil.v) (by kernel_rfl) (by kernel_rfl) rfl (Try.sizeOf22 _) (hb.canW 0 5 gZ (by kernel_rfl))) ?_)))))
 intro w5 hn5
 have hsb : Hst w0 None w0 H3 w5 ∧ HB H3 w5 [(p3, [(vi aD), (vi aG), (vi aH), (vu aI), (vs aJ), Sl.nil.v], 52), (p2, [(vi 0), (vi 0), (vi 0), (vu 0), (vs ⟨#[]⟩), Sl.nil.v], 52), (p1, [(vi aD), (vi aG), (vi aH), (vu aI), (vs aJ), aE.v], 52)] := by
  rw [hn5]
  exact hb.set (i := 0) 5 (v := Sl.nil.v) hs gZ (by kernel_rfl)
 obtain ⟨hs, hb⟩ := hsb
 refine wpL_nil (th_n (wpE_seq (wpE_seq (rg (q0 (vi 0) (wpL_nil (th_n (wpE_block ?_))))))))
 have h := h H3 w5 hs
 have hs := hs.here
 obtain ⟨I1, mu1, h0, hr⟩ := h
 refine wpE_loop (σ := Int × Int × Int × Int × Int × ByteArray × Sl × NP × World) (fun s ρ w => w = s.2.2.2.2.2.2.2.2 ∧ Has ρ [(1, (vp (some p1))), (2, (vp (some p2))), (3, (vp (some p3))), (4, (vi s.1))] ∧ Hst w0 s.2.2.2.2.2.2.2.1 w s.2.2.2.2.2.2.2.1 w ∧ HB s.2.2.2.2.2.2.2.1 w [(p3, [(vi s.2.1), (vi s.2.2.1), (vi s.2.2.2.1), (vu s.2.2.2.2.1), (vs s.2.2.2.2.2.1), s.2.2.2.2.2.2.1.v], 52), (p2, [(vi 0), (vi 0), (vi 0), (vu 0), (vs ⟨#[]⟩), Sl.nil.v], 52), (p1, [(vi aD), (vi aG), (vi aH), (vu aI), (vs aJ), aE.v], 52)] ∧ I1 s.1 s.2.1 s.2.2.1 s.2.2.2.1 s.2.2.2.2.1 s.2.2.2.2.2.1 s.2.2.2.2.2.2.1 s.2.2.2.2.2.2.2.1 s.2.2.2.2.2.2.2.2) (fun s => mu1 s.1 s.2.1 s.2.2.1 s.2.2.2.1 s.2.2.2.2.1 s.2.2.2.2.2.1 s.2.2.2.2.2.2.1 s.2.2.2.2.2.2.2.2) (0, aD, aG, aH, aI, aJ, Sl.nil, H3, w5) ⟨rfl, hm, hs, hb, h0⟩ ?_
 rintro ⟨i1, bI, bJ, bK, bL, bM, bD, Hl1, wl1⟩ ρ w ⟨hw, hH, hs, hb, hI⟩
 obtain rfl : wl1 = w := (show w = wl1 from hw).symm
 have hH : Has ρ [(1, (vp (some p1))), (2, (vp (some p2))), (3, (vp (some p3))), (4, (vi i1))] := hH
 have hs : Hst w0 Hl1 wl1 Hl1 wl1 := hs
 have hb : HB Hl1 wl1 [(p3, [(vi bI), (vi bJ), (vi bK), (vu bL), (vs bM), bD.v], 52), (p2, [(vi 0), (vi 0), (vi 0), (vu 0), (vs ⟨#[]⟩), Sl.nil.v], 52), (p1, [(vi aD), (vi aG), (vi aH), (vu aI), (vs aJ), aE.v], 52)] := hb
 have h := hr i1 bI bJ bK bL bM bD Hl1 wl1 hs hI
 unfold m_V_l1 at h
 refine wpE_has hH ?_
 refine wpE_seq (wpE_seq (rg (q0 (vi i1) (q0 (vp (some (p1.add 5))) (q2 aE.v (xl (Try.isAgg22 _) (hb.c 2 5 (gS (gS gZ)))) (q0 (vi (aE.len : Int)) (q0 (vb (decide (i1 < (aE.len : Int)))) (wpL_nil (th_n ?_)))))))))
 refine wpE_cond (t := (decide (i1 < (aE.len : Int)))) (by kernel_rfl) (fun hc1 => ?_) (fun hc1 => ?_)
 ·have h := h.1 hc1
  refine wpE_skip (th_n (wpE_seq (wpE_block ?_)))
  obtain ⟨C1, hC, h⟩ := h
  refine wpE_drawnC (fun x => C1 x ∧ HB Hl1 x [(p3, [(vi bI), (vi bJ), (vi bK), (vu bL), (vs bM), bD.v], 52), (p2, [(vi 0), (vi 0), (vi 0), (vu 0), (vs ⟨#[]⟩), Sl.nil.v], 52), (p1, [(vi aD), (vi aG), (vi aH), (vu aI), (vs aJ), aE.v], 52)]) [7, 8, 9, 11] [11] (by kernel_rfl) (by kernel_rfl) (by kernel_rfl) (by kernel_rfl) ⟨hC, hb.drew⟩ ?_
  intro w6 hw6
  have h := h w6 hw6
  have hs : Hst w0 Hl1 wl1 Hl1 w6 := by rw [hw6]; exact hs.drew
  have hb : HB Hl1 w6 [(p3, [(vi bI), (vi bJ), (vi bK), (vu bL), (vs bM), bD.v], 52), (p2, [(vi 0), (vi 0), (vi 0), (vu 0), (vs ⟨#[]⟩), Sl.nil.v], 52), (p1, [(vi aD), (vi aG), (vi aH), (vu aI), (vs aJ), aE.v], 52)] := by rw [hw6]; exact hb.drew
  have hs := hs.here
  refine qx 0 (vp (some (p3.add 5))) Kp0 (qz 1 bD.v Kp1 (fun w' hw' => (xl (Try.isAgg22 _) (hw'.2.cell 0 5 gZ (by kernel_rfl)))) (qx 2 (vp (some (p1.add 5))) Kp2 (qz 3 aE.v Kp3 (fun w' hw' => (xl (Try.isAgg22 _) (hw'.2.cell 2 5 (gS (gS gZ)) (by kernel_rfl)))) (qx 4 (vi i1) Kp4 (qg 5 ?_)))))
  obtain ⟨a1, hv3, h⟩ := h
  refine sy (v := (vp (some a1))) Kp5 (fun _ _ => (xi (Try.runUnderlying22 _) (Try.sizeOf52 _) hv3)) (qg 6 ?_)
  obtain ⟨aN, aO, aP, aQ, aR, aW, hv2, h⟩ := h
  refine sy (v := (.agg #[(vi aN), (vi aO), (vi aP), (vu aQ), (vs aR), aW.v])) Kp6 (fun w' hw' => (x_loadA (a := a1) (vs := [(vi aN), (vi aO), (vi aP), (vu aQ), (vs aR), aW.v]) (by kernel_rfl) (Try.isAgg52 _) (Try.sizeOf52 _) rfl (hv2 w' hw'.1))) (lg 7 ?_)
  refine sl_call Kp7 (want0 rfl) (by kernel_rfl) (xc Try.call29) (h.mono ?_)
  rintro e w7 ⟨bN, bO, bP, bQ, bR, bS, rfl, hC, hk, h⟩
  refine ⟨_, rfl, .inr ⟨hC, hb.kept hk⟩, ?_⟩
  obtain ⟨hs, hb⟩ := hk.hh hs hb
  refine lg 8 (sl_new (O := (.cells #[(vi bN), (vi bO), (vi bP), (vu bQ), (vs bR), bS.v] 52)) (fun p => (Sl.mk (some p) 1 1).v) Kp8 (want0 rfl) (by kernel_rfl) (x_buildSlice (vs := #[(0, (.agg #[(vi bN), (vi bO), (vi bP), (vu bQ), (vs bR), bS.v]))]) (by kernel_rfl) (by kernel_rfl)) ?_)
  intro p4 w8 hn7
  have h := h p4 w8 hn7
  refine ⟨.inr ⟨h.1, hb.kept (Ext.new (F := None) hn7).keptP⟩, ?_⟩
  have h := h.2
  have hs := hs.again (Ext.new (F := None) hn7).keptP
  have hb := hb.kept (Ext.new (F := None) hn7).keptP
  refine lg 9 ?_
  obtain ⟨s1, w9, hv1, hC, hk, h⟩ := h
  refine sl (v := s1.v) Kp9 (want0 rfl) (by kernel_rfl) (x_builtin (args := #[bD.v, (Sl.mk (some p4) 1 1).v]) (by kernel_rfl) (fun _ => rfl) hv1) (.inr ⟨hC, hb.kept hk⟩) ?_
  obtain ⟨hs, hb⟩ := hk.hh hs hb
  refine qx 10 (vp (some (p3.add 5))) (pickA (S8 (pickS (pickS pickZ)))) (lg 11 (sl_t (pickA (S8 (pickS (pickS (pickS pickZ))))) (xs (v := s1.v) (Try.sizeOf22 _) (hb.canW 0 5 gZ (by kernel_rfl))) ?_))
  intro w10 hn6
  have hsb : Hst w0 Hl1 w9 Hl1 w10 ∧ HB Hl1 w10 [(p3, [(vi bI), (vi bJ), (vi bK), (vu bL), (vs bM), s1.v], 52), (p2, [(vi 0), (vi 0), (vi 0), (vu 0), (vs ⟨#[]⟩), Sl.nil.v], 52), (p1, [(vi aD), (vi aG), (vi aH), (vu aI), (vs aJ), aE.v], 52)] := by
   rw [hn6]
   exact hb.set (i := 0) 5 (v := s1.v) hs gZ (by kernel_rfl)
  obtain ⟨hs, hb⟩ := hsb
  refine ⟨.inl (by kernel_rfl), ?_⟩
  refine wn (bl_n (th_n (rg (q0 (vi i1) (q0 (vi (q6.wrap (i1 + 1))) (q0 (vi (q6.wrap (i1 + 1))) (wpL_nil ?_)))))))
  have h := h w10 hs
  have hs := hs.here
  refine th_n ?_
  exact ⟨((q6.wrap (i1 + 1)), bI, bJ, bK, bL, bM, s1, Hl1, w10), ⟨rfl, hm, hs, hb, h.1⟩, h.2⟩
 ·have h := h.2 hc1
  refine wpE_exit (th_x (th_x (bl_eq (th_n (wpE_seq (rg (q0 (vp (some (p3.add 5))) (q2 bD.v (xl (Try.isAgg22 _) (hb.c 0 5 gZ)) (q0 (vi (bD.len : Int)) (q0 (vi (bD.len : Int)) (wpL_nil ?_)))))))))))
  refine th_n (wpE_seq ?_)
  obtain ⟨C2, hC, h⟩ := h
  refine wpE_drawnC (fun x => C2 x ∧ HB Hl1 x [(p3, [(vi bI), (vi bJ), (vi bK), (vu bL), (vs bM), bD.v], 52), (p2, [(vi 0), (vi 0), (vi 0), (vu 0), (vs ⟨#[]⟩), Sl.nil.v], 52), (p1, [(vi aD), (vi aG), (vi aH), (vu aI), (vs aJ), aE.v], 52)]) [13, 14, 18] [18] (by kernel_rfl) (by kernel_rfl) (by kernel_rfl) (by kernel_rfl) ⟨hC, hb.drew⟩ ?_
  intro w11 hw11
  have h := h w11 hw11
  have hs : Hst w0 Hl1 wl1 Hl1 w11 := by rw [hw11]; exact hs.drew
  have hb : HB Hl1 w11 [(p3, [(vi bI), (vi bJ), (vi bK), (vu bL), (vs bM), bD.v], 52), (p2, [(vi 0), (vi 0), (vi 0), (vu 0), (vs ⟨#[]⟩), Sl.nil.v], 52), (p1, [(vi aD), (vi aG), (vi aH), (vu aI), (vs aJ), aE.v], 52)] := by rw [hw11]; exact hb.drew
  have hs := hs.here
  refine qx 0 (vp (some p1)) Kp0 (qz 1 (vi aD) Kp1 (fun w' hw' => (xl (Try.isAgg3 _) (hw'.2.cell0 2 (gS (gS gZ)) (by kernel_rfl)))) (qx 2 (vp (some (p1.add 1))) Kp2 (qz 3 (vi aG) Kp3 (fun w' hw' => (xl (Try.isAgg3 _) (hw'.2.cell 2 1 (gS (gS gZ)) (by kernel_rfl)))) (qx 4 (vp (some (p1.add 2))) Kp4 (qz 5 (vi aH) Kp5 (fun w' hw' => (xl (Try.isAgg3 _) (hw'.2.cell 2 2 (gS (gS gZ)) (by kernel_rfl)))) (qx 6 (vp (some (p1.add 3))) Kp6 (qz 7 (vu aI) Kp7 (fun w' hw' => (xl (Try.isAgg50 _) (hw'.2.cell 2 3 (gS (gS gZ)) (by kernel_rfl)))) (qx 8 (vp (some (p1.add 4))) Kp8 (qz 9 (vs aJ) Kp9 (fun w' hw' => (xl (Try.isAgg9 _) (hw'.2.cell 2 4 (gS (gS gZ)) (by kernel_rfl)))) (qx 10 (vp (some (p3.add 5))) (pickA (S8 (pickS (pickS pickZ)))) (qz 11 bD.v (pickA (S8 (pickS (pickS (pickS pickZ))))) (fun w' hw' => (xl (Try.isAgg22 _) (hw'.2.cell 0 5 gZ (by kernel_rfl)))) ?_)))))))))))
  refine qx 12 (.agg #[(vi (-1)), (vi 0), (vi 0), (vu 0), (vs ⟨#[]⟩), Sl.nil.v]) (pickA (S8 (S4 pickZ))) (qx 15 (vi (bD.len : Int)) (pickA (S8 (S4 (pickS (pickS (pickS pickZ)))))) (lg 13 (sl_new (O := (.cells #[(vi (-1)), (vi 0), (vi 0), (vu 0), (vs ⟨#[]⟩), Sl.nil.v] 52)) (fun p => (Sl.mk (some p) 1 1).v) (pickA (S8 (S4 (pickS pickZ)))) (want0 rfl) (by kernel_rfl) (x_buildSlice (vs := #[(0, (.agg #[(vi (-1)), (vi 0), (vi 0), (vu 0), (vs ⟨#[]⟩), Sl.nil.v]))]) (by kernel_rfl) (by kernel_rfl)) ?_)))
  intro p5 w12 hn9
  have h := h p5 w12 hn9
  refine ⟨.inr ⟨h.1, hb.kept (Ext.new (F := None) hn9).keptP⟩, ?_⟩
  have h := h.2
  have hs := hs.again (Ext.new (F := None) hn9).keptP
  have hb := hb.kept (Ext.new (F := None) hn9).keptP
  refine lg 14 ?_
  obtain ⟨s2, w13, hv5, hC, hk, h⟩ := h
  refine sl (v := s2.v) (pickA (S8 (S4 (pickS (pickS pickZ))))) (want0 rfl) (by kernel_rfl) (x_builtin (args := #[bD.v, (Sl.mk (some p5) 1 1).v]) (by kernel_rfl) (fun _ => rfl) hv5) (.inr ⟨hC, hb.kept hk⟩) ?_
  obtain ⟨hs, hb⟩ := hk.hh hs hb
  refine qg 16 ?_
  obtain ⟨s3, hv4, h⟩ := h
  refine sy (v := s3.v) (pickA (S8 (S8 pickZ))) (fun w' hw' => (x_slice (by kernel_rfl) (by kernel_rfl) (by kernel_rfl) (by kernel_rfl) (hv4 w' hw'.1))) (qx 17 (.agg #[(vi aD), (vi aG), (vi aH), (vu aI), (vs aJ), s3.v]) (pickA (S8 (S8 (pickS pickZ)))) (lg 18 (sl_set (pickA (S8 (S8 (pickS (pickS pickZ))))) (want0 rfl) (by kernel_rfl) (x_storeA (a := p2) (vs := [(vi aD), (vi aG), (vi aH), (vu aI), (vs aJ), s3.v]) (by kernel_rfl) (by kernel_rfl) rfl (Try.sizeOf52 _) rfl (hb.canWs0 1 6 (gS gZ) (by kernel_rfl))) ?_)))
  intro w14 hn8
  have hsb : Hst w0 Hl1 w13 Hl1 w14 ∧ HB Hl1 w14 [(p3, [(vi bI), (vi bJ), (vi bK), (vu bL), (vs bM), bD.v], 52), (p2, [(vi aD), (vi aG), (vi aH), (vu aI), (vs aJ), s3.v], 52), (p1, [(vi aD), (vi aG), (vi aH), (vu aI), (vs aJ), aE.v], 52)] := by
   rw [hn8]
   exact hb.store0 (i := 1) (vs := [(vi aD), (vi aG), (vi aH), (vu aI), (vs aJ), s3.v]) hs (gS gZ) (by kernel_rfl) (by kernel_rfl)
  obtain ⟨hs, hb⟩ := hsb
  refine ⟨.inl (by kernel_rfl), ?_⟩
  refine wn (th_n (wpE_ret ?_))
  have h := h w14 hs
  have hs := hs.here
  refine resG (.inl rfl) (vs := [(.agg #[(vi aD), (vi aG), (vi aH), (vu aI), (vs aJ), s3.v])]) (v := (.agg #[(vi aD), (vi aG), (vi aH), (vu aI), (vs aJ), s3.v])) Try.results29 ⟨(RV.cellA (by kernel_rfl) (Try.isAgg52 _) (Try.sizeOf52 _) rfl (hb.row0 1 6 (gS gZ) (by kernel_rfl))), trivial⟩ (by kernel_rfl) ?_
  exact ⟨aD, aG, aH, aI, aJ, s3, rfl, h⟩
def m_S1 (p1 : Option Addr) (t1 : Int) (w0 : World) (K : Bool → WP) : Prop :=
 Br (decide (t1 ≥ 1))
  (∃ a1 : Addr, p1 = some a1 ∧
  ∃ v1 : Sl, w0.cell? a1 = some v1.v ∧
  K (decide (t1 ≤ (v1.len : Int))) w0)
  (K false w0)
theorem w_S1 (p1 : Option Addr) (t1 : Int) (w0 : World) (K : Bool → WP) (h : m_S1 p1 t1 w0 K) :
  Calls Try.prog 33 #[(vp p1), (vi t1)] w0 (fun e w' => ∃ r1 : Bool, e = .returned (vb r1) ∧ K r1 w') := by
 unfold m_S1 at h
 refine cw (args := [(vp p1), (vi t1)]) Try.func33 Try.ntmps33 (wpE_seq (rg (q0 (vb false) (wpL_nil (th_n (wpE_seq (rg (q0 (vi t1) (q0 (vb (decide (t1 ≥ 1))) (q0 (vb (decide (t1 ≥ 1))) ?_))))))))))
 rcases Bool.eq_false_or_eq_true (decide (t1 ≥ 1)) with hg1 | hg1
 ·have h := h.1 hg1
  refine q1 (vi t1) (want1 rfl (yD 7 hg1)) (q1 (vp p1) (want1 rfl (yD 7 hg1)) ?_)
  obtain ⟨a1, hp1, h⟩ := h
  refine stp (v := (vp (some a1))) (want1 rfl (yD 7 hg1)) (x_nilCheck (p := p1) (by kernel_rfl) hp1) (q1 (vp (some a1)) (want1 rfl (yD 7 hg1)) ?_)
  obtain ⟨v1, hv1, h⟩ := h
  refine stp (v := v1.v) (want1 rfl (yD 7 hg1)) (xl (Try.isAgg68 _) hv1) (q1 (vi (v1.len : Int)) (want1 rfl (yD 7 hg1)) (q1 (vb (decide (t1 ≤ (v1.len : Int)))) (want1 rfl (yD 7 hg1)) (q2 (vb (decide (t1 ≤ (v1.len : Int)))) (xT hg1) (q0 (vb (decide (t1 ≤ (v1.len : Int)))) (wpL_nil (th_n (wpE_ret (rs1 Try.results33 (v := (vb (decide (t1 ≤ (v1.len : Int))))) ?_))))))))
  exact ⟨(decide (t1 ≤ (v1.len : Int))), rfl, h⟩
 ·have h := h.2 hg1
  refine sk (yD 7 hg1) (sk (yD 7 hg1) (sk (yD 7 hg1) (sk (yD 7 hg1) (sk (yD 7 hg1) (sk (yD 7 hg1) (sk (yD 7 hg1) (q2 (vb false) (xF hg1) (q0 (vb false) (wpL_nil (th_n (wpE_ret ?_)))))))))))
  refine rs1 Try.results33 (v := (vb false)) ?_
  exact ⟨false, rfl, h⟩
def m_O_j1 (w1 : Option Addr) (t1 : Int) (x1 : Bool) (w : World) (K : WP) : Prop :=
 Br x1
  (K w)
  (∃ a1 : Addr, w1 = some a1 ∧
  ∃ v1 : Sl, w.cell? (a1.add 1) = some v1.v ∧
  ∃ a2 : Addr, At v1 t1 1 a2 ∧
  CanW w a2 ∧ ∀ w2 : World, w2 = w.setCell a2 (vb true) →
  ∃ a3 : Addr, w1 = some a3 ∧
  ∃ v2 : Option Addr, w2.cell? a3 = some (vp v2) ∧
  ∃ a4 : Addr, v2 = some a4 ∧
  ∃ v3 : Sl, w2.cell? a4 = some v3.v ∧
  ∃ a5 : Addr, At v3 (q6.wrap (t1 - 1)) 7 a5 ∧
  ∃ v4 : Int, w2.cell? (a5.add 5) = some (vi v4) ∧
  Calls Try.prog 104 #[(vp w1), (vi v4)] w2 (fun e w3 => e = .returned (.tuple #[]) ∧ 
   ∃ a6 : Addr, w1 = some a6 ∧
   ∃ v5 : Option Addr, w3.cell? a6 = some (vp v5) ∧
   ∃ a7 : Addr, v5 = some a7 ∧
   ∃ v6 : Sl, w3.cell? a7 = some v6.v ∧
   ∃ a8 : Addr, At v6 (q6.wrap (t1 - 1)) 7 a8 ∧
   ∃ v7 : Int, w3.cell? (a8.add 6) = some (vi v7) ∧
   Calls Try.prog 104 #[(vp w1), (vi v7)] w3 (fun e w4 => e = .returned (.tuple #[]) ∧ 
    ∃ a9 : Addr, w1 = some a9 ∧
    ∃ v8 : Sl, w4.cell? (a9.add 2) = some v8.v ∧
    ∀ (p1 : Addr) (w5 : World), New w4 (.cells #[(vi t1)] 32) p1 w5 →
    ∃ s1 : Sl, ∃ w6 : World, (Builtin.append_ #[39, 39] 39 #[v8.v, (Sl.mk (some p1) 1 1).v]).run Try.prog w5 = .ok s1.v w6 ∧
    ∃ a10 : Addr, w1 = some a10 ∧
    CanW w6 (a10.add 2) ∧ ∀ w7 : World, w7 = w6.setCell (a10.add 2) s1.v →
    K w7)))
def m_O (w1 : Option Addr) (t1 : Int) (w0 : World) (K : WP) : Prop :=
 ∃ a11 : Addr, w1 = some a11 ∧
 ∃ v9 : Option Addr, w0.cell? a11 = some (vp v9) ∧
 Calls Try.prog 33 #[(vp v9), (vi t1)] w0 (fun e w8 => ∃ r1 : Bool, e = .returned (vb r1) ∧ 
  Br (!r1)
   (m_O_j1 w1 t1 true w8 K)
   (∃ a12 : Addr, w1 = some a12 ∧
   ∃ v10 : Sl, w8.cell? (a12.add 1) = some v10.v ∧
   ∃ a13 : Addr, At v10 t1 1 a13 ∧
   ∃ v11 : Bool, w8.cell? a13 = some (vb v11) ∧
   m_O_j1 w1 t1 v11 w8 K))
theorem w_O (w1 : Option Addr) (t1 : Int) (w0 : World) (K : WP) (h : m_O w1 t1 w0 K) :
  Calls Try.prog 104 #[(vp w1), (vi t1)] w0 (fun e w' => e = .returned (.tuple #[]) ∧ K  w') := by
 unfold m_O at h
 refine cw (args := [(vp w1), (vi t1)]) Try.func104 Try.ntmps104 (wpE_seq (wpE_seq ?_))
 refine wpE_joinT (fun ρ w => ∃ x1 : Bool, Has ρ [(0, (vp w1)), (1, (vi t1)), (19, (vb x1))] ∧ m_O_j1 w1 t1 x1 w K) ?_ ?_
 ·rintro ρ w ⟨x1, hH, h⟩
  unfold m_O_j1 at h
  refine wpE_has hH ?_
  refine wpE_cond (t := x1) (by kernel_rfl) (fun hc1 => ?_) (fun hc1 => ?_)
  ·have h := h.1 hc1
   refine wpE_ret (th_r (res0 (.inl rfl) Try.results104 ?_))
   exact ⟨rfl, h⟩
  ·have h := h.2 hc1
   refine wpE_skip (th_n (wpE_seq (rg (q0 (vp w1) ?_))))
   obtain ⟨a1, hp1, h⟩ := h
   refine q2 (vp (some a1)) (x_nilCheck (p := w1) (by kernel_rfl) hp1) (q0 (vp (some (a1.add 1))) ?_)
   obtain ⟨v1, hv12, h⟩ := h
   refine q2 v1.v (xl (Try.isAgg112 _) hv12) (q0 (vi t1) ?_)
   obtain ⟨a2, hv11, h⟩ := h
   refine q2 (vp (some a2)) (xi (Try.runUnderlying112 _) (Try.sizeOf4 _) hv11) ?_
   obtain ⟨hp2, h⟩ := h
   refine st_set (want0 rfl) (x_store (a := a2) (v := (vb true)) (by kernel_rfl) (by kernel_rfl) rfl (Try.sizeOf4 _) hp2) ?_
   intro w2 hn1
   have h := h w2 hn1
   refine wpL_nil (th_n (wpE_seq (rg (q0 (vp w1) (q0 (vp w1) ?_)))))
   obtain ⟨a3, hp3, h⟩ := h
   refine q2 (vp (some a3)) (x_nilCheck (p := w1) (by kernel_rfl) hp3) (q0 (vp (some a3)) ?_)
   obtain ⟨v2, hv10, h⟩ := h
   refine q2 (vp v2) (xl (Try.isAgg38 _) hv10) ?_
   obtain ⟨a4, hp4, h⟩ := h
   refine q2 (vp (some a4)) (x_nilCheck (p := v2) (by kernel_rfl) hp4) (q0 (vp (some a4)) ?_)
   obtain ⟨v3, hv9, h⟩ := h
   refine q2 v3.v (xl (Try.isAgg68 _) hv9) (q0 (vi t1) (q0 (vi (q6.wrap (t1 - 1))) ?_))
   obtain ⟨a5, hv8, h⟩ := h
   refine q2 (vp (some a5)) (xi (Try.runUnderlying68 _) (Try.sizeOf106 _) hv8) (q0 (vp (some (a5.add 5))) ?_)
   obtain ⟨v4, hv7, h⟩ := h
   refine q2 (vi v4) (xl (Try.isAgg32 _) hv7) ?_
   refine sc Try.call104 (h.mono ?_)
   rintro e w3 ⟨rfl, h⟩
   refine ⟨_, rfl, ?_⟩
   refine wpL_nil (th_n (wpE_seq (rg (q0 (vp w1) (q0 (vp w1) ?_)))))
   obtain ⟨a6, hp5, h⟩ := h
   refine q2 (vp (some a6)) (x_nilCheck (p := w1) (by kernel_rfl) hp5) (q0 (vp (some a6)) ?_)
   obtain ⟨v5, hv6, h⟩ := h
   refine q2 (vp v5) (xl (Try.isAgg38 _) hv6) ?_
   obtain ⟨a7, hp6, h⟩ := h
   refine q2 (vp (some a7)) (x_nilCheck (p := v5) (by kernel_rfl) hp6) (q0 (vp (some a7)) ?_)
   obtain ⟨v6, hv5, h⟩ := h
   refine q2 v6.v (xl (Try.isAgg68 _) hv5) (q0 (vi t1) (q0 (vi (q6.wrap (t1 - 1))) ?_))
   obtain ⟨a8, hv4, h⟩ := h
   refine q2 (vp (some a8)) (xi (Try.runUnderlying68 _) (Try.sizeOf106 _) hv4) (q0 (vp (some (a8.add 6))) ?_)
   obtain ⟨v7, hv3, h⟩ := h
   refine q2 (vi v7) (xl (Try.isAgg32 _) hv3) ?_
   refine sc Try.call104 (h.mono ?_)
   rintro e w4 ⟨rfl, h⟩
   refine ⟨_, rfl, ?_⟩
   refine wpL_nil (th_n (rg (q0 (vp w1) (q0 (vp w1) ?_))))
   obtain ⟨a9, hp7, h⟩ := h
   refine q2 (vp (some a9)) (x_nilCheck (p := w1) (by kernel_rfl) hp7) (q0 (vp (some (a9.add 2))) ?_)
   obtain ⟨v8, hv2, h⟩ := h
   refine q2 v8.v (xl (Try.isAgg39 _) hv2) (q0 (vi t1) (st_new (O := (.cells #[(vi t1)] 32)) (fun p => (Sl.mk (some p) 1 1).v) (want0 rfl) (x_buildSlice (vs := #[(0, (vi t1))]) (by kernel_rfl) (by kernel_rfl)) ?_))
   intro p1 w5 hn3
   have h := h p1 w5 hn3
   obtain ⟨s1, w6, hv1, h⟩ := h
   refine st (v := s1.v) (want0 rfl) (x_builtin (args := #[v8.v, (Sl.mk (some p1) 1 1).v]) (by kernel_rfl) (fun _ => rfl) hv1) ?_
   obtain ⟨a10, hp8, h⟩ := h
   refine q2 (vp (some a10)) (x_nilCheck (p := w1) (by kernel_rfl) hp8) (q0 (vp (some (a10.add 2))) ?_)
   obtain ⟨hp9, h⟩ := h
   refine st_set (want0 rfl) (x_store (a := (a10.add 2)) (v := s1.v) (by kernel_rfl) (by kernel_rfl) rfl (Try.sizeOf39 _) hp9) ?_
   intro w7 hn2
   have h := h w7 hn2
   refine wpL_nil (res0 (.inr rfl) Try.results104 ?_)
   exact ⟨rfl, h⟩
 ·refine rg (q0 (vp w1) ?_)
  obtain ⟨a11, hp10, h⟩ := h
  refine q2 (vp (some a11)) (x_nilCheck (p := w1) (by kernel_rfl) hp10) (q0 (vp (some a11)) ?_)
  obtain ⟨v9, hv16, h⟩ := h
  refine q2 (vp v9) (xl (Try.isAgg38 _) hv16) (q0 (vi t1) ?_)
  refine sc Try.call33 (h.mono ?_)
  rintro e w8 ⟨r1, rfl, h⟩
  refine ⟨_, rfl, ?_⟩
  refine q0 (vb (!r1)) (q0 (vb (!r1)) ?_)
  rcases Bool.eq_false_or_eq_true (!r1) with hg1 | hg1
  ·have h := h.1 hg1
   refine sk (yD 11 hg1) (sk (yD 11 hg1) (sk (yD 11 hg1) (sk (yD 11 hg1) (sk (yD 11 hg1) (sk (yD 11 hg1) (sk (yD 11 hg1) (q2 (vb true) (xT hg1) (wpL_nil (th_n ?_)))))))))
   exact ⟨true, hm, h⟩
  ·have h := h.2 hg1
   refine q1 (vp w1) (want1 rfl (yD 11 hg1)) ?_
   obtain ⟨a12, hp11, h⟩ := h
   refine stp (v := (vp (some a12))) (want1 rfl (yD 11 hg1)) (x_nilCheck (p := w1) (by kernel_rfl) hp11) (q1 (vp (some (a12.add 1))) (want1 rfl (yD 11 hg1)) ?_)
   obtain ⟨v10, hv15, h⟩ := h
   refine stp (v := v10.v) (want1 rfl (yD 11 hg1)) (xl (Try.isAgg112 _) hv15) (q1 (vi t1) (want1 rfl (yD 11 hg1)) ?_)
   obtain ⟨a13, hv14, h⟩ := h
   refine stp (v := (vp (some a13))) (want1 rfl (yD 11 hg1)) (xi (Try.runUnderlying112 _) (Try.sizeOf4 _) hv14) ?_
   obtain ⟨v11, hv13, h⟩ := h
   refine stp (v := (vb v11)) (want1 rfl (yD 11 hg1)) (xl (Try.isAgg4 _) hv13) (q2 (vb v11) (xF hg1) (wpL_nil (th_n ?_)))
   exact ⟨v11, hm, h⟩
def m_T1 (p1 : Option Addr) (t1 : Int) (w0 : World) (K : Sl → WP) : Prop :=
 ∃ a1 : Addr, p1 = some a1 ∧
 ∃ v1 : Sl, w0.cell? a1 = some v1.v ∧
 ∃ s1 : Sl, ∃ w1 : World, (Instr.makeSlice 112 (vi (q6.wrap ((v1.len : Int) + 1))) (vi (q6.wrap ((v1.len : Int) + 1)))).run Try.prog w0 = .ok s1.v w1 ∧
 ∀ (p2 : Addr) (w2 : World), New w1 (.cells #[(vp p1), s1.v, Sl.nil.v] 152) p2 w2 →
 Calls Try.prog 104 #[(vp (some p2)), (vi t1)] w2 (fun e w3 => e = .returned (.tuple #[]) ∧ 
  ∃ v2 : Sl, w3.cell? (p2.add 2) = some v2.v ∧
  K v2 w3)
theorem w_T1 (p1 : Option Addr) (t1 : Int) (w0 : World) (K : Sl → WP) (h : m_T1 p1 t1 w0 K) :
  Calls Try.prog 52 #[(vp p1), (vi t1)] w0 (fun e w' => ∃ r1 : Sl, e = .returned r1.v ∧ K r1 w') := by
 unfold m_T1 at h
 refine cw (args := [(vp p1), (vi t1)]) Try.func52 Try.ntmps52 (wpE_seq (rg (q0 Sl.nil.v (wpL_nil (th_n (wpE_seq (rg (q0 (vp p1) (q0 (vp p1) ?_)))))))))
 obtain ⟨a1, hp1, h⟩ := h
 refine q2 (vp (some a1)) (x_nilCheck (p := p1) (by kernel_rfl) hp1) (q0 (vp (some a1)) ?_)
 obtain ⟨v1, hv3, h⟩ := h
 refine q2 v1.v (xl (Try.isAgg68 _) hv3) (q0 (vi (v1.len : Int)) (q0 (vi (q6.wrap ((v1.len : Int) + 1))) ?_))
 obtain ⟨s1, w1, hv2, h⟩ := h
 refine st (v := s1.v) (want0 rfl) (x_makeSlice (by kernel_rfl) (by kernel_rfl) hv2) (q0 (.agg #[(vp p1), s1.v, Sl.nil.v]) (sn (O := (.cells #[(vp p1), s1.v, Sl.nil.v] 152)) xb ?_))
 intro p2 w2 hn1
 have h := h p2 w2 hn1
 refine q0 (vp (some p2)) (wpL_nil (th_n (wpE_seq (rg (q0 (vp (some p2)) (q0 (vi t1) ?_))))))
 refine sc Try.call104 (h.mono ?_)
 rintro e w3 ⟨rfl, h⟩
 refine ⟨_, rfl, ?_⟩
 refine wpL_nil (th_n (wpE_seq (rg (q0 (vp (some p2)) (q0 (vp (some p2)) (q0 (vp (some (p2.add 2))) ?_))))))
 obtain ⟨v2, hv1, h⟩ := h
 refine q2 v2.v (xl (Try.isAgg39 _) hv1) (q0 v2.v (wpL_nil (th_n (wpE_ret (rs1 Try.results52 (v := v2.v) ?_)))))
 exact ⟨v2, rfl, h⟩
def s_A (kind1 : Int) : Int :=
 (cond (kind1 == 4) 2 (cond (cond (kind1 == 5) (kind1 == 5) (cond (kind1 == 7) (kind1 == 7) (cond (kind1 == 8) (kind1 == 8) (kind1 == 9)))) 1 0))
theorem pw_A (kind1 : Int) (w0 : World) :
  Calls Try.prog 90 #[(vi kind1)] w0 (fun e w' => ∃ b'0 b'1 : Bool, ((kind1 == 4) = b'0 ∧ (cond (kind1 == 5) (kind1 == 5) (cond (kind1 == 7) (kind1 == 7) (cond (kind1 == 8) (kind1 == 8) (kind1 == 9)))) = b'1) ∧ (e = .returned (vi (cond b'0 2 (cond b'1 1 0)))) ∧ Pure w0 w') := by
 refine cw (args := [(vi kind1)]) Try.func90 Try.ntmps90 (wpE_seq (rg (q0 (vi 0) (wpL_nil (th_n (wpE_seq (wpE_seq (rg (q0 (vi kind1) (wpL_nil (th_n ?_)))))))))))
 refine wpE_block (wpE_seq (rg (q0 (vb (kind1 == 4)) (q0 (vb (kind1 == 4)) (wpL_nil (th_n ?_))))))
 refine wpE_cond (t := (kind1 == 4)) (by kernel_rfl) (fun hc1 => ?_) (fun hc1 => ?_)
 ·refine wpE_seq (rg (q0 (vi 2) (wpL_nil (th_n (wpE_ret (bl_r (th_r (rs1 Try.results90 (v := (vi 2)) ?_))))))))
  exact ⟨true, _, ⟨hc1, rfl⟩, by kernel_rfl, Ext.refl _⟩
 ·refine wpE_seq (wpE_seq (rg (q0 (vb (kind1 == 5)) (q0 (vb (kind1 == 5)) (wpL_nil (th_n ?_))))))
  refine wpE_via (fun ρ wJ => ∃ b1'0 b1'1 b1'2 : Bool, ((kind1 == 5) = b1'0) ∧ ((kind1 == 7) = b1'1) ∧ ((kind1 == 8) = b1'2) ∧ w0 = wJ ∧ Has ρ [(6, (vb (cond b1'0 (kind1 == 5) (cond b1'1 (kind1 == 7) (cond b1'2 (kind1 == 8) (kind1 == 9))))))]) ?_ ?_
  ·refine wpE_cond (t := (kind1 == 5)) (by kernel_rfl) (fun hc5 => ?_) (fun hc5 => ?_)
   ·refine wpE_skip (th_n ?_)
    exact ⟨true, _, _, hc5, rfl, rfl, rfl, hm⟩
   ·refine wpE_seq (rg (q0 (vb (kind1 == 7)) (q0 (vb (kind1 == 7)) (wpL_nil (th_n ?_)))))
    refine wpE_cond (t := (kind1 == 7)) (by kernel_rfl) (fun hc6 => ?_) (fun hc6 => ?_)
    ·refine wpE_skip (th_n ?_)
     exact ⟨false, true, _, hc5, hc6, rfl, rfl, hm⟩
    ·refine wpE_seq (rg (q0 (vb (kind1 == 8)) (q0 (vb (kind1 == 8)) (wpL_nil (th_n ?_)))))
     refine wpE_cond (t := (kind1 == 8)) (by kernel_rfl) (fun hc7 => ?_) (fun hc7 => ?_)
     ·refine wpE_skip (th_n ?_)
      exact ⟨false, false, true, hc5, hc6, hc7, rfl, hm⟩
     ·refine rg (q0 (vb (kind1 == 9)) (q0 (vb (kind1 == 9)) (wpL_nil (th_n ?_))))
      exact ⟨false, false, false, hc5, hc6, hc7, rfl, hm⟩
  ·rintro ρ w1 ⟨b1'0, b1'1, b1'2, he0, he1, he2, hw, hH⟩
   subst he0
   subst he1
   subst he2
   subst hw
   refine norm_has hH ?_
   refine th_n ?_
   refine wpE_cond (t := (cond (kind1 == 5) (kind1 == 5) (cond (kind1 == 7) (kind1 == 7) (cond (kind1 == 8) (kind1 == 8) (kind1 == 9))))) (by kernel_rfl) (fun hc8 => ?_) (fun hc8 => ?_)
   ·refine wpE_seq (rg (q0 (vi 1) (wpL_nil (th_n (wpE_ret (bl_r (th_r (rs1 Try.results90 (v := (vi 1)) ?_))))))))
    exact ⟨false, true, ⟨hc1, hc8⟩, by kernel_rfl, Ext.refl _⟩
   ·refine wpE_skip (bl_n (th_n (wpE_seq (rg (q0 (vi 0) (wpL_nil (th_n (wpE_ret (rs1 Try.results90 (v := (vi 0)) ?_)))))))))
    exact ⟨false, false, ⟨hc1, hc8⟩, by kernel_rfl, Ext.refl _⟩
theorem p_A (kind1 : Int) (w0 : World) : Calls Try.prog 90 #[(.int .i64 kind1)] w0 (fun e w' => e = .returned (.int .i64 (s_A kind1)) ∧ Pure w0 w') := by
 refine (pw_A kind1 w0).mono ?_
 rintro e w' ⟨b'0, b'1, ⟨e0, e1⟩, h, E⟩
 subst e0
 subst e1
 exact ⟨h, E⟩
def m_W_l1 (aE : Sl) (most1 n1 i1 : Int) (w0 : World) (Hl1 : NP) (wl1 : World) (Kc1 : Int → Int → NP → WP) (K : Int → WP) : Prop :=
 Br ((decide (i1 < (aE.len : Int))) && (decide (n1 ≤ most1)))
  (∃ a1 : Addr, At aE i1 6 a1 ∧
  ∀ (H2 : NP) (w2 : World), Hst w0 Hl1 wl1 H2 w2 →
  ∃ aN aO : Int, ∃ aP aQ : Int, ∃ aR : ByteArray, ∃ aW : Sl, Row w2 a1 [(vi aN), (vi aO), (vi aP), (vu aQ), (vs aR), aW.v] ∧
  Calls Try.prog 66 #[(.agg #[(vi aN), (vi aO), (vi aP), (vu aQ), (vs aR), aW.v]), (vi (q6.wrap (most1 - n1)))] w2 (fun e w3 => ∃ r1 : Int, e = .returned (vi r1) ∧ 
   Kept H2 w2 w3 ∧
   Kc1 (q6.wrap (n1 + r1)) (q6.wrap (i1 + 1)) H2 w3))
  (∀ (H2 : NP) (w2 : World), Hst w0 Hl1 wl1 H2 w2 →
  K n1 w2)
def m_W (aD aG : Int) (aH aI : Int) (aJ : ByteArray) (aE : Sl) (most1 : Int) (w0 : World) (K : Int → WP) : Prop :=
 ∀ (H1 : NP) (w1 : World), Hst w0 None w0 H1 w1 →
 ∃ (I1 : Int → Int → NP → WP) (mu1 : Int → Int → World → Nat), I1 1 0 H1 w1 ∧
  ∀ (n1 i1 : Int) (Hl1 : NP) (wl1 : World), Hst w0 Hl1 wl1 Hl1 wl1 → I1 n1 i1 Hl1 wl1 → m_W_l1 aE most1 n1 i1 w0 Hl1 wl1 (fun y'0 y'1 H' w' => I1 y'0 y'1 H' w' ∧ mu1 y'0 y'1 w' < mu1 n1 i1 wl1) K
theorem w_W (aD aG : Int) (aH aI : Int) (aJ : ByteArray) (aE : Sl) (most1 : Int) (w0 : World) (K : Int → WP) (h : m_W aD aG aH aI aJ aE most1 w0 K) :
  Calls Try.prog 66 #[(.agg #[(vi aD), (vi aG), (vi aH), (vu aI), (vs aJ), aE.v]), (vi most1)] w0 (fun e w' => ∃ r2 : Int, e = .returned (vi r2) ∧ K r2 w') := by
 unfold m_W at h
 refine cw (args := [(.agg #[(vi aD), (vi aG), (vi aH), (vu aI), (vs aJ), aE.v]), (vi most1)]) Try.func66 Try.ntmps66 ?_
 have hs := Hst.start w0
 have hb := HB.nil None w0
 refine wpE_seq (rg (sn (O := (.cells #[(vi aD), (vi aG), (vi aH), (vu aI), (vs aJ), aE.v] 52)) xb ?_))
 intro p1 w1 hn1
 obtain ⟨H1, hs, hb⟩ := hs.alloc hb hn1
 refine q0 (vi 0) (wpL_nil (th_n (wpE_seq (rg (q0 (vi 1) (wpL_nil (th_n (wpE_seq (wpE_seq (rg (q0 (vi 0) ?_)))))))))))
 refine wpL_nil (th_n (wpE_block ?_))
 have h := h H1 w1 hs
 have hs := hs.here
 obtain ⟨I1, mu1, h0, hr⟩ := h
 refine wpE_loop (σ := Int × Int × NP × World) (fun s ρ w => w = s.2.2.2 ∧ Has ρ [(1, (vi most1)), (2, (vp (some p1))), (5, (vi s.1)), (6, (vi s.2.1))] ∧ Hst w0 s.2.2.1 w s.2.2.1 w ∧ HB s.2.2.1 w [(p1, [(vi aD), (vi aG), (vi aH), (vu aI), (vs aJ), aE.v], 52)] ∧ I1 s.1 s.2.1 s.2.2.1 s.2.2.2) (fun s => mu1 s.1 s.2.1 s.2.2.2) (1, 0, H1, w1) ⟨rfl, hm, hs, hb, h0⟩ ?_
 rintro ⟨n1, i1, Hl1, wl1⟩ ρ w ⟨hw, hH, hs, hb, hI⟩
 obtain rfl : wl1 = w := (show w = wl1 from hw).symm
 have hH : Has ρ [(1, (vi most1)), (2, (vp (some p1))), (5, (vi n1)), (6, (vi i1))] := hH
 have hs : Hst w0 Hl1 wl1 Hl1 wl1 := hs
 have hb : HB Hl1 wl1 [(p1, [(vi aD), (vi aG), (vi aH), (vu aI), (vs aJ), aE.v], 52)] := hb
 have h := hr n1 i1 Hl1 wl1 hs hI
 unfold m_W_l1 at h
 refine wpE_has hH ?_
 refine wpE_seq (wpE_seq ?_)
 refine wpE_via (fun ρ wJ => ∃ b1'0 : Bool, ∃ HJ : NP, ((decide (i1 < (aE.len : Int))) = b1'0) ∧ Hst w0 Hl1 wl1 HJ wJ ∧ HB HJ wJ [(p1, [(vi aD), (vi aG), (vi aH), (vu aI), (vs aJ), aE.v], 52)] ∧ Has ρ [(1, (vi most1)), (2, (vp (some p1))), (5, (vi n1)), (6, (vi i1)), (16, (vb (b1'0 && (decide (n1 ≤ most1)))))]) ?_ ?_
 ·refine rg (q0 (vi i1) (q0 (vp (some (p1.add 5))) (q2 aE.v (xl (Try.isAgg22 _) (hb.c 0 5 gZ)) (q0 (vi (aE.len : Int)) (q0 (vb (decide (i1 < (aE.len : Int)))) (q0 (vb (decide (i1 < (aE.len : Int)))) ?_))))))
  rcases Bool.eq_false_or_eq_true (decide (i1 < (aE.len : Int))) with hg2 | hg2
  ·refine q1 (vi n1) (want1 rfl (yD 12 hg2)) (q1 (vi most1) (want1 rfl (yD 12 hg2)) (q1 (vb (decide (n1 ≤ most1))) (want1 rfl (yD 12 hg2)) (q2 (vb (decide (n1 ≤ most1))) (xT hg2) (wpL_nil (th_n ?_)))))
   exact ⟨true, _, hg2, hs, hb, hm⟩
  ·refine sk (yD 12 hg2) (sk (yD 12 hg2) (sk (yD 12 hg2) (q2 (vb false) (xF hg2) (wpL_nil (th_n ?_)))))
   exact ⟨false, _, hg2, hs, hb, hm⟩
 ·rintro ρ w2 ⟨b1'0, H2, he0, hs, hb, hH⟩
  subst he0
  refine norm_has hH ?_
  refine th_n ?_
  refine wpE_cond (t := ((decide (i1 < (aE.len : Int))) && (decide (n1 ≤ most1)))) (by kernel_rfl) (fun hc1 => ?_) (fun hc1 => ?_)
  ·have h := h.1 hc1
   refine wpE_skip (th_n (wpE_seq (wpE_block (rg (q0 (vi n1) (q0 (vp (some (p1.add 5))) (q2 aE.v (xl (Try.isAgg22 _) (hb.c 0 5 gZ)) (q0 (vi i1) ?_))))))))
   obtain ⟨a1, hv2, h⟩ := h
   refine q2 (vp (some a1)) (xi (Try.runUnderlying22 _) (Try.sizeOf52 _) hv2) ?_
   have h := h H2 w2 hs
   have hs := hs.here
   obtain ⟨aN, aO, aP, aQ, aR, aW, hv1, h⟩ := h
   refine q2 (.agg #[(vi aN), (vi aO), (vi aP), (vu aQ), (vs aR), aW.v]) (x_loadA (a := a1) (vs := [(vi aN), (vi aO), (vi aP), (vu aQ), (vs aR), aW.v]) (by kernel_rfl) (Try.isAgg52 _) (Try.sizeOf52 _) rfl hv1) (q0 (vi most1) (q0 (vi n1) (q0 (vi (q6.wrap (most1 - n1))) ?_)))
   refine sc Try.call66 (h.mono ?_)
   rintro e w3 ⟨r1, rfl, hk, h⟩
   refine ⟨_, rfl, ?_⟩
   obtain ⟨hs, hb⟩ := hk.hh hs hb
   refine q0 (vi (q6.wrap (n1 + r1))) (q0 (vi (q6.wrap (n1 + r1))) (wpL_nil (bl_n (th_n (rg (q0 (vi i1) (q0 (vi (q6.wrap (i1 + 1))) (q0 (vi (q6.wrap (i1 + 1))) (wpL_nil (th_n ?_))))))))))
   exact ⟨((q6.wrap (n1 + r1)), (q6.wrap (i1 + 1)), H2, w3), ⟨rfl, hm, hs, hb, h.1⟩, h.2⟩
  ·have h := h.2 hc1
   refine wpE_exit (th_x (th_x (bl_eq (th_n (wpE_seq (rg (q0 (vi n1) (q0 (vi n1) (wpL_nil (th_n (wpE_ret ?_)))))))))))
   have h := h H2 w2 hs
   have hs := hs.here
   refine rs1 Try.results66 (v := (vi n1)) ?_
   exact ⟨n1, rfl, h⟩
def m_U1  (w0 : World) (K : (Option Addr) → WP) : Prop :=
 ∀ (p1 : Addr) (w1 : World), New w0 (.cells #[Sl.nil.v, Sl.nil.v, Sl.nil.v] 71) p1 w1 →
 K (some p1) w1
theorem w_U1  (w0 : World) (K : (Option Addr) → WP) (h : m_U1  w0 K) :
  Calls Try.prog 68 #[] w0 (fun e w' => ∃ r1 : Option Addr, e = .returned (vp r1) ∧ K r1 w') := by
 unfold m_U1 at h
 refine cw (args := []) Try.func68 Try.ntmps68 (wpE_seq (rg (q0 (vp none) (wpL_nil (th_n (wpE_seq (rg (q0 (.agg #[Sl.nil.v, Sl.nil.v, Sl.nil.v]) (sn (O := (.cells #[Sl.nil.v, Sl.nil.v, Sl.nil.v] 71)) xb ?_)))))))))
 intro p1 w1 hn1
 have h := h p1 w1 hn1
 refine q0 (vp (some p1)) (wpL_nil (th_n (wpE_ret (rs1 Try.results68 (v := (vp (some p1))) ?_))))
 exact ⟨(some p1), rfl, h⟩
def s_P (aD aG : Int) (aH aI : Int) (aJ : ByteArray) (aE : Sl) : Int × Int × Int × Int × ByteArray × Int × Int :=
 (aD, aG, aH, aI, aJ, 0, 0)
theorem pw_P (aD aG : Int) (aH aI : Int) (aJ : ByteArray) (aE : Sl) (w0 : World) :
  Calls Try.prog 145 #[(.agg #[(vi aD), (vi aG), (vi aH), (vu aI), (vs aJ), aE.v])] w0 (fun e w' => (e = .returned (.agg #[(vi aD), (vi aG), (vi aH), (vu aI), (vs aJ), (vi 0), (vi 0)])) ∧ Pure w0 w') := by
 refine cw (args := [(.agg #[(vi aD), (vi aG), (vi aH), (vu aI), (vs aJ), aE.v])]) Try.func145 Try.ntmps145 ?_
 have hs := Hst.start w0
 have hb := HB.nil None w0
 refine wpE_seq (rg (sn (O := (.cells #[(vi aD), (vi aG), (vi aH), (vu aI), (vs aJ), aE.v] 52)) xb ?_))
 intro p1 w1 hn1
 obtain ⟨H1, hs, hb⟩ := hs.alloc hb hn1
 refine sn (O := (.cells #[(vi 0), (vi 0), (vi 0), (vu 0), (vs ⟨#[]⟩), (vi 0), (vi 0)] 106)) (x_alloc (Try.zeroValue106 _) rfl) ?_
 intro p2 w2 hn2
 obtain ⟨H2, hs, hb⟩ := hs.alloc hb hn2
 refine wpL_nil (th_n (wpE_seq (rg (q0 (vp (some p1)) (q2 (vi aD) (xl (Try.isAgg3 _) (hb.c0 1 (gS gZ))) (q0 (vp (some (p1.add 1))) (q2 (vi aG) (xl (Try.isAgg3 _) (hb.c 1 1 (gS gZ))) (q0 (vp (some (p1.add 2))) (q2 (vi aH) (xl (Try.isAgg3 _) (hb.c 1 2 (gS gZ))) (q0 (vp (some (p1.add 3))) (q2 (vu aI) (xl (Try.isAgg50 _) (hb.c 1 3 (gS gZ))) ?_)))))))))))
 refine q0 (vp (some (p1.add 4))) (q2 (vs aJ) (xl (Try.isAgg9 _) (hb.c 1 4 (gS gZ))) (q0 (.agg #[(vi aD), (vi aG), (vi aH), (vu aI), (vs aJ), (vi 0), (vi 0)]) (st_set (want0 rfl) (x_storeA (a := p2) (vs := [(vi aD), (vi aG), (vi aH), (vu aI), (vs aJ), (vi 0), (vi 0)]) (by kernel_rfl) (by kernel_rfl) rfl (Try.sizeOf106 _) rfl (hb.canWs0 0 7 gZ (by kernel_rfl))) ?_)))
 intro w3 hn3
 have hsb : Hst w0 None w0 H2 w3 ∧ HB H2 w3 [(p2, [(vi aD), (vi aG), (vi aH), (vu aI), (vs aJ), (vi 0), (vi 0)], 106), (p1, [(vi aD), (vi aG), (vi aH), (vu aI), (vs aJ), aE.v], 52)] := by
  rw [hn3]
  exact hb.store0 (i := 0) (vs := [(vi aD), (vi aG), (vi aH), (vu aI), (vs aJ), (vi 0), (vi 0)]) hs gZ (by kernel_rfl) (by kernel_rfl)
 obtain ⟨hs, hb⟩ := hsb
 refine wpL_nil (th_n (wpE_ret (resG (.inl rfl) (vs := [(.agg #[(vi aD), (vi aG), (vi aH), (vu aI), (vs aJ), (vi 0), (vi 0)])]) (v := (.agg #[(vi aD), (vi aG), (vi aH), (vu aI), (vs aJ), (vi 0), (vi 0)])) Try.results145 ⟨(RV.cellA (by kernel_rfl) (Try.isAgg106 _) (Try.sizeOf106 _) rfl (hb.row0 0 7 gZ (by kernel_rfl))), trivial⟩ (by kernel_rfl) ?_)))
 exact ⟨by kernel_rfl, (Ext.refl (F := None) _).hst hs⟩
theorem p_P (aD aG : Int) (aH aI : Int) (aJ : ByteArray) (aE : Sl) (w0 : World) : Calls Try.prog 145 #[(.agg #[(.int .i64 aD), (.int .i64 aG), (.int .i64 aH), (.int .u64 aI), (.string aJ), aE.v])] w0 (fun e w' => e = .returned (.agg #[(.int .i64 (s_P aD aG aH aI aJ aE).1), (.int .i64 (s_P aD aG aH aI aJ aE).2.1), (.int .i64 (s_P aD aG aH aI aJ aE).2.2.1), (.int .u64 (s_P aD aG aH aI aJ aE).2.2.2.1), (.string (s_P aD aG aH aI aJ aE).2.2.2.2.1), (.int .i64 (s_P aD aG aH aI aJ aE).2.2.2.2.2.1), (.int .i64 (s_P aD aG aH aI aJ aE).2.2.2.2.2.2)]) ∧ Pure w0 w') := pw_P aD aG aH aI aJ aE w0
def s_L1 (kind1 : Int) : Bool :=
 ((kind1 == 8) || (kind1 == 9))
theorem pw_L1 (kind1 : Int) (w0 : World) :
  Calls Try.prog 224 #[(vi kind1)] w0 (fun e w' => (e = .returned (vb ((kind1 == 8) || (kind1 == 9)))) ∧ Pure w0 w') := by
 refine cw (args := [(vi kind1)]) Try.func224 Try.ntmps224 (wpE_seq (rg (q0 (vb false) (wpL_nil (th_n (wpE_seq ?_))))))
 refine wpE_via (fun ρ wJ => w0 = wJ ∧ Has ρ [(2, (vb ((kind1 == 8) || (kind1 == 9))))]) ?_ ?_
 ·refine rg (q0 (vi kind1) (q0 (vb (kind1 == 8)) (q0 (vb (kind1 == 8)) ?_)))
  refine wpL_join 3 (fun ρ wJ => ∃ b3'0 : Bool, ((kind1 == 8) = b3'0) ∧ w0 = wJ ∧ Has ρ [(8, (vb (b3'0 || (kind1 == 9))))]) ?_ ?_
  ·rintro ρ w3 ⟨b3'0, he0, hw, hH⟩
   subst he0
   subst hw
   refine wpL_has hH ?_
   refine q0 (vb ((kind1 == 8) || (kind1 == 9))) (wpL_nil (th_n ?_))
   exact ⟨rfl, hm⟩
  ·rcases Bool.eq_false_or_eq_true (kind1 == 8) with hg4 | hg4
   ·refine sk (yD 5 hg4) (sk (yD 5 hg4) (q2 (vb true) (xT hg4) (wpL_nil ?_)))
    exact ⟨true, hg4, rfl, hm⟩
   ·refine q1 (vi kind1) (want1 rfl (yD 5 hg4)) (q1 (vb (kind1 == 9)) (want1 rfl (yD 5 hg4)) (q2 (vb (kind1 == 9)) (xF hg4) (wpL_nil ?_)))
    exact ⟨false, hg4, rfl, hm⟩
 ·rintro ρ w2 ⟨hw, hH⟩
  subst hw
  refine norm_has hH ?_
  refine th_n (wpE_ret (rs1 Try.results224 (v := (vb ((kind1 == 8) || (kind1 == 9)))) ?_))
  exact ⟨by kernel_rfl, Ext.refl _⟩
theorem p_L1 (kind1 : Int) (w0 : World) : Calls Try.prog 224 #[(.int .i64 kind1)] w0 (fun e w' => e = .returned (.bool (s_L1 kind1)) ∧ Pure w0 w') := pw_L1 kind1 w0
def s_B (kind1 : Int) : Bool :=
 ((((kind1 == 1) || (kind1 == 6)) || (kind1 == 7)) || ((kind1 == 8) || (kind1 == 9)))
theorem pw_B (kind1 : Int) (w0 : World) :
  Calls Try.prog 222 #[(vi kind1)] w0 (fun e w' => (e = .returned (vb ((((kind1 == 1) || (kind1 == 6)) || (kind1 == 7)) || ((kind1 == 8) || (kind1 == 9))))) ∧ Pure w0 w') := by
 refine cw (args := [(vi kind1)]) Try.func222 Try.ntmps222 ?_
 have hs := Hst.start w0
 have hb := HB.nil None w0
 refine wpE_seq (rg (q0 (vb false) (wpL_nil (th_n (wpE_seq ?_)))))
 refine wpE_via (fun ρ wJ => ∃ HJ : NP, Hst w0 None w0 HJ wJ ∧ HB HJ wJ [] ∧ Has ρ [(2, (vb ((((kind1 == 1) || (kind1 == 6)) || (kind1 == 7)) || ((kind1 == 8) || (kind1 == 9)))))]) ?_ ?_
 ·refine rg (q0 (vi kind1) (q0 (vb (kind1 == 1)) (q0 (vb (kind1 == 1)) ?_)))
  refine wpL_join 3 (fun ρ wJ => ∃ b5'0 : Bool, ∃ HJ : NP, ((kind1 == 1) = b5'0) ∧ Hst w0 None w0 HJ wJ ∧ HB HJ wJ [] ∧ Has ρ [(0, (vi kind1)), (8, (vb (b5'0 || (kind1 == 6))))]) ?_ ?_
  ·rintro ρ w7 ⟨b5'0, H5, he0, hs, hb, hH⟩
   subst he0
   refine wpL_has hH ?_
   refine q0 (vb ((kind1 == 1) || (kind1 == 6))) ?_
   refine wpL_join 3 (fun ρ wJ => ∃ b6'0 : Bool, ∃ HJ : NP, (((kind1 == 1) || (kind1 == 6)) = b6'0) ∧ Hst w0 None w0 HJ wJ ∧ HB HJ wJ [] ∧ Has ρ [(0, (vi kind1)), (12, (vb (b6'0 || (kind1 == 7))))]) ?_ ?_
   ·rintro ρ w8 ⟨b6'0, H6, he0, hs, hb, hH⟩
    subst he0
    refine wpL_has hH ?_
    refine q0 (vb (((kind1 == 1) || (kind1 == 6)) || (kind1 == 7))) ?_
    refine wpL_join 3 (fun ρ wJ => ∃ b7'0 : Bool, ∃ HJ : NP, ((((kind1 == 1) || (kind1 == 6)) || (kind1 == 7)) = b7'0) ∧ Hst w0 None w0 HJ wJ ∧ HB HJ wJ [] ∧ Has ρ [(16, (vb (b7'0 || ((kind1 == 8) || (kind1 == 9)))))]) ?_ ?_
    ·rintro ρ w10 ⟨b7'0, H7, he0, hs, hb, hH⟩
     subst he0
     refine wpL_has hH ?_
     refine q0 (vb ((((kind1 == 1) || (kind1 == 6)) || (kind1 == 7)) || ((kind1 == 8) || (kind1 == 9)))) (wpL_nil (th_n ?_))
     exact ⟨_, hs, hb, hm⟩
    ·rcases Bool.eq_false_or_eq_true (((kind1 == 1) || (kind1 == 6)) || (kind1 == 7)) with hg12 | hg12
     ·refine sk (yD 13 hg12) (sk (yD 13 hg12) (q2 (vb true) (xT hg12) (wpL_nil ?_)))
      exact ⟨true, _, hg12, hs, hb, hm⟩
     ·refine q1 (vi kind1) (want1 rfl (yD 13 hg12)) ?_
      refine st_call (want1 rfl (yD 13 hg12)) (xc Try.call224) ((p_L1 kind1 w8).mono ?_)
      rintro e w11 ⟨he, hE⟩
      refine ⟨(vb ((kind1 == 8) || (kind1 == 9))), he.trans (by kernel_rfl), ?_⟩
      have hs := hs.pure hE
      have hb := hb.pure hE
      refine q2 (vb ((kind1 == 8) || (kind1 == 9))) (xF hg12) (wpL_nil ?_)
      exact ⟨false, _, hg12, hs, hb, hm⟩
   ·rcases Bool.eq_false_or_eq_true ((kind1 == 1) || (kind1 == 6)) with hg10 | hg10
    ·refine sk (yD 9 hg10) (sk (yD 9 hg10) (q2 (vb true) (xT hg10) (wpL_nil ?_)))
     exact ⟨true, _, hg10, hs, hb, hm⟩
    ·refine q1 (vi kind1) (want1 rfl (yD 9 hg10)) (q1 (vb (kind1 == 7)) (want1 rfl (yD 9 hg10)) (q2 (vb (kind1 == 7)) (xF hg10) (wpL_nil ?_)))
     exact ⟨false, _, hg10, hs, hb, hm⟩
  ·rcases Bool.eq_false_or_eq_true (kind1 == 1) with hg8 | hg8
   ·refine sk (yD 5 hg8) (sk (yD 5 hg8) (q2 (vb true) (xT hg8) (wpL_nil ?_)))
    exact ⟨true, _, hg8, hs, hb, hm⟩
   ·refine q1 (vi kind1) (want1 rfl (yD 5 hg8)) (q1 (vb (kind1 == 6)) (want1 rfl (yD 5 hg8)) (q2 (vb (kind1 == 6)) (xF hg8) (wpL_nil ?_)))
    exact ⟨false, _, hg8, hs, hb, hm⟩
 ·rintro ρ w6 ⟨H4, hs, hb, hH⟩
  refine norm_has hH ?_
  refine th_n (wpE_ret (rs1 Try.results222 (v := (vb ((((kind1 == 1) || (kind1 == 6)) || (kind1 == 7)) || ((kind1 == 8) || (kind1 == 9))))) ?_))
  exact ⟨by kernel_rfl, (Ext.refl (F := None) _).hst hs⟩
theorem p_B (kind1 : Int) (w0 : World) : Calls Try.prog 222 #[(.int .i64 kind1)] w0 (fun e w' => e = .returned (.bool (s_B kind1)) ∧ Pure w0 w') := pw_B kind1 w0
def s_Q (aA aB : Int) (aC aK : Int) (aF : ByteArray) (aL aM : Int) : Bool :=
 (!((decide (aA < 1)) || (decide (aA > 9))) && (((((((s_B aA) || (aB == 0)) && (((aA == 8) || (aA == 9)) || (aC == 0))) && ((aA == 2) || (aK == 0))) && ((aA == 3) || (decide (aF = ⟨#[]⟩)))) && ((decide ((s_A aA) ≥ 1)) || (aL == 0))) && ((((s_A aA) : Int) == 2) || (aM == 0))))
theorem pw_Q (aA aB : Int) (aC aK : Int) (aF : ByteArray) (aL aM : Int) (w0 : World) :
  Calls Try.prog 221 #[(.agg #[(vi aA), (vi aB), (vi aC), (vu aK), (vs aF), (vi aL), (vi aM)])] w0 (fun e w' => ∃ b'0 : Bool, (((decide (aA < 1)) || (decide (aA > 9))) = b'0) ∧ (e = .returned (vb (!b'0 && (((((((s_B aA) || (aB == 0)) && (((aA == 8) || (aA == 9)) || (aC == 0))) && ((aA == 2) || (aK == 0))) && ((aA == 3) || (decide (aF = ⟨#[]⟩)))) && ((decide ((s_A aA) ≥ 1)) || (aL == 0))) && ((((s_A aA) : Int) == 2) || (aM == 0)))))) ∧ Pure w0 w') := by
 refine cw (args := [(.agg #[(vi aA), (vi aB), (vi aC), (vu aK), (vs aF), (vi aL), (vi aM)])]) Try.func221 Try.ntmps221 ?_
 have hs := Hst.start w0
 have hb := HB.nil None w0
 refine wpE_seq (rg (sn (O := (.cells #[(vi aA), (vi aB), (vi aC), (vu aK), (vs aF), (vi aL), (vi aM)] 106)) xb ?_))
 intro p1 w1 hn1
 obtain ⟨H1, hs, hb⟩ := hs.alloc hb hn1
 refine q0 (vb false) (wpL_nil (th_n (wpE_seq (wpE_seq ?_))))
 refine wpE_via (fun ρ wJ => ∃ b1'0 : Bool, ∃ HJ : NP, ((decide (aA < 1)) = b1'0) ∧ Hst w0 None w0 HJ wJ ∧ HB HJ wJ [(p1, [(vi aA), (vi aB), (vi aC), (vu aK), (vs aF), (vi aL), (vi aM)], 106)] ∧ Has ρ [(1, (vp (some p1))), (10, (vb (b1'0 || (decide (aA > 9)))))]) ?_ ?_
 ·refine rg (q0 (vp (some p1)) (q2 (vi aA) (xl (Try.isAgg3 _) (hb.c0 0 gZ)) (q0 (vb (decide (aA < 1))) (q0 (vb (decide (aA < 1))) ?_))))
  rcases Bool.eq_false_or_eq_true (decide (aA < 1)) with hg2 | hg2
  ·refine sk (yD 6 hg2) (sk (yD 6 hg2) (sk (yD 6 hg2) (q2 (vb true) (xT hg2) (wpL_nil (th_n ?_)))))
   exact ⟨true, _, hg2, hs, hb, hm⟩
  ·refine q1 (vp (some p1)) (want1 rfl (yD 6 hg2)) (stp (v := (vi aA)) (want1 rfl (yD 6 hg2)) (xl (Try.isAgg3 _) (hb.c0 0 gZ)) (q1 (vb (decide (aA > 9))) (want1 rfl (yD 6 hg2)) (q2 (vb (decide (aA > 9))) (xF hg2) (wpL_nil (th_n ?_)))))
   exact ⟨false, _, hg2, hs, hb, hm⟩
 ·rintro ρ w2 ⟨b1'0, H2, he0, hs, hb, hH⟩
  subst he0
  refine norm_has hH ?_
  refine th_n ?_
  refine wpE_cond (t := ((decide (aA < 1)) || (decide (aA > 9)))) (by kernel_rfl) (fun hc1 => ?_) (fun hc1 => ?_)
  ·refine wpE_seq (rg (q0 (vb false) (wpL_nil (th_n (wpE_ret (th_r (rs1 Try.results221 (v := (vb false)) ?_)))))))
   exact ⟨true, hc1, by kernel_rfl, (Ext.refl (F := None) _).hst hs⟩
  ·refine wpE_skip (th_n (wpE_seq ?_))
   refine wpE_via (fun ρ wJ => ∃ HJ : NP, Hst w0 None w0 HJ wJ ∧ HB HJ wJ [(p1, [(vi aA), (vi aB), (vi aC), (vu aK), (vs aF), (vi aL), (vi aM)], 106)] ∧ Has ρ [(2, (vb (((((((s_B aA) || (aB == 0)) && (((aA == 8) || (aA == 9)) || (aC == 0))) && ((aA == 2) || (aK == 0))) && ((aA == 3) || (decide (aF = ⟨#[]⟩)))) && ((decide ((s_A aA) ≥ 1)) || (aL == 0))) && ((((s_A aA) : Int) == 2) || (aM == 0)))))]) ?_ ?_
   ·refine rg (q0 (vp (some p1)) (q2 (vi aA) (xl (Try.isAgg3 _) (hb.c0 0 gZ)) ?_))
    refine sc Try.call222 ((p_B aA w2).mono ?_)
    rintro e w27 ⟨he, hE⟩
    refine ⟨(vb (s_B aA)), he.trans (by kernel_rfl), ?_⟩
    have hs := hs.pure hE
    have hb := hb.pure hE
    refine q0 (vb (s_B aA)) ?_
    refine wpL_join 4 (fun ρ wJ => ∃ b19'0 : Bool, ∃ HJ : NP, ((s_B aA) = b19'0) ∧ Hst w0 None w0 HJ wJ ∧ HB HJ wJ [(p1, [(vi aA), (vi aB), (vi aC), (vu aK), (vs aF), (vi aL), (vi aM)], 106)] ∧ Has ρ [(1, (vp (some p1))), (18, (vb (b19'0 || (aB == 0))))]) ?_ ?_
    ·rintro ρ w28 ⟨b19'0, H20, he0, hs, hb, hH⟩
     subst he0
     refine wpL_has hH ?_
     refine q0 (vb ((s_B aA) || (aB == 0))) ?_
     refine wpL_join 9 (fun ρ wJ => ∃ b21'0 : Bool, ∃ HJ : NP, (((s_B aA) || (aB == 0)) = b21'0) ∧ Hst w0 None w0 HJ wJ ∧ HB HJ wJ [(p1, [(vi aA), (vi aB), (vi aC), (vu aK), (vs aF), (vi aL), (vi aM)], 106)] ∧ Has ρ [(1, (vp (some p1))), (28, (vb (b21'0 && (((aA == 8) || (aA == 9)) || (aC == 0)))))]) ?_ ?_
     ·rintro ρ w31 ⟨b21'0, H22, he0, hs, hb, hH⟩
      subst he0
      refine wpL_has hH ?_
      refine q0 (vb (((s_B aA) || (aB == 0)) && (((aA == 8) || (aA == 9)) || (aC == 0)))) ?_
      refine wpL_join 9 (fun ρ wJ => ∃ b24'0 : Bool, ∃ HJ : NP, ((((s_B aA) || (aB == 0)) && (((aA == 8) || (aA == 9)) || (aC == 0))) = b24'0) ∧ Hst w0 None w0 HJ wJ ∧ HB HJ wJ [(p1, [(vi aA), (vi aB), (vi aC), (vu aK), (vs aF), (vi aL), (vi aM)], 106)] ∧ Has ρ [(1, (vp (some p1))), (38, (vb (b24'0 && ((aA == 2) || (aK == 0)))))]) ?_ ?_
      ·rintro ρ w35 ⟨b24'0, H25, he0, hs, hb, hH⟩
       subst he0
       refine wpL_has hH ?_
       refine q0 (vb ((((s_B aA) || (aB == 0)) && (((aA == 8) || (aA == 9)) || (aC == 0))) && ((aA == 2) || (aK == 0)))) ?_
       refine wpL_join 9 (fun ρ wJ => ∃ b27'0 : Bool, ∃ HJ : NP, (((((s_B aA) || (aB == 0)) && (((aA == 8) || (aA == 9)) || (aC == 0))) && ((aA == 2) || (aK == 0))) = b27'0) ∧ Hst w0 None w0 HJ wJ ∧ HB HJ wJ [(p1, [(vi aA), (vi aB), (vi aC), (vu aK), (vs aF), (vi aL), (vi aM)], 106)] ∧ Has ρ [(1, (vp (some p1))), (48, (vb (b27'0 && ((aA == 3) || (decide (aF = ⟨#[]⟩))))))]) ?_ ?_
       ·rintro ρ w38 ⟨b27'0, H28, he0, hs, hb, hH⟩
        subst he0
        refine wpL_has hH ?_
        refine q0 (vb (((((s_B aA) || (aB == 0)) && (((aA == 8) || (aA == 9)) || (aC == 0))) && ((aA == 2) || (aK == 0))) && ((aA == 3) || (decide (aF = ⟨#[]⟩))))) ?_
        refine wpL_join 10 (fun ρ wJ => ∃ b30'0 : Bool, ∃ HJ : NP, ((((((s_B aA) || (aB == 0)) && (((aA == 8) || (aA == 9)) || (aC == 0))) && ((aA == 2) || (aK == 0))) && ((aA == 3) || (decide (aF = ⟨#[]⟩)))) = b30'0) ∧ Hst w0 None w0 HJ wJ ∧ HB HJ wJ [(p1, [(vi aA), (vi aB), (vi aC), (vu aK), (vs aF), (vi aL), (vi aM)], 106)] ∧ Has ρ [(1, (vp (some p1))), (59, (vb (b30'0 && ((decide ((s_A aA) ≥ 1)) || (aL == 0)))))]) ?_ ?_
        ·rintro ρ w42 ⟨b30'0, H31, he0, hs, hb, hH⟩
         subst he0
         refine wpL_has hH ?_
         refine q0 (vb ((((((s_B aA) || (aB == 0)) && (((aA == 8) || (aA == 9)) || (aC == 0))) && ((aA == 2) || (aK == 0))) && ((aA == 3) || (decide (aF = ⟨#[]⟩)))) && ((decide ((s_A aA) ≥ 1)) || (aL == 0)))) ?_
         refine wpL_join 10 (fun ρ wJ => ∃ b33'0 : Bool, ∃ HJ : NP, (((((((s_B aA) || (aB == 0)) && (((aA == 8) || (aA == 9)) || (aC == 0))) && ((aA == 2) || (aK == 0))) && ((aA == 3) || (decide (aF = ⟨#[]⟩)))) && ((decide ((s_A aA) ≥ 1)) || (aL == 0))) = b33'0) ∧ Hst w0 None w0 HJ wJ ∧ HB HJ wJ [(p1, [(vi aA), (vi aB), (vi aC), (vu aK), (vs aF), (vi aL), (vi aM)], 106)] ∧ Has ρ [(70, (vb (b33'0 && ((((s_A aA) : Int) == 2) || (aM == 0)))))]) ?_ ?_
         ·rintro ρ w47 ⟨b33'0, H34, he0, hs, hb, hH⟩
          subst he0
          refine wpL_has hH ?_
          refine q0 (vb (((((((s_B aA) || (aB == 0)) && (((aA == 8) || (aA == 9)) || (aC == 0))) && ((aA == 2) || (aK == 0))) && ((aA == 3) || (decide (aF = ⟨#[]⟩)))) && ((decide ((s_A aA) ≥ 1)) || (aL == 0))) && ((((s_A aA) : Int) == 2) || (aM == 0)))) (wpL_nil (th_n ?_))
          exact ⟨_, hs, hb, hm⟩
         ·rcases Bool.eq_false_or_eq_true ((((((s_B aA) || (aB == 0)) && (((aA == 8) || (aA == 9)) || (aC == 0))) && ((aA == 2) || (aK == 0))) && ((aA == 3) || (decide (aF = ⟨#[]⟩)))) && ((decide ((s_A aA) ≥ 1)) || (aL == 0))) with hg64 | hg64
          ·refine q1 (vp (some p1)) (want1 rfl (yD 60 hg64)) (stp (v := (vi aA)) (want1 rfl (yD 60 hg64)) (xl (Try.isAgg3 _) (hb.c0 0 gZ)) ?_)
           refine st_call (want1 rfl (yD 60 hg64)) (xc Try.call90) ((p_A aA w42).mono ?_)
           rintro e w48 ⟨he, hE⟩
           refine ⟨(vi (s_A aA)), he.trans (by kernel_rfl), ?_⟩
           have hs := hs.pure hE
           have hb := hb.pure hE
           refine q1 (vb (((s_A aA) : Int) == 2)) (want1 rfl (yD 60 hg64)) (q1 (vb (((s_A aA) : Int) == 2)) (want1 rfl (yD 60 hg64)) ?_)
           refine wpL_join 4 (fun ρ wJ => ∃ b34'0 : Bool, ∃ HJ : NP, ((((s_A aA) : Int) == 2) = b34'0) ∧ Hst w0 None w0 HJ wJ ∧ HB HJ wJ [(p1, [(vi aA), (vi aB), (vi aC), (vu aK), (vs aF), (vi aL), (vi aM)], 106)] ∧ Has ρ [(60, (vb ((((((s_B aA) || (aB == 0)) && (((aA == 8) || (aA == 9)) || (aC == 0))) && ((aA == 2) || (aK == 0))) && ((aA == 3) || (decide (aF = ⟨#[]⟩)))) && ((decide ((s_A aA) ≥ 1)) || (aL == 0))))), (69, (vb (b34'0 || (aM == 0))))]) ?_ ?_
           ·rintro ρ w49 ⟨b34'0, H35, he0, hs, hb, hH⟩
            subst he0
            refine wpL_has hH ?_
            refine q2 (vb ((((s_A aA) : Int) == 2) || (aM == 0))) (xT hg64) (wpL_nil ?_)
            exact ⟨true, _, hg64, hs, hb, hm⟩
           ·rcases Bool.eq_false_or_eq_true (((s_A aA) : Int) == 2) with hg66 | hg66
            ·refine sk (yD 65 hg66) (sk (yD 65 hg66) (sk (yD 65 hg66) (stp (v := (vb true)) (want1 rfl (yD 60 hg64)) (xT hg66) (wpL_nil ?_))))
             exact ⟨true, _, hg66, hs, hb, hm⟩
            ·refine q1 (vp (some (p1.add 6))) (want1 rfl (yD 65 hg66)) (stp (v := (vi aM)) (want1 rfl (yD 65 hg66)) (xl (Try.isAgg32 _) (hb.c 0 6 gZ)) (q1 (vb (aM == 0)) (want1 rfl (yD 65 hg66)) (stp (v := (vb (aM == 0))) (want1 rfl (yD 60 hg64)) (xF hg66) (wpL_nil ?_))))
             exact ⟨false, _, hg66, hs, hb, hm⟩
          ·refine sk (yD 60 hg64) (sk (yD 60 hg64) (sk (yD 60 hg64) (sk (yD 60 hg64) (sk (yD 60 hg64) (sm (sm (sm (sk (yD 60 hg64) (q2 (vb false) (xF hg64) (wpL_nil ?_))))))))))
           exact ⟨false, _, hg64, hs, hb, hm⟩
        ·rcases Bool.eq_false_or_eq_true (((((s_B aA) || (aB == 0)) && (((aA == 8) || (aA == 9)) || (aC == 0))) && ((aA == 2) || (aK == 0))) && ((aA == 3) || (decide (aF = ⟨#[]⟩)))) with hg58 | hg58
         ·refine q1 (vp (some p1)) (want1 rfl (yD 49 hg58)) (stp (v := (vi aA)) (want1 rfl (yD 49 hg58)) (xl (Try.isAgg3 _) (hb.c0 0 gZ)) ?_)
          refine st_call (want1 rfl (yD 49 hg58)) (xc Try.call90) ((p_A aA w38).mono ?_)
          rintro e w43 ⟨he, hE⟩
          refine ⟨(vi (s_A aA)), he.trans (by kernel_rfl), ?_⟩
          have hs := hs.pure hE
          have hb := hb.pure hE
          refine q1 (vb (decide ((s_A aA) ≥ 1))) (want1 rfl (yD 49 hg58)) (q1 (vb (decide ((s_A aA) ≥ 1))) (want1 rfl (yD 49 hg58)) ?_)
          refine wpL_join 4 (fun ρ wJ => ∃ b31'0 : Bool, ∃ HJ : NP, ((decide ((s_A aA) ≥ 1)) = b31'0) ∧ Hst w0 None w0 HJ wJ ∧ HB HJ wJ [(p1, [(vi aA), (vi aB), (vi aC), (vu aK), (vs aF), (vi aL), (vi aM)], 106)] ∧ Has ρ [(1, (vp (some p1))), (49, (vb (((((s_B aA) || (aB == 0)) && (((aA == 8) || (aA == 9)) || (aC == 0))) && ((aA == 2) || (aK == 0))) && ((aA == 3) || (decide (aF = ⟨#[]⟩)))))), (58, (vb (b31'0 || (aL == 0))))]) ?_ ?_
          ·rintro ρ w44 ⟨b31'0, H32, he0, hs, hb, hH⟩
           subst he0
           refine wpL_has hH ?_
           refine q2 (vb ((decide ((s_A aA) ≥ 1)) || (aL == 0))) (xT hg58) (wpL_nil ?_)
           exact ⟨true, _, hg58, hs, hb, hm⟩
          ·rcases Bool.eq_false_or_eq_true (decide ((s_A aA) ≥ 1)) with hg60 | hg60
           ·refine sk (yD 54 hg60) (sk (yD 54 hg60) (sk (yD 54 hg60) (stp (v := (vb true)) (want1 rfl (yD 49 hg58)) (xT hg60) (wpL_nil ?_))))
            exact ⟨true, _, hg60, hs, hb, hm⟩
           ·refine q1 (vp (some (p1.add 5))) (want1 rfl (yD 54 hg60)) (stp (v := (vi aL)) (want1 rfl (yD 54 hg60)) (xl (Try.isAgg32 _) (hb.c 0 5 gZ)) (q1 (vb (aL == 0)) (want1 rfl (yD 54 hg60)) (stp (v := (vb (aL == 0))) (want1 rfl (yD 49 hg58)) (xF hg60) (wpL_nil ?_))))
            exact ⟨false, _, hg60, hs, hb, hm⟩
         ·refine sk (yD 49 hg58) (sk (yD 49 hg58) (sk (yD 49 hg58) (sk (yD 49 hg58) (sk (yD 49 hg58) (sm (sm (sm (sk (yD 49 hg58) (q2 (vb false) (xF hg58) (wpL_nil ?_))))))))))
          exact ⟨false, _, hg58, hs, hb, hm⟩
       ·rcases Bool.eq_false_or_eq_true ((((s_B aA) || (aB == 0)) && (((aA == 8) || (aA == 9)) || (aC == 0))) && ((aA == 2) || (aK == 0))) with hg52 | hg52
        ·refine q1 (vp (some p1)) (want1 rfl (yD 39 hg52)) (stp (v := (vi aA)) (want1 rfl (yD 39 hg52)) (xl (Try.isAgg3 _) (hb.c0 0 gZ)) (q1 (vb (aA == 3)) (want1 rfl (yD 39 hg52)) (q1 (vb (aA == 3)) (want1 rfl (yD 39 hg52)) ?_)))
         refine wpL_join 4 (fun ρ wJ => ∃ b28'0 : Bool, ∃ HJ : NP, ((aA == 3) = b28'0) ∧ Hst w0 None w0 HJ wJ ∧ HB HJ wJ [(p1, [(vi aA), (vi aB), (vi aC), (vu aK), (vs aF), (vi aL), (vi aM)], 106)] ∧ Has ρ [(1, (vp (some p1))), (39, (vb ((((s_B aA) || (aB == 0)) && (((aA == 8) || (aA == 9)) || (aC == 0))) && ((aA == 2) || (aK == 0))))), (47, (vb (b28'0 || (decide (aF = ⟨#[]⟩)))))]) ?_ ?_
         ·rintro ρ w39 ⟨b28'0, H29, he0, hs, hb, hH⟩
          subst he0
          refine wpL_has hH ?_
          refine q2 (vb ((aA == 3) || (decide (aF = ⟨#[]⟩)))) (xT hg52) (wpL_nil ?_)
          exact ⟨true, _, hg52, hs, hb, hm⟩
         ·rcases Bool.eq_false_or_eq_true (aA == 3) with hg54 | hg54
          ·refine sk (yD 43 hg54) (sk (yD 43 hg54) (sk (yD 43 hg54) (stp (v := (vb true)) (want1 rfl (yD 39 hg52)) (xT hg54) (wpL_nil ?_))))
           exact ⟨true, _, hg54, hs, hb, hm⟩
          ·refine q1 (vp (some (p1.add 4))) (want1 rfl (yD 43 hg54)) (stp (v := (vs aF)) (want1 rfl (yD 43 hg54)) (xl (Try.isAgg9 _) (hb.c 0 4 gZ)) (stp (v := (vb (decide (aF = ⟨#[]⟩)))) (want1 rfl (yD 43 hg54)) (x_streq (by kernel_rfl) (by kernel_rfl)) (stp (v := (vb (decide (aF = ⟨#[]⟩)))) (want1 rfl (yD 39 hg52)) (xF hg54) (wpL_nil ?_))))
           exact ⟨false, _, hg54, hs, hb, hm⟩
        ·refine sk (yD 39 hg52) (sk (yD 39 hg52) (sk (yD 39 hg52) (sk (yD 39 hg52) (sm (sm (sm (sk (yD 39 hg52) (q2 (vb false) (xF hg52) (wpL_nil ?_)))))))))
         exact ⟨false, _, hg52, hs, hb, hm⟩
      ·rcases Bool.eq_false_or_eq_true (((s_B aA) || (aB == 0)) && (((aA == 8) || (aA == 9)) || (aC == 0))) with hg46 | hg46
       ·refine q1 (vp (some p1)) (want1 rfl (yD 29 hg46)) (stp (v := (vi aA)) (want1 rfl (yD 29 hg46)) (xl (Try.isAgg3 _) (hb.c0 0 gZ)) (q1 (vb (aA == 2)) (want1 rfl (yD 29 hg46)) (q1 (vb (aA == 2)) (want1 rfl (yD 29 hg46)) ?_)))
        refine wpL_join 4 (fun ρ wJ => ∃ b25'0 : Bool, ∃ HJ : NP, ((aA == 2) = b25'0) ∧ Hst w0 None w0 HJ wJ ∧ HB HJ wJ [(p1, [(vi aA), (vi aB), (vi aC), (vu aK), (vs aF), (vi aL), (vi aM)], 106)] ∧ Has ρ [(1, (vp (some p1))), (29, (vb (((s_B aA) || (aB == 0)) && (((aA == 8) || (aA == 9)) || (aC == 0))))), (37, (vb (b25'0 || (aK == 0))))]) ?_ ?_
        ·rintro ρ w36 ⟨b25'0, H26, he0, hs, hb, hH⟩
         subst he0
         refine wpL_has hH ?_
         refine q2 (vb ((aA == 2) || (aK == 0))) (xT hg46) (wpL_nil ?_)
         exact ⟨true, _, hg46, hs, hb, hm⟩
        ·rcases Bool.eq_false_or_eq_true (aA == 2) with hg48 | hg48
         ·refine sk (yD 33 hg48) (sk (yD 33 hg48) (sk (yD 33 hg48) (stp (v := (vb true)) (want1 rfl (yD 29 hg46)) (xT hg48) (wpL_nil ?_))))
          exact ⟨true, _, hg48, hs, hb, hm⟩
         ·refine q1 (vp (some (p1.add 3))) (want1 rfl (yD 33 hg48)) (stp (v := (vu aK)) (want1 rfl (yD 33 hg48)) (xl (Try.isAgg50 _) (hb.c 0 3 gZ)) (q1 (vb (aK == 0)) (want1 rfl (yD 33 hg48)) (stp (v := (vb (aK == 0))) (want1 rfl (yD 29 hg46)) (xF hg48) (wpL_nil ?_))))
          exact ⟨false, _, hg48, hs, hb, hm⟩
       ·refine sk (yD 29 hg46) (sk (yD 29 hg46) (sk (yD 29 hg46) (sk (yD 29 hg46) (sm (sm (sm (sk (yD 29 hg46) (q2 (vb false) (xF hg46) (wpL_nil ?_)))))))))
        exact ⟨false, _, hg46, hs, hb, hm⟩
     ·rcases Bool.eq_false_or_eq_true ((s_B aA) || (aB == 0)) with hg40 | hg40
      ·refine q1 (vp (some p1)) (want1 rfl (yD 19 hg40)) (stp (v := (vi aA)) (want1 rfl (yD 19 hg40)) (xl (Try.isAgg3 _) (hb.c0 0 gZ)) ?_)
       refine st_call (want1 rfl (yD 19 hg40)) (xc Try.call224) ((p_L1 aA w28).mono ?_)
       rintro e w32 ⟨he, hE⟩
       refine ⟨(vb ((aA == 8) || (aA == 9))), he.trans (by kernel_rfl), ?_⟩
       have hs := hs.pure hE
       have hb := hb.pure hE
       refine q1 (vb ((aA == 8) || (aA == 9))) (want1 rfl (yD 19 hg40)) ?_
       refine wpL_join 4 (fun ρ wJ => ∃ b22'0 : Bool, ∃ HJ : NP, (((aA == 8) || (aA == 9)) = b22'0) ∧ Hst w0 None w0 HJ wJ ∧ HB HJ wJ [(p1, [(vi aA), (vi aB), (vi aC), (vu aK), (vs aF), (vi aL), (vi aM)], 106)] ∧ Has ρ [(1, (vp (some p1))), (19, (vb ((s_B aA) || (aB == 0)))), (27, (vb (b22'0 || (aC == 0))))]) ?_ ?_
       ·rintro ρ w33 ⟨b22'0, H23, he0, hs, hb, hH⟩
        subst he0
        refine wpL_has hH ?_
        refine q2 (vb (((aA == 8) || (aA == 9)) || (aC == 0))) (xT hg40) (wpL_nil ?_)
        exact ⟨true, _, hg40, hs, hb, hm⟩
       ·rcases Bool.eq_false_or_eq_true ((aA == 8) || (aA == 9)) with hg42 | hg42
        ·refine sk (yD 23 hg42) (sk (yD 23 hg42) (sk (yD 23 hg42) (stp (v := (vb true)) (want1 rfl (yD 19 hg40)) (xT hg42) (wpL_nil ?_))))
         exact ⟨true, _, hg42, hs, hb, hm⟩
        ·refine q1 (vp (some (p1.add 2))) (want1 rfl (yD 23 hg42)) (stp (v := (vi aC)) (want1 rfl (yD 23 hg42)) (xl (Try.isAgg3 _) (hb.c 0 2 gZ)) (q1 (vb (aC == 0)) (want1 rfl (yD 23 hg42)) (stp (v := (vb (aC == 0))) (want1 rfl (yD 19 hg40)) (xF hg42) (wpL_nil ?_))))
         exact ⟨false, _, hg42, hs, hb, hm⟩
      ·refine sk (yD 19 hg40) (sk (yD 19 hg40) (sk (yD 19 hg40) (sk (yD 19 hg40) (sm (sm (sm (sk (yD 19 hg40) (q2 (vb false) (xF hg40) (wpL_nil ?_)))))))))
       exact ⟨false, _, hg40, hs, hb, hm⟩
    ·rcases Bool.eq_false_or_eq_true (s_B aA) with hg36 | hg36
     ·refine sk (yD 14 hg36) (sk (yD 14 hg36) (sk (yD 14 hg36) (q2 (vb true) (xT hg36) (wpL_nil ?_))))
      exact ⟨true, _, hg36, hs, hb, hm⟩
     ·refine q1 (vp (some (p1.add 1))) (want1 rfl (yD 14 hg36)) (stp (v := (vi aB)) (want1 rfl (yD 14 hg36)) (xl (Try.isAgg3 _) (hb.c 0 1 gZ)) (q1 (vb (aB == 0)) (want1 rfl (yD 14 hg36)) (q2 (vb (aB == 0)) (xF hg36) (wpL_nil ?_))))
      exact ⟨false, _, hg36, hs, hb, hm⟩
   ·rintro ρ w26 ⟨H19, hs, hb, hH⟩
    refine norm_has hH ?_
    refine th_n (wpE_ret (rs1 Try.results221 (v := (vb (((((((s_B aA) || (aB == 0)) && (((aA == 8) || (aA == 9)) || (aC == 0))) && ((aA == 2) || (aK == 0))) && ((aA == 3) || (decide (aF = ⟨#[]⟩)))) && ((decide ((s_A aA) ≥ 1)) || (aL == 0))) && ((((s_A aA) : Int) == 2) || (aM == 0))))) ?_))
    exact ⟨false, hc1, by kernel_rfl, (Ext.refl (F := None) _).hst hs⟩
theorem p_Q (aA aB : Int) (aC aK : Int) (aF : ByteArray) (aL aM : Int) (w0 : World) : Calls Try.prog 221 #[(.agg #[(.int .i64 aA), (.int .i64 aB), (.int .i64 aC), (.int .u64 aK), (.string aF), (.int .i64 aL), (.int .i64 aM)])] w0 (fun e w' => e = .returned (.bool (s_Q aA aB aC aK aF aL aM)) ∧ Pure w0 w') := by
 refine (pw_Q aA aB aC aK aF aL aM w0).mono ?_
 rintro e w' ⟨b'0, e0, h, E⟩
 subst e0
 exact ⟨h, E⟩
def s_M1 (n1 : Int) : Bool :=
 ((decide (n1 ≥ 0)) && (decide (n1 < 16)))
theorem pw_M1 (n1 : Int) (w0 : World) :
  Calls Try.prog 223 #[(vi n1)] w0 (fun e w' => (e = .returned (vb ((decide (n1 ≥ 0)) && (decide (n1 < 16))))) ∧ Pure w0 w') := by
 refine cw (args := [(vi n1)]) Try.func223 Try.ntmps223 (wpE_seq (rg (q0 (vb false) (wpL_nil (th_n (wpE_seq ?_))))))
 refine wpE_via (fun ρ wJ => w0 = wJ ∧ Has ρ [(2, (vb ((decide (n1 ≥ 0)) && (decide (n1 < 16)))))]) ?_ ?_
 ·refine rg (q0 (vi n1) (q0 (vb (decide (n1 ≥ 0))) (q0 (vb (decide (n1 ≥ 0))) ?_)))
  refine wpL_join 3 (fun ρ wJ => ∃ b3'0 : Bool, ((decide (n1 ≥ 0)) = b3'0) ∧ w0 = wJ ∧ Has ρ [(8, (vb (b3'0 && (decide (n1 < 16)))))]) ?_ ?_
  ·rintro ρ w3 ⟨b3'0, he0, hw, hH⟩
   subst he0
   subst hw
   refine wpL_has hH ?_
   refine q0 (vb ((decide (n1 ≥ 0)) && (decide (n1 < 16)))) (wpL_nil (th_n ?_))
   exact ⟨rfl, hm⟩
  ·rcases Bool.eq_false_or_eq_true (decide (n1 ≥ 0)) with hg4 | hg4
   ·refine q1 (vi n1) (want1 rfl (yD 5 hg4)) (q1 (vb (decide (n1 < 16))) (want1 rfl (yD 5 hg4)) (q2 (vb (decide (n1 < 16))) (xT hg4) (wpL_nil ?_)))
    exact ⟨true, hg4, rfl, hm⟩
   ·refine sk (yD 5 hg4) (sk (yD 5 hg4) (q2 (vb false) (xF hg4) (wpL_nil ?_)))
    exact ⟨false, hg4, rfl, hm⟩
 ·rintro ρ w2 ⟨hw, hH⟩
  subst hw
  refine norm_has hH ?_
  refine th_n (wpE_ret (rs1 Try.results223 (v := (vb ((decide (n1 ≥ 0)) && (decide (n1 < 16))))) ?_))
  exact ⟨by kernel_rfl, Ext.refl _⟩
theorem p_M1 (n1 : Int) (w0 : World) : Calls Try.prog 223 #[(.int .i64 n1)] w0 (fun e w' => e = .returned (.bool (s_M1 n1)) ∧ Pure w0 w') := pw_M1 n1 w0
def s_G (aA aB : Int) (aC aK : Int) (aF : ByteArray) (aL aM : Int) : Int :=
 (cond (!(s_Q aA aB aC aK aF aL aM)) 53 (cond (((s_B aA) && (!((decide (aB ≥ 0)) && (decide (aB < 16))))) || (((aA == 8) || (aA == 9)) && ((!((decide (aC ≥ 0)) && (decide (aC < 16)))) || (aB == aC)))) 50 (cond (decide ((aF.size : Int) > 64)) 1 0)))
theorem pw_G (aA aB : Int) (aC aK : Int) (aF : ByteArray) (aL aM : Int) (w0 : World) :
  Calls Try.prog 202 #[(.agg #[(vi aA), (vi aB), (vi aC), (vu aK), (vs aF), (vi aL), (vi aM)])] w0 (fun e w' => ∃ b'0 b'1 b'2 : Bool, ((!(s_Q aA aB aC aK aF aL aM)) = b'0 ∧ (((s_B aA) && (!((decide (aB ≥ 0)) && (decide (aB < 16))))) || (((aA == 8) || (aA == 9)) && ((!((decide (aC ≥ 0)) && (decide (aC < 16)))) || (aB == aC)))) = b'1 ∧ (decide ((aF.size : Int) > 64)) = b'2) ∧ (e = .returned (vi (cond b'0 53 (cond b'1 50 (cond b'2 1 0))))) ∧ Pure w0 w') := by
 refine cw (args := [(.agg #[(vi aA), (vi aB), (vi aC), (vu aK), (vs aF), (vi aL), (vi aM)])]) Try.func202 Try.ntmps202 ?_
 have hs := Hst.start w0
 have hb := HB.nil None w0
 refine wpE_seq (rg (sn (O := (.cells #[(vi aA), (vi aB), (vi aC), (vu aK), (vs aF), (vi aL), (vi aM)] 106)) xb ?_))
 intro p1 w1 hn1
 obtain ⟨H1, hs, hb⟩ := hs.alloc hb hn1
 refine q0 (vi 0) (wpL_nil (th_n (wpE_seq (wpE_seq (rg (q2 (.agg #[(vi aA), (vi aB), (vi aC), (vu aK), (vs aF), (vi aL), (vi aM)]) (x_loadA (a := p1) (vs := [(vi aA), (vi aB), (vi aC), (vu aK), (vs aF), (vi aL), (vi aM)]) (by kernel_rfl) (Try.isAgg106 _) (Try.sizeOf106 _) rfl (hb.row0 0 7 gZ (by kernel_rfl))) ?_))))))
 refine sc Try.call221 ((p_Q aA aB aC aK aF aL aM w1).mono ?_)
 rintro e w2 ⟨he, hE⟩
 refine ⟨(vb (s_Q aA aB aC aK aF aL aM)), he.trans (by kernel_rfl), ?_⟩
 have hs := hs.pure hE
 have hb := hb.pure hE
 refine q0 (vb (!(s_Q aA aB aC aK aF aL aM))) (wpL_nil (th_n ?_))
 refine wpE_cond (t := (!(s_Q aA aB aC aK aF aL aM))) (by kernel_rfl) (fun hc1 => ?_) (fun hc1 => ?_)
 ·refine wpE_seq (rg (q0 (vi 53) (wpL_nil (th_n (wpE_ret (th_r (rs1 Try.results202 (v := (vi 53)) ?_)))))))
  exact ⟨true, _, _, ⟨hc1, rfl, rfl⟩, by kernel_rfl, (Ext.refl (F := None) _).hst hs⟩
 ·refine wpE_skip (th_n (wpE_seq (wpE_seq ?_)))
  refine wpE_via (fun ρ wJ => ∃ b5'0 : Bool, ∃ HJ : NP, (((s_B aA) && (!((decide (aB ≥ 0)) && (decide (aB < 16))))) = b5'0) ∧ Hst w0 None w0 HJ wJ ∧ HB HJ wJ [(p1, [(vi aA), (vi aB), (vi aC), (vu aK), (vs aF), (vi aL), (vi aM)], 106)] ∧ Has ρ [(1, (vp (some p1))), (32, (vb (b5'0 || (((aA == 8) || (aA == 9)) && ((!((decide (aC ≥ 0)) && (decide (aC < 16)))) || (aB == aC))))))]) ?_ ?_
  ·refine rg (q0 (vp (some p1)) (q2 (vi aA) (xl (Try.isAgg3 _) (hb.c0 0 gZ)) ?_))
   refine sc Try.call222 ((p_B aA w2).mono ?_)
   rintro e w14 ⟨he, hE⟩
   refine ⟨(vb (s_B aA)), he.trans (by kernel_rfl), ?_⟩
   have hs := hs.pure hE
   have hb := hb.pure hE
   refine q0 (vb (s_B aA)) ?_
   refine wpL_join 5 (fun ρ wJ => ∃ b6'0 : Bool, ∃ HJ : NP, ((s_B aA) = b6'0) ∧ Hst w0 None w0 HJ wJ ∧ HB HJ wJ [(p1, [(vi aA), (vi aB), (vi aC), (vu aK), (vs aF), (vi aL), (vi aM)], 106)] ∧ Has ρ [(1, (vp (some p1))), (14, (vb (b6'0 && (!((decide (aB ≥ 0)) && (decide (aB < 16)))))))]) ?_ ?_
   ·rintro ρ w16 ⟨b6'0, H7, he0, hs, hb, hH⟩
    subst he0
    refine wpL_has hH ?_
    refine q0 (vb ((s_B aA) && (!((decide (aB ≥ 0)) && (decide (aB < 16)))))) ?_
    rcases Bool.eq_false_or_eq_true ((s_B aA) && (!((decide (aB ≥ 0)) && (decide (aB < 16))))) with hg12 | hg12
    ·refine sk (yD 15 hg12) (sk (yD 15 hg12) (sk (yD 15 hg12) (sk (yD 15 hg12) (sm (sm (sm (sm (sm (sm (sm (sm ?_)))))))))))
     refine sm (sm (sm (sk (yD 15 hg12) (q2 (vb true) (xT hg12) (wpL_nil (th_n ?_))))))
     exact ⟨true, _, hg12, hs, hb, hm⟩
    ·refine q1 (vp (some p1)) (want1 rfl (yD 15 hg12)) (stp (v := (vi aA)) (want1 rfl (yD 15 hg12)) (xl (Try.isAgg3 _) (hb.c0 0 gZ)) ?_)
     refine st_call (want1 rfl (yD 15 hg12)) (xc Try.call224) ((p_L1 aA w16).mono ?_)
     rintro e w18 ⟨he, hE⟩
     refine ⟨(vb ((aA == 8) || (aA == 9))), he.trans (by kernel_rfl), ?_⟩
     have hs := hs.pure hE
     have hb := hb.pure hE
     refine q1 (vb ((aA == 8) || (aA == 9))) (want1 rfl (yD 15 hg12)) ?_
     refine wpL_join 12 (fun ρ wJ => ∃ b8'0 : Bool, ∃ HJ : NP, (((aA == 8) || (aA == 9)) = b8'0) ∧ Hst w0 None w0 HJ wJ ∧ HB HJ wJ [(p1, [(vi aA), (vi aB), (vi aC), (vu aK), (vs aF), (vi aL), (vi aM)], 106)] ∧ Has ρ [(1, (vp (some p1))), (15, (vb ((s_B aA) && (!((decide (aB ≥ 0)) && (decide (aB < 16))))))), (31, (vb (b8'0 && ((!((decide (aC ≥ 0)) && (decide (aC < 16)))) || (aB == aC)))))]) ?_ ?_
     ·rintro ρ w21 ⟨b8'0, H9, he0, hs, hb, hH⟩
      subst he0
      refine wpL_has hH ?_
      refine q2 (vb (((aA == 8) || (aA == 9)) && ((!((decide (aC ≥ 0)) && (decide (aC < 16)))) || (aB == aC)))) (xF hg12) (wpL_nil (th_n ?_))
      exact ⟨false, _, hg12, hs, hb, hm⟩
     ·rcases Bool.eq_false_or_eq_true ((aA == 8) || (aA == 9)) with hg16 | hg16
      ·refine q1 (vp (some (p1.add 2))) (want1 rfl (yD 19 hg16)) (stp (v := (vi aC)) (want1 rfl (yD 19 hg16)) (xl (Try.isAgg3 _) (hb.c 0 2 gZ)) ?_)
       refine st_call (want1 rfl (yD 19 hg16)) (xc Try.call223) ((p_M1 aC w18).mono ?_)
       rintro e w22 ⟨he, hE⟩
       refine ⟨(vb ((decide (aC ≥ 0)) && (decide (aC < 16)))), he.trans (by kernel_rfl), ?_⟩
       have hs := hs.pure hE
       have hb := hb.pure hE
       refine q1 (vb (!((decide (aC ≥ 0)) && (decide (aC < 16))))) (want1 rfl (yD 19 hg16)) (q1 (vb (!((decide (aC ≥ 0)) && (decide (aC < 16))))) (want1 rfl (yD 19 hg16)) ?_)
       refine wpL_join 6 (fun ρ wJ => ∃ b9'0 : Bool, ∃ HJ : NP, ((!((decide (aC ≥ 0)) && (decide (aC < 16)))) = b9'0) ∧ Hst w0 None w0 HJ wJ ∧ HB HJ wJ [(p1, [(vi aA), (vi aB), (vi aC), (vu aK), (vs aF), (vi aL), (vi aM)], 106)] ∧ Has ρ [(1, (vp (some p1))), (15, (vb ((s_B aA) && (!((decide (aB ≥ 0)) && (decide (aB < 16))))))), (19, (vb ((aA == 8) || (aA == 9)))), (30, (vb (b9'0 || (aB == aC))))]) ?_ ?_
       ·rintro ρ w23 ⟨b9'0, H10, he0, hs, hb, hH⟩
        subst he0
        refine wpL_has hH ?_
        refine stp (v := (vb ((!((decide (aC ≥ 0)) && (decide (aC < 16)))) || (aB == aC)))) (want1 rfl (yD 15 hg12)) (xT hg16) (wpL_nil ?_)
        exact ⟨true, _, hg16, hs, hb, hm⟩
       ·rcases Bool.eq_false_or_eq_true (!((decide (aC ≥ 0)) && (decide (aC < 16)))) with hg18 | hg18
        ·refine sk (yD 24 hg18) (sk (yD 24 hg18) (sk (yD 24 hg18) (sk (yD 24 hg18) (sk (yD 24 hg18) (stp (v := (vb true)) (want1 rfl (yD 19 hg16)) (xT hg18) (wpL_nil ?_))))))
         exact ⟨true, _, hg18, hs, hb, hm⟩
        ·refine q1 (vp (some (p1.add 1))) (want1 rfl (yD 24 hg18)) (stp (v := (vi aB)) (want1 rfl (yD 24 hg18)) (xl (Try.isAgg3 _) (hb.c 0 1 gZ)) (q1 (vp (some (p1.add 2))) (want1 rfl (yD 24 hg18)) (stp (v := (vi aC)) (want1 rfl (yD 24 hg18)) (xl (Try.isAgg3 _) (hb.c 0 2 gZ)) (q1 (vb (aB == aC)) (want1 rfl (yD 24 hg18)) (stp (v := (vb (aB == aC))) (want1 rfl (yD 19 hg16)) (xF hg18) (wpL_nil ?_))))))
         exact ⟨false, _, hg18, hs, hb, hm⟩
      ·refine sk (yD 19 hg16) (sk (yD 19 hg16) (sk (yD 19 hg16) (sk (yD 19 hg16) (sk (yD 19 hg16) (sm (sm (sm (sm (sm (sk (yD 19 hg16) (stp (v := (vb false)) (want1 rfl (yD 15 hg12)) (xF hg16) ?_)))))))))))
       refine wpL_nil ?_
       exact ⟨false, _, hg16, hs, hb, hm⟩
   ·rcases Bool.eq_false_or_eq_true (s_B aA) with hg11 | hg11
    ·refine q1 (vp (some (p1.add 1))) (want1 rfl (yD 9 hg11)) (stp (v := (vi aB)) (want1 rfl (yD 9 hg11)) (xl (Try.isAgg3 _) (hb.c 0 1 gZ)) ?_)
     refine st_call (want1 rfl (yD 9 hg11)) (xc Try.call223) ((p_M1 aB w14).mono ?_)
     rintro e w17 ⟨he, hE⟩
     refine ⟨(vb ((decide (aB ≥ 0)) && (decide (aB < 16)))), he.trans (by kernel_rfl), ?_⟩
     have hs := hs.pure hE
     have hb := hb.pure hE
     refine q1 (vb (!((decide (aB ≥ 0)) && (decide (aB < 16))))) (want1 rfl (yD 9 hg11)) (q2 (vb (!((decide (aB ≥ 0)) && (decide (aB < 16))))) (xT hg11) (wpL_nil ?_))
     exact ⟨true, _, hg11, hs, hb, hm⟩
    ·refine sk (yD 9 hg11) (sk (yD 9 hg11) (sk (yD 9 hg11) (sk (yD 9 hg11) (q2 (vb false) (xF hg11) (wpL_nil ?_)))))
     exact ⟨false, _, hg11, hs, hb, hm⟩
  ·rintro ρ w13 ⟨b5'0, H6, he0, hs, hb, hH⟩
   subst he0
   refine norm_has hH ?_
   refine th_n ?_
   refine wpE_cond (t := (((s_B aA) && (!((decide (aB ≥ 0)) && (decide (aB < 16))))) || (((aA == 8) || (aA == 9)) && ((!((decide (aC ≥ 0)) && (decide (aC < 16)))) || (aB == aC))))) (by kernel_rfl) (fun hc2 => ?_) (fun hc2 => ?_)
   ·refine wpE_seq (rg (q0 (vi 50) (wpL_nil (th_n (wpE_ret (th_r (rs1 Try.results202 (v := (vi 50)) ?_)))))))
    exact ⟨false, true, _, ⟨hc1, hc2, rfl⟩, by kernel_rfl, (Ext.refl (F := None) _).hst hs⟩
   ·refine wpE_skip (th_n (wpE_seq (wpE_seq (rg (q0 (vp (some (p1.add 4))) (q2 (vs aF) (xl (Try.isAgg9 _) (hb.c 0 4 gZ)) (q0 (vi (aF.size : Int)) (q0 (vb (decide ((aF.size : Int) > 64))) (wpL_nil (th_n ?_))))))))))
    refine wpE_cond (t := (decide ((aF.size : Int) > 64))) (by kernel_rfl) (fun hc3 => ?_) (fun hc3 => ?_)
    ·refine wpE_seq (rg (q0 (vi 1) (wpL_nil (th_n (wpE_ret (th_r (rs1 Try.results202 (v := (vi 1)) ?_)))))))
     exact ⟨false, false, true, ⟨hc1, hc2, hc3⟩, by kernel_rfl, (Ext.refl (F := None) _).hst hs⟩
    ·refine wpE_skip (th_n (wpE_seq (rg (q0 (vi 0) (wpL_nil (th_n (wpE_ret (rs1 Try.results202 (v := (vi 0)) ?_))))))))
     exact ⟨false, false, false, ⟨hc1, hc2, hc3⟩, by kernel_rfl, (Ext.refl (F := None) _).hst hs⟩
theorem p_G (aA aB : Int) (aC aK : Int) (aF : ByteArray) (aL aM : Int) (w0 : World) : Calls Try.prog 202 #[(.agg #[(.int .i64 aA), (.int .i64 aB), (.int .i64 aC), (.int .u64 aK), (.string aF), (.int .i64 aL), (.int .i64 aM)])] w0 (fun e w' => e = .returned (.int .i64 (s_G aA aB aC aK aF aL aM)) ∧ Pure w0 w') := by
 refine (pw_G aA aB aC aK aF aL aM w0).mono ?_
 rintro e w' ⟨b'0, b'1, b'2, ⟨e0, e1, e2⟩, h, E⟩
 subst e0
 subst e1
 subst e2
 exact ⟨h, E⟩
def m_M_l2 (aE : Sl) (deep1 : Int) (seen1 : Option Addr) (e1 i1 : Int) (w0 : World) (Hl1 : NP) (wl1 : World) (Kc2 : Int → Int → NP → WP) (K : Int → WP) : Prop :=
 Br ((e1 == 0) && (decide (i1 < (aE.len : Int))))
  (∃ a3 : Addr, At aE i1 6 a3 ∧
  ∀ (H4 : NP) (w11 : World), Hst w0 Hl1 wl1 H4 w11 →
  ∃ aN aO : Int, ∃ aP aQ : Int, ∃ aR : ByteArray, ∃ aW : Sl, Row w11 a3 [(vi aN), (vi aO), (vi aP), (vu aQ), (vs aR), aW.v] ∧
  Calls Try.prog 144 #[(.agg #[(vi aN), (vi aO), (vi aP), (vu aQ), (vs aR), aW.v]), (vi (q6.wrap (deep1 + 1))), (vp seen1)] w11 (fun e w12 => ∃ r1 : Int, e = .returned (vi r1) ∧ 
   Kept H4 w11 w12 ∧
   Kc2 r1 (q6.wrap (i1 + 1)) H4 w12))
  (∀ (H4 : NP) (w11 : World), Hst w0 Hl1 wl1 H4 w11 →
  K e1 w11)
def m_M_j1 (aD aG : Int) (aH aI : Int) (aJ : ByteArray) (aE : Sl) (deep1 : Int) (seen1 : Option Addr) (x1 : Bool) (w0 : World) (H : NP) (w : World) (K : Int → WP) : Prop :=
 Br x1
  (K 52 w)
  (∃ a1 : Addr, seen1 = some a1 ∧
  ∃ v1 : Int, w.cell? a1 = some (vi v1) ∧
  ∃ a2 : Addr, seen1 = some a2 ∧
  CanW w a2 ∧ ¬ H a2.block ∧ ∀ w2 : World, w2 = w.setCell a2 (vi (q6.wrap (v1 + 1))) →
  ∀ y1 : Bool, y1 = ((((s_G aD aG aH aI aJ 0 0) : Int) != 53) && (((aE.len : Int) : Int) != (s_A aD))) →
  ∀ (H3 : NP) (w10 : World), Hst w0 H w2 H3 w10 →
  ∃ (I1 : Int → Int → NP → WP) (mu1 : Int → Int → World → Nat), I1 (cond y1 53 (s_G aD aG aH aI aJ 0 0)) 0 H3 w10 ∧
   ∀ (e1 i1 : Int) (Hl1 : NP) (wl1 : World), Hst w0 Hl1 wl1 Hl1 wl1 → I1 e1 i1 Hl1 wl1 → m_M_l2 aE deep1 seen1 e1 i1 w0 Hl1 wl1 (fun y'0 y'1 H' w' => I1 y'0 y'1 H' w' ∧ mu1 y'0 y'1 w' < mu1 e1 i1 wl1) K)
def m_M (aD aG : Int) (aH aI : Int) (aJ : ByteArray) (aE : Sl) (deep1 : Int) (seen1 : Option Addr) (w0 : World) (K : Int → WP) : Prop :=
 ∃ a4 : Addr, seen1 = some a4 ∧
 ∀ (H1 : NP) (w1 : World), Hst w0 None w0 H1 w1 →
 ∃ v2 : Int, w1.cell? a4 = some (vi v2) ∧
 ∀ (H5 : NP) (w13 : World), Hst w0 H1 w1 H5 w13 →
 m_M_j1 aD aG aH aI aJ aE deep1 seen1 ((decide (v2 ≥ 4096)) || (decide (deep1 ≥ 64))) w0 H5 w13 K
theorem w_M (aD aG : Int) (aH aI : Int) (aJ : ByteArray) (aE : Sl) (deep1 : Int) (seen1 : Option Addr) (w0 : World) (K : Int → WP) (h : m_M aD aG aH aI aJ aE deep1 seen1 w0 K) :
  Calls Try.prog 144 #[(.agg #[(vi aD), (vi aG), (vi aH), (vu aI), (vs aJ), aE.v]), (vi deep1), (vp seen1)] w0 (fun e w' => ∃ r2 : Int, e = .returned (vi r2) ∧ K r2 w') := by
 unfold m_M at h
 refine cw (args := [(.agg #[(vi aD), (vi aG), (vi aH), (vu aI), (vs aJ), aE.v]), (vi deep1), (vp seen1)]) Try.func144 Try.ntmps144 ?_
 have hs := Hst.start w0
 have hb := HB.nil None w0
 refine wpE_seq (rg (sn (O := (.cells #[(vi aD), (vi aG), (vi aH), (vu aI), (vs aJ), aE.v] 52)) xb ?_))
 intro p1 w1 hn1
 obtain ⟨H1, hs, hb⟩ := hs.alloc hb hn1
 refine q0 (vi 0) (wpL_nil (th_n (wpE_seq (wpE_seq ?_))))
 refine wpE_joinT (fun ρ w => ∃ x1 : Bool, ∃ H : NP, Has ρ [(1, (vi deep1)), (2, (vp seen1)), (3, (vp (some p1))), (16, (vb x1))] ∧ Hst w0 H w H w ∧ HB H w [(p1, [(vi aD), (vi aG), (vi aH), (vu aI), (vs aJ), aE.v], 52)] ∧ m_M_j1 aD aG aH aI aJ aE deep1 seen1 x1 w0 H w K) ?_ ?_
 ·rintro ρ w ⟨x1, H, hH, hs, hb, h⟩
  unfold m_M_j1 at h
  refine wpE_has hH ?_
  refine wpE_cond (t := x1) (by kernel_rfl) (fun hc1 => ?_) (fun hc1 => ?_)
  ·have h := h.1 hc1
   refine wpE_seq (rg (q0 (vi 52) (wpL_nil (th_n (wpE_ret (th_r (rs1 Try.results144 (v := (vi 52)) ?_)))))))
   exact ⟨52, rfl, h⟩
  ·have h := h.2 hc1
   refine wpE_skip (th_n (wpE_seq (rg (q0 (vp seen1) (q0 (vp seen1) ?_)))))
   obtain ⟨a1, hp1, h⟩ := h
   refine q2 (vp (some a1)) (x_nilCheck (p := seen1) (by kernel_rfl) hp1) ?_
   obtain ⟨v1, hv3, h⟩ := h
   refine q2 (vi v1) (xl (Try.isAgg3 _) hv3) (q0 (vi (q6.wrap (v1 + 1))) ?_)
   obtain ⟨a2, hp2, h⟩ := h
   refine q2 (vp (some a2)) (x_nilCheck (p := seen1) (by kernel_rfl) hp2) ?_
   obtain ⟨hp3, hnh, h⟩ := h
   refine st_set (want0 rfl) (x_store (a := a2) (v := (vi (q6.wrap (v1 + 1)))) (by kernel_rfl) (by kernel_rfl) rfl (Try.sizeOf3 _) hp3) ?_
   intro w2 hn2
   have h := h w2 hn2
   have hk := Kept.sc hnh hn2
   obtain ⟨hs, hb⟩ := hk.hh hs hb
   refine wpL_nil (th_n (wpE_seq (rg (q2 (.agg #[(vi aD), (vi aG), (vi aH), (vu aI), (vs aJ), aE.v]) (x_loadA (a := p1) (vs := [(vi aD), (vi aG), (vi aH), (vu aI), (vs aJ), aE.v]) (by kernel_rfl) (Try.isAgg52 _) (Try.sizeOf52 _) rfl (hb.row0 0 6 gZ (by kernel_rfl))) ?_))))
   refine sc Try.call145 ((p_P aD aG aH aI aJ aE w2).mono ?_)
   rintro e w3 ⟨he, hE⟩
   refine ⟨(.agg #[(vi aD), (vi aG), (vi aH), (vu aI), (vs aJ), (vi 0), (vi 0)]), he.trans (by kernel_rfl), ?_⟩
   have hs := hs.pure hE
   have hb := hb.pure hE
   refine sc Try.call202 ((p_G aD aG aH aI aJ 0 0 w3).mono ?_)
   rintro e w4 ⟨he, hE⟩
   refine ⟨(vi (s_G aD aG aH aI aJ 0 0)), he.trans (by kernel_rfl), ?_⟩
   have hs := hs.pure hE
   have hb := hb.pure hE
   refine q0 (vi (s_G aD aG aH aI aJ 0 0)) (wpL_nil (th_n (wpE_seq (wpE_seq ?_))))
   refine wpE_via (fun ρ wJ => ∃ b1'0 y1 : Bool, ∃ HJ : NP, ((((s_G aD aG aH aI aJ 0 0) : Int) != 53) = b1'0) ∧ (y1 = (b1'0 && (((aE.len : Int) : Int) != (s_A aD)))) ∧ Hst w0 H w2 HJ wJ ∧ HB HJ wJ [(p1, [(vi aD), (vi aG), (vi aH), (vu aI), (vs aJ), aE.v], 52)] ∧ Has ρ [(1, (vi deep1)), (2, (vp seen1)), (3, (vp (some p1))), (7, (vi (s_G aD aG aH aI aJ 0 0))), (36, (vb y1))]) ?_ ?_
   ·refine wpE_drawnC (fun x => ∃ H', Hst w0 H w2 H' x ∧ HB H' x [(p1, [(vi aD), (vi aG), (vi aH), (vu aI), (vs aJ), aE.v], 52)]) [8] [] (by kernel_rfl) (by kernel_rfl) (by kernel_rfl) (by kernel_rfl) ⟨_, hs.drew, hb.drew⟩ ?_
    intro w8 hw8
    have hs : Hst w0 H w2 H w8 := by rw [hw8]; exact hs.drew
    have hb : HB H w8 [(p1, [(vi aD), (vi aG), (vi aH), (vu aI), (vs aJ), aE.v], 52)] := by rw [hw8]; exact hb.drew
    refine qx 0 (vi (s_G aD aG aH aI aJ 0 0)) Kp0 (qx 1 (vb (((s_G aD aG aH aI aJ 0 0) : Int) != 53)) Kp1 (qx 2 (vb (((s_G aD aG aH aI aJ 0 0) : Int) != 53)) Kp2 (qg 3 ?_)))
    rcases Bool.eq_false_or_eq_true (((s_G aD aG aH aI aJ 0 0) : Int) != 53) with hg2 | hg2
    ·refine sz (v := (vp (some (p1.add 5)))) Kp3 (want1 rfl (yD 28 hg2)) (fun _ _ => (by kernel_rfl)) (qg 4 (sz (v := aE.v) Kp4 (want1 rfl (yD 28 hg2)) (fun w' hw' => (by obtain ⟨H', hs', hb'⟩ := hw'; exact (xl (Try.isAgg22 _) (hb'.cell 0 5 gZ (by kernel_rfl))))) (qw 5 (vi (aE.len : Int)) Kp5 (want1 rfl (yD 28 hg2)) (qw 6 (vp (some p1)) Kp6 (want1 rfl (yD 28 hg2)) (qg 7 (sz (v := (vi aD)) Kp7 (want1 rfl (yD 28 hg2)) (fun w' hw' => (by obtain ⟨H', hs', hb'⟩ := hw'; exact (xl (Try.isAgg3 _) (hb'.cell0 0 gZ (by kernel_rfl))))) (lg 8 ?_)))))))
     refine sl_call Kp8 (want1 rfl (yD 28 hg2)) (by kernel_rfl) (xc Try.call90) ((p_A aD w8).mono ?_)
     rintro e w9 ⟨he, hE⟩
     have hs := hs.pure hE
     have hb := hb.pure hE
     refine ⟨(vi (s_A aD)), he.trans (by kernel_rfl), .inr ⟨_, hs, hb⟩, ?_⟩
     refine qw 9 (vb (((aE.len : Int) : Int) != (s_A aD))) Kp9 (want1 rfl (yD 28 hg2)) (qz 10 (vb (((aE.len : Int) : Int) != (s_A aD))) (pickA (S8 (pickS (pickS pickZ)))) (fun _ _ => (xT hg2)) (wn (th_n ?_)))
     exact ⟨true, _, _, hg2, rfl, hs, hb, hm⟩
    ·refine sx_not Kp3 (unwant rfl (yD 28 hg2) rfl) (qn 4 Kp4 (unwant rfl (yD 28 hg2) rfl) (qn 5 Kp5 (unwant rfl (yD 28 hg2) rfl) (qn 6 Kp6 (unwant rfl (yD 28 hg2) rfl) (qn 7 Kp7 (unwant rfl (yD 28 hg2) rfl) (lg 8 (sx_not Kp8 (unwant rfl (yD 28 hg2) rfl) (qn 9 Kp9 (unwant rfl (yD 28 hg2) rfl) (qz 10 (vb false) (pickA (S8 (pickS (pickS pickZ)))) (fun _ _ => (xF hg2)) (wn (th_n ?_))))))))))
     exact ⟨false, _, _, hg2, rfl, hs, hb, hm⟩
   ·rintro ρ w7 ⟨b1'0, y1, H2, he0, hy1, hs, hb, hH⟩
    subst he0
    have h := h y1 hy1
    refine norm_has hH ?_
    refine th_n ?_
    refine wpE_via (fun ρ wJ => ∃ b2'0 : Bool, ∃ HJ : NP, (y1 = b2'0) ∧ Hst w0 H w2 HJ wJ ∧ HB HJ wJ [(p1, [(vi aD), (vi aG), (vi aH), (vu aI), (vs aJ), aE.v], 52)] ∧ Has ρ [(1, (vi deep1)), (2, (vp seen1)), (3, (vp (some p1))), (7, (vi (cond b2'0 53 (s_G aD aG aH aI aJ 0 0))))]) ?_ ?_
    ·refine wpE_cond (t := y1) (by kernel_rfl) (fun hc3 => ?_) (fun hc3 => ?_)
     ·refine rg (q0 (vi 53) (wpL_nil (th_n ?_)))
      exact ⟨true, _, hc3, hs, hb, hm⟩
     ·refine wpE_skip (th_n ?_)
      exact ⟨false, _, hc3, hs, hb, hm⟩
    ·rintro ρ w10 ⟨b2'0, H3, he0, hs, hb, hH⟩
     subst he0
     refine norm_has hH ?_
     refine th_n (wpE_seq (wpE_seq (rg (q0 (vi 0) (wpL_nil (th_n (wpE_block ?_)))))))
     have h := h H3 w10 hs
     have hs := hs.here
     obtain ⟨I1, mu1, h0, hr⟩ := h
     refine wpE_loop (σ := Int × Int × NP × World) (fun s ρ w => w = s.2.2.2 ∧ Has ρ [(1, (vi deep1)), (2, (vp seen1)), (3, (vp (some p1))), (7, (vi s.1)), (8, (vi s.2.1))] ∧ Hst w0 s.2.2.1 w s.2.2.1 w ∧ HB s.2.2.1 w [(p1, [(vi aD), (vi aG), (vi aH), (vu aI), (vs aJ), aE.v], 52)] ∧ I1 s.1 s.2.1 s.2.2.1 s.2.2.2) (fun s => mu1 s.1 s.2.1 s.2.2.2) ((cond y1 53 (s_G aD aG aH aI aJ 0 0)), 0, H3, w10) ⟨rfl, hm, hs, hb, h0⟩ ?_
     rintro ⟨e1, i1, Hl1, wl1⟩ ρ w ⟨hw, hH, hs, hb, hI⟩
     obtain rfl : wl1 = w := (show w = wl1 from hw).symm
     have hH : Has ρ [(1, (vi deep1)), (2, (vp seen1)), (3, (vp (some p1))), (7, (vi e1)), (8, (vi i1))] := hH
     have hs : Hst w0 Hl1 wl1 Hl1 wl1 := hs
     have hb : HB Hl1 wl1 [(p1, [(vi aD), (vi aG), (vi aH), (vu aI), (vs aJ), aE.v], 52)] := hb
     have h := hr e1 i1 Hl1 wl1 hs hI
     unfold m_M_l2 at h
     refine wpE_has hH ?_
     refine wpE_seq (wpE_seq ?_)
     refine wpE_via (fun ρ wJ => ∃ b3'0 : Bool, ∃ HJ : NP, ((e1 == 0) = b3'0) ∧ Hst w0 Hl1 wl1 HJ wJ ∧ HB HJ wJ [(p1, [(vi aD), (vi aG), (vi aH), (vu aI), (vs aJ), aE.v], 52)] ∧ Has ρ [(1, (vi deep1)), (2, (vp seen1)), (3, (vp (some p1))), (7, (vi e1)), (8, (vi i1)), (45, (vb (b3'0 && (decide (i1 < (aE.len : Int))))))]) ?_ ?_
     ·refine rg (q0 (vi e1) (q0 (vb (e1 == 0)) (q0 (vb (e1 == 0)) ?_)))
      rcases Bool.eq_false_or_eq_true (e1 == 0) with hg4 | hg4
      ·refine q1 (vi i1) (want1 rfl (yD 39 hg4)) (q1 (vp (some (p1.add 5))) (want1 rfl (yD 39 hg4)) (stp (v := aE.v) (want1 rfl (yD 39 hg4)) (xl (Try.isAgg22 _) (hb.c 0 5 gZ)) (q1 (vi (aE.len : Int)) (want1 rfl (yD 39 hg4)) (q1 (vb (decide (i1 < (aE.len : Int)))) (want1 rfl (yD 39 hg4)) (q2 (vb (decide (i1 < (aE.len : Int)))) (xT hg4) (wpL_nil (th_n ?_)))))))
       exact ⟨true, _, hg4, hs, hb, hm⟩
      ·refine sk (yD 39 hg4) (sk (yD 39 hg4) (sk (yD 39 hg4) (sk (yD 39 hg4) (sk (yD 39 hg4) (q2 (vb false) (xF hg4) (wpL_nil (th_n ?_)))))))
       exact ⟨false, _, hg4, hs, hb, hm⟩
     ·rintro ρ w11 ⟨b3'0, H4, he0, hs, hb, hH⟩
      subst he0
      refine norm_has hH ?_
      refine th_n ?_
      refine wpE_cond (t := ((e1 == 0) && (decide (i1 < (aE.len : Int))))) (by kernel_rfl) (fun hc4 => ?_) (fun hc4 => ?_)
      ·have h := h.1 hc4
       refine wpE_skip (th_n (wpE_seq (wpE_block (rg (q0 (vp (some (p1.add 5))) (q2 aE.v (xl (Try.isAgg22 _) (hb.c 0 5 gZ)) (q0 (vi i1) ?_)))))))
       obtain ⟨a3, hv2, h⟩ := h
       refine q2 (vp (some a3)) (xi (Try.runUnderlying22 _) (Try.sizeOf52 _) hv2) ?_
       have h := h H4 w11 hs
       have hs := hs.here
       obtain ⟨aN, aO, aP, aQ, aR, aW, hv1, h⟩ := h
       refine q2 (.agg #[(vi aN), (vi aO), (vi aP), (vu aQ), (vs aR), aW.v]) (x_loadA (a := a3) (vs := [(vi aN), (vi aO), (vi aP), (vu aQ), (vs aR), aW.v]) (by kernel_rfl) (Try.isAgg52 _) (Try.sizeOf52 _) rfl hv1) (q0 (vi deep1) (q0 (vi (q6.wrap (deep1 + 1))) (q0 (vp seen1) ?_)))
       refine sc Try.call144 (h.mono ?_)
       rintro e w12 ⟨r1, rfl, hk, h⟩
       refine ⟨_, rfl, ?_⟩
       obtain ⟨hs, hb⟩ := hk.hh hs hb
       refine q0 (vi r1) (wpL_nil (bl_n (th_n (rg (q0 (vi i1) (q0 (vi (q6.wrap (i1 + 1))) (q0 (vi (q6.wrap (i1 + 1))) (wpL_nil (th_n ?_)))))))))
       exact ⟨(r1, (q6.wrap (i1 + 1)), H4, w12), ⟨rfl, hm, hs, hb, h.1⟩, h.2⟩
      ·have h := h.2 hc4
       refine wpE_exit (th_x (th_x (bl_eq (th_n (wpE_seq (rg (q0 (vi e1) (q0 (vi e1) (wpL_nil (th_n (wpE_ret ?_)))))))))))
       have h := h H4 w11 hs
       have hs := hs.here
       refine rs1 Try.results144 (v := (vi e1)) ?_
       exact ⟨e1, rfl, h⟩
 ·refine rg (q0 (vp seen1) ?_)
  obtain ⟨a4, hp4, h⟩ := h
  refine q2 (vp (some a4)) (x_nilCheck (p := seen1) (by kernel_rfl) hp4) ?_
  have h := h H1 w1 hs
  have hs := hs.here
  obtain ⟨v2, hv4, h⟩ := h
  refine q2 (vi v2) (xl (Try.isAgg3 _) hv4) (q0 (vb (decide (v2 ≥ 4096))) (q0 (vb (decide (v2 ≥ 4096))) ?_))
  refine wpL_join 3 (fun ρ wJ => ∃ b4'0 : Bool, ∃ HJ : NP, ((decide (v2 ≥ 4096)) = b4'0) ∧ Hst w0 H1 w1 HJ wJ ∧ HB HJ wJ [(p1, [(vi aD), (vi aG), (vi aH), (vu aI), (vs aJ), aE.v], 52)] ∧ Has ρ [(1, (vi deep1)), (2, (vp seen1)), (3, (vp (some p1))), (16, (vb (b4'0 || (decide (deep1 ≥ 64)))))]) ?_ ?_
  ·rintro ρ w13 ⟨b4'0, H5, he0, hs, hb, hH⟩
   subst he0
   refine wpL_has hH ?_
   refine wpL_nil ?_
   have h := h H5 w13 hs
   have hs := hs.here
   refine th_n ?_
   exact ⟨((decide (v2 ≥ 4096)) || (decide (deep1 ≥ 64))), H5, hm, hs, hb, h⟩
  ·rcases Bool.eq_false_or_eq_true (decide (v2 ≥ 4096)) with hg6 | hg6
   ·refine sk (yD 13 hg6) (sk (yD 13 hg6) (q2 (vb true) (xT hg6) (wpL_nil ?_)))
    exact ⟨true, _, hg6, hs, hb, hm⟩
   ·refine q1 (vi deep1) (want1 rfl (yD 13 hg6)) (q1 (vb (decide (deep1 ≥ 64))) (want1 rfl (yD 13 hg6)) (q2 (vb (decide (deep1 ≥ 64))) (xF hg6) (wpL_nil ?_)))
    exact ⟨false, _, hg6, hs, hb, hm⟩
def m_V1 (aD aG : Int) (aH aI : Int) (aJ : ByteArray) (aE : Sl) (w0 : World) (K : Int → WP) : Prop :=
 ∀ (H1 : NP) (w1 : World), Hst w0 None w0 H1 w1 →
 ∀ (p2 : Addr) (w2 : World), New w1 (.cells #[(vi 0)] 3) p2 w2 →
 CanW w2 p2 ∧ ¬ H1 p2.block ∧ ∀ w3 : World, w3 = w2.setCell p2 (vi 0) →
 Calls Try.prog 144 #[(.agg #[(vi aD), (vi aG), (vi aH), (vu aI), (vs aJ), aE.v]), (vi 0), (vp (some p2))] w3 (fun e w4 => ∃ r1 : Int, e = .returned (vi r1) ∧ 
  Kept H1 w3 w4 ∧
  K r1 w4)
theorem w_V1 (aD aG : Int) (aH aI : Int) (aJ : ByteArray) (aE : Sl) (w0 : World) (K : Int → WP) (h : m_V1 aD aG aH aI aJ aE w0 K) :
  Calls Try.prog 120 #[(.agg #[(vi aD), (vi aG), (vi aH), (vu aI), (vs aJ), aE.v])] w0 (fun e w' => ∃ r2 : Int, e = .returned (vi r2) ∧ K r2 w') := by
 unfold m_V1 at h
 refine cw (args := [(.agg #[(vi aD), (vi aG), (vi aH), (vu aI), (vs aJ), aE.v])]) Try.func120 Try.ntmps120 ?_
 have hs := Hst.start w0
 have hb := HB.nil None w0
 refine wpE_seq (rg (sn (O := (.cells #[(vi aD), (vi aG), (vi aH), (vu aI), (vs aJ), aE.v] 52)) xb ?_))
 intro p1 w1 hn1
 obtain ⟨H1, hs, hb⟩ := hs.alloc hb hn1
 refine q0 (vi 0) (wpL_nil (th_n (wpE_seq (rg ?_))))
 have h := h H1 w1 hs
 have hs := hs.here
 refine sn (O := (.cells #[(vi 0)] 3)) (x_alloc (Try.zeroValue3 _) rfl) ?_
 intro p2 w2 hn3
 have h := h p2 w2 hn3
 have hs := hs.again (Ext.new (F := None) hn3).keptP
 have hb := hb.kept (Ext.new (F := None) hn3).keptP
 obtain ⟨hp1, hnh, h⟩ := h
 refine st_set (want0 rfl) (x_store (a := p2) (v := (vi 0)) (by kernel_rfl) (by kernel_rfl) rfl (Try.sizeOf3 _) hp1) ?_
 intro w3 hn2
 have h := h w3 hn2
 have hk := Kept.sc hnh hn2
 obtain ⟨hs, hb⟩ := hk.hh hs hb
 refine wpL_nil (th_n (wpE_seq (rg (q2 (.agg #[(vi aD), (vi aG), (vi aH), (vu aI), (vs aJ), aE.v]) (x_loadA (a := p1) (vs := [(vi aD), (vi aG), (vi aH), (vu aI), (vs aJ), aE.v]) (by kernel_rfl) (Try.isAgg52 _) (Try.sizeOf52 _) rfl (hb.row0 0 6 gZ (by kernel_rfl))) ?_))))
 refine sc Try.call144 (h.mono ?_)
 rintro e w4 ⟨r1, rfl, hk, h⟩
 refine ⟨_, rfl, ?_⟩
 obtain ⟨hs, hb⟩ := hk.hh hs hb
 refine q0 (vi r1) (wpL_nil (th_n (wpE_ret (rs1 Try.results120 (v := (vi r1)) ?_))))
 exact ⟨r1, rfl, h⟩
def m_W1 (p1 : Option Addr) (t1 : Int) (w0 : World) (K : Int → WP) : Prop :=
 Calls Try.prog 33 #[(vp p1), (vi t1)] w0 (fun e w1 => ∃ r1 : Bool, e = .returned (vb r1) ∧ 
  Br (!r1)
   (K 0 w1)
   (∃ a1 : Addr, p1 = some a1 ∧
   ∃ v1 : Sl, w1.cell? (a1.add 1) = some v1.v ∧
   ∃ a2 : Addr, At v1 (q6.wrap (t1 - 1)) 1 a2 ∧
   ∃ v2 : Int, w1.cell? a2 = some (vi v2) ∧
   K v2 w1))
theorem w_W1 (p1 : Option Addr) (t1 : Int) (w0 : World) (K : Int → WP) (h : m_W1 p1 t1 w0 K) :
  Calls Try.prog 203 #[(vp p1), (vi t1)] w0 (fun e w' => ∃ r2 : Int, e = .returned (vi r2) ∧ K r2 w') := by
 unfold m_W1 at h
 refine cw (args := [(vp p1), (vi t1)]) Try.func203 Try.ntmps203 (wpE_seq (rg (q0 (vi 0) (wpL_nil (th_n (wpE_seq (wpE_seq (rg (q0 (vp p1) (q0 (vi t1) ?_))))))))))
 refine sc Try.call33 (h.mono ?_)
 rintro e w1 ⟨r1, rfl, h⟩
 refine ⟨_, rfl, ?_⟩
 refine q0 (vb (!r1)) (wpL_nil (th_n ?_))
 refine wpE_cond (t := (!r1)) (by kernel_rfl) (fun hc1 => ?_) (fun hc1 => ?_)
 ·have h := h.1 hc1
  refine wpE_seq (rg (q0 (vi 0) (wpL_nil (th_n (wpE_ret (th_r (rs1 Try.results203 (v := (vi 0)) ?_)))))))
  exact ⟨0, rfl, h⟩
 ·have h := h.2 hc1
  refine wpE_skip (th_n (wpE_seq (rg (q0 (vp p1) ?_))))
  obtain ⟨a1, hp1, h⟩ := h
  refine q2 (vp (some a1)) (x_nilCheck (p := p1) (by kernel_rfl) hp1) (q0 (vp (some (a1.add 1))) ?_)
  obtain ⟨v1, hv3, h⟩ := h
  refine q2 v1.v (xl (Try.isAgg69 _) hv3) (q0 (vi t1) (q0 (vi (q6.wrap (t1 - 1))) ?_))
  obtain ⟨a2, hv2, h⟩ := h
  refine q2 (vp (some a2)) (xi (Try.runUnderlying69 _) (Try.sizeOf3 _) hv2) ?_
  obtain ⟨v2, hv1, h⟩ := h
  refine q2 (vi v2) (xl (Try.isAgg3 _) hv1) (q0 (vi v2) (wpL_nil (th_n (wpE_ret (rs1 Try.results203 (v := (vi v2)) ?_)))))
  exact ⟨v2, rfl, h⟩
def m_X1 (p1 : Option Addr) (t1 : Int) (w0 : World) (K : Int → WP) : Prop :=
 Calls Try.prog 33 #[(vp p1), (vi t1)] w0 (fun e w1 => ∃ r1 : Bool, e = .returned (vb r1) ∧ 
  Br (!r1)
   (K 0 w1)
   (∃ a1 : Addr, p1 = some a1 ∧
   ∃ v1 : Sl, w1.cell? (a1.add 2) = some v1.v ∧
   ∃ a2 : Addr, At v1 (q6.wrap (t1 - 1)) 1 a2 ∧
   ∃ v2 : Int, w1.cell? a2 = some (vi v2) ∧
   K v2 w1))
theorem w_X1 (p1 : Option Addr) (t1 : Int) (w0 : World) (K : Int → WP) (h : m_X1 p1 t1 w0 K) :
  Calls Try.prog 204 #[(vp p1), (vi t1)] w0 (fun e w' => ∃ r2 : Int, e = .returned (vi r2) ∧ K r2 w') := by
 unfold m_X1 at h
 refine cw (args := [(vp p1), (vi t1)]) Try.func204 Try.ntmps204 (wpE_seq (rg (q0 (vi 0) (wpL_nil (th_n (wpE_seq (wpE_seq (rg (q0 (vp p1) (q0 (vi t1) ?_))))))))))
 refine sc Try.call33 (h.mono ?_)
 rintro e w1 ⟨r1, rfl, h⟩
 refine ⟨_, rfl, ?_⟩
 refine q0 (vb (!r1)) (wpL_nil (th_n ?_))
 refine wpE_cond (t := (!r1)) (by kernel_rfl) (fun hc1 => ?_) (fun hc1 => ?_)
 ·have h := h.1 hc1
  refine wpE_seq (rg (q0 (vi 0) (wpL_nil (th_n (wpE_ret (th_r (rs1 Try.results204 (v := (vi 0)) ?_)))))))
  exact ⟨0, rfl, h⟩
 ·have h := h.2 hc1
  refine wpE_skip (th_n (wpE_seq (rg (q0 (vp p1) ?_))))
  obtain ⟨a1, hp1, h⟩ := h
  refine q2 (vp (some a1)) (x_nilCheck (p := p1) (by kernel_rfl) hp1) (q0 (vp (some (a1.add 2))) ?_)
  obtain ⟨v1, hv3, h⟩ := h
  refine q2 v1.v (xl (Try.isAgg69 _) hv3) (q0 (vi t1) (q0 (vi (q6.wrap (t1 - 1))) ?_))
  obtain ⟨a2, hv2, h⟩ := h
  refine q2 (vp (some a2)) (xi (Try.runUnderlying69 _) (Try.sizeOf3 _) hv2) ?_
  obtain ⟨v2, hv1, h⟩ := h
  refine q2 (vi v2) (xl (Try.isAgg3 _) hv1) (q0 (vi v2) (wpL_nil (th_n (wpE_ret (rs1 Try.results204 (v := (vi v2)) ?_)))))
  exact ⟨v2, rfl, h⟩
theorem eqt_ref05_Pool_Has_eql_106 (a0 a1 : Int) (a2 a3 : Int) (a4 : ByteArray) (a5 a6 : Int) (b0 b1 : Int) (b2 b3 : Int) (b4 : ByteArray) (b5 b6 : Int) (w : World) : (Go.binOp .eql 106 (.agg #[(.int .i64 a0), (.int .i64 a1), (.int .i64 a2), (.int .u64 a3), (.string a4), (.int .i64 a5), (.int .i64 a6)]) (.agg #[(.int .i64 b0), (.int .i64 b1), (.int .i64 b2), (.int .u64 b3), (.string b4), (.int .i64 b5), (.int .i64 b6)])).run Try.prog w = .ok (.bool ((a0 == b0) && ((a1 == b1) && ((a2 == b2) && ((a3 == b3) && ((decide (a4 = b4)) && ((a5 == b5) && (a6 == b6)))))))) w := by
 simp [Go.binOp, Op.equal, Op.maxDepth, go_sem, streq, bne]
 repeat' split
 all_goals simp_all
def m_X_l1 (p1 : Option Addr) (aA aB : Int) (aC aK : Int) (aF : ByteArray) (aL aM i1 : Int) (w0 : World) (Hl1 : NP) (wl1 : World) (Kc1 : Int → NP → WP) (K : Int → Bool → WP) : Prop :=
 ∃ a1 : Addr, p1 = some a1 ∧
 ∃ v1 : Sl, wl1.cell? a1 = some v1.v ∧
 Br (decide (i1 < (v1.len : Int)))
  (∃ a2 : Addr, p1 = some a2 ∧
  ∀ (w2 : World), Hst w0 Hl1 wl1 Hl1 w2 →
  ∃ v2 : Sl, w2.cell? a2 = some v2.v ∧
  ∃ a3 : Addr, At v2 i1 7 a3 ∧
  ∃ aN aO : Int, ∃ aP aQ : Int, ∃ aR : ByteArray, ∃ bG bH : Int, Row w2 a3 [(vi aN), (vi aO), (vi aP), (vu aQ), (vs aR), (vi bG), (vi bH)] ∧
  Br ((aN == aA) && ((aO == aB) && ((aP == aC) && ((aQ == aK) && ((decide (aR = aF)) && ((bG == aL) && (bH == aM)))))))
   (K (q6.wrap (i1 + 1)) true w2)
   (Kc1 (q6.wrap (i1 + 1)) Hl1 w2))
  (K 0 false wl1)
def m_X (p1 : Option Addr) (aA aB : Int) (aC aK : Int) (aF : ByteArray) (aL aM : Int) (w0 : World) (K : Int → Bool → WP) : Prop :=
 ∀ (H1 : NP) (w1 : World), Hst w0 None w0 H1 w1 →
 ∃ (I1 : Int → NP → WP) (mu1 : Int → World → Nat), I1 0 H1 w1 ∧
  ∀ (i1 : Int) (Hl1 : NP) (wl1 : World), Hst w0 Hl1 wl1 Hl1 wl1 → I1 i1 Hl1 wl1 → m_X_l1 p1 aA aB aC aK aF aL aM i1 w0 Hl1 wl1 (fun y'0 H' w' => I1 y'0 H' w' ∧ mu1 y'0 w' < mu1 i1 wl1) K
theorem w_X (p1 : Option Addr) (aA aB : Int) (aC aK : Int) (aF : ByteArray) (aL aM : Int) (w0 : World) (K : Int → Bool → WP) (h : m_X p1 aA aB aC aK aF aL aM w0 K) :
  Calls Try.prog 205 #[(vp p1), (.agg #[(vi aA), (vi aB), (vi aC), (vu aK), (vs aF), (vi aL), (vi aM)])] w0 (fun e w' => ∃ r1 : Int, ∃ r2 : Bool, e = .returned (.tuple #[(vi r1), (vb r2)]) ∧ K r1 r2 w') := by
 unfold m_X at h
 refine cw (args := [(vp p1), (.agg #[(vi aA), (vi aB), (vi aC), (vu aK), (vs aF), (vi aL), (vi aM)])]) Try.func205 Try.ntmps205 ?_
 have hs := Hst.start w0
 have hb := HB.nil None w0
 refine wpE_seq (rg (sn (O := (.cells #[(vi aA), (vi aB), (vi aC), (vu aK), (vs aF), (vi aL), (vi aM)] 106)) xb ?_))
 intro p2 w1 hn1
 obtain ⟨H1, hs, hb⟩ := hs.alloc hb hn1
 refine q0 (vi 0) (q0 (vb false) (wpL_nil (th_n (wpE_seq (wpE_seq (rg (q0 (vi 0) (wpL_nil (th_n (wpE_block ?_))))))))))
 have h := h H1 w1 hs
 have hs := hs.here
 obtain ⟨I1, mu1, h0, hr⟩ := h
 refine wpE_loop (σ := Int × NP × World) (fun s ρ w => w = s.2.2 ∧ Has ρ [(0, (vp p1)), (3, (vp (some p2))), (6, (vi s.1))] ∧ Hst w0 s.2.1 w s.2.1 w ∧ HB s.2.1 w [(p2, [(vi aA), (vi aB), (vi aC), (vu aK), (vs aF), (vi aL), (vi aM)], 106)] ∧ I1 s.1 s.2.1 s.2.2) (fun s => mu1 s.1 s.2.2) (0, H1, w1) ⟨rfl, hm, hs, hb, h0⟩ ?_
 rintro ⟨i1, Hl1, wl1⟩ ρ w ⟨hw, hH, hs, hb, hI⟩
 obtain rfl : wl1 = w := (show w = wl1 from hw).symm
 have hH : Has ρ [(0, (vp p1)), (3, (vp (some p2))), (6, (vi i1))] := hH
 have hs : Hst w0 Hl1 wl1 Hl1 wl1 := hs
 have hb : HB Hl1 wl1 [(p2, [(vi aA), (vi aB), (vi aC), (vu aK), (vs aF), (vi aL), (vi aM)], 106)] := hb
 have h := hr i1 Hl1 wl1 hs hI
 unfold m_X_l1 at h
 refine wpE_has hH ?_
 refine wpE_seq (wpE_seq (rg (q0 (vi i1) (q0 (vp p1) ?_))))
 obtain ⟨a1, hp1, h⟩ := h
 refine q2 (vp (some a1)) (x_nilCheck (p := p1) (by kernel_rfl) hp1) (q0 (vp (some a1)) ?_)
 obtain ⟨v1, hv4, h⟩ := h
 refine q2 v1.v (xl (Try.isAgg68 _) hv4) (q0 (vi (v1.len : Int)) (q0 (vb (decide (i1 < (v1.len : Int)))) (wpL_nil (th_n ?_))))
 refine wpE_cond (t := (decide (i1 < (v1.len : Int)))) (by kernel_rfl) (fun hc1 => ?_) (fun hc1 => ?_)
 ·have h := h.1 hc1
  refine wpE_skip (th_n (wpE_seq (wpE_block (wpE_seq (wpE_drawnQ (by kernel_rfl) (by kernel_rfl) (by kernel_rfl) (by kernel_rfl) ?_)))))
  intro w2 hw2
  have hs : Hst w0 Hl1 wl1 Hl1 w2 := by rw [hw2]; exact hs.drew
  have hb : HB Hl1 w2 [(p2, [(vi aA), (vi aB), (vi aC), (vu aK), (vs aF), (vi aL), (vi aM)], 106)] := by rw [hw2]; exact hb.drew
  refine qq 0 (vp p1) Kp0 (qg 1 ?_)
  obtain ⟨a2, hp2, h⟩ := h
  refine sxQ (v := (vp (some a2))) Kp1 (want0 rfl) rfl (x_nilCheck (p := p1) (by kernel_rfl) hp2) (qq 2 (vp (some a2)) Kp2 (qg 3 ?_))
  have h := h w2 hs
  have hs := hs.here
  obtain ⟨v2, hv3, h⟩ := h
  refine sxQ (v := v2.v) Kp3 (want0 rfl) rfl (xl (Try.isAgg68 _) hv3) (qq 4 (vi i1) Kp4 (qg 5 ?_))
  obtain ⟨a3, hv2, h⟩ := h
  refine sxQ (v := (vp (some a3))) Kp5 (want0 rfl) rfl (xi (Try.runUnderlying68 _) (Try.sizeOf106 _) hv2) (qg 6 ?_)
  obtain ⟨aN, aO, aP, aQ, aR, bG, bH, hv1, h⟩ := h
  refine sxQ (v := (.agg #[(vi aN), (vi aO), (vi aP), (vu aQ), (vs aR), (vi bG), (vi bH)])) Kp6 (want0 rfl) rfl (x_loadA (a := a3) (vs := [(vi aN), (vi aO), (vi aP), (vu aQ), (vs aR), (vi bG), (vi bH)]) (by kernel_rfl) (Try.isAgg106 _) (Try.sizeOf106 _) rfl hv1) (qr 7 (.agg #[(vi aA), (vi aB), (vi aC), (vu aK), (vs aF), (vi aL), (vi aM)]) Kp7 (x_loadA (a := p2) (vs := [(vi aA), (vi aB), (vi aC), (vu aK), (vs aF), (vi aL), (vi aM)]) (by kernel_rfl) (Try.isAgg106 _) (Try.sizeOf106 _) rfl (hb.row0 0 7 gZ (by kernel_rfl))) (qr 8 (vb ((aN == aA) && ((aO == aB) && ((aP == aC) && ((aQ == aK) && ((decide (aR = aF)) && ((bG == aL) && (bH == aM)))))))) Kp8 (x_aggeq (by kernel_rfl) (by kernel_rfl) (by kernel_rfl) (eqt_ref05_Pool_Has_eql_106 aN aO aP aQ aR bG bH aA aB aC aK aF aL aM _)) (wn (th_n ?_))))
  refine wpE_cond (t := ((aN == aA) && ((aO == aB) && ((aP == aC) && ((aQ == aK) && ((decide (aR = aF)) && ((bG == aL) && (bH == aM)))))))) (by kernel_rfl) (fun hc2 => ?_) (fun hc2 => ?_)
  ·have h := h.1 hc2
   refine wpE_seq (rg (q0 (vi i1) (q0 (vi (q6.wrap (i1 + 1))) (q0 (vi (q6.wrap (i1 + 1))) (q0 (vb true) (wpL_nil (th_n (wpE_ret (bl_r (th_r (th_r ?_)))))))))))
   refine bl_r (th_r (res2 (.inl rfl) Try.results205 (v := (vi (q6.wrap (i1 + 1)))) (by kernel_rfl) (v' := (vb true)) (by kernel_rfl) ?_))
   exact ⟨(q6.wrap (i1 + 1)), true, rfl, h⟩
  ·have h := h.2 hc2
   refine wpE_skip (bl_n (th_n (rg (q0 (vi i1) (q0 (vi (q6.wrap (i1 + 1))) (q0 (vi (q6.wrap (i1 + 1))) (wpL_nil (th_n ?_))))))))
   exact ⟨((q6.wrap (i1 + 1)), Hl1, w2), ⟨rfl, hm, hs, hb, h.1⟩, h.2⟩
 ·have h := h.2 hc1
  refine wpE_exit (th_x (th_x (bl_eq (th_n (wpE_seq (rg (q0 (vi 0) (q0 (vb false) (wpL_nil (th_n (wpE_ret ?_)))))))))))
  refine res2 (.inl rfl) Try.results205 (v := (vi 0)) (by kernel_rfl) (v' := (vb false)) (by kernel_rfl) ?_
  exact ⟨0, false, rfl, h⟩
def m_J_j1 (p1 : Option Addr) (aA aB : Int) (aC aK : Int) (aF : ByteArray) (aL aM : Int) (x1 : Bool) (w0 : World) (H : NP) (w : World) (K : Int → Int → WP) : Prop :=
 Br x1
  (K 0 51 w)
  (∃ C1 : WP, C1 w.drew ∧ ∀ w4, w4 = w.drew →
  Calls Try.prog 203 #[(vp p1), (vi aL)] w4 (fun e w5 => ∃ r1 : Int, e = .returned (vi r1) ∧ C1 w5 ∧ 
   Kept H w4 w5 ∧
   Calls Try.prog 203 #[(vp p1), (vi aM)] w5 (fun e w6 => ∃ r2 : Int, e = .returned (vi r2) ∧ C1 w6 ∧ 
    Kept H w5 w6 ∧
    ∃ C2 : WP, C2 w6.drew ∧ ∀ w7, w7 = w6.drew →
    Calls Try.prog 204 #[(vp p1), (vi aL)] w7 (fun e w8 => ∃ r3 : Int, e = .returned (vi r3) ∧ C2 w8 ∧ 
     Kept H w7 w8 ∧
     Calls Try.prog 204 #[(vp p1), (vi aM)] w8 (fun e w9 => ∃ r4 : Int, e = .returned (vi r4) ∧ C2 w9 ∧ 
      Kept H w8 w9 ∧
      ∃ z1 : Int, (∀ w', C2 w' → (Builtin.max_ #[3, 3] 3 #[(vi r3), (vi r4)]).run Try.prog w' = .ok (vi z1) w') ∧
      ∀ y1 : Bool, y1 = ((decide ((q6.wrap ((q6.wrap (1 + r1)) + r2)) > 4096)) || (decide ((q6.wrap (1 + z1)) > 64))) →
      Br y1
       (∀ (H2 : NP) (w10 : World), Hst w0 H w9 H2 w10 →
       K 0 52 w10)
       (∀ (H2 : NP) (w10 : World), Hst w0 H w9 H2 w10 →
       Calls Try.prog 205 #[(vp p1), (.agg #[(vi aA), (vi aB), (vi aC), (vu aK), (vs aF), (vi aL), (vi aM)])] w10 (fun e w11 => ∃ r5 : Int, ∃ r6 : Bool, e = .returned (.tuple #[(vi r5), (vb r6)]) ∧ 
        Kept H2 w10 w11 ∧
        Br r6
         (K r5 0 w11)
         (∃ a1 : Addr, p1 = some a1 ∧
         ∃ v1 : Sl, w11.cell? a1 = some v1.v ∧
         Br (decide ((v1.len : Int) ≥ 65536))
          (K 0 6 w11)
          (∃ C3 : WP, C3 w11.drew ∧ ∀ w12, w12 = w11.drew →
          ∃ a2 : Addr, p1 = some a2 ∧
          ∃ v2 : Sl, (∀ w', C3 w' → w'.cell? a2 = some v2.v) ∧
          ∀ (p3 : Addr) (w13 : World), New w12 (.cells #[(vi aA), (vi aB), (vi aC), (vu aK), (vs aF), (vi aL), (vi aM)] 106) p3 w13 → C3 w13 ∧
          ∃ s1 : Sl, ∃ w14 : World, (Builtin.append_ #[68, 68] 68 #[v2.v, (Sl.mk (some p3) 1 1).v]).run Try.prog w13 = .ok s1.v w14 ∧ C3 w14 ∧
          Kept H2 w13 w14 ∧
          ∃ a3 : Addr, p1 = some a3 ∧
          CanW w14 a3 ∧ ¬ H2 a3.block ∧ ∀ w15 : World, w15 = w14.setCell a3 s1.v →
          ∃ a4 : Addr, p1 = some a4 ∧
          ∃ v3 : Sl, w15.cell? (a4.add 1) = some v3.v ∧
          ∀ (p4 : Addr) (w16 : World), New w15 (.cells #[(vi (q6.wrap ((q6.wrap (1 + r1)) + r2)))] 3) p4 w16 →
          ∃ s2 : Sl, ∃ w17 : World, (Builtin.append_ #[69, 69] 69 #[v3.v, (Sl.mk (some p4) 1 1).v]).run Try.prog w16 = .ok s2.v w17 ∧
          Kept H2 w16 w17 ∧
          ∃ a5 : Addr, p1 = some a5 ∧
          CanW w17 (a5.add 1) ∧ ¬ H2 (a5.add 1).block ∧ ∀ w18 : World, w18 = w17.setCell (a5.add 1) s2.v →
          ∃ a6 : Addr, p1 = some a6 ∧
          ∃ v4 : Sl, w18.cell? (a6.add 2) = some v4.v ∧
          ∀ (p5 : Addr) (w19 : World), New w18 (.cells #[(vi (q6.wrap (1 + z1)))] 3) p5 w19 →
          ∃ s3 : Sl, ∃ w20 : World, (Builtin.append_ #[69, 69] 69 #[v4.v, (Sl.mk (some p5) 1 1).v]).run Try.prog w19 = .ok s3.v w20 ∧
          Kept H2 w19 w20 ∧
          ∃ a7 : Addr, p1 = some a7 ∧
          CanW w20 (a7.add 2) ∧ ¬ H2 (a7.add 2).block ∧ ∀ w21 : World, w21 = w20.setCell (a7.add 2) s3.v →
          ∃ a8 : Addr, p1 = some a8 ∧
          ∃ v5 : Sl, w21.cell? a8 = some v5.v ∧
          K (v5.len : Int) 0 w21)))))))))
def m_J_j2 (p1 : Option Addr) (aA aB : Int) (aC aK : Int) (aF : ByteArray) (aL aM : Int) (x2 : Bool) (w0 : World) (H : NP) (w : World) (K : Int → Int → WP) : Prop :=
 Br x2
  (m_J_j1 p1 aA aB aC aK aF aL aM true w0 H w K)
  (Br (((s_A aA) : Int) == 2)
   (Calls Try.prog 33 #[(vp p1), (vi aM)] w (fun e w22 => ∃ r7 : Bool, e = .returned (vb r7) ∧ 
    Kept H w w22 ∧
    m_J_j1 p1 aA aB aC aK aF aL aM (!r7) w0 H w22 K))
   (m_J_j1 p1 aA aB aC aK aF aL aM false w0 H w K))
def m_J (p1 : Option Addr) (aA aB : Int) (aC aK : Int) (aF : ByteArray) (aL aM : Int) (w0 : World) (K : Int → Int → WP) : Prop :=
 Br (((s_G aA aB aC aK aF aL aM) : Int) != 0)
  (∀ (H1 : NP) (w2 : World), Hst w0 None w0 H1 w2 →
  K 0 (s_G aA aB aC aK aF aL aM) w2)
  (Br (decide ((s_A aA) ≥ 1))
   (∀ (H1 : NP) (w3 : World), Hst w0 None w0 H1 w3 →
   Calls Try.prog 33 #[(vp p1), (vi aL)] w3 (fun e w23 => ∃ r8 : Bool, e = .returned (vb r8) ∧ 
    Kept H1 w3 w23 ∧
    m_J_j2 p1 aA aB aC aK aF aL aM (!r8) w0 H1 w23 K))
   (∀ (H1 : NP) (w3 : World), Hst w0 None w0 H1 w3 →
   m_J_j2 p1 aA aB aC aK aF aL aM false w0 H1 w3 K))
theorem w_J (p1 : Option Addr) (aA aB : Int) (aC aK : Int) (aF : ByteArray) (aL aM : Int) (w0 : World) (K : Int → Int → WP) (h : m_J p1 aA aB aC aK aF aL aM w0 K) :
  Calls Try.prog 146 #[(vp p1), (.agg #[(vi aA), (vi aB), (vi aC), (vu aK), (vs aF), (vi aL), (vi aM)])] w0 (fun e w' => ∃ r9 r10 : Int, e = .returned (.tuple #[(vi r9), (vi r10)]) ∧ K r9 r10 w') := by
 unfold m_J at h
 refine cw (args := [(vp p1), (.agg #[(vi aA), (vi aB), (vi aC), (vu aK), (vs aF), (vi aL), (vi aM)])]) Try.func146 Try.ntmps146 ?_
 have hs := Hst.start w0
 have hb := HB.nil None w0
 refine wpE_seq (rg (sn (O := (.cells #[(vi aA), (vi aB), (vi aC), (vu aK), (vs aF), (vi aL), (vi aM)] 106)) xb ?_))
 intro p2 w1 hn1
 obtain ⟨H1, hs, hb⟩ := hs.alloc hb hn1
 refine q0 (vi 0) (q0 (vi 0) (wpL_nil (th_n (wpE_seq (rg (q2 (.agg #[(vi aA), (vi aB), (vi aC), (vu aK), (vs aF), (vi aL), (vi aM)]) (x_loadA (a := p2) (vs := [(vi aA), (vi aB), (vi aC), (vu aK), (vs aF), (vi aL), (vi aM)]) (by kernel_rfl) (Try.isAgg106 _) (Try.sizeOf106 _) rfl (hb.row0 0 7 gZ (by kernel_rfl))) ?_))))))
 refine sc Try.call202 ((p_G aA aB aC aK aF aL aM w1).mono ?_)
 rintro e w2 ⟨he, hE⟩
 refine ⟨(vi (s_G aA aB aC aK aF aL aM)), he.trans (by kernel_rfl), ?_⟩
 have hs := hs.pure hE
 have hb := hb.pure hE
 refine q0 (vi (s_G aA aB aC aK aF aL aM)) (wpL_nil (th_n (wpE_seq (wpE_seq (rg (q0 (vi (s_G aA aB aC aK aF aL aM)) (q0 (vb (((s_G aA aB aC aK aF aL aM) : Int) != 0)) (wpL_nil (th_n ?_)))))))))
 refine wpE_cond (t := (((s_G aA aB aC aK aF aL aM) : Int) != 0)) (by kernel_rfl) (fun hc1 => ?_) (fun hc1 => ?_)
 ·have h := h.1 hc1
  refine wpE_seq (rg (q0 (vi (s_G aA aB aC aK aF aL aM)) (q0 (vi 0) (q0 (vi (s_G aA aB aC aK aF aL aM)) (wpL_nil (th_n (wpE_ret (th_r ?_))))))))
  have h := h H1 w2 hs
  have hs := hs.here
  refine res2 (.inl rfl) Try.results146 (v := (vi 0)) (by kernel_rfl) (v' := (vi (s_G aA aB aC aK aF aL aM))) (by kernel_rfl) ?_
  exact ⟨0, (s_G aA aB aC aK aF aL aM), rfl, h⟩
 ·have h := h.2 hc1
  refine wpE_skip (th_n (wpE_seq (rg (q0 (vp (some p2)) (q2 (vi aA) (xl (Try.isAgg3 _) (hb.c0 0 gZ)) ?_)))))
  refine sc Try.call90 ((p_A aA w2).mono ?_)
  rintro e w3 ⟨he, hE⟩
  refine ⟨(vi (s_A aA)), he.trans (by kernel_rfl), ?_⟩
  have hs := hs.pure hE
  have hb := hb.pure hE
  refine q0 (vi (s_A aA)) (wpL_nil (th_n (wpE_seq (wpE_seq ?_))))
  refine wpE_joinT (fun ρ w => ∃ x1 : Bool, ∃ H : NP, Has ρ [(0, (vp p1)), (3, (vp (some p2))), (39, (vb x1))] ∧ Hst w0 H w H w ∧ HB H w [(p2, [(vi aA), (vi aB), (vi aC), (vu aK), (vs aF), (vi aL), (vi aM)], 106)] ∧ m_J_j1 p1 aA aB aC aK aF aL aM x1 w0 H w K) ?_ ?_
  ·rintro ρ w ⟨x1, H, hH, hs, hb, h⟩
   unfold m_J_j1 at h
   refine wpE_has hH ?_
   refine wpE_cond (t := x1) (by kernel_rfl) (fun hc2 => ?_) (fun hc2 => ?_)
   ·have h := h.1 hc2
    refine wpE_seq (rg (q0 (vi 0) (q0 (vi 51) (wpL_nil (th_n (wpE_ret (th_r (res2 (.inl rfl) Try.results146 (v := (vi 0)) (by kernel_rfl) (v' := (vi 51)) (by kernel_rfl) ?_))))))))
    exact ⟨0, 51, rfl, h⟩
   ·have h := h.2 hc2
    refine wpE_skip (th_n (wpE_seq ?_))
    obtain ⟨C1, hC, h⟩ := h
    refine wpE_drawnC (fun x => C1 x ∧ HB H x [(p2, [(vi aA), (vi aB), (vi aC), (vu aK), (vs aF), (vi aL), (vi aM)], 106)]) [3, 8] [] (by kernel_rfl) (by kernel_rfl) (by kernel_rfl) (by kernel_rfl) ⟨hC, hb.drew⟩ ?_
    intro w4 hw4
    have h := h w4 hw4
    have hs : Hst w0 H w H w4 := by rw [hw4]; exact hs.drew
    have hb : HB H w4 [(p2, [(vi aA), (vi aB), (vi aC), (vu aK), (vs aF), (vi aL), (vi aM)], 106)] := by rw [hw4]; exact hb.drew
    have hs := hs.here
    refine qx 0 (vp p1) Kp0 (qx 1 (vp (some (p2.add 5))) Kp1 (qz 2 (vi aL) Kp2 (fun w' hw' => (xl (Try.isAgg32 _) (hw'.2.cell 0 5 gZ (by kernel_rfl)))) (qx 5 (vp p1) Kp5 (qx 6 (vp (some (p2.add 6))) Kp6 (qz 7 (vi aM) Kp7 (fun w' hw' => (xl (Try.isAgg32 _) (hw'.2.cell 0 6 gZ (by kernel_rfl)))) (lg 3 ?_))))))
    refine sl_call Kp3 (want0 rfl) (by kernel_rfl) (xc Try.call203) (h.mono ?_)
    rintro e w5 ⟨r1, rfl, hC, hk, h⟩
    refine ⟨_, rfl, .inr ⟨hC, hb.kept hk⟩, ?_⟩
    obtain ⟨hs, hb⟩ := hk.hh hs hb
    refine qx 4 (vi (q6.wrap (1 + r1))) Kp4 (lg 8 ?_)
    refine sl_call Kp8 (want0 rfl) (by kernel_rfl) (xc Try.call203) (h.mono ?_)
    rintro e w6 ⟨r2, rfl, hC, hk, h⟩
    refine ⟨_, rfl, .inr ⟨hC, hb.kept hk⟩, ?_⟩
    obtain ⟨hs, hb⟩ := hk.hh hs hb
    refine qx 9 (vi (q6.wrap ((q6.wrap (1 + r1)) + r2))) Kp9 (qx 10 (vi (q6.wrap ((q6.wrap (1 + r1)) + r2))) (pickA (S8 (pickS (pickS pickZ)))) (wn (th_n (wpE_seq ?_))))
    obtain ⟨C2, hC, h⟩ := h
    refine wpE_drawnC (fun x => C2 x ∧ HB H x [(p2, [(vi aA), (vi aB), (vi aC), (vu aK), (vs aF), (vi aL), (vi aM)], 106)]) [3, 7] [] (by kernel_rfl) (by kernel_rfl) (by kernel_rfl) (by kernel_rfl) ⟨hC, hb.drew⟩ ?_
    intro w7 hw7
    have h := h w7 hw7
    have hs : Hst w0 H w6 H w7 := by rw [hw7]; exact hs.drew
    have hb : HB H w7 [(p2, [(vi aA), (vi aB), (vi aC), (vu aK), (vs aF), (vi aL), (vi aM)], 106)] := by rw [hw7]; exact hb.drew
    have hs := hs.here
    refine qx 0 (vp p1) Kp0 (qx 1 (vp (some (p2.add 5))) Kp1 (qz 2 (vi aL) Kp2 (fun w' hw' => (xl (Try.isAgg32 _) (hw'.2.cell 0 5 gZ (by kernel_rfl)))) (qx 4 (vp p1) Kp4 (qx 5 (vp (some (p2.add 6))) Kp5 (qz 6 (vi aM) Kp6 (fun w' hw' => (xl (Try.isAgg32 _) (hw'.2.cell 0 6 gZ (by kernel_rfl)))) (lg 3 ?_))))))
    refine sl_call Kp3 (want0 rfl) (by kernel_rfl) (xc Try.call204) (h.mono ?_)
    rintro e w8 ⟨r3, rfl, hC, hk, h⟩
    refine ⟨_, rfl, .inr ⟨hC, hb.kept hk⟩, ?_⟩
    obtain ⟨hs, hb⟩ := hk.hh hs hb
    refine lg 7 ?_
    refine sl_call Kp7 (want0 rfl) (by kernel_rfl) (xc Try.call204) (h.mono ?_)
    rintro e w9 ⟨r4, rfl, hC, hk, h⟩
    refine ⟨_, rfl, .inr ⟨hC, hb.kept hk⟩, ?_⟩
    obtain ⟨hs, hb⟩ := hk.hh hs hb
    refine qg 8 ?_
    obtain ⟨z1, hv9, h⟩ := h
    refine sy (v := (vi z1)) Kp8 (fun w' hw' => (x_builtin (args := #[(vi r3), (vi r4)]) (by kernel_rfl) (fun _ => rfl) (hv9 w' hw'.1))) (qx 9 (vi (q6.wrap (1 + z1))) Kp9 (qx 10 (vi (q6.wrap (1 + z1))) (pickA (S8 (pickS (pickS pickZ)))) (wn (th_n (wpE_seq (wpE_seq ?_))))))
    refine wpE_via (fun ρ wJ => ∃ b1'0 y1 : Bool, ∃ HJ : NP, ((decide ((q6.wrap ((q6.wrap (1 + r1)) + r2)) > 4096)) = b1'0) ∧ (y1 = (b1'0 || (decide ((q6.wrap (1 + z1)) > 64)))) ∧ Hst w0 H w9 HJ wJ ∧ HB HJ wJ [(p2, [(vi aA), (vi aB), (vi aC), (vu aK), (vs aF), (vi aL), (vi aM)], 106)] ∧ Has ρ [(0, (vp p1)), (3, (vp (some p2))), (8, (vi (q6.wrap ((q6.wrap (1 + r1)) + r2)))), (9, (vi (q6.wrap (1 + z1)))), (65, (vb y1))]) ?_ ?_
    ·refine rg (q0 (vi (q6.wrap ((q6.wrap (1 + r1)) + r2))) (q0 (vb (decide ((q6.wrap ((q6.wrap (1 + r1)) + r2)) > 4096))) (q0 (vb (decide ((q6.wrap ((q6.wrap (1 + r1)) + r2)) > 4096))) ?_)))
     rcases Bool.eq_false_or_eq_true (decide ((q6.wrap ((q6.wrap (1 + r1)) + r2)) > 4096)) with hg2 | hg2
     ·refine sk (yD 62 hg2) (sk (yD 62 hg2) (q2 (vb true) (xT hg2) (wpL_nil (th_n ?_))))
      exact ⟨true, _, _, hg2, rfl, hs, hb, hm⟩
     ·refine q1 (vi (q6.wrap (1 + z1))) (want1 rfl (yD 62 hg2)) (q1 (vb (decide ((q6.wrap (1 + z1)) > 64))) (want1 rfl (yD 62 hg2)) (q2 (vb (decide ((q6.wrap (1 + z1)) > 64))) (xF hg2) (wpL_nil (th_n ?_))))
      exact ⟨false, _, _, hg2, rfl, hs, hb, hm⟩
    ·rintro ρ w10 ⟨b1'0, y1, H2, he0, hy1, hs, hb, hH⟩
     subst he0
     have h := h y1 hy1
     refine norm_has hH ?_
     refine th_n ?_
     refine wpE_cond (t := y1) (by kernel_rfl) (fun hc3 => ?_) (fun hc3 => ?_)
     ·have h := h.1 hc3
      refine wpE_seq (rg (q0 (vi 0) (q0 (vi 52) (wpL_nil (th_n (wpE_ret (th_r ?_)))))))
      have h := h H2 w10 hs
      have hs := hs.here
      refine res2 (.inl rfl) Try.results146 (v := (vi 0)) (by kernel_rfl) (v' := (vi 52)) (by kernel_rfl) ?_
      exact ⟨0, 52, rfl, h⟩
     ·have h := h.2 hc3
      refine wpE_skip (th_n (wpE_seq (rg (q0 (vp p1) (q2 (.agg #[(vi aA), (vi aB), (vi aC), (vu aK), (vs aF), (vi aL), (vi aM)]) (x_loadA (a := p2) (vs := [(vi aA), (vi aB), (vi aC), (vu aK), (vs aF), (vi aL), (vi aM)]) (by kernel_rfl) (Try.isAgg106 _) (Try.sizeOf106 _) rfl (hb.row0 0 7 gZ (by kernel_rfl))) ?_)))))
      have h := h H2 w10 hs
      have hs := hs.here
      refine sc Try.call205 (h.mono ?_)
      rintro e w11 ⟨r5, r6, rfl, hk, h⟩
      refine ⟨_, rfl, ?_⟩
      obtain ⟨hs, hb⟩ := hk.hh hs hb
      refine q0 (.tuple #[(vi r5), (vb r6)]) (q0 (vi r5) (q0 (vb r6) (q0 (vi r5) (q0 (vb r6) (wpL_nil (th_n (wpE_seq (wpE_seq (rg (q0 (vb r6) (wpL_nil ?_)))))))))))
      refine th_n ?_
      refine wpE_cond (t := r6) (by kernel_rfl) (fun hc4 => ?_) (fun hc4 => ?_)
      ·have h := h.1 hc4
       refine wpE_seq (rg (q0 (vi r5) (q0 (vi r5) (q0 (vi 0) (wpL_nil (th_n (wpE_ret (th_r (res2 (.inl rfl) Try.results146 (v := (vi r5)) (by kernel_rfl) (v' := (vi 0)) (by kernel_rfl) ?_)))))))))
       exact ⟨r5, 0, rfl, h⟩
      ·have h := h.2 hc4
       refine wpE_skip (th_n (wpE_seq (wpE_seq (rg (q0 (vp p1) ?_)))))
       obtain ⟨a1, hp1, h⟩ := h
       refine q2 (vp (some a1)) (x_nilCheck (p := p1) (by kernel_rfl) hp1) (q0 (vp (some a1)) ?_)
       obtain ⟨v1, hv8, h⟩ := h
       refine q2 v1.v (xl (Try.isAgg68 _) hv8) (q0 (vi (v1.len : Int)) (q0 (vb (decide ((v1.len : Int) ≥ 65536))) (wpL_nil (th_n ?_))))
       refine wpE_cond (t := (decide ((v1.len : Int) ≥ 65536))) (by kernel_rfl) (fun hc5 => ?_) (fun hc5 => ?_)
       ·have h := h.1 hc5
        refine wpE_seq (rg (q0 (vi 0) (q0 (vi 6) (wpL_nil (th_n (wpE_ret (th_r (res2 (.inl rfl) Try.results146 (v := (vi 0)) (by kernel_rfl) (v' := (vi 6)) (by kernel_rfl) ?_))))))))
        exact ⟨0, 6, rfl, h⟩
       ·have h := h.2 hc5
        refine wpE_skip (th_n (wpE_seq ?_))
        obtain ⟨C3, hC, h⟩ := h
        refine wpE_drawnC (fun x => C3 x ∧ HB H2 x [(p2, [(vi aA), (vi aB), (vi aC), (vu aK), (vs aF), (vi aL), (vi aM)], 106)]) [6, 7, 10] [10] (by kernel_rfl) (by kernel_rfl) (by kernel_rfl) (by kernel_rfl) ⟨hC, hb.drew⟩ ?_
        intro w12 hw12
        have h := h w12 hw12
        have hs : Hst w0 H2 w11 H2 w12 := by rw [hw12]; exact hs.drew
        have hb : HB H2 w12 [(p2, [(vi aA), (vi aB), (vi aC), (vu aK), (vs aF), (vi aL), (vi aM)], 106)] := by rw [hw12]; exact hb.drew
        have hs := hs.here
        refine qx 0 (vp p1) Kp0 (qx 1 (vp p1) Kp1 (qg 2 ?_))
        obtain ⟨a2, hp2, h⟩ := h
        refine sy (v := (vp (some a2))) Kp2 (fun _ _ => (x_nilCheck (p := p1) (by kernel_rfl) hp2)) (qx 3 (vp (some a2)) Kp3 (qg 4 ?_))
        obtain ⟨v2, hv7, h⟩ := h
        refine sy (v := v2.v) Kp4 (fun w' hw' => (xl (Try.isAgg68 _) (hv7 w' hw'.1))) (qz 5 (.agg #[(vi aA), (vi aB), (vi aC), (vu aK), (vs aF), (vi aL), (vi aM)]) Kp5 (fun w' hw' => (x_loadA (a := p2) (vs := [(vi aA), (vi aB), (vi aC), (vu aK), (vs aF), (vi aL), (vi aM)]) (by kernel_rfl) (Try.isAgg106 _) (Try.sizeOf106 _) rfl (hw'.2.row0 0 7 gZ (by kernel_rfl)))) (lg 6 (sl_new (O := (.cells #[(vi aA), (vi aB), (vi aC), (vu aK), (vs aF), (vi aL), (vi aM)] 106)) (fun p => (Sl.mk (some p) 1 1).v) Kp6 (want0 rfl) (by kernel_rfl) (x_buildSlice (vs := #[(0, (.agg #[(vi aA), (vi aB), (vi aC), (vu aK), (vs aF), (vi aL), (vi aM)]))]) (by kernel_rfl) (by kernel_rfl)) ?_)))
        intro p3 w13 hn7
        have h := h p3 w13 hn7
        refine ⟨.inr ⟨h.1, hb.kept (Ext.new (F := None) hn7).keptP⟩, ?_⟩
        have h := h.2
        have hs := hs.again (Ext.new (F := None) hn7).keptP
        have hb := hb.kept (Ext.new (F := None) hn7).keptP
        refine lg 7 ?_
        obtain ⟨s1, w14, hv6, hC, hk, h⟩ := h
        refine sl (v := s1.v) Kp7 (want0 rfl) (by kernel_rfl) (x_builtin (args := #[v2.v, (Sl.mk (some p3) 1 1).v]) (by kernel_rfl) (fun _ => rfl) hv6) (.inr ⟨hC, hb.kept hk⟩) ?_
        obtain ⟨hs, hb⟩ := hk.hh hs hb
        refine qg 8 ?_
        obtain ⟨a3, hp3, h⟩ := h
        refine sy (v := (vp (some a3))) Kp8 (fun _ _ => (x_nilCheck (p := p1) (by kernel_rfl) hp3)) (qx 9 (vp (some a3)) Kp9 (lg 10 ?_))
        obtain ⟨hp4, hnh, h⟩ := h
        refine sl_t (pickA (S8 (pickS (pickS pickZ)))) (xs (v := s1.v) (Try.sizeOf68 _) hp4) ?_
        intro w15 hn2
        have h := h w15 hn2
        refine ⟨.inl (by kernel_rfl), ?_⟩
        have hk := Kept.sc hnh hn2
        obtain ⟨hs, hb⟩ := hk.hh hs hb
        refine wn (th_n (wpE_seq (rg (q0 (vp p1) (q0 (vp p1) ?_)))))
        obtain ⟨a4, hp5, h⟩ := h
        refine q2 (vp (some a4)) (x_nilCheck (p := p1) (by kernel_rfl) hp5) (q0 (vp (some (a4.add 1))) ?_)
        obtain ⟨v3, hv5, h⟩ := h
        refine q2 v3.v (xl (Try.isAgg69 _) hv5) (q0 (vi (q6.wrap ((q6.wrap (1 + r1)) + r2))) (st_new (O := (.cells #[(vi (q6.wrap ((q6.wrap (1 + r1)) + r2)))] 3)) (fun p => (Sl.mk (some p) 1 1).v) (want0 rfl) (x_buildSlice (vs := #[(0, (vi (q6.wrap ((q6.wrap (1 + r1)) + r2))))]) (by kernel_rfl) (by kernel_rfl)) ?_))
        intro p4 w16 hn6
        have h := h p4 w16 hn6
        have hs := hs.again (Ext.new (F := None) hn6).keptP
        have hb := hb.kept (Ext.new (F := None) hn6).keptP
        obtain ⟨s2, w17, hv4, hk, h⟩ := h
        refine st (v := s2.v) (want0 rfl) (x_builtin (args := #[v3.v, (Sl.mk (some p4) 1 1).v]) (by kernel_rfl) (fun _ => rfl) hv4) ?_
        obtain ⟨hs, hb⟩ := hk.hh hs hb
        obtain ⟨a5, hp6, h⟩ := h
        refine q2 (vp (some a5)) (x_nilCheck (p := p1) (by kernel_rfl) hp6) (q0 (vp (some (a5.add 1))) ?_)
        obtain ⟨hp7, hnh, h⟩ := h
        refine st_set (want0 rfl) (x_store (a := (a5.add 1)) (v := s2.v) (by kernel_rfl) (by kernel_rfl) rfl (Try.sizeOf69 _) hp7) ?_
        intro w18 hn3
        have h := h w18 hn3
        have hk := Kept.sc hnh hn3
        obtain ⟨hs, hb⟩ := hk.hh hs hb
        refine wpL_nil (th_n (wpE_seq (rg (q0 (vp p1) (q0 (vp p1) ?_)))))
        obtain ⟨a6, hp8, h⟩ := h
        refine q2 (vp (some a6)) (x_nilCheck (p := p1) (by kernel_rfl) hp8) (q0 (vp (some (a6.add 2))) ?_)
        obtain ⟨v4, hv3, h⟩ := h
        refine q2 v4.v (xl (Try.isAgg69 _) hv3) (q0 (vi (q6.wrap (1 + z1))) (st_new (O := (.cells #[(vi (q6.wrap (1 + z1)))] 3)) (fun p => (Sl.mk (some p) 1 1).v) (want0 rfl) (x_buildSlice (vs := #[(0, (vi (q6.wrap (1 + z1))))]) (by kernel_rfl) (by kernel_rfl)) ?_))
        intro p5 w19 hn5
        have h := h p5 w19 hn5
        have hs := hs.again (Ext.new (F := None) hn5).keptP
        have hb := hb.kept (Ext.new (F := None) hn5).keptP
        obtain ⟨s3, w20, hv2, hk, h⟩ := h
        refine st (v := s3.v) (want0 rfl) (x_builtin (args := #[v4.v, (Sl.mk (some p5) 1 1).v]) (by kernel_rfl) (fun _ => rfl) hv2) ?_
        obtain ⟨hs, hb⟩ := hk.hh hs hb
        obtain ⟨a7, hp9, h⟩ := h
        refine q2 (vp (some a7)) (x_nilCheck (p := p1) (by kernel_rfl) hp9) (q0 (vp (some (a7.add 2))) ?_)
        obtain ⟨hp10, hnh, h⟩ := h
        refine st_set (want0 rfl) (x_store (a := (a7.add 2)) (v := s3.v) (by kernel_rfl) (by kernel_rfl) rfl (Try.sizeOf69 _) hp10) ?_
        intro w21 hn4
        have h := h w21 hn4
        have hk := Kept.sc hnh hn4
        obtain ⟨hs, hb⟩ := hk.hh hs hb
        refine wpL_nil (th_n (wpE_seq (rg (q0 (vp p1) ?_))))
        obtain ⟨a8, hp11, h⟩ := h
        refine q2 (vp (some a8)) (x_nilCheck (p := p1) (by kernel_rfl) hp11) (q0 (vp (some a8)) ?_)
        obtain ⟨v5, hv1, h⟩ := h
        refine q2 v5.v (xl (Try.isAgg68 _) hv1) (q0 (vi (v5.len : Int)) (q0 (vi (v5.len : Int)) (q0 (vi 0) (wpL_nil (th_n (wpE_ret (res2 (.inl rfl) Try.results146 (v := (vi (v5.len : Int))) (by kernel_rfl) (v' := (vi 0)) (by kernel_rfl) ?_)))))))
        exact ⟨(v5.len : Int), 0, rfl, h⟩
  ·refine rg (q0 (vi (s_A aA)) (q0 (vb (decide ((s_A aA) ≥ 1))) (q0 (vb (decide ((s_A aA) ≥ 1))) ?_)))
   refine wpL_join 6 (fun ρ w => ∃ x2 : Bool, ∃ H : NP, Has ρ [(0, (vp p1)), (3, (vp (some p2))), (7, (vi (s_A aA))), (28, (vb x2))] ∧ Hst w0 H w H w ∧ HB H w [(p2, [(vi aA), (vi aB), (vi aC), (vu aK), (vs aF), (vi aL), (vi aM)], 106)] ∧ m_J_j2 p1 aA aB aC aK aF aL aM x2 w0 H w K) ?_ ?_
   ·rintro ρ w ⟨x2, H, hH, hs, hb, h⟩
    unfold m_J_j2 at h
    refine wpL_has hH ?_
    refine q0 (vb x2) ?_
    rcases Bool.eq_false_or_eq_true x2 with hg3 | hg3
    ·have h := h.1 hg3
     refine sk (yD 29 hg3) (sk (yD 29 hg3) (sk (yD 29 hg3) (sm (sm (sm (sm (sm (sk (yD 29 hg3) (q2 (vb true) (xT hg3) (wpL_nil (th_n ?_)))))))))))
     exact ⟨true, H, hm, hs, hb, h⟩
    ·have h := h.2 hg3
     refine q1 (vi (s_A aA)) (want1 rfl (yD 29 hg3)) (q1 (vb (((s_A aA) : Int) == 2)) (want1 rfl (yD 29 hg3)) (q1 (vb (((s_A aA) : Int) == 2)) (want1 rfl (yD 29 hg3)) ?_))
     rcases Bool.eq_false_or_eq_true (((s_A aA) : Int) == 2) with hg4 | hg4
     ·have h := h.1 hg4
      refine q1 (vp p1) (want1 rfl (yD 32 hg4)) (q1 (vp (some (p2.add 6))) (want1 rfl (yD 32 hg4)) (stp (v := (vi aM)) (want1 rfl (yD 32 hg4)) (xl (Try.isAgg32 _) (hb.c 0 6 gZ)) ?_))
      refine st_call (want1 rfl (yD 32 hg4)) (xc Try.call33) (h.mono ?_)
      rintro e w22 ⟨r7, rfl, hk, h⟩
      refine ⟨_, rfl, ?_⟩
      obtain ⟨hs, hb⟩ := hk.hh hs hb
      refine q1 (vb (!r7)) (want1 rfl (yD 32 hg4)) (stp (v := (vb (!r7))) (want1 rfl (yD 29 hg3)) (xT hg4) (q2 (vb (!r7)) (xF hg3) (wpL_nil (th_n ?_))))
      exact ⟨(!r7), H, hm, hs, hb, h⟩
     ·have h := h.2 hg4
      refine sk (yD 32 hg4) (sk (yD 32 hg4) (sk (yD 32 hg4) (sk (yD 32 hg4) (sk (yD 32 hg4) (stp (v := (vb false)) (want1 rfl (yD 29 hg3)) (xF hg4) (q2 (vb false) (xF hg3) (wpL_nil (th_n ?_))))))))
      exact ⟨false, H, hm, hs, hb, h⟩
   ·rcases Bool.eq_false_or_eq_true (decide ((s_A aA) ≥ 1)) with hg5 | hg5
    ·have h := h.1 hg5
     refine q1 (vp p1) (want1 rfl (yD 22 hg5)) (q1 (vp (some (p2.add 5))) (want1 rfl (yD 22 hg5)) (stp (v := (vi aL)) (want1 rfl (yD 22 hg5)) (xl (Try.isAgg32 _) (hb.c 0 5 gZ)) ?_))
     have h := h H1 w3 hs
     have hs := hs.here
     refine st_call (want1 rfl (yD 22 hg5)) (xc Try.call33) (h.mono ?_)
     rintro e w23 ⟨r8, rfl, hk, h⟩
     refine ⟨_, rfl, ?_⟩
     obtain ⟨hs, hb⟩ := hk.hh hs hb
     refine q1 (vb (!r8)) (want1 rfl (yD 22 hg5)) (q2 (vb (!r8)) (xT hg5) (wpL_nil ?_))
     exact ⟨(!r8), H1, hm, hs, hb, h⟩
    ·have h := h.2 hg5
     refine sk (yD 22 hg5) (sk (yD 22 hg5) (sk (yD 22 hg5) (sk (yD 22 hg5) (sk (yD 22 hg5) (q2 (vb false) (xF hg5) (wpL_nil ?_))))))
     have h := h H1 w3 hs
     have hs := hs.here
     exact ⟨false, H1, hm, hs, hb, h⟩
def m_Y_l1 (p1 : Option Addr) (aE : Sl) (i1 aA : Int) (aB aC aK : Int) (aF : ByteArray) (aL aM : Int) (w0 : World) (Hl1 : NP) (wl1 : World) (Kc1 : Int → Int → Int → Int → Int → ByteArray → Int → Int → NP → WP) (K : Int → Int → WP) : Prop :=
 Br (decide (i1 < (aE.len : Int)))
  (∃ a1 : Addr, At aE i1 6 a1 ∧
  ∃ aN aO : Int, ∃ aP aQ : Int, ∃ aR : ByteArray, ∃ aW : Sl, Row wl1 a1 [(vi aN), (vi aO), (vi aP), (vu aQ), (vs aR), aW.v] ∧
  Calls Try.prog 121 #[(vp p1), (.agg #[(vi aN), (vi aO), (vi aP), (vu aQ), (vs aR), aW.v])] wl1 (fun e w5 => ∃ r1 r2 : Int, e = .returned (.tuple #[(vi r1), (vi r2)]) ∧ 
   Kept Hl1 wl1 w5 ∧
   Br (r2 != 0)
    (K 0 r2 w5)
    (∀ (H3 : NP) (w8 : World), Hst w0 Hl1 w5 H3 w8 →
    Kc1 (q6.wrap (i1 + 1)) aA aB aC aK aF (cond (i1 == 0) r1 aL) (cond (i1 == 0) aM r1) H3 w8)))
  (Calls Try.prog 146 #[(vp p1), (.agg #[(vi aA), (vi aB), (vi aC), (vu aK), (vs aF), (vi aL), (vi aM)])] wl1 (fun e w11 => ∃ r3 r4 : Int, e = .returned (.tuple #[(vi r3), (vi r4)]) ∧ 
   Kept Hl1 wl1 w11 ∧
   K r3 r4 w11))
def m_Y (p1 : Option Addr) (aD aG : Int) (aH aI : Int) (aJ : ByteArray) (aE : Sl) (w0 : World) (K : Int → Int → WP) : Prop :=
 ∀ (H2 : NP) (w4 : World), Hst w0 None w0 H2 w4 →
 ∃ (I1 : Int → Int → Int → Int → Int → ByteArray → Int → Int → NP → WP) (mu1 : Int → Int → Int → Int → Int → ByteArray → Int → Int → World → Nat), I1 0 aD aG aH aI aJ 0 0 H2 w4 ∧
  ∀ (i1 aA : Int) (aB aC aK : Int) (aF : ByteArray) (aL aM : Int) (Hl1 : NP) (wl1 : World), Hst w0 Hl1 wl1 Hl1 wl1 → I1 i1 aA aB aC aK aF aL aM Hl1 wl1 → m_Y_l1 p1 aE i1 aA aB aC aK aF aL aM w0 Hl1 wl1 (fun y'0 y'1 y'2 y'3 y'4 y'5 y'6 y'7 H' w' => I1 y'0 y'1 y'2 y'3 y'4 y'5 y'6 y'7 H' w' ∧ mu1 y'0 y'1 y'2 y'3 y'4 y'5 y'6 y'7 w' < mu1 i1 aA aB aC aK aF aL aM wl1) K
theorem w_Y (p1 : Option Addr) (aD aG : Int) (aH aI : Int) (aJ : ByteArray) (aE : Sl) (w0 : World) (K : Int → Int → WP) (h : m_Y p1 aD aG aH aI aJ aE w0 K) :
  Calls Try.prog 121 #[(vp p1), (.agg #[(vi aD), (vi aG), (vi aH), (vu aI), (vs aJ), aE.v])] w0 (fun e w' => ∃ r5 r6 : Int, e = .returned (.tuple #[(vi r5), (vi r6)]) ∧ K r5 r6 w') := by
 unfold m_Y at h
 refine cw (args := [(vp p1), (.agg #[(vi aD), (vi aG), (vi aH), (vu aI), (vs aJ), aE.v])]) Try.func121 Try.ntmps121 ?_
 have hs := Hst.start w0
 have hb := HB.nil None w0
 refine wpE_seq (rg (sn (O := (.cells #[(vi aD), (vi aG), (vi aH), (vu aI), (vs aJ), aE.v] 52)) xb ?_))
 intro p2 w1 hn1
 obtain ⟨H1, hs, hb⟩ := hs.alloc hb hn1
 refine q0 (vi 0) (q0 (vi 0) (wpL_nil (th_n (wpE_seq (rg (q2 (.agg #[(vi aD), (vi aG), (vi aH), (vu aI), (vs aJ), aE.v]) (x_loadA (a := p2) (vs := [(vi aD), (vi aG), (vi aH), (vu aI), (vs aJ), aE.v]) (by kernel_rfl) (Try.isAgg52 _) (Try.sizeOf52 _) rfl (hb.row0 0 6 gZ (by kernel_rfl))) ?_))))))
 refine sc Try.call145 ((p_P aD aG aH aI aJ aE w1).mono ?_)
 rintro e w2 ⟨he, hE⟩
 refine ⟨(.agg #[(vi aD), (vi aG), (vi aH), (vu aI), (vs aJ), (vi 0), (vi 0)]), he.trans (by kernel_rfl), ?_⟩
 have hs := hs.pure hE
 have hb := hb.pure hE
 refine sn (O := (.cells #[(vi 0), (vi 0), (vi 0), (vu 0), (vs ⟨#[]⟩), (vi 0), (vi 0)] 106)) (x_alloc (Try.zeroValue106 _) rfl) ?_
 intro p3 w3 hn2
 obtain ⟨H2, hs, hb⟩ := hs.alloc hb hn2
 refine st_set (want0 rfl) (x_storeA (a := p3) (vs := [(vi aD), (vi aG), (vi aH), (vu aI), (vs aJ), (vi 0), (vi 0)]) (by kernel_rfl) (by kernel_rfl) rfl (Try.sizeOf106 _) rfl (hb.canWs0 0 7 gZ (by kernel_rfl))) ?_
 intro w4 hn3
 have hsb : Hst w0 None w0 H2 w4 ∧ HB H2 w4 [(p3, [(vi aD), (vi aG), (vi aH), (vu aI), (vs aJ), (vi 0), (vi 0)], 106), (p2, [(vi aD), (vi aG), (vi aH), (vu aI), (vs aJ), aE.v], 52)] := by
  rw [hn3]
  exact hb.store0 (i := 0) (vs := [(vi aD), (vi aG), (vi aH), (vu aI), (vs aJ), (vi 0), (vi 0)]) hs gZ (by kernel_rfl) (by kernel_rfl)
 obtain ⟨hs, hb⟩ := hsb
 refine wpL_nil (th_n (wpE_seq (wpE_seq (rg (q0 (vi 0) (wpL_nil (th_n (wpE_block ?_))))))))
 have h := h H2 w4 hs
 have hs := hs.here
 obtain ⟨I1, mu1, h0, hr⟩ := h
 refine wpE_loop (σ := Int × Int × Int × Int × Int × ByteArray × Int × Int × NP × World) (fun s ρ w => w = s.2.2.2.2.2.2.2.2.2 ∧ Has ρ [(0, (vp p1)), (3, (vp (some p2))), (6, (vp (some p3))), (7, (vi s.1))] ∧ Hst w0 s.2.2.2.2.2.2.2.2.1 w s.2.2.2.2.2.2.2.2.1 w ∧ HB s.2.2.2.2.2.2.2.2.1 w [(p3, [(vi s.2.1), (vi s.2.2.1), (vi s.2.2.2.1), (vu s.2.2.2.2.1), (vs s.2.2.2.2.2.1), (vi s.2.2.2.2.2.2.1), (vi s.2.2.2.2.2.2.2.1)], 106), (p2, [(vi aD), (vi aG), (vi aH), (vu aI), (vs aJ), aE.v], 52)] ∧ I1 s.1 s.2.1 s.2.2.1 s.2.2.2.1 s.2.2.2.2.1 s.2.2.2.2.2.1 s.2.2.2.2.2.2.1 s.2.2.2.2.2.2.2.1 s.2.2.2.2.2.2.2.2.1 s.2.2.2.2.2.2.2.2.2) (fun s => mu1 s.1 s.2.1 s.2.2.1 s.2.2.2.1 s.2.2.2.2.1 s.2.2.2.2.2.1 s.2.2.2.2.2.2.1 s.2.2.2.2.2.2.2.1 s.2.2.2.2.2.2.2.2.2) (0, aD, aG, aH, aI, aJ, 0, 0, H2, w4) ⟨rfl, hm, hs, hb, h0⟩ ?_
 rintro ⟨i1, aA, aB, aC, aK, aF, aL, aM, Hl1, wl1⟩ ρ w ⟨hw, hH, hs, hb, hI⟩
 obtain rfl : wl1 = w := (show w = wl1 from hw).symm
 have hH : Has ρ [(0, (vp p1)), (3, (vp (some p2))), (6, (vp (some p3))), (7, (vi i1))] := hH
 have hs : Hst w0 Hl1 wl1 Hl1 wl1 := hs
 have hb : HB Hl1 wl1 [(p3, [(vi aA), (vi aB), (vi aC), (vu aK), (vs aF), (vi aL), (vi aM)], 106), (p2, [(vi aD), (vi aG), (vi aH), (vu aI), (vs aJ), aE.v], 52)] := hb
 have h := hr i1 aA aB aC aK aF aL aM Hl1 wl1 hs hI
 unfold m_Y_l1 at h
 refine wpE_has hH ?_
 refine wpE_seq (wpE_seq (rg (q0 (vi i1) (q0 (vp (some (p2.add 5))) (q2 aE.v (xl (Try.isAgg22 _) (hb.c 1 5 (gS gZ))) (q0 (vi (aE.len : Int)) (q0 (vb (decide (i1 < (aE.len : Int)))) (wpL_nil (th_n ?_)))))))))
 refine wpE_cond (t := (decide (i1 < (aE.len : Int)))) (by kernel_rfl) (fun hc1 => ?_) (fun hc1 => ?_)
 ·have h := h.1 hc1
  refine wpE_skip (th_n (wpE_seq (wpE_block (wpE_seq (rg (q0 (vp p1) (q0 (vp (some (p2.add 5))) (q2 aE.v (xl (Try.isAgg22 _) (hb.c 1 5 (gS gZ))) (q0 (vi i1) ?_)))))))))
  obtain ⟨a1, hv2, h⟩ := h
  refine q2 (vp (some a1)) (xi (Try.runUnderlying22 _) (Try.sizeOf52 _) hv2) ?_
  obtain ⟨aN, aO, aP, aQ, aR, aW, hv1, h⟩ := h
  refine q2 (.agg #[(vi aN), (vi aO), (vi aP), (vu aQ), (vs aR), aW.v]) (x_loadA (a := a1) (vs := [(vi aN), (vi aO), (vi aP), (vu aQ), (vs aR), aW.v]) (by kernel_rfl) (Try.isAgg52 _) (Try.sizeOf52 _) rfl hv1) ?_
  refine sc Try.call121 (h.mono ?_)
  rintro e w5 ⟨r1, r2, rfl, hk, h⟩
  refine ⟨_, rfl, ?_⟩
  obtain ⟨hs, hb⟩ := hk.hh hs hb
  refine q0 (.tuple #[(vi r1), (vi r2)]) (q0 (vi r1) (q0 (vi r2) (q0 (vi r1) (q0 (vi r2) (wpL_nil (th_n (wpE_seq (wpE_seq (rg (q0 (vi r2) (q0 (vb (r2 != 0)) ?_)))))))))))
  refine wpL_nil (th_n ?_)
  refine wpE_cond (t := (r2 != 0)) (by kernel_rfl) (fun hc2 => ?_) (fun hc2 => ?_)
  ·have h := h.1 hc2
   refine wpE_seq (rg (q0 (vi r2) (q0 (vi 0) (q0 (vi r2) (wpL_nil (th_n (wpE_ret (th_r (bl_r (th_r (th_r ?_)))))))))))
   refine bl_r (th_r (res2 (.inl rfl) Try.results121 (v := (vi 0)) (by kernel_rfl) (v' := (vi r2)) (by kernel_rfl) ?_))
   exact ⟨0, r2, rfl, h⟩
  ·have h := h.2 hc2
   refine wpE_skip (th_n (wpE_seq (rg (q0 (vi i1) (q0 (vb (i1 == 0)) (wpL_nil (th_n ?_)))))))
   refine wpE_via (fun ρ wJ => ∃ b1'0 : Bool, ∃ HJ : NP, ((i1 == 0) = b1'0) ∧ Hst w0 Hl1 w5 HJ wJ ∧ HB HJ wJ [(p3, [(vi aA), (vi aB), (vi aC), (vu aK), (vs aF), (vi (cond b1'0 r1 aL)), (vi (cond b1'0 aM r1))], 106), (p2, [(vi aD), (vi aG), (vi aH), (vu aI), (vs aJ), aE.v], 52)] ∧ Has ρ [(0, (vp p1)), (3, (vp (some p2))), (6, (vp (some p3))), (7, (vi i1))]) ?_ ?_
   ·refine wpE_cond (t := (i1 == 0)) (by kernel_rfl) (fun hc4 => ?_) (fun hc4 => ?_)
    ·refine rg (q0 (vi r1) (q0 (vp (some (p3.add 5))) (st_set (want0 rfl) (x_store (a := (p3.add 5)) (v := (vi r1)) (by kernel_rfl) (by kernel_rfl) rfl (Try.sizeOf32 _) (hb.canW 0 5 gZ (by kernel_rfl))) ?_)))
     intro w9 hn6
     have hsb : Hst w0 Hl1 w5 Hl1 w9 ∧ HB Hl1 w9 [(p3, [(vi aA), (vi aB), (vi aC), (vu aK), (vs aF), (vi r1), (vi aM)], 106), (p2, [(vi aD), (vi aG), (vi aH), (vu aI), (vs aJ), aE.v], 52)] := by
      rw [hn6]
      exact hb.set (i := 0) 5 (v := (vi r1)) hs gZ (by kernel_rfl)
     obtain ⟨hs, hb⟩ := hsb
     refine wpL_nil (th_n ?_)
     exact ⟨true, _, hc4, hs, hb, hm⟩
    ·refine rg (q0 (vi r1) (q0 (vp (some (p3.add 6))) (st_set (want0 rfl) (x_store (a := (p3.add 6)) (v := (vi r1)) (by kernel_rfl) (by kernel_rfl) rfl (Try.sizeOf32 _) (hb.canW 0 6 gZ (by kernel_rfl))) ?_)))
     intro w10 hn7
     have hsb : Hst w0 Hl1 w5 Hl1 w10 ∧ HB Hl1 w10 [(p3, [(vi aA), (vi aB), (vi aC), (vu aK), (vs aF), (vi aL), (vi r1)], 106), (p2, [(vi aD), (vi aG), (vi aH), (vu aI), (vs aJ), aE.v], 52)] := by
      rw [hn7]
      exact hb.set (i := 0) 6 (v := (vi r1)) hs gZ (by kernel_rfl)
     obtain ⟨hs, hb⟩ := hsb
     refine wpL_nil (th_n ?_)
     exact ⟨false, _, hc4, hs, hb, hm⟩
   ·rintro ρ w8 ⟨b1'0, H3, he0, hs, hb, hH⟩
    subst he0
    refine norm_has hH ?_
    refine bl_n (th_n (rg (q0 (vi i1) (q0 (vi (q6.wrap (i1 + 1))) (q0 (vi (q6.wrap (i1 + 1))) (wpL_nil ?_))))))
    have h := h H3 w8 hs
    have hs := hs.here
    refine th_n ?_
    exact ⟨((q6.wrap (i1 + 1)), aA, aB, aC, aK, aF, (cond (i1 == 0) r1 aL), (cond (i1 == 0) aM r1), H3, w8), ⟨rfl, hm, hs, hb, h.1⟩, h.2⟩
 ·have h := h.2 hc1
  refine wpE_exit (th_x (th_x (bl_eq (th_n (wpE_seq (rg (q0 (vp p1) (q2 (.agg #[(vi aA), (vi aB), (vi aC), (vu aK), (vs aF), (vi aL), (vi aM)]) (x_loadA (a := p3) (vs := [(vi aA), (vi aB), (vi aC), (vu aK), (vs aF), (vi aL), (vi aM)]) (by kernel_rfl) (Try.isAgg106 _) (Try.sizeOf106 _) rfl (hb.row0 0 7 gZ (by kernel_rfl))) ?_))))))))
  refine sc Try.call146 (h.mono ?_)
  rintro e w11 ⟨r3, r4, rfl, hk, h⟩
  refine ⟨_, rfl, ?_⟩
  obtain ⟨hs, hb⟩ := hk.hh hs hb
  refine q0 (vi r3) (q0 (vi r4) (q0 (vi r3) (q0 (vi r4) (wpL_nil (th_n (wpE_ret (res2 (.inl rfl) Try.results121 (v := (vi r3)) (by kernel_rfl) (v' := (vi r4)) (by kernel_rfl) ?_)))))))
  exact ⟨r3, r4, rfl, h⟩
def m_N1 (p1 : Option Addr) (n1 : Int) (w0 : World) (K : WP) : Prop :=
 ∃ a1 : Addr, p1 = some a1 ∧
 ∃ v1 : Sl, w0.cell? a1 = some v1.v ∧
 ∃ s1 : Sl, (Instr.sliceAt 68 v1.v none (some (vi n1)) none).run Try.prog w0 = .ok s1.v w0 ∧
 ∃ a2 : Addr, p1 = some a2 ∧
 CanW w0 a2 ∧ ∀ w1 : World, w1 = w0.setCell a2 s1.v →
 ∃ a3 : Addr, p1 = some a3 ∧
 ∃ v2 : Sl, w1.cell? (a3.add 1) = some v2.v ∧
 ∃ s2 : Sl, (Instr.sliceAt 69 v2.v none (some (vi n1)) none).run Try.prog w1 = .ok s2.v w1 ∧
 ∃ a4 : Addr, p1 = some a4 ∧
 CanW w1 (a4.add 1) ∧ ∀ w2 : World, w2 = w1.setCell (a4.add 1) s2.v →
 ∃ a5 : Addr, p1 = some a5 ∧
 ∃ v3 : Sl, w2.cell? (a5.add 2) = some v3.v ∧
 ∃ s3 : Sl, (Instr.sliceAt 69 v3.v none (some (vi n1)) none).run Try.prog w2 = .ok s3.v w2 ∧
 ∃ a6 : Addr, p1 = some a6 ∧
 CanW w2 (a6.add 2) ∧ ∀ w3 : World, w3 = w2.setCell (a6.add 2) s3.v →
 K w3
theorem w_N1 (p1 : Option Addr) (n1 : Int) (w0 : World) (K : WP) (h : m_N1 p1 n1 w0 K) :
  Calls Try.prog 122 #[(vp p1), (vi n1)] w0 (fun e w' => e = .returned (.tuple #[]) ∧ K  w') := by
 unfold m_N1 at h
 refine cw (args := [(vp p1), (vi n1)]) Try.func122 Try.ntmps122 (wpE_seq (rg (q0 (vp p1) (q0 (vp p1) ?_))))
 obtain ⟨a1, hp1, h⟩ := h
 refine q2 (vp (some a1)) (x_nilCheck (p := p1) (by kernel_rfl) hp1) (q0 (vp (some a1)) ?_)
 obtain ⟨v1, hv6, h⟩ := h
 refine q2 v1.v (xl (Try.isAgg68 _) hv6) (q0 (vi n1) ?_)
 obtain ⟨s1, hv5, h⟩ := h
 refine q2 s1.v (x_slice (by kernel_rfl) (by kernel_rfl) (by kernel_rfl) (by kernel_rfl) hv5) ?_
 obtain ⟨a2, hp2, h⟩ := h
 refine q2 (vp (some a2)) (x_nilCheck (p := p1) (by kernel_rfl) hp2) (q0 (vp (some a2)) ?_)
 obtain ⟨hp3, h⟩ := h
 refine st_set (want0 rfl) (x_store (a := a2) (v := s1.v) (by kernel_rfl) (by kernel_rfl) rfl (Try.sizeOf68 _) hp3) ?_
 intro w1 hn1
 have h := h w1 hn1
 refine wpL_nil (th_n (wpE_seq (rg (q0 (vp p1) (q0 (vp p1) ?_)))))
 obtain ⟨a3, hp4, h⟩ := h
 refine q2 (vp (some a3)) (x_nilCheck (p := p1) (by kernel_rfl) hp4) (q0 (vp (some (a3.add 1))) ?_)
 obtain ⟨v2, hv4, h⟩ := h
 refine q2 v2.v (xl (Try.isAgg69 _) hv4) (q0 (vi n1) ?_)
 obtain ⟨s2, hv3, h⟩ := h
 refine q2 s2.v (x_slice (by kernel_rfl) (by kernel_rfl) (by kernel_rfl) (by kernel_rfl) hv3) ?_
 obtain ⟨a4, hp5, h⟩ := h
 refine q2 (vp (some a4)) (x_nilCheck (p := p1) (by kernel_rfl) hp5) (q0 (vp (some (a4.add 1))) ?_)
 obtain ⟨hp6, h⟩ := h
 refine st_set (want0 rfl) (x_store (a := (a4.add 1)) (v := s2.v) (by kernel_rfl) (by kernel_rfl) rfl (Try.sizeOf69 _) hp6) ?_
 intro w2 hn2
 have h := h w2 hn2
 refine wpL_nil (th_n (rg (q0 (vp p1) (q0 (vp p1) ?_))))
 obtain ⟨a5, hp7, h⟩ := h
 refine q2 (vp (some a5)) (x_nilCheck (p := p1) (by kernel_rfl) hp7) (q0 (vp (some (a5.add 2))) ?_)
 obtain ⟨v3, hv2, h⟩ := h
 refine q2 v3.v (xl (Try.isAgg69 _) hv2) (q0 (vi n1) ?_)
 obtain ⟨s3, hv1, h⟩ := h
 refine q2 s3.v (x_slice (by kernel_rfl) (by kernel_rfl) (by kernel_rfl) (by kernel_rfl) hv1) ?_
 obtain ⟨a6, hp8, h⟩ := h
 refine q2 (vp (some a6)) (x_nilCheck (p := p1) (by kernel_rfl) hp8) (q0 (vp (some (a6.add 2))) ?_)
 obtain ⟨hp9, h⟩ := h
 refine st_set (want0 rfl) (x_store (a := (a6.add 2)) (v := s3.v) (by kernel_rfl) (by kernel_rfl) rfl (Try.sizeOf69 _) hp9) ?_
 intro w3 hn3
 have h := h w3 hn3
 refine wpL_nil (res0 (.inr rfl) Try.results122 ?_)
 exact ⟨rfl, h⟩
def m_O1 (p1 : Option Addr) (aD aG : Int) (aH aI : Int) (aJ : ByteArray) (aE : Sl) (w0 : World) (K : Int → Int → WP) : Prop :=
 ∀ (H1 : NP) (w1 : World), Hst w0 None w0 H1 w1 →
 Calls Try.prog 120 #[(.agg #[(vi aD), (vi aG), (vi aH), (vu aI), (vs aJ), aE.v])] w1 (fun e w2 => ∃ r1 : Int, e = .returned (vi r1) ∧ 
  Kept H1 w1 w2 ∧
  Br (r1 != 0)
   (K 0 r1 w2)
   (∃ a1 : Addr, p1 = some a1 ∧
   ∃ v1 : Sl, w2.cell? a1 = some v1.v ∧
   Calls Try.prog 121 #[(vp p1), (.agg #[(vi aD), (vi aG), (vi aH), (vu aI), (vs aJ), aE.v])] w2 (fun e w3 => ∃ r2 r3 : Int, e = .returned (.tuple #[(vi r2), (vi r3)]) ∧ 
    Kept H1 w2 w3 ∧
    Br (r3 != 0)
     (Calls Try.prog 122 #[(vp p1), (vi (v1.len : Int))] w3 (fun e w4 => e = .returned (.tuple #[]) ∧ 
      Kept H1 w3 w4 ∧
      K r2 r3 w4))
     (K r2 r3 w3))))
theorem w_O1 (p1 : Option Addr) (aD aG : Int) (aH aI : Int) (aJ : ByteArray) (aE : Sl) (w0 : World) (K : Int → Int → WP) (h : m_O1 p1 aD aG aH aI aJ aE w0 K) :
  Calls Try.prog 69 #[(vp p1), (.agg #[(vi aD), (vi aG), (vi aH), (vu aI), (vs aJ), aE.v])] w0 (fun e w' => ∃ r4 r5 : Int, e = .returned (.tuple #[(vi r4), (vi r5)]) ∧ K r4 r5 w') := by
 unfold m_O1 at h
 refine cw (args := [(vp p1), (.agg #[(vi aD), (vi aG), (vi aH), (vu aI), (vs aJ), aE.v])]) Try.func69 Try.ntmps69 ?_
 have hs := Hst.start w0
 have hb := HB.nil None w0
 refine wpE_seq (rg (sn (O := (.cells #[(vi aD), (vi aG), (vi aH), (vu aI), (vs aJ), aE.v] 52)) xb ?_))
 intro p2 w1 hn1
 obtain ⟨H1, hs, hb⟩ := hs.alloc hb hn1
 refine q0 (vi 0) (q0 (vi 0) (wpL_nil (th_n (wpE_seq (rg (q2 (.agg #[(vi aD), (vi aG), (vi aH), (vu aI), (vs aJ), aE.v]) (x_loadA (a := p2) (vs := [(vi aD), (vi aG), (vi aH), (vu aI), (vs aJ), aE.v]) (by kernel_rfl) (Try.isAgg52 _) (Try.sizeOf52 _) rfl (hb.row0 0 6 gZ (by kernel_rfl))) ?_))))))
 have h := h H1 w1 hs
 have hs := hs.here
 refine sc Try.call120 (h.mono ?_)
 rintro e w2 ⟨r1, rfl, hk, h⟩
 refine ⟨_, rfl, ?_⟩
 obtain ⟨hs, hb⟩ := hk.hh hs hb
 refine q0 (vi r1) (wpL_nil (th_n (wpE_seq (wpE_seq (rg (q0 (vi r1) (q0 (vb (r1 != 0)) (wpL_nil (th_n ?_)))))))))
 refine wpE_cond (t := (r1 != 0)) (by kernel_rfl) (fun hc1 => ?_) (fun hc1 => ?_)
 ·have h := h.1 hc1
  refine wpE_seq (rg (q0 (vi r1) (q0 (vi 0) (q0 (vi r1) (wpL_nil (th_n (wpE_ret (th_r (res2 (.inl rfl) Try.results69 (v := (vi 0)) (by kernel_rfl) (v' := (vi r1)) (by kernel_rfl) ?_)))))))))
  exact ⟨0, r1, rfl, h⟩
 ·have h := h.2 hc1
  refine wpE_skip (th_n (wpE_seq (rg (q0 (vp p1) ?_))))
  obtain ⟨a1, hp1, h⟩ := h
  refine q2 (vp (some a1)) (x_nilCheck (p := p1) (by kernel_rfl) hp1) (q0 (vp (some a1)) ?_)
  obtain ⟨v1, hv1, h⟩ := h
  refine q2 v1.v (xl (Try.isAgg68 _) hv1) (q0 (vi (v1.len : Int)) (q0 (vi (v1.len : Int)) (wpL_nil (th_n (wpE_seq (rg (q0 (vp p1) (q2 (.agg #[(vi aD), (vi aG), (vi aH), (vu aI), (vs aJ), aE.v]) (x_loadA (a := p2) (vs := [(vi aD), (vi aG), (vi aH), (vu aI), (vs aJ), aE.v]) (by kernel_rfl) (Try.isAgg52 _) (Try.sizeOf52 _) rfl (hb.row0 0 6 gZ (by kernel_rfl))) ?_))))))))
  refine sc Try.call121 (h.mono ?_)
  rintro e w3 ⟨r2, r3, rfl, hk, h⟩
  refine ⟨_, rfl, ?_⟩
  obtain ⟨hs, hb⟩ := hk.hh hs hb
  refine q0 (.tuple #[(vi r2), (vi r3)]) (q0 (vi r2) (q0 (vi r3) (q0 (vi r2) (q0 (vi r3) (wpL_nil (th_n (wpE_seq (wpE_seq (rg (q0 (vi r3) (q0 (vb (r3 != 0)) ?_)))))))))))
  refine wpL_nil (th_n ?_)
  refine wpE_cond (t := (r3 != 0)) (by kernel_rfl) (fun hc2 => ?_) (fun hc2 => ?_)
  ·have h := h.1 hc2
   refine rg (q0 (vp p1) (q0 (vi (v1.len : Int)) ?_))
   refine sc Try.call122 (h.mono ?_)
   rintro e w4 ⟨rfl, hk, h⟩
   refine ⟨_, rfl, ?_⟩
   obtain ⟨hs, hb⟩ := hk.hh hs hb
   refine wpL_nil (th_n (wpE_seq (rg (q0 (vi r2) (q0 (vi r3) (q0 (vi r2) (q0 (vi r3) (wpL_nil (th_n (wpE_ret (res2 (.inl rfl) Try.results69 (v := (vi r2)) (by kernel_rfl) (v' := (vi r3)) (by kernel_rfl) ?_)))))))))))
   exact ⟨r2, r3, rfl, h⟩
  ·have h := h.2 hc2
   refine wpE_skip (th_n (wpE_seq (rg (q0 (vi r2) (q0 (vi r3) (q0 (vi r2) (q0 (vi r3) (wpL_nil (th_n (wpE_ret (res2 (.inl rfl) Try.results69 (v := (vi r2)) (by kernel_rfl) (v' := (vi r3)) (by kernel_rfl) ?_)))))))))))
   exact ⟨r2, r3, rfl, h⟩
end Go.Proofs
end
