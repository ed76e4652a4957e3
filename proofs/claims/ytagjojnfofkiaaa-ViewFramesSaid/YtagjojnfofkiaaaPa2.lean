import Derived.Test.YtagjojnfofkiaaaProg
import Derived.KernelRfl
import Derived.Test.YtagjojnfofkiaaaPa1
import Derived.IntWalk
section
open Go Go.SE
namespace Go.Proofs
set_option maxRecDepth 100000
set_option maxHeartbeats 4000000
attribute [local irreducible] wpL wpX opE wpE Calls
def m_C1_l1 (p1 : Option Addr) (p2 p4 : Addr) (r2 : Sl) (x1 : Int) (wl1 : World) (Kc1 : Int → World → Prop) (K : Int → Int → Int → Int → ByteArray → Sl → World → Prop) : Prop :=
 Br (decide (x1 < (r2.len : Int)))
  (∃ a1 : Addr, At r2 x1 1 a1 ∧
  ∃ v6 : Int, wl1.cell? a1 = some (vi v6) ∧
  ∃ C1 : World → Prop, C1 wl1.drew ∧ ∀ w9, w9 = wl1.drew →
  ∃ v7 : Sl, (∀ w', C1 w' → w'.cell? (p4.add 5) = some v7.v) ∧
  Calls Try.prog 27 #[(vp p1), (vi v6)] w9 (fun e w10 => ∃ cM cN : Int, ∃ cO cP : Int, ∃ cQ : ByteArray, ∃ cR : Sl, e = .returned (.agg #[(vi cM), (vi cN), (vi cO), (vu cP), (vs cQ), cR.v]) ∧ C1 w10 ∧ 
   ∀ (p5 : Addr) (w11 : World), New w10 (.cells #[(vi cM), (vi cN), (vi cO), (vu cP), (vs cQ), cR.v] 63) p5 w11 → C1 w11 ∧
   ∃ s1 : Sl, ∃ w12 : World, (Builtin.append_ #[22, 22] 22 #[v7.v, (Sl.mk (some p5) 1 1).v]).run Try.prog w11 = .ok s1.v w12 ∧ C1 w12 ∧
   CanW w12 (p4.add 5) ∧ ∀ w13 : World, w13 = w12.setCell (p4.add 5) s1.v →
   Kc1 (IntKind.i64.wrap (x1 + 1)) w13))
  (∃ aA aB : Int, ∃ aC aD : Int, ∃ aE : ByteArray, ∃ bG : Sl, Row wl1 p4 [(vi aA), (vi aB), (vi aC), (vu aD), (vs aE), bG.v] ∧
  (∀ j, j < 6 → CanW wl1 (p2.add j)) ∧ ∀ w14 : World, w14 = storeRow wl1 p2 [(vi aA), (vi aB), (vi aC), (vu aD), (vs aE), bG.v] →
  ∃ bZ cA : Int, ∃ cB cC : Int, ∃ cD : ByteArray, ∃ cI : Sl, Row w14 p2 [(vi bZ), (vi cA), (vi cB), (vu cC), (vs cD), cI.v] ∧
  K bZ cA cB cC cD cI w14)
def m_C1 (p1 : Option Addr) (t1 : Int) (w : World) (K : Int → Int → Int → Int → ByteArray → Sl → World → Prop) : Prop :=
 ∀ (p2 : Addr) (w1 : World), New w (.cells #[(vi 0), (vi 0), (vi 0), (vu 0), (vs ⟨#[]⟩), Sl.nil.v] 63) p2 w1 →
 Calls Try.prog 44 #[(vp p1), (vi t1)] w1 (fun e w2 => ∃ aM aN : Int, ∃ aO aP : Int, ∃ aQ : ByteArray, ∃ aR aS : Int, ∃ r1 : Bool, e = .returned (.tuple #[(.agg #[(vi aM), (vi aN), (vi aO), (vu aP), (vs aQ), (vi aR), (vi aS)]), (vb r1)]) ∧ 
  ∀ (p3 : Addr) (w3 : World), New w2 (.cells #[(vi 0), (vi 0), (vi 0), (vu 0), (vs ⟨#[]⟩), (vi 0), (vi 0)] 41) p3 w3 →
  (∀ j, j < 7 → CanW w3 (p3.add j)) ∧ ∀ w4 : World, w4 = storeRow w3 p3 [(vi aM), (vi aN), (vi aO), (vu aP), (vs aQ), (vi aR), (vi aS)] →
  Br (!r1)
   ((∀ j, j < 6 → CanW w4 (p2.add j)) ∧ ∀ w5 : World, w5 = storeRow w4 p2 [(vi 0), (vi 0), (vi 0), (vu 0), (vs ⟨#[]⟩), Sl.nil.v] →
   ∃ bH bI : Int, ∃ bJ bK : Int, ∃ bL : ByteArray, ∃ cJ : Sl, Row w5 p2 [(vi bH), (vi bI), (vi bJ), (vu bK), (vs bL), cJ.v] ∧
   K bH bI bJ bK bL cJ w5)
   (∃ v1 : Int, w4.cell? p3 = some (vi v1) ∧
   ∃ v2 : Int, w4.cell? (p3.add 1) = some (vi v2) ∧
   ∃ v3 : Int, w4.cell? (p3.add 2) = some (vi v3) ∧
   ∃ v4 : Int, w4.cell? (p3.add 3) = some (vu v4) ∧
   ∃ v5 : ByteArray, w4.cell? (p3.add 4) = some (vs v5) ∧
   ∀ (p4 : Addr) (w6 : World), New w4 (.cells #[(vi 0), (vi 0), (vi 0), (vu 0), (vs ⟨#[]⟩), Sl.nil.v] 63) p4 w6 →
   (∀ j, j < 6 → CanW w6 (p4.add j)) ∧ ∀ w7 : World, w7 = storeRow w6 p4 [(vi v1), (vi v2), (vi v3), (vu v4), (vs v5), Sl.nil.v] →
   Calls Try.prog 56 #[(vp p1), (vi t1)] w7 (fun e w8 => ∃ r2 : Sl, e = .returned r2.v ∧ 
    ∃ (I1 : Int → World → Prop) (mu1 : Int → World → Nat), I1 0 w8 ∧
     ∀ (x1 : Int) (wl1 : World), I1 x1 wl1 → m_C1_l1 p1 p2 p4 r2 x1 wl1 (fun y'0 w' => I1 y'0 w' ∧ mu1 y'0 w' < mu1 x1 wl1) K)))
theorem w_C1 (p1 : Option Addr) (t1 : Int) (w : World) (K : Int → Int → Int → Int → ByteArray → Sl → World → Prop) (h : m_C1 p1 t1 w K) :
  Calls Try.prog 27 #[(vp p1), (vi t1)] w (fun e w' => ∃ cV cW : Int, ∃ cX cY : Int, ∃ cZ : ByteArray, ∃ dA : Sl, e = .returned (.agg #[(vi cV), (vi cW), (vi cX), (vu cY), (vs cZ), dA.v]) ∧ K cV cW cX cY cZ dA w') := by
 unfold m_C1 at h
 refine cw (args := [(vp p1), (vi t1)]) Try.func27 Try.ntmps27 (wpE_seq (rg (sn (O := (.cells #[(vi 0), (vi 0), (vi 0), (vu 0), (vs ⟨#[]⟩), Sl.nil.v] 63)) (x_alloc (Try.zeroValue63 _) rfl) ?_)))
 intro p2 w1 hn9
 replace h := h p2 w1 hn9
 refine wpL_nil (th_n (wpE_seq (rg (q0 (vp p1) (q0 (vi t1) ?_)))))
 refine sc Try.call44 (h.mono ?_)
 rintro e w2 ⟨aM, aN, aO, aP, aQ, aR, aS, r1, rfl, h⟩
 refine ⟨_, rfl, ?_⟩
 refine q0 (.tuple #[(.agg #[(vi aM), (vi aN), (vi aO), (vu aP), (vs aQ), (vi aR), (vi aS)]), (vb r1)]) (q0 (.agg #[(vi aM), (vi aN), (vi aO), (vu aP), (vs aQ), (vi aR), (vi aS)]) (q0 (vb r1) (sn (O := (.cells #[(vi 0), (vi 0), (vi 0), (vu 0), (vs ⟨#[]⟩), (vi 0), (vi 0)] 41)) (x_alloc (Try.zeroValue41 _) rfl) ?_)))
 intro p3 w3 hn8
 replace h := h p3 w3 hn8
 obtain ⟨hp1, h⟩ := h
 refine st_set (want0 rfl) (x_storeA (a := p3) (vs := [(vi aM), (vi aN), (vi aO), (vu aP), (vs aQ), (vi aR), (vi aS)]) (by kernel_rfl) (by kernel_rfl) rfl (Try.sizeOf41 _) rfl hp1) ?_
 intro w4 hn1
 replace h := h w4 hn1
 refine q0 (vb r1) (wpL_nil (th_n (wpE_seq (wpE_seq (rg (q0 (vb r1) (q0 (vb (!r1)) (wpL_nil (th_n ?_)))))))))
 refine wpE_cond (t := (!r1)) (by kernel_rfl) (fun hc1 => ?_) (fun hc1 => ?_)
 ·replace h := h.1 hc1
  refine wpE_seq (rg (q0 (.agg #[(vi 0), (vi 0), (vi 0), (vu 0), (vs ⟨#[]⟩), Sl.nil.v]) ?_))
  obtain ⟨hp2, h⟩ := h
  refine st_set (want0 rfl) (x_storeA (a := p2) (vs := [(vi 0), (vi 0), (vi 0), (vu 0), (vs ⟨#[]⟩), Sl.nil.v]) (by kernel_rfl) (by kernel_rfl) rfl (Try.sizeOf63 _) rfl hp2) ?_
  intro w5 hn2
  replace h := h w5 hn2
  refine wpL_nil (th_n (wpE_ret (th_r ?_)))
  obtain ⟨bH, bI, bJ, bK, bL, cJ, hv1, h⟩ := h
  refine resG (.inl rfl) (vs := [(.agg #[(vi bH), (vi bI), (vi bJ), (vu bK), (vs bL), cJ.v])]) (v := (.agg #[(vi bH), (vi bI), (vi bJ), (vu bK), (vs bL), cJ.v])) Try.results27 ⟨(RV.cellA (by kernel_rfl) (Try.isAgg63 _) (Try.sizeOf63 _) rfl hv1), trivial⟩ (by kernel_rfl) ?_
  exact ⟨bH, bI, bJ, bK, bL, cJ, rfl, h⟩
 ·replace h := h.2 hc1
  refine wpE_skip (th_n (wpE_seq (rg (q0 (vp (some p3)) ?_))))
  obtain ⟨v1, hv12, h⟩ := h
  refine q2 (vi v1) (xl (Try.isAgg3 _) hv12) (q0 (vp (some (p3.add 1))) ?_)
  obtain ⟨v2, hv11, h⟩ := h
  refine q2 (vi v2) (xl (Try.isAgg3 _) hv11) (q0 (vp (some (p3.add 2))) ?_)
  obtain ⟨v3, hv10, h⟩ := h
  refine q2 (vi v3) (xl (Try.isAgg3 _) hv10) (q0 (vp (some (p3.add 3))) ?_)
  obtain ⟨v4, hv9, h⟩ := h
  refine q2 (vu v4) (xl (Try.isAgg39 _) hv9) (q0 (vp (some (p3.add 4))) ?_)
  obtain ⟨v5, hv8, h⟩ := h
  refine q2 (vs v5) (xl (Try.isAgg9 _) hv8) (q0 (.agg #[(vi v1), (vi v2), (vi v3), (vu v4), (vs v5), Sl.nil.v]) (sn (O := (.cells #[(vi 0), (vi 0), (vi 0), (vu 0), (vs ⟨#[]⟩), Sl.nil.v] 63)) (x_alloc (Try.zeroValue63 _) rfl) ?_))
  intro p4 w6 hn7
  replace h := h p4 w6 hn7
  obtain ⟨hp3, h⟩ := h
  refine st_set (want0 rfl) (x_storeA (a := p4) (vs := [(vi v1), (vi v2), (vi v3), (vu v4), (vs v5), Sl.nil.v]) (by kernel_rfl) (by kernel_rfl) rfl (Try.sizeOf63 _) rfl hp3) ?_
  intro w7 hn3
  replace h := h w7 hn3
  refine wpL_nil (th_n (wpE_seq (wpE_seq (rg (q0 (vp p1) (q0 (vi t1) ?_))))))
  refine sc Try.call56 (h.mono ?_)
  rintro e w8 ⟨r2, rfl, h⟩
  refine ⟨_, rfl, ?_⟩
  refine q0 (vi (r2.len : Int)) (q0 (vi 0) (wpL_nil (th_n (wpE_block ?_))))
  obtain ⟨I1, mu1, h0, hr⟩ := h
  refine wpE_loop (σ := Int × World) (fun s ρ w => w = s.2 ∧ Has ρ [(0, (vp p1)), (4, (vp (some p2))), (7, (vp (some p4))), (32, r2.v), (33, (vi (r2.len : Int))), (34, (vi s.1))] ∧ I1 s.1 s.2) (fun s => mu1 s.1 s.2) (0, w8) ⟨rfl, hm, h0⟩ ?_
  rintro ⟨x1, wl1⟩ ρ w ⟨hw, hH, hI⟩
  obtain rfl : wl1 = w := (show w = wl1 from hw).symm
  replace hH : Has ρ [(0, (vp p1)), (4, (vp (some p2))), (7, (vp (some p4))), (32, r2.v), (33, (vi (r2.len : Int))), (34, (vi x1))] := hH
  have h := hr x1 wl1 hI
  clear hr h0
  unfold m_C1_l1 at h
  refine wpE_has hH ?_
  clear hH hI
  refine wpE_seq (rg (q0 (vb (decide (x1 < (r2.len : Int)))) (wpL_nil (th_n (wpE_seq ?_)))))
  refine wpE_cond (t := (decide (x1 < (r2.len : Int)))) (by kernel_rfl) (fun hc2 => ?_) (fun hc2 => ?_)
  ·replace h := h.1 hc2
   refine wpE_skip (th_n (wpE_seq (wpE_block (wpE_seq (rg ?_)))))
   obtain ⟨a1, hv5, h⟩ := h
   refine q2 (vp (some a1)) (xi (Try.runUnderlying36 _) (Try.sizeOf23 _) hv5) ?_
   obtain ⟨v6, hv4, h⟩ := h
   refine q2 (vi v6) (xl (Try.isAgg23 _) hv4) (q0 (vi v6) (wpL_nil (th_n ?_)))
   obtain ⟨C1, hC, h⟩ := h
   refine wpE_drawnC C1 [4, 5, 6, 8] [8] (by kernel_rfl) (by kernel_rfl) (by kernel_rfl) (by kernel_rfl) hC ?_
   clear hC
   intro w9 hw9
   replace h := h w9 hw9
   refine qx 0 (vp (some (p4.add 5))) Kp0 (qg 1 ?_)
   obtain ⟨v7, hv3, h⟩ := h
   refine sy (v := v7.v) Kp1 (fun w' hw' => (xl (Try.isAgg22 _) (hv3 w' hw'))) (qx 2 (vp p1) Kp2 (qx 3 (vi v6) Kp3 (lg 4 ?_)))
   refine sl_call Kp4 (want0 rfl) (by kernel_rfl) (xc Try.call27) (h.mono ?_)
   rintro e w10 ⟨cM, cN, cO, cP, cQ, cR, rfl, hC, h⟩
   refine ⟨_, rfl, .inr hC, ?_⟩
   refine lg 5 (sl_new (O := (.cells #[(vi cM), (vi cN), (vi cO), (vu cP), (vs cQ), cR.v] 63)) (fun p => (Sl.mk (some p) 1 1).v) Kp5 (want0 rfl) (by kernel_rfl) (x_buildSlice (vs := #[(0, (.agg #[(vi cM), (vi cN), (vi cO), (vu cP), (vs cQ), cR.v]))]) (by kernel_rfl) (by kernel_rfl)) ?_)
   intro p5 w11 hn5
   replace h := h p5 w11 hn5
   refine ⟨.inr h.1, ?_⟩
   replace h := h.2
   refine lg 6 ?_
   obtain ⟨s1, w12, hv2, hC, h⟩ := h
   refine sl (v := s1.v) Kp6 (want0 rfl) (by kernel_rfl) (x_builtin (args := #[v7.v, (Sl.mk (some p5) 1 1).v]) (by kernel_rfl) (fun _ => rfl) hv2) (.inr hC) ?_
   clear hC
   refine qx 7 (vp (some (p4.add 5))) Kp7 (lg 8 ?_)
   obtain ⟨hp4, h⟩ := h
   refine sl_t Kp8 (xs (v := s1.v) (Try.sizeOf22 _) hp4) ?_
   intro w13 hn4
   replace h := h w13 hn4
   refine ⟨.inl (by kernel_rfl), ?_⟩
   refine wn (bl_n (th_n (rg (q0 (vi (IntKind.i64.wrap (x1 + 1))) (q0 (vi (IntKind.i64.wrap (x1 + 1))) (wpL_nil (th_n ?_)))))))
   exact ⟨((IntKind.i64.wrap (x1 + 1)), w13), ⟨rfl, hm, h.1⟩, h.2⟩
  ·replace h := h.2 hc2
   refine wpE_exit (th_x (th_x (bl_eq (th_n (wpE_seq (rg ?_))))))
   obtain ⟨aA, aB, aC, aD, aE, bG, hv7, h⟩ := h
   refine q2 (.agg #[(vi aA), (vi aB), (vi aC), (vu aD), (vs aE), bG.v]) (x_loadA (a := p4) (vs := [(vi aA), (vi aB), (vi aC), (vu aD), (vs aE), bG.v]) (by kernel_rfl) (Try.isAgg63 _) (Try.sizeOf63 _) rfl hv7) ?_
   obtain ⟨hp5, h⟩ := h
   refine st_set (want0 rfl) (x_storeA (a := p2) (vs := [(vi aA), (vi aB), (vi aC), (vu aD), (vs aE), bG.v]) (by kernel_rfl) (by kernel_rfl) rfl (Try.sizeOf63 _) rfl hp5) ?_
   intro w14 hn6
   replace h := h w14 hn6
   refine wpL_nil (th_n (wpE_ret ?_))
   obtain ⟨bZ, cA, cB, cC, cD, cI, hv6, h⟩ := h
   refine resG (.inl rfl) (vs := [(.agg #[(vi bZ), (vi cA), (vi cB), (vu cC), (vs cD), cI.v])]) (v := (.agg #[(vi bZ), (vi cA), (vi cB), (vu cC), (vs cD), cI.v])) Try.results27 ⟨(RV.cellA (by kernel_rfl) (Try.isAgg63 _) (Try.sizeOf63 _) rfl hv6), trivial⟩ (by kernel_rfl) ?_
   exact ⟨bZ, cA, cB, cC, cD, cI, rfl, h⟩
def m_F2  (w : World) (K : (Option Addr) → World → Prop) : Prop :=
 ∀ (p1 : Addr) (w1 : World), New w (.map #[] 0) p1 w1 →
 ∀ (p2 : Addr) (w2 : World), New w1 (.cells #[Sl.nil.v, (.map (some p1.block))] 102) p2 w2 →
 K (some p2) w2
theorem w_F2  (w : World) (K : (Option Addr) → World → Prop) (h : m_F2  w K) :
  Calls Try.prog 35 #[] w (fun e w' => ∃ r1 : Option Addr, e = .returned (vp r1) ∧ K r1 w') := by
 unfold m_F2 at h
 refine cw (args := []) Try.func35 Try.ntmps35 (wpE_seq (rg (q0 (vp none) (wpL_nil (th_n (wpE_seq (rg (st_new (O := (.map #[] 0)) (fun p => .map (some p.block)) (want0 rfl) (by kernel_rfl) ?_))))))))
 intro p1 w1 hn2
 replace h := h p1 w1 hn2
 refine q0 (.agg #[Sl.nil.v, (.map (some p1.block))]) (sn (O := (.cells #[Sl.nil.v, (.map (some p1.block))] 102)) xb ?_)
 intro p2 w2 hn1
 replace h := h p2 w2 hn1
 refine q0 (vp (some p2)) (wpL_nil (th_n (wpE_ret (rs1 Try.results35 (v := (vp (some p2))) ?_))))
 exact ⟨(some p2), rfl, h⟩
def m_G2 (p1 : Option Addr) (n1 : Int) (w : World) (K : Int → Int → World → Prop) : Prop :=
 Calls Try.prog 59 #[(vp p1), (.agg #[(vi 2), (vi 0), (vi 0), (vu n1), (vs ⟨#[]⟩), (vi 0), (vi 0)])] w (fun e w1 => ∃ r1 r2 : Int, e = .returned (.tuple #[(vi r1), (vi r2)]) ∧ 
  K r1 r2 w1)
theorem w_G2 (p1 : Option Addr) (n1 : Int) (w : World) (K : Int → Int → World → Prop) (h : m_G2 p1 n1 w K) :
  Calls Try.prog 36 #[(vp p1), (vu n1)] w (fun e w' => ∃ r3 r4 : Int, e = .returned (.tuple #[(vi r3), (vi r4)]) ∧ K r3 r4 w') := by
 unfold m_G2 at h
 refine cw (args := [(vp p1), (vu n1)]) Try.func36 Try.ntmps36 (wpE_seq (rg (q0 (vi 0) (q0 (vi 0) (wpL_nil (th_n (wpE_seq (rg (q0 (vp p1) (q0 (vu n1) (q0 (.agg #[(vi 2), (vi 0), (vi 0), (vu n1), (vs ⟨#[]⟩), (vi 0), (vi 0)]) ?_)))))))))))
 refine sc Try.call59 (h.mono ?_)
 rintro e w1 ⟨r1, r2, rfl, h⟩
 refine ⟨_, rfl, ?_⟩
 refine q0 (vi r1) (q0 (vi r2) (q0 (vi r1) (q0 (vi r2) (wpL_nil (th_n (wpE_ret (res2 (.inl rfl) Try.results36 (v := (vi r1)) (by kernel_rfl) (v' := (vi r2)) (by kernel_rfl) ?_)))))))
 exact ⟨r1, r2, rfl, h⟩
def m_H2 (p1 : Option Addr) (from1 to1 a1 : Int) (w : World) (K : Int → Int → World → Prop) : Prop :=
 Calls Try.prog 59 #[(vp p1), (.agg #[(vi 8), (vi from1), (vi to1), (vu 0), (vs ⟨#[]⟩), (vi a1), (vi 0)])] w (fun e w1 => ∃ r1 r2 : Int, e = .returned (.tuple #[(vi r1), (vi r2)]) ∧ 
  K r1 r2 w1)
theorem w_H2 (p1 : Option Addr) (from1 to1 a1 : Int) (w : World) (K : Int → Int → World → Prop) (h : m_H2 p1 from1 to1 a1 w K) :
  Calls Try.prog 37 #[(vp p1), (vi from1), (vi to1), (vi a1)] w (fun e w' => ∃ r3 r4 : Int, e = .returned (.tuple #[(vi r3), (vi r4)]) ∧ K r3 r4 w') := by
 unfold m_H2 at h
 refine cw (args := [(vp p1), (vi from1), (vi to1), (vi a1)]) Try.func37 Try.ntmps37 (wpE_seq (rg (q0 (vi 0) (q0 (vi 0) (wpL_nil (th_n (wpE_seq (rg (q0 (vp p1) (q0 (vi from1) (q0 (vi to1) ?_)))))))))))
 refine q0 (vi a1) (q0 (.agg #[(vi 8), (vi from1), (vi to1), (vu 0), (vs ⟨#[]⟩), (vi a1), (vi 0)]) ?_)
 refine sc Try.call59 (h.mono ?_)
 rintro e w1 ⟨r1, r2, rfl, h⟩
 refine ⟨_, rfl, ?_⟩
 refine q0 (vi r1) (q0 (vi r2) (q0 (vi r1) (q0 (vi r2) (wpL_nil (th_n (wpE_ret (res2 (.inl rfl) Try.results37 (v := (vi r1)) (by kernel_rfl) (v' := (vi r2)) (by kernel_rfl) ?_)))))))
 exact ⟨r1, r2, rfl, h⟩
def m_I2 (p1 : Option Addr) (from1 to1 a1 : Int) (w : World) (K : Int → Int → World → Prop) : Prop :=
 Calls Try.prog 59 #[(vp p1), (.agg #[(vi 9), (vi from1), (vi to1), (vu 0), (vs ⟨#[]⟩), (vi a1), (vi 0)])] w (fun e w1 => ∃ r1 r2 : Int, e = .returned (.tuple #[(vi r1), (vi r2)]) ∧ 
  K r1 r2 w1)
theorem w_I2 (p1 : Option Addr) (from1 to1 a1 : Int) (w : World) (K : Int → Int → World → Prop) (h : m_I2 p1 from1 to1 a1 w K) :
  Calls Try.prog 38 #[(vp p1), (vi from1), (vi to1), (vi a1)] w (fun e w' => ∃ r3 r4 : Int, e = .returned (.tuple #[(vi r3), (vi r4)]) ∧ K r3 r4 w') := by
 unfold m_I2 at h
 refine cw (args := [(vp p1), (vi from1), (vi to1), (vi a1)]) Try.func38 Try.ntmps38 (wpE_seq (rg (q0 (vi 0) (q0 (vi 0) (wpL_nil (th_n (wpE_seq (rg (q0 (vp p1) (q0 (vi from1) (q0 (vi to1) ?_)))))))))))
 refine q0 (vi a1) (q0 (.agg #[(vi 9), (vi from1), (vi to1), (vu 0), (vs ⟨#[]⟩), (vi a1), (vi 0)]) ?_)
 refine sc Try.call59 (h.mono ?_)
 rintro e w1 ⟨r1, r2, rfl, h⟩
 refine ⟨_, rfl, ?_⟩
 refine q0 (vi r1) (q0 (vi r2) (q0 (vi r1) (q0 (vi r2) (wpL_nil (th_n (wpE_ret (res2 (.inl rfl) Try.results38 (v := (vi r1)) (by kernel_rfl) (v' := (vi r2)) (by kernel_rfl) ?_)))))))
 exact ⟨r1, r2, rfl, h⟩
def m_X1 (p1 : Option Addr) (aT aU : Int) (aV aW : Int) (aX : ByteArray) (aY : Sl) (w : World) (K : Int → Int → World → Prop) : Prop :=
 ∀ (p2 : Addr) (w1 : World), New w (.cells #[(vi aT), (vi aU), (vi aV), (vu aW), (vs aX), aY.v] 63) p2 w1 →
 Br (Option.isNone p1)
  (K 0 0 w1)
  (∀ (p3 : Addr) (w2 : World), New w1 (.cells #[(vi 0)] 3) p3 w2 →
  CanW w2 p3 ∧ ∀ w3 : World, w3 = w2.setCell p3 (vi 0) →
  ∃ aA aB : Int, ∃ aC aD : Int, ∃ aE : ByteArray, ∃ bG : Sl, Row w3 p2 [(vi aA), (vi aB), (vi aC), (vu aD), (vs aE), bG.v] ∧
  Calls Try.prog 60 #[(.agg #[(vi aA), (vi aB), (vi aC), (vu aD), (vs aE), bG.v]), (vi 0), (vp (some p3))] w3 (fun e w4 => ∃ r1 : Int, e = .returned (vi r1) ∧ 
   Br (r1 != 0)
    (K 0 r1 w4)
    (∃ a1 : Addr, p1 = some a1 ∧
    ∃ v1 : Sl, w4.cell? a1 = some v1.v ∧
    ∃ aH aI : Int, ∃ aJ aK : Int, ∃ aL : ByteArray, ∃ bR : Sl, Row w4 p2 [(vi aH), (vi aI), (vi aJ), (vu aK), (vs aL), bR.v] ∧
    Calls Try.prog 61 #[(vp p1), (.agg #[(vi aH), (vi aI), (vi aJ), (vu aK), (vs aL), bR.v])] w4 (fun e w5 => ∃ r2 r3 : Int, e = .returned (.tuple #[(vi r2), (vi r3)]) ∧ 
     Br (r3 != 0)
      (Calls Try.prog 62 #[(vp p1), (vi (v1.len : Int))] w5 (fun e w6 => e = .returned (.tuple #[]) ∧ 
       K 0 r3 w6))
      (K r2 0 w5)))))
theorem w_X1 (p1 : Option Addr) (aT aU : Int) (aV aW : Int) (aX : ByteArray) (aY : Sl) (w : World) (K : Int → Int → World → Prop) (h : m_X1 p1 aT aU aV aW aX aY w K) :
  Calls Try.prog 40 #[(vp p1), (.agg #[(vi aT), (vi aU), (vi aV), (vu aW), (vs aX), aY.v])] w (fun e w' => ∃ r4 r5 : Int, e = .returned (.tuple #[(vi r4), (vi r5)]) ∧ K r4 r5 w') := by
 unfold m_X1 at h
 refine cw (args := [(vp p1), (.agg #[(vi aT), (vi aU), (vi aV), (vu aW), (vs aX), aY.v])]) Try.func40 Try.ntmps40 (wpE_seq (rg (sn (O := (.cells #[(vi aT), (vi aU), (vi aV), (vu aW), (vs aX), aY.v] 63)) xb ?_)))
 intro p2 w1 hn3
 replace h := h p2 w1 hn3
 refine q0 (vi 0) (q0 (vi 0) (wpL_nil (th_n (wpE_seq (wpE_seq (rg (q0 (vp p1) (q2 (vb (Option.isNone p1)) (x_ptreq (by kernel_rfl) rfl Try.underlying28) (wpL_nil (th_n ?_))))))))))
 refine wpE_cond (t := (Option.isNone p1)) (by kernel_rfl) (fun hc1 => ?_) (fun hc1 => ?_)
 ·replace h := h.1 hc1
  refine wpE_seq (rg (q0 (vi 0) (q0 (vi 0) (wpL_nil (th_n (wpE_ret (th_r (res2 (.inl rfl) Try.results40 (v := (vi 0)) (by kernel_rfl) (v' := (vi 0)) (by kernel_rfl) ?_))))))))
  exact ⟨0, 0, rfl, h⟩
 ·replace h := h.2 hc1
  refine wpE_skip (th_n (wpE_seq (rg (sn (O := (.cells #[(vi 0)] 3)) (x_alloc (Try.zeroValue3 _) rfl) ?_))))
  intro p3 w2 hn2
  replace h := h p3 w2 hn2
  obtain ⟨hp1, h⟩ := h
  refine st_set (want0 rfl) (x_store (a := p3) (v := (vi 0)) (by kernel_rfl) (by kernel_rfl) rfl (Try.sizeOf3 _) hp1) ?_
  intro w3 hn1
  replace h := h w3 hn1
  refine wpL_nil (th_n (wpE_seq (wpE_seq (rg ?_))))
  obtain ⟨aA, aB, aC, aD, aE, bG, hv3, h⟩ := h
  refine q2 (.agg #[(vi aA), (vi aB), (vi aC), (vu aD), (vs aE), bG.v]) (x_loadA (a := p2) (vs := [(vi aA), (vi aB), (vi aC), (vu aD), (vs aE), bG.v]) (by kernel_rfl) (Try.isAgg63 _) (Try.sizeOf63 _) rfl hv3) ?_
  refine sc Try.call60 (h.mono ?_)
  rintro e w4 ⟨r1, rfl, h⟩
  refine ⟨_, rfl, ?_⟩
  refine q0 (vi r1) (wpL_nil (th_n (wpE_seq (rg (q0 (vi r1) (q0 (vb (r1 != 0)) (wpL_nil (th_n ?_))))))))
  refine wpE_cond (t := (r1 != 0)) (by kernel_rfl) (fun hc2 => ?_) (fun hc2 => ?_)
  ·replace h := h.1 hc2
   refine wpE_seq (rg (q0 (vi r1) (q0 (vi 0) (q0 (vi r1) (wpL_nil (th_n (wpE_ret (th_r (res2 (.inl rfl) Try.results40 (v := (vi 0)) (by kernel_rfl) (v' := (vi r1)) (by kernel_rfl) ?_)))))))))
   exact ⟨0, r1, rfl, h⟩
  ·replace h := h.2 hc2
   refine wpE_skip (th_n (wpE_seq (rg (q0 (vp p1) ?_))))
   obtain ⟨a1, hp2, h⟩ := h
   refine q2 (vp (some a1)) (x_nilCheck (p := p1) (by kernel_rfl) hp2) (q0 (vp (some a1)) ?_)
   obtain ⟨v1, hv2, h⟩ := h
   refine q2 v1.v (xl (Try.isAgg99 _) hv2) (q0 (vi (v1.len : Int)) (q0 (vi (v1.len : Int)) (wpL_nil (th_n (wpE_seq (rg (q0 (vp p1) ?_)))))))
   obtain ⟨aH, aI, aJ, aK, aL, bR, hv1, h⟩ := h
   refine q2 (.agg #[(vi aH), (vi aI), (vi aJ), (vu aK), (vs aL), bR.v]) (x_loadA (a := p2) (vs := [(vi aH), (vi aI), (vi aJ), (vu aK), (vs aL), bR.v]) (by kernel_rfl) (Try.isAgg63 _) (Try.sizeOf63 _) rfl hv1) ?_
   refine sc Try.call61 (h.mono ?_)
   rintro e w5 ⟨r2, r3, rfl, h⟩
   refine ⟨_, rfl, ?_⟩
   refine q0 (.tuple #[(vi r2), (vi r3)]) (q0 (vi r2) (q0 (vi r3) (q0 (vi r2) (q0 (vi r3) (wpL_nil (th_n (wpE_seq (wpE_seq (rg (q0 (vi r3) (q0 (vb (r3 != 0)) ?_)))))))))))
   refine wpL_nil (th_n ?_)
   refine wpE_cond (t := (r3 != 0)) (by kernel_rfl) (fun hc3 => ?_) (fun hc3 => ?_)
   ·replace h := h.1 hc3
    refine wpE_seq (rg (q0 (vp p1) (q0 (vi (v1.len : Int)) ?_)))
    refine sc Try.call62 (h.mono ?_)
    rintro e w6 ⟨rfl, h⟩
    refine ⟨_, rfl, ?_⟩
    refine wpL_nil (th_n (wpE_seq (rg (q0 (vi r3) (q0 (vi 0) (q0 (vi r3) (wpL_nil (th_n (wpE_ret (th_r (res2 (.inl rfl) Try.results40 (v := (vi 0)) (by kernel_rfl) (v' := (vi r3)) (by kernel_rfl) ?_)))))))))))
    exact ⟨0, r3, rfl, h⟩
   ·replace h := h.2 hc3
    refine wpE_skip (th_n (wpE_seq (rg (q0 (vi r2) (q0 (vi r2) (q0 (vi 0) (wpL_nil (th_n (wpE_ret (res2 (.inl rfl) Try.results40 (v := (vi r2)) (by kernel_rfl) (v' := (vi 0)) (by kernel_rfl) ?_))))))))))
    exact ⟨r2, 0, rfl, h⟩
def m_J2 (p1 : Option Addr) (t1 : Int) (w : World) (K : Int → Int → Int → Int → ByteArray → Int → Int → Bool → World → Prop) : Prop :=
 ∀ (p2 : Addr) (w1 : World), New w (.cells #[(vi 0), (vi 0), (vi 0), (vu 0), (vs ⟨#[]⟩), (vi 0), (vi 0)] 41) p2 w1 →
 Calls Try.prog 66 #[(vp p1), (vi t1)] w1 (fun e w2 => ∃ r1 : Bool, e = .returned (vb r1) ∧ 
  Br (!r1)
   ((∀ j, j < 7 → CanW w2 (p2.add j)) ∧ ∀ w3 : World, w3 = storeRow w2 p2 [(vi 0), (vi 0), (vi 0), (vu 0), (vs ⟨#[]⟩), (vi 0), (vi 0)] →
   ∃ bH bI : Int, ∃ bJ bK : Int, ∃ bL : ByteArray, ∃ cE cF : Int, Row w3 p2 [(vi bH), (vi bI), (vi bJ), (vu bK), (vs bL), (vi cE), (vi cF)] ∧
   K bH bI bJ bK bL cE cF false w3)
   (∃ a1 : Addr, p1 = some a1 ∧
   ∃ v1 : Sl, w2.cell? a1 = some v1.v ∧
   ∃ a2 : Addr, At v1 (IntKind.i64.wrap (t1 - 1)) 9 a2 ∧
   ∃ aA aB : Int, ∃ aC aD : Int, ∃ aE : ByteArray, ∃ aF aG : Int, Row w2 a2 [(vi aA), (vi aB), (vi aC), (vu aD), (vs aE), (vi aF), (vi aG)] ∧
   (∀ j, j < 7 → CanW w2 (p2.add j)) ∧ ∀ w4 : World, w4 = storeRow w2 p2 [(vi aA), (vi aB), (vi aC), (vu aD), (vs aE), (vi aF), (vi aG)] →
   ∃ bZ cA : Int, ∃ cB cC : Int, ∃ cD : ByteArray, ∃ cK cL : Int, Row w4 p2 [(vi bZ), (vi cA), (vi cB), (vu cC), (vs cD), (vi cK), (vi cL)] ∧
   K bZ cA cB cC cD cK cL true w4))
theorem w_J2 (p1 : Option Addr) (t1 : Int) (w : World) (K : Int → Int → Int → Int → ByteArray → Int → Int → Bool → World → Prop) (h : m_J2 p1 t1 w K) :
  Calls Try.prog 44 #[(vp p1), (vi t1)] w (fun e w' => ∃ aM aN : Int, ∃ aO aP : Int, ∃ aQ : ByteArray, ∃ aR aS : Int, ∃ r2 : Bool, e = .returned (.tuple #[(.agg #[(vi aM), (vi aN), (vi aO), (vu aP), (vs aQ), (vi aR), (vi aS)]), (vb r2)]) ∧ K aM aN aO aP aQ aR aS r2 w') := by
 unfold m_J2 at h
 refine cw (args := [(vp p1), (vi t1)]) Try.func44 Try.ntmps44 (wpE_seq (rg (sn (O := (.cells #[(vi 0), (vi 0), (vi 0), (vu 0), (vs ⟨#[]⟩), (vi 0), (vi 0)] 41)) (x_alloc (Try.zeroValue41 _) rfl) ?_)))
 intro p2 w1 hn3
 replace h := h p2 w1 hn3
 refine q0 (vb false) (wpL_nil (th_n (wpE_seq (wpE_seq (rg (q0 (vp p1) (q0 (vi t1) ?_)))))))
 refine sc Try.call66 (h.mono ?_)
 rintro e w2 ⟨r1, rfl, h⟩
 refine ⟨_, rfl, ?_⟩
 refine q0 (vb (!r1)) (wpL_nil (th_n ?_))
 refine wpE_cond (t := (!r1)) (by kernel_rfl) (fun hc1 => ?_) (fun hc1 => ?_)
 ·replace h := h.1 hc1
  refine wpE_seq (rg (q0 (.agg #[(vi 0), (vi 0), (vi 0), (vu 0), (vs ⟨#[]⟩), (vi 0), (vi 0)]) ?_))
  obtain ⟨hp1, h⟩ := h
  refine st_set (want0 rfl) (x_storeA (a := p2) (vs := [(vi 0), (vi 0), (vi 0), (vu 0), (vs ⟨#[]⟩), (vi 0), (vi 0)]) (by kernel_rfl) (by kernel_rfl) rfl (Try.sizeOf41 _) rfl hp1) ?_
  intro w3 hn1
  replace h := h w3 hn1
  refine q0 (vb false) (wpL_nil (th_n (wpE_ret (th_r ?_))))
  obtain ⟨bH, bI, bJ, bK, bL, cE, cF, hv1, h⟩ := h
  refine resG (.inl rfl) (vs := [(.agg #[(vi bH), (vi bI), (vi bJ), (vu bK), (vs bL), (vi cE), (vi cF)]), (vb false)]) (v := (.tuple #[(.agg #[(vi bH), (vi bI), (vi bJ), (vu bK), (vs bL), (vi cE), (vi cF)]), (vb false)])) Try.results44 ⟨(RV.cellA (by kernel_rfl) (Try.isAgg41 _) (Try.sizeOf41 _) rfl hv1), (rvT (by kernel_rfl)), trivial⟩ (by kernel_rfl) ?_
  exact ⟨bH, bI, bJ, bK, bL, cE, cF, false, rfl, h⟩
 ·replace h := h.2 hc1
  refine wpE_skip (th_n (wpE_seq (rg (q0 (vp p1) ?_))))
  obtain ⟨a1, hp2, h⟩ := h
  refine q2 (vp (some a1)) (x_nilCheck (p := p1) (by kernel_rfl) hp2) (q0 (vp (some a1)) ?_)
  obtain ⟨v1, hv5, h⟩ := h
  refine q2 v1.v (xl (Try.isAgg99 _) hv5) (q0 (vi t1) (q0 (vi (IntKind.i64.wrap (t1 - 1))) ?_))
  obtain ⟨a2, hv4, h⟩ := h
  refine q2 (vp (some a2)) (xi (Try.runUnderlying99 _) (Try.sizeOf112 _) hv4) (q0 (vp (some a2)) ?_)
  obtain ⟨aA, aB, aC, aD, aE, aF, aG, hv3, h⟩ := h
  refine q2 (.agg #[(vi aA), (vi aB), (vi aC), (vu aD), (vs aE), (vi aF), (vi aG)]) (x_loadA (a := a2) (vs := [(vi aA), (vi aB), (vi aC), (vu aD), (vs aE), (vi aF), (vi aG)]) (by kernel_rfl) (Try.isAgg41 _) (Try.sizeOf41 _) rfl hv3) ?_
  obtain ⟨hp3, h⟩ := h
  refine st_set (want0 rfl) (x_storeA (a := p2) (vs := [(vi aA), (vi aB), (vi aC), (vu aD), (vs aE), (vi aF), (vi aG)]) (by kernel_rfl) (by kernel_rfl) rfl (Try.sizeOf41 _) rfl hp3) ?_
  intro w4 hn2
  replace h := h w4 hn2
  refine q0 (vb true) (wpL_nil (th_n (wpE_ret ?_)))
  obtain ⟨bZ, cA, cB, cC, cD, cK, cL, hv2, h⟩ := h
  refine resG (.inl rfl) (vs := [(.agg #[(vi bZ), (vi cA), (vi cB), (vu cC), (vs cD), (vi cK), (vi cL)]), (vb true)]) (v := (.tuple #[(.agg #[(vi bZ), (vi cA), (vi cB), (vu cC), (vs cD), (vi cK), (vi cL)]), (vb true)])) Try.results44 ⟨(RV.cellA (by kernel_rfl) (Try.isAgg41 _) (Try.sizeOf41 _) rfl hv2), (rvT (by kernel_rfl)), trivial⟩ (by kernel_rfl) ?_
  exact ⟨bZ, cA, cB, cC, cD, cK, cL, true, rfl, h⟩
def m_K2 (p1 : Option Addr) (t1 : Int) (w : World) (K : Value → World → Prop) : Prop :=
 ∀ (p2 : Addr) (w1 : World), New w (.cells #[(vp p1)] 28) p2 w1 →
 ∀ (p3 : Addr) (w2 : World), New w1 (.cells #[(vi t1)] 23) p3 w2 →
 K (.func (.func 67) #[] #[(vp (some p2)), (vp (some p3))]) w2
theorem w_K2 (p1 : Option Addr) (t1 : Int) (w : World) (K : Value → World → Prop) (h : m_K2 p1 t1 w K) :
  Calls Try.prog 45 #[(vp p1), (vi t1)] w (fun e w' => ∃ r1 : Value, e = .returned r1 ∧ K r1 w') := by
 unfold m_K2 at h
 refine cw (args := [(vp p1), (vi t1)]) Try.func45 Try.ntmps45 (wpE_seq (rg (sn (O := (.cells #[(vp p1)] 28)) xb ?_)))
 intro p2 w1 hn2
 replace h := h p2 w1 hn2
 refine sn (O := (.cells #[(vi t1)] 23)) xb ?_
 intro p3 w2 hn1
 replace h := h p3 w2 hn1
 refine q0 (.nilFunc : Value) (wpL_nil (th_n (wpE_seq (rg (q0 (.func (.func 67) #[] #[(vp (some p2)), (vp (some p3))]) (q0 (.func (.func 67) #[] #[(vp (some p2)), (vp (some p3))]) (wpL_nil (th_n (wpE_ret (rs1 Try.results45 (v := (.func (.func 67) #[] #[(vp (some p2)), (vp (some p3))])) ?_))))))))))
 exact ⟨(.func (.func 67) #[] #[(vp (some p2)), (vp (some p3))]), rfl, h⟩
def m_L2 (p1 : Option Addr) (t1 : Int) (w : World) (K : Sl → World → Prop) : Prop :=
 Calls Try.prog 44 #[(vp p1), (vi t1)] w (fun e w1 => ∃ aM aN : Int, ∃ aO aP : Int, ∃ aQ : ByteArray, ∃ aR aS : Int, ∃ r1 : Bool, e = .returned (.tuple #[(.agg #[(vi aM), (vi aN), (vi aO), (vu aP), (vs aQ), (vi aR), (vi aS)]), (vb r1)]) ∧ 
  ∀ (p2 : Addr) (w2 : World), New w1 (.cells #[(vi 0), (vi 0), (vi 0), (vu 0), (vs ⟨#[]⟩), (vi 0), (vi 0)] 41) p2 w2 →
  (∀ j, j < 7 → CanW w2 (p2.add j)) ∧ ∀ w3 : World, w3 = storeRow w2 p2 [(vi aM), (vi aN), (vi aO), (vu aP), (vs aQ), (vi aR), (vi aS)] →
  ∃ v1 : Int, w3.cell? p2 = some (vi v1) ∧
  Calls Try.prog 71 #[(vi v1)] w3 (fun e w4 => ∃ rfrom1 rto1 : Bool, ∃ rnum1 rtext1 : Bool, ∃ rkids1 : Int, ∃ r2 : Bool, e = .returned (.tuple #[(.agg #[(vb rfrom1), (vb rto1), (vb rnum1), (vb rtext1), (vi rkids1)]), (vb r2)]) ∧ 
   ∀ (p3 : Addr) (w5 : World), New w4 (.cells #[(vb false), (vb false), (vb false), (vb false), (vi 0)] 117) p3 w5 →
   (∀ j, j < 5 → CanW w5 (p3.add j)) ∧ ∀ w6 : World, w6 = storeRow w5 p3 [(vb rfrom1), (vb rto1), (vb rnum1), (vb rtext1), (vi rkids1)] →
   ∃ v2 : Int, w6.cell? (p2.add 5) = some (vi v2) ∧
   ∃ v3 : Int, w6.cell? (p2.add 6) = some (vi v3) ∧
   ∀ (p4 : Addr) (w7 : World), New w6 (.cells #[(vi v2), (vi v3)] 23) p4 w7 →
   ∃ v4 : Int, w7.cell? (p3.add 4) = some (vi v4) ∧
   ∃ s1 : Sl, (Instr.sliceAt 36 (Sl.mk (some p4) 2 2).v none (some (vi v4)) none).run Try.prog w7 = .ok s1.v w7 ∧
   K s1 w7))
theorem w_L2 (p1 : Option Addr) (t1 : Int) (w : World) (K : Sl → World → Prop) (h : m_L2 p1 t1 w K) :
  Calls Try.prog 56 #[(vp p1), (vi t1)] w (fun e w' => ∃ r3 : Sl, e = .returned r3.v ∧ K r3 w') := by
 unfold m_L2 at h
 refine cw (args := [(vp p1), (vi t1)]) Try.func56 Try.ntmps56 (wpE_seq (rg (q0 Sl.nil.v (wpL_nil (th_n (wpE_seq (rg (q0 (vp p1) (q0 (vi t1) ?_)))))))))
 refine sc Try.call44 (h.mono ?_)
 rintro e w1 ⟨aM, aN, aO, aP, aQ, aR, aS, r1, rfl, h⟩
 refine ⟨_, rfl, ?_⟩
 refine q0 (.tuple #[(.agg #[(vi aM), (vi aN), (vi aO), (vu aP), (vs aQ), (vi aR), (vi aS)]), (vb r1)]) (q0 (.agg #[(vi aM), (vi aN), (vi aO), (vu aP), (vs aQ), (vi aR), (vi aS)]) (q0 (vb r1) (sn (O := (.cells #[(vi 0), (vi 0), (vi 0), (vu 0), (vs ⟨#[]⟩), (vi 0), (vi 0)] 41)) (x_alloc (Try.zeroValue41 _) rfl) ?_)))
 intro p2 w2 hn5
 replace h := h p2 w2 hn5
 obtain ⟨hp1, h⟩ := h
 refine st_set (want0 rfl) (x_storeA (a := p2) (vs := [(vi aM), (vi aN), (vi aO), (vu aP), (vs aQ), (vi aR), (vi aS)]) (by kernel_rfl) (by kernel_rfl) rfl (Try.sizeOf41 _) rfl hp1) ?_
 intro w3 hn1
 replace h := h w3 hn1
 refine q0 (vb r1) (wpL_nil (th_n (wpE_seq (rg (q0 (vp (some p2)) ?_)))))
 obtain ⟨v1, hv5, h⟩ := h
 refine q2 (vi v1) (xl (Try.isAgg3 _) hv5) ?_
 refine sc Try.call71 (h.mono ?_)
 rintro e w4 ⟨rfrom1, rto1, rnum1, rtext1, rkids1, r2, rfl, h⟩
 refine ⟨_, rfl, ?_⟩
 refine q0 (.tuple #[(.agg #[(vb rfrom1), (vb rto1), (vb rnum1), (vb rtext1), (vi rkids1)]), (vb r2)]) (q0 (.agg #[(vb rfrom1), (vb rto1), (vb rnum1), (vb rtext1), (vi rkids1)]) (q0 (vb r2) (sn (O := (.cells #[(vb false), (vb false), (vb false), (vb false), (vi 0)] 117)) (x_alloc (Try.zeroValue117 _) rfl) ?_)))
 intro p3 w5 hn4
 replace h := h p3 w5 hn4
 obtain ⟨hp2, h⟩ := h
 refine st_set (want0 rfl) (x_storeA (a := p3) (vs := [(vb rfrom1), (vb rto1), (vb rnum1), (vb rtext1), (vi rkids1)]) (by kernel_rfl) (by kernel_rfl) rfl (Try.sizeOf117 _) rfl hp2) ?_
 intro w6 hn2
 replace h := h w6 hn2
 refine q0 (vb r2) (wpL_nil (th_n (wpE_seq (rg (q0 (vp (some (p2.add 5))) ?_)))))
 obtain ⟨v2, hv4, h⟩ := h
 refine q2 (vi v2) (xl (Try.isAgg23 _) hv4) (q0 (vp (some (p2.add 6))) ?_)
 obtain ⟨v3, hv3, h⟩ := h
 refine q2 (vi v3) (xl (Try.isAgg23 _) hv3) (st_new (O := (.cells #[(vi v2), (vi v3)] 23)) (fun p => (Sl.mk (some p) 2 2).v) (want0 rfl) (x_buildSlice (vs := #[(0, (vi v2)), (1, (vi v3))]) (by kernel_rfl) (by kernel_rfl)) ?_)
 intro p4 w7 hn3
 replace h := h p4 w7 hn3
 refine q0 (vp (some (p3.add 4))) ?_
 obtain ⟨v4, hv2, h⟩ := h
 refine q2 (vi v4) (xl (Try.isAgg3 _) hv2) ?_
 obtain ⟨s1, hv1, h⟩ := h
 refine q2 s1.v (x_slice (by kernel_rfl) (by kernel_rfl) (by kernel_rfl) (by kernel_rfl) hv1) (q0 s1.v (wpL_nil (th_n (wpE_ret (rs1 Try.results56 (v := s1.v) ?_)))))
 exact ⟨s1, rfl, h⟩
def m_Y1 (p1 : Option Addr) (aZ bA : Int) (bB bC : Int) (bD : ByteArray) (bE bF : Int) (w : World) (K : Int → Int → World → Prop) : Prop :=
 ∀ (p2 : Addr) (w1 : World), New w (.cells #[(vi aZ), (vi bA), (vi bB), (vu bC), (vs bD), (vi bE), (vi bF)] 41) p2 w1 →
 Br (Option.isNone p1)
  (K 0 0 w1)
  (∃ aA aB : Int, ∃ aC aD : Int, ∃ aE : ByteArray, ∃ aF aG : Int, Row w1 p2 [(vi aA), (vi aB), (vi aC), (vu aD), (vs aE), (vi aF), (vi aG)] ∧
  Calls Try.prog 72 #[(vp p1), (.agg #[(vi aA), (vi aB), (vi aC), (vu aD), (vs aE), (vi aF), (vi aG)])] w1 (fun e w2 => ∃ r1 r2 r3 : Int, e = .returned (.tuple #[(vi r1), (vi r2), (vi r3)]) ∧ 
   Br (r3 != 0)
    (K 0 r3 w2)
    (∀ w3, w3 = w2.drew →
    ∃ a1 : Addr, p1 = some a1 ∧
    ∃ v1 : Option Nat, w3.cell? (a1.add 1) = some (.map v1) ∧
    ∃ aH aI : Int, ∃ aJ aK : Int, ∃ aL : ByteArray, ∃ bS bT : Int, Row w3 p2 [(vi aH), (vi aI), (vi aJ), (vu aK), (vs aL), (vi bS), (vi bT)] ∧
    ∃ v2 : Int, ∃ ok1 : Bool, (Instr.lookup 100 (.map v1) (.agg #[(vi aH), (vi aI), (vi aJ), (vu aK), (vs aL), (vi bS), (vi bT)]) true).run Try.prog w3 = .ok (.tuple #[(vi v2), (vb ok1)]) w3 ∧
    Br ok1
     (K v2 0 w3)
     (∃ a2 : Addr, p1 = some a2 ∧
     ∃ v3 : Sl, w3.cell? a2 = some v3.v ∧
     Br (decide ((v3.len : Int) ≥ 65536))
      (K 0 6 w3)
      (∃ C1 : World → Prop, C1 w3.drew ∧ ∀ w4, w4 = w3.drew →
      ∃ a3 : Addr, p1 = some a3 ∧
      ∃ v4 : Sl, (∀ w', C1 w' → w'.cell? a3 = some v4.v) ∧
      ∃ bM bN : Int, ∃ bO bP : Int, ∃ bQ : ByteArray, ∃ cG cH : Int, (∀ w', C1 w' → Row w' p2 [(vi bM), (vi bN), (vi bO), (vu bP), (vs bQ), (vi cG), (vi cH)]) ∧
      ∀ (p3 : Addr) (w5 : World), New w4 (.cells #[(vi bM), (vi bN), (vi bO), (vu bP), (vs bQ), (vi cG), (vi cH), (vi r1), (vi r2)] 112) p3 w5 → C1 w5 ∧
      ∃ s1 : Sl, ∃ w6 : World, (Builtin.append_ #[99, 99] 99 #[v4.v, (Sl.mk (some p3) 1 1).v]).run Try.prog w5 = .ok s1.v w6 ∧ C1 w6 ∧
      ∃ a4 : Addr, p1 = some a4 ∧
      CanW w6 a4 ∧ ∀ w7 : World, w7 = w6.setCell a4 s1.v →
      ∃ a5 : Addr, p1 = some a5 ∧
      ∃ v5 : Sl, w7.cell? a5 = some v5.v ∧
      ∃ C2 : World → Prop, C2 w7.drew ∧ ∀ w8, w8 = w7.drew →
      ∃ a6 : Addr, p1 = some a6 ∧
      ∃ v6 : Option Nat, (∀ w', C2 w' → w'.cell? (a6.add 1) = some (.map v6)) ∧
      ∃ bU bV : Int, ∃ bW bX : Int, ∃ bY : ByteArray, ∃ cS cT : Int, (∀ w', C2 w' → Row w' p2 [(vi bU), (vi bV), (vi bW), (vu bX), (vs bY), (vi cS), (vi cT)]) ∧
      ∃ w9 : World, (Instr.mapUpdate 100 (.map v6) (.agg #[(vi bU), (vi bV), (vi bW), (vu bX), (vs bY), (vi cS), (vi cT)]) (vi (v5.len : Int))).run Try.prog w8 = .ok () w9 ∧
      K (v5.len : Int) 0 w9)))))
theorem w_Y1 (p1 : Option Addr) (aZ bA : Int) (bB bC : Int) (bD : ByteArray) (bE bF : Int) (w : World) (K : Int → Int → World → Prop) (h : m_Y1 p1 aZ bA bB bC bD bE bF w K) :
  Calls Try.prog 59 #[(vp p1), (.agg #[(vi aZ), (vi bA), (vi bB), (vu bC), (vs bD), (vi bE), (vi bF)])] w (fun e w' => ∃ r4 r5 : Int, e = .returned (.tuple #[(vi r4), (vi r5)]) ∧ K r4 r5 w') := by
 unfold m_Y1 at h
 refine cw (args := [(vp p1), (.agg #[(vi aZ), (vi bA), (vi bB), (vu bC), (vs bD), (vi bE), (vi bF)])]) Try.func59 Try.ntmps59 (wpE_seq (rg (sn (O := (.cells #[(vi aZ), (vi bA), (vi bB), (vu bC), (vs bD), (vi bE), (vi bF)] 41)) xb ?_)))
 intro p2 w1 hn3
 replace h := h p2 w1 hn3
 refine q0 (vi 0) (q0 (vi 0) (wpL_nil (th_n (wpE_seq (wpE_seq (rg (q0 (vp p1) (q2 (vb (Option.isNone p1)) (x_ptreq (by kernel_rfl) rfl Try.underlying28) (wpL_nil (th_n ?_))))))))))
 refine wpE_cond (t := (Option.isNone p1)) (by kernel_rfl) (fun hc1 => ?_) (fun hc1 => ?_)
 ·replace h := h.1 hc1
  refine wpE_seq (rg (q0 (vi 0) (q0 (vi 0) (wpL_nil (th_n (wpE_ret (th_r (res2 (.inl rfl) Try.results59 (v := (vi 0)) (by kernel_rfl) (v' := (vi 0)) (by kernel_rfl) ?_))))))))
  exact ⟨0, 0, rfl, h⟩
 ·replace h := h.2 hc1
  refine wpE_skip (th_n (wpE_seq (rg (q0 (vp p1) ?_))))
  obtain ⟨aA, aB, aC, aD, aE, aF, aG, hv12, h⟩ := h
  refine q2 (.agg #[(vi aA), (vi aB), (vi aC), (vu aD), (vs aE), (vi aF), (vi aG)]) (x_loadA (a := p2) (vs := [(vi aA), (vi aB), (vi aC), (vu aD), (vs aE), (vi aF), (vi aG)]) (by kernel_rfl) (Try.isAgg41 _) (Try.sizeOf41 _) rfl hv12) ?_
  refine sc Try.call72 (h.mono ?_)
  rintro e w2 ⟨r1, r2, r3, rfl, h⟩
  refine ⟨_, rfl, ?_⟩
  refine q0 (.tuple #[(vi r1), (vi r2), (vi r3)]) (q0 (vi r1) (q0 (vi r2) (q0 (vi r3) (q0 (vi r1) (q0 (vi r2) (q0 (vi r3) (wpL_nil (th_n (wpE_seq (wpE_seq (rg ?_)))))))))))
  refine q0 (vi r3) (q0 (vb (r3 != 0)) (wpL_nil (th_n ?_)))
  refine wpE_cond (t := (r3 != 0)) (by kernel_rfl) (fun hc2 => ?_) (fun hc2 => ?_)
  ·replace h := h.1 hc2
   refine wpE_seq (rg (q0 (vi r3) (q0 (vi 0) (q0 (vi r3) (wpL_nil (th_n (wpE_ret (th_r (res2 (.inl rfl) Try.results59 (v := (vi 0)) (by kernel_rfl) (v' := (vi r3)) (by kernel_rfl) ?_)))))))))
   exact ⟨0, r3, rfl, h⟩
  ·replace h := h.2 hc2
   refine wpE_skip (th_n (wpE_seq (wpE_seq (wpE_drawnQ (by kernel_rfl) (by kernel_rfl) (by kernel_rfl) (by kernel_rfl) ?_))))
   intro w3 hw3
   replace h := h w3 hw3
   refine qq 0 (vp p1) Kp0 (qg 1 ?_)
   obtain ⟨a1, hp1, h⟩ := h
   refine sxQ (v := (vp (some a1))) Kp1 (want0 rfl) rfl (x_nilCheck (p := p1) (by kernel_rfl) hp1) (qq 2 (vp (some (a1.add 1))) Kp2 (qg 3 ?_))
   obtain ⟨v1, hv11, h⟩ := h
   refine sxQ (v := (.map v1)) Kp3 (want0 rfl) rfl (xl (Try.isAgg100 _) hv11) (qg 4 ?_)
   obtain ⟨aH, aI, aJ, aK, aL, bS, bT, hv10, h⟩ := h
   refine sxQ (v := (.agg #[(vi aH), (vi aI), (vi aJ), (vu aK), (vs aL), (vi bS), (vi bT)])) Kp4 (want0 rfl) rfl (x_loadA (a := p2) (vs := [(vi aH), (vi aI), (vi aJ), (vu aK), (vs aL), (vi bS), (vi bT)]) (by kernel_rfl) (Try.isAgg41 _) (Try.sizeOf41 _) rfl hv10) (qg 5 ?_)
   obtain ⟨v2, ok1, hv9, h⟩ := h
   refine sxQ (v := (.tuple #[(vi v2), (vb ok1)])) Kp5 (want0 rfl) rfl (x_lookup (by kernel_rfl) (by kernel_rfl) hv9) (qq 6 (.tuple #[(vi v2), (vb ok1)]) Kp6 (qq 7 (vi v2) Kp7 (qq 8 (vb ok1) Kp8 (qq 9 (vi v2) Kp9 (qq 10 (vb ok1) (pickA (S8 (pickS (pickS pickZ)))) (wn (th_n (wpE_seq (rg (q0 (vb ok1) (wpL_nil ?_)))))))))))
   refine th_n ?_
   refine wpE_cond (t := ok1) (by kernel_rfl) (fun hc3 => ?_) (fun hc3 => ?_)
   ·replace h := h.1 hc3
    refine wpE_seq (rg (q0 (vi v2) (q0 (vi v2) (q0 (vi 0) (wpL_nil (th_n (wpE_ret (th_r (res2 (.inl rfl) Try.results59 (v := (vi v2)) (by kernel_rfl) (v' := (vi 0)) (by kernel_rfl) ?_)))))))))
    exact ⟨v2, 0, rfl, h⟩
   ·replace h := h.2 hc3
    refine wpE_skip (th_n (wpE_seq (wpE_seq (rg (q0 (vp p1) ?_)))))
    obtain ⟨a2, hp2, h⟩ := h
    refine q2 (vp (some a2)) (x_nilCheck (p := p1) (by kernel_rfl) hp2) (q0 (vp (some a2)) ?_)
    obtain ⟨v3, hv8, h⟩ := h
    refine q2 v3.v (xl (Try.isAgg99 _) hv8) (q0 (vi (v3.len : Int)) (q0 (vb (decide ((v3.len : Int) ≥ 65536))) (wpL_nil (th_n ?_))))
    refine wpE_cond (t := (decide ((v3.len : Int) ≥ 65536))) (by kernel_rfl) (fun hc4 => ?_) (fun hc4 => ?_)
    ·replace h := h.1 hc4
     refine wpE_seq (rg (q0 (vi 0) (q0 (vi 6) (wpL_nil (th_n (wpE_ret (th_r (res2 (.inl rfl) Try.results59 (v := (vi 0)) (by kernel_rfl) (v' := (vi 6)) (by kernel_rfl) ?_))))))))
     exact ⟨0, 6, rfl, h⟩
    ·replace h := h.2 hc4
     refine wpE_skip (th_n (wpE_seq ?_))
     obtain ⟨C1, hC, h⟩ := h
     refine wpE_drawnC C1 [9, 10, 13] [13] (by kernel_rfl) (by kernel_rfl) (by kernel_rfl) (by kernel_rfl) hC ?_
     clear hC
     intro w4 hw4
     replace h := h w4 hw4
     refine qx 0 (vp p1) Kp0 (qx 1 (vp p1) Kp1 (qg 2 ?_))
     obtain ⟨a3, hp3, h⟩ := h
     refine sy (v := (vp (some a3))) Kp2 (fun _ _ => (x_nilCheck (p := p1) (by kernel_rfl) hp3)) (qx 3 (vp (some a3)) Kp3 (qg 4 ?_))
     obtain ⟨v4, hv7, h⟩ := h
     refine sy (v := v4.v) Kp4 (fun w' hw' => (xl (Try.isAgg99 _) (hv7 w' hw'))) (qg 5 ?_)
     obtain ⟨bM, bN, bO, bP, bQ, cG, cH, hv6, h⟩ := h
     refine sy (v := (.agg #[(vi bM), (vi bN), (vi bO), (vu bP), (vs bQ), (vi cG), (vi cH)])) Kp5 (fun w' hw' => (x_loadA (a := p2) (vs := [(vi bM), (vi bN), (vi bO), (vu bP), (vs bQ), (vi cG), (vi cH)]) (by kernel_rfl) (Try.isAgg41 _) (Try.sizeOf41 _) rfl (hv6 w' hw'))) (qx 6 (vi r1) Kp6 (qx 7 (vi r2) Kp7 (qx 8 (.agg #[(vi bM), (vi bN), (vi bO), (vu bP), (vs bQ), (vi cG), (vi cH), (vi r1), (vi r2)]) Kp8 (lg 9 (sl_new (O := (.cells #[(vi bM), (vi bN), (vi bO), (vu bP), (vs bQ), (vi cG), (vi cH), (vi r1), (vi r2)] 112)) (fun p => (Sl.mk (some p) 1 1).v) Kp9 (want0 rfl) (by kernel_rfl) (x_buildSlice (vs := #[(0, (.agg #[(vi bM), (vi bN), (vi bO), (vu bP), (vs bQ), (vi cG), (vi cH), (vi r1), (vi r2)]))]) (by kernel_rfl) (by kernel_rfl)) ?_)))))
     intro p3 w5 hn2
     replace h := h p3 w5 hn2
     refine ⟨.inr h.1, ?_⟩
     replace h := h.2
     refine lg 10 ?_
     obtain ⟨s1, w6, hv5, hC, h⟩ := h
     refine sl (v := s1.v) (pickA (S8 (pickS (pickS pickZ)))) (want0 rfl) (by kernel_rfl) (x_builtin (args := #[v4.v, (Sl.mk (some p3) 1 1).v]) (by kernel_rfl) (fun _ => rfl) hv5) (.inr hC) ?_
     clear hC
     refine qg 11 ?_
     obtain ⟨a4, hp4, h⟩ := h
     refine sy (v := (vp (some a4))) (pickA (S8 (pickS (pickS (pickS pickZ))))) (fun _ _ => (x_nilCheck (p := p1) (by kernel_rfl) hp4)) (qx 12 (vp (some a4)) (pickA (S8 (S4 pickZ))) (lg 13 ?_))
     obtain ⟨hp5, h⟩ := h
     refine sl_t (pickA (S8 (S4 (pickS pickZ)))) (xs (v := s1.v) (Try.sizeOf99 _) hp5) ?_
     intro w7 hn1
     replace h := h w7 hn1
     refine ⟨.inl (by kernel_rfl), ?_⟩
     refine wn (th_n (wpE_seq (rg (q0 (vp p1) ?_))))
     obtain ⟨a5, hp6, h⟩ := h
     refine q2 (vp (some a5)) (x_nilCheck (p := p1) (by kernel_rfl) hp6) (q0 (vp (some a5)) ?_)
     obtain ⟨v5, hv4, h⟩ := h
     refine q2 v5.v (xl (Try.isAgg99 _) hv4) (q0 (vi (v5.len : Int)) (q0 (vi (v5.len : Int)) (wpL_nil (th_n (wpE_seq ?_)))))
     obtain ⟨C2, hC, h⟩ := h
     refine wpE_drawnC C2 [6] [6] (by kernel_rfl) (by kernel_rfl) (by kernel_rfl) (by kernel_rfl) hC ?_
     clear hC
     intro w8 hw8
     replace h := h w8 hw8
     refine qx 0 (vp p1) Kp0 (qg 1 ?_)
     obtain ⟨a6, hp7, h⟩ := h
     refine sy (v := (vp (some a6))) Kp1 (fun _ _ => (x_nilCheck (p := p1) (by kernel_rfl) hp7)) (qx 2 (vp (some (a6.add 1))) Kp2 (qg 3 ?_))
     obtain ⟨v6, hv3, h⟩ := h
     refine sy (v := (.map v6)) Kp3 (fun w' hw' => (xl (Try.isAgg100 _) (hv3 w' hw'))) (qg 4 ?_)
     obtain ⟨bU, bV, bW, bX, bY, cS, cT, hv2, h⟩ := h
     refine sy (v := (.agg #[(vi bU), (vi bV), (vi bW), (vu bX), (vs bY), (vi cS), (vi cT)])) Kp4 (fun w' hw' => (x_loadA (a := p2) (vs := [(vi bU), (vi bV), (vi bW), (vu bX), (vs bY), (vi cS), (vi cT)]) (by kernel_rfl) (Try.isAgg41 _) (Try.sizeOf41 _) rfl (hv2 w' hw'))) (qx 5 (vi (v5.len : Int)) Kp5 (lg 6 ?_))
     obtain ⟨w9, hv1, h⟩ := h
     refine sl_skip Kp6 (want0 rfl) (by kernel_rfl) (x_mapUpdate (by kernel_rfl) (by kernel_rfl) (by kernel_rfl) hv1) (.inl (by kernel_rfl)) (wn (th_n (wpE_seq (rg (q0 (vi (v5.len : Int)) (q0 (vi (v5.len : Int)) (q0 (vi 0) (wpL_nil (th_n (wpE_ret (res2 (.inl rfl) Try.results59 (v := (vi (v5.len : Int))) (by kernel_rfl) (v' := (vi 0)) (by kernel_rfl) ?_)))))))))))
     exact ⟨(v5.len : Int), 0, rfl, h⟩
def m_L_l4 (inside1 : Int) (seen1 : Option Addr) (p1 : Addr) (e3 i1 : Int) (wl1 : World) (Kc4 : Int → Int → World → Prop) (K : Int → World → Prop) : Prop :=
 ∃ v2 : Sl, wl1.cell? (p1.add 5) = some v2.v ∧
 Br (decide (i1 < (v2.len : Int)))
  (Br (e3 == 0)
   (∃ v3 : Sl, wl1.cell? (p1.add 5) = some v3.v ∧
   ∃ a3 : Addr, At v3 i1 6 a3 ∧
   ∃ bM bN : Int, ∃ bO bP : Int, ∃ bQ : ByteArray, ∃ bR : Sl, Row wl1 a3 [(vi bM), (vi bN), (vi bO), (vu bP), (vs bQ), bR.v] ∧
   Calls Try.prog 60 #[(.agg #[(vi bM), (vi bN), (vi bO), (vu bP), (vs bQ), bR.v]), (vi (IntKind.i64.wrap (inside1 + 1))), (vp seen1)] wl1 (fun e w9 => ∃ r2 : Int, e = .returned (vi r2) ∧ 
    Kc4 r2 (IntKind.i64.wrap (i1 + 1)) w9))
   (K e3 wl1))
  (K e3 wl1)
def m_L_j3 (inside1 : Int) (seen1 : Option Addr) (p1 : Addr) (e2 : Int) (w : World) (K : Int → World → Prop) : Prop :=
 ∃ (I1 : Int → Int → World → Prop) (mu1 : Int → Int → World → Nat), I1 e2 0 w ∧
  ∀ (e3 i1 : Int) (wl1 : World), I1 e3 i1 wl1 → m_L_l4 inside1 seen1 p1 e3 i1 wl1 (fun y'0 y'1 w' => I1 y'0 y'1 w' ∧ mu1 y'0 y'1 w' < mu1 e3 i1 wl1) K
def m_L_j2 (inside1 : Int) (seen1 : Option Addr) (p1 p2 p3 : Addr) (e1 : Int) (w : World) (K : Int → World → Prop) : Prop :=
 Br (e1 == 0)
  (∃ vfrom1 vto1 : Bool, ∃ vnum1 vtext1 : Bool, ∃ vkids1 : Int, Row w p3 [(vb vfrom1), (vb vto1), (vb vnum1), (vb vtext1), (vi vkids1)] ∧
  ∃ bU bV : Int, ∃ bW bX : Int, ∃ bY : ByteArray, ∃ bS bT : Int, Row w p2 [(vi bU), (vi bV), (vi bW), (vu bX), (vs bY), (vi bS), (vi bT)] ∧
  Calls Try.prog 75 #[(.agg #[(vb vfrom1), (vb vto1), (vb vnum1), (vb vtext1), (vi vkids1)]), (.agg #[(vi bU), (vi bV), (vi bW), (vu bX), (vs bY), (vi bS), (vi bT)])] w (fun e w10 => ∃ r3 : Int, e = .returned (vi r3) ∧ 
   m_L_j3 inside1 seen1 p1 r3 w10 K))
  (m_L_j3 inside1 seen1 p1 e1 w K)
def m_L_j1 (inside1 : Int) (seen1 : Option Addr) (p1 : Addr) (w : World) (K : Int → World → Prop) : Prop :=
 ∃ a1 : Addr, seen1 = some a1 ∧
 ∃ v1 : Int, w.cell? a1 = some (vi v1) ∧
 ∃ a2 : Addr, seen1 = some a2 ∧
 CanW w a2 ∧ ∀ w2 : World, w2 = w.setCell a2 (vi (IntKind.i64.wrap (v1 + 1))) →
 ∃ aA aB : Int, ∃ aC aD : Int, ∃ aE : ByteArray, ∃ bG : Sl, Row w2 p1 [(vi aA), (vi aB), (vi aC), (vu aD), (vs aE), bG.v] ∧
 Calls Try.prog 73 #[(.agg #[(vi aA), (vi aB), (vi aC), (vu aD), (vs aE), bG.v])] w2 (fun e w3 => ∃ aM aN : Int, ∃ aO aP : Int, ∃ aQ : ByteArray, ∃ aR aS : Int, e = .returned (.agg #[(vi aM), (vi aN), (vi aO), (vu aP), (vs aQ), (vi aR), (vi aS)]) ∧ 
  ∀ (p2 : Addr) (w4 : World), New w3 (.cells #[(vi 0), (vi 0), (vi 0), (vu 0), (vs ⟨#[]⟩), (vi 0), (vi 0)] 41) p2 w4 →
  (∀ j, j < 7 → CanW w4 (p2.add j)) ∧ ∀ w5 : World, w5 = storeRow w4 p2 [(vi aM), (vi aN), (vi aO), (vu aP), (vs aQ), (vi aR), (vi aS)] →
  ∃ aH aI : Int, ∃ aJ aK : Int, ∃ aL : ByteArray, ∃ aF aG : Int, Row w5 p2 [(vi aH), (vi aI), (vi aJ), (vu aK), (vs aL), (vi aF), (vi aG)] ∧
  Calls Try.prog 74 #[(.agg #[(vi aH), (vi aI), (vi aJ), (vu aK), (vs aL), (vi aF), (vi aG)])] w5 (fun e w6 => ∃ rfrom1 rto1 : Bool, ∃ rnum1 rtext1 : Bool, ∃ rkids1 r1 : Int, e = .returned (.tuple #[(.agg #[(vb rfrom1), (vb rto1), (vb rnum1), (vb rtext1), (vi rkids1)]), (vi r1)]) ∧ 
   ∀ (p3 : Addr) (w7 : World), New w6 (.cells #[(vb false), (vb false), (vb false), (vb false), (vi 0)] 117) p3 w7 →
   (∀ j, j < 5 → CanW w7 (p3.add j)) ∧ ∀ w8 : World, w8 = storeRow w7 p3 [(vb rfrom1), (vb rto1), (vb rnum1), (vb rtext1), (vi rkids1)] →
   Br (r1 == 0)
    (∃ v4 : Sl, w8.cell? (p1.add 5) = some v4.v ∧
    ∃ v5 : Int, w8.cell? (p3.add 4) = some (vi v5) ∧
    Br (((v4.len : Int) : Int) != v5)
     (m_L_j2 inside1 seen1 p1 p2 p3 53 w8 K)
     (m_L_j2 inside1 seen1 p1 p2 p3 r1 w8 K))
    (m_L_j2 inside1 seen1 p1 p2 p3 r1 w8 K)))
def m_L (aT aU : Int) (aV aW : Int) (aX : ByteArray) (aY : Sl) (inside1 : Int) (seen1 : Option Addr) (w : World) (K : Int → World → Prop) : Prop :=
 ∀ (p1 : Addr) (w1 : World), New w (.cells #[(vi aT), (vi aU), (vi aV), (vu aW), (vs aX), aY.v] 63) p1 w1 →
 ∃ a4 : Addr, seen1 = some a4 ∧
 ∃ v6 : Int, w1.cell? a4 = some (vi v6) ∧
 Br (decide (v6 ≥ 4096))
  (K 52 w1)
  (Br (decide (inside1 ≥ 64))
   (K 52 w1)
   (m_L_j1 inside1 seen1 p1 w1 K))
theorem w_L (aT aU : Int) (aV aW : Int) (aX : ByteArray) (aY : Sl) (inside1 : Int) (seen1 : Option Addr) (w : World) (K : Int → World → Prop) (h : m_L aT aU aV aW aX aY inside1 seen1 w K) :
  Calls Try.prog 60 #[(.agg #[(vi aT), (vi aU), (vi aV), (vu aW), (vs aX), aY.v]), (vi inside1), (vp seen1)] w (fun e w' => ∃ r4 : Int, e = .returned (vi r4) ∧ K r4 w') := by
 unfold m_L at h
 refine cw (args := [(.agg #[(vi aT), (vi aU), (vi aV), (vu aW), (vs aX), aY.v]), (vi inside1), (vp seen1)]) Try.func60 Try.ntmps60 (wpE_seq (rg (sn (O := (.cells #[(vi aT), (vi aU), (vi aV), (vu aW), (vs aX), aY.v] 63)) xb ?_)))
 intro p1 w1 hn6
 replace h := h p1 w1 hn6
 refine q0 (vi 0) (wpL_nil (th_n ?_))
 refine wpE_join (fun ρ w => Has ρ [(1, (vi inside1)), (2, (vp seen1)), (3, (vp (some p1)))] ∧ m_L_j1 inside1 seen1 p1 w K) ?_ ?_
 ·rintro ρ w ⟨hH, h⟩
  unfold m_L_j1 at h
  refine wpE_has hH ?_
  clear hH
  refine wpE_seq (rg (q0 (vp seen1) ?_))
  obtain ⟨a1, hp1, h⟩ := h
  refine q2 (vp (some a1)) (x_nilCheck (p := seen1) (by kernel_rfl) hp1) ?_
  obtain ⟨v1, hv11, h⟩ := h
  refine q2 (vi v1) (xl (Try.isAgg3 _) hv11) (q0 (vi (IntKind.i64.wrap (v1 + 1))) ?_)
  obtain ⟨a2, hp2, h⟩ := h
  refine q2 (vp (some a2)) (x_nilCheck (p := seen1) (by kernel_rfl) hp2) ?_
  obtain ⟨hp3, h⟩ := h
  refine st_set (want0 rfl) (x_store (a := a2) (v := (vi (IntKind.i64.wrap (v1 + 1)))) (by kernel_rfl) (by kernel_rfl) rfl (Try.sizeOf3 _) hp3) ?_
  intro w2 hn1
  replace h := h w2 hn1
  refine wpL_nil (th_n (wpE_seq (rg ?_)))
  obtain ⟨aA, aB, aC, aD, aE, bG, hv10, h⟩ := h
  refine q2 (.agg #[(vi aA), (vi aB), (vi aC), (vu aD), (vs aE), bG.v]) (x_loadA (a := p1) (vs := [(vi aA), (vi aB), (vi aC), (vu aD), (vs aE), bG.v]) (by kernel_rfl) (Try.isAgg63 _) (Try.sizeOf63 _) rfl hv10) ?_
  refine sc Try.call73 (h.mono ?_)
  rintro e w3 ⟨aM, aN, aO, aP, aQ, aR, aS, rfl, h⟩
  refine ⟨_, rfl, ?_⟩
  refine sn (O := (.cells #[(vi 0), (vi 0), (vi 0), (vu 0), (vs ⟨#[]⟩), (vi 0), (vi 0)] 41)) (x_alloc (Try.zeroValue41 _) rfl) ?_
  intro p2 w4 hn5
  replace h := h p2 w4 hn5
  obtain ⟨hp4, h⟩ := h
  refine st_set (want0 rfl) (x_storeA (a := p2) (vs := [(vi aM), (vi aN), (vi aO), (vu aP), (vs aQ), (vi aR), (vi aS)]) (by kernel_rfl) (by kernel_rfl) rfl (Try.sizeOf41 _) rfl hp4) ?_
  intro w5 hn2
  replace h := h w5 hn2
  refine wpL_nil (th_n (wpE_seq (rg ?_)))
  obtain ⟨aH, aI, aJ, aK, aL, aF, aG, hv9, h⟩ := h
  refine q2 (.agg #[(vi aH), (vi aI), (vi aJ), (vu aK), (vs aL), (vi aF), (vi aG)]) (x_loadA (a := p2) (vs := [(vi aH), (vi aI), (vi aJ), (vu aK), (vs aL), (vi aF), (vi aG)]) (by kernel_rfl) (Try.isAgg41 _) (Try.sizeOf41 _) rfl hv9) ?_
  refine sc Try.call74 (h.mono ?_)
  rintro e w6 ⟨rfrom1, rto1, rnum1, rtext1, rkids1, r1, rfl, h⟩
  refine ⟨_, rfl, ?_⟩
  refine q0 (.tuple #[(.agg #[(vb rfrom1), (vb rto1), (vb rnum1), (vb rtext1), (vi rkids1)]), (vi r1)]) (q0 (.agg #[(vb rfrom1), (vb rto1), (vb rnum1), (vb rtext1), (vi rkids1)]) (q0 (vi r1) (sn (O := (.cells #[(vb false), (vb false), (vb false), (vb false), (vi 0)] 117)) (x_alloc (Try.zeroValue117 _) rfl) ?_)))
  intro p3 w7 hn4
  replace h := h p3 w7 hn4
  obtain ⟨hp5, h⟩ := h
  refine st_set (want0 rfl) (x_storeA (a := p3) (vs := [(vb rfrom1), (vb rto1), (vb rnum1), (vb rtext1), (vi rkids1)]) (by kernel_rfl) (by kernel_rfl) rfl (Try.sizeOf117 _) rfl hp5) ?_
  intro w8 hn3
  replace h := h w8 hn3
  refine q0 (vi r1) (wpL_nil (th_n ?_))
  refine wpE_join (fun ρ w => ∃ e1 : Int, Has ρ [(1, (vi inside1)), (2, (vp seen1)), (3, (vp (some p1))), (7, (vp (some p2))), (8, (vp (some p3))), (9, (vi e1))] ∧ m_L_j2 inside1 seen1 p1 p2 p3 e1 w K) ?_ ?_
  ·rintro ρ w ⟨e1, hH, h⟩
   unfold m_L_j2 at h
   refine wpE_has hH ?_
   clear hH
   refine wpE_join (fun ρ w => ∃ e2 : Int, Has ρ [(1, (vi inside1)), (2, (vp seen1)), (3, (vp (some p1))), (9, (vi e2))] ∧ m_L_j3 inside1 seen1 p1 e2 w K) ?_ ?_
   ·rintro ρ w ⟨e2, hH, h⟩
    unfold m_L_j3 at h
    refine wpE_has hH ?_
    clear hH
    refine wpE_seq (wpE_seq (rg (q0 (vi 0) (wpL_nil (th_n (wpE_block ?_))))))
    obtain ⟨I1, mu1, h0, hr⟩ := h
    refine wpE_loop (σ := Int × Int × World) (fun s ρ w => w = s.2.2 ∧ Has ρ [(1, (vi inside1)), (2, (vp seen1)), (3, (vp (some p1))), (9, (vi s.1)), (10, (vi s.2.1))] ∧ I1 s.1 s.2.1 s.2.2) (fun s => mu1 s.1 s.2.1 s.2.2) (e2, 0, w) ⟨rfl, hm, h0⟩ ?_
    rintro ⟨e3, i1, wl1⟩ ρ w ⟨hw, hH, hI⟩
    obtain rfl : wl1 = w := (show w = wl1 from hw).symm
    replace hH : Has ρ [(1, (vi inside1)), (2, (vp seen1)), (3, (vp (some p1))), (9, (vi e3)), (10, (vi i1))] := hH
    have h := hr e3 i1 wl1 hI
    clear hr h0
    unfold m_L_l4 at h
    refine wpE_has hH ?_
    clear hH hI
    refine wpE_seq (wpE_seq (rg (q0 (vi i1) (q0 (vp (some (p1.add 5))) ?_))))
    obtain ⟨v2, hv4, h⟩ := h
    refine q2 v2.v (xl (Try.isAgg22 _) hv4) (q0 (vi (v2.len : Int)) (q0 (vb (decide (i1 < (v2.len : Int)))) (q0 (vb (decide (i1 < (v2.len : Int)))) ?_)))
    rcases Bool.eq_false_or_eq_true (decide (i1 < (v2.len : Int))) with hg1 | hg1
    ·replace h := h.1 hg1
     refine q1 (vi e3) (want1 rfl (yD 51 hg1)) (q1 (vb (e3 == 0)) (want1 rfl (yD 51 hg1)) (q2 (vb (e3 == 0)) (xT hg1) (wpL_nil (th_n ?_))))
     refine wpE_cond (t := (e3 == 0)) (by kernel_rfl) (fun hc1 => ?_) (fun hc1 => ?_)
     ·replace h := h.1 hc1
      refine wpE_skip (th_n (wpE_seq (wpE_block (rg (q0 (vp (some (p1.add 5))) ?_)))))
      obtain ⟨v3, hv3, h⟩ := h
      refine q2 v3.v (xl (Try.isAgg22 _) hv3) (q0 (vi i1) ?_)
      obtain ⟨a3, hv2, h⟩ := h
      refine q2 (vp (some a3)) (xi (Try.runUnderlying22 _) (Try.sizeOf63 _) hv2) ?_
      obtain ⟨bM, bN, bO, bP, bQ, bR, hv1, h⟩ := h
      refine q2 (.agg #[(vi bM), (vi bN), (vi bO), (vu bP), (vs bQ), bR.v]) (x_loadA (a := a3) (vs := [(vi bM), (vi bN), (vi bO), (vu bP), (vs bQ), bR.v]) (by kernel_rfl) (Try.isAgg63 _) (Try.sizeOf63 _) rfl hv1) (q0 (vi inside1) (q0 (vi (IntKind.i64.wrap (inside1 + 1))) (q0 (vp seen1) ?_)))
      refine sc Try.call60 (h.mono ?_)
      rintro e w9 ⟨r2, rfl, h⟩
      refine ⟨_, rfl, ?_⟩
      refine q0 (vi r2) (wpL_nil (bl_n (th_n (rg (q0 (vi i1) (q0 (vi (IntKind.i64.wrap (i1 + 1))) (q0 (vi (IntKind.i64.wrap (i1 + 1))) (wpL_nil (th_n ?_)))))))))
      exact ⟨(r2, (IntKind.i64.wrap (i1 + 1)), w9), ⟨rfl, hm, h.1⟩, h.2⟩
     ·replace h := h.2 hc1
      refine wpE_exit (th_x (th_x (bl_eq (th_n (wpE_seq (rg (q0 (vi e3) (q0 (vi e3) (wpL_nil (th_n (wpE_ret ?_)))))))))))
      refine rs1 Try.results60 (v := (vi e3)) ?_
      exact ⟨e3, rfl, h⟩
    ·replace h := h.2 hg1
     refine sk (yD 51 hg1) (sk (yD 51 hg1) (q2 (vb false) (xF hg1) (wpL_nil (th_n (wpE_condF (by kernel_rfl) (wpE_exit (th_x (th_x (bl_eq (th_n (wpE_seq ?_)))))))))))
     refine rg (q0 (vi e3) (q0 (vi e3) (wpL_nil (th_n (wpE_ret (rs1 Try.results60 (v := (vi e3)) ?_))))))
     exact ⟨e3, rfl, h⟩
   ·skip
    refine wpE_seq (rg (q0 (vi e1) (q0 (vb (e1 == 0)) (wpL_nil (th_n ?_)))))
    refine wpE_cond (t := (e1 == 0)) (by kernel_rfl) (fun hc2 => ?_) (fun hc2 => ?_)
    ·replace h := h.1 hc2
     refine rg ?_
     obtain ⟨vfrom1, vto1, vnum1, vtext1, vkids1, hv6, h⟩ := h
     refine q2 (.agg #[(vb vfrom1), (vb vto1), (vb vnum1), (vb vtext1), (vi vkids1)]) (x_loadA (a := p3) (vs := [(vb vfrom1), (vb vto1), (vb vnum1), (vb vtext1), (vi vkids1)]) (by kernel_rfl) (Try.isAgg117 _) (Try.sizeOf117 _) rfl hv6) ?_
     obtain ⟨bU, bV, bW, bX, bY, bS, bT, hv5, h⟩ := h
     refine q2 (.agg #[(vi bU), (vi bV), (vi bW), (vu bX), (vs bY), (vi bS), (vi bT)]) (x_loadA (a := p2) (vs := [(vi bU), (vi bV), (vi bW), (vu bX), (vs bY), (vi bS), (vi bT)]) (by kernel_rfl) (Try.isAgg41 _) (Try.sizeOf41 _) rfl hv5) ?_
     refine sc Try.call75 (h.mono ?_)
     rintro e w10 ⟨r3, rfl, h⟩
     refine ⟨_, rfl, ?_⟩
     refine q0 (vi r3) (wpL_nil (th_n ?_))
     exact ⟨r3, hm, h⟩
    ·replace h := h.2 hc2
     refine wpE_skip (th_n ?_)
     exact ⟨e1, hm, h⟩
  ·skip
   refine wpE_seq (rg (q0 (vi r1) (q0 (vb (r1 == 0)) (q0 (vb (r1 == 0)) ?_))))
   rcases Bool.eq_false_or_eq_true (r1 == 0) with hg2 | hg2
   ·replace h := h.1 hg2
    refine q1 (vp (some (p1.add 5))) (want1 rfl (yD 33 hg2)) ?_
    obtain ⟨v4, hv8, h⟩ := h
    refine stp (v := v4.v) (want1 rfl (yD 33 hg2)) (xl (Try.isAgg22 _) hv8) (q1 (vi (v4.len : Int)) (want1 rfl (yD 33 hg2)) (q1 (vp (some (p3.add 4))) (want1 rfl (yD 33 hg2)) ?_))
    obtain ⟨v5, hv7, h⟩ := h
    refine stp (v := (vi v5)) (want1 rfl (yD 33 hg2)) (xl (Try.isAgg3 _) hv7) (q1 (vb (((v4.len : Int) : Int) != v5)) (want1 rfl (yD 33 hg2)) (q2 (vb (((v4.len : Int) : Int) != v5)) (xT hg2) (wpL_nil (th_n ?_))))
    refine wpE_cond (t := (((v4.len : Int) : Int) != v5)) (by kernel_rfl) (fun hc3 => ?_) (fun hc3 => ?_)
    ·replace h := h.1 hc3
     refine rg (q0 (vi 53) (wpL_nil (th_n ?_)))
     exact ⟨53, hm, h⟩
    ·replace h := h.2 hc3
     refine wpE_skip (th_n ?_)
     exact ⟨r1, hm, h⟩
   ·replace h := h.2 hg2
    refine sk (yD 33 hg2) (sk (yD 33 hg2) (sk (yD 33 hg2) (sk (yD 33 hg2) (sk (yD 33 hg2) (sk (yD 33 hg2) (q2 (vb false) (xF hg2) (wpL_nil (th_n (wpE_condF (by kernel_rfl) (wpE_skip (th_n ?_)))))))))))
    exact ⟨r1, hm, h⟩
 ·skip
  refine wpE_seq (rg (q0 (vp seen1) ?_))
  obtain ⟨a4, hp6, h⟩ := h
  refine q2 (vp (some a4)) (x_nilCheck (p := seen1) (by kernel_rfl) hp6) ?_
  obtain ⟨v6, hv12, h⟩ := h
  refine q2 (vi v6) (xl (Try.isAgg3 _) hv12) (q0 (vb (decide (v6 ≥ 4096))) (q0 (vb (decide (v6 ≥ 4096))) ?_))
  rcases Bool.eq_false_or_eq_true (decide (v6 ≥ 4096)) with hg3 | hg3
  ·replace h := h.1 hg3
   refine sk (yD 15 hg3) (sk (yD 15 hg3) (q2 (vb true) (xT hg3) (wpL_nil (th_n (wpE_condT (by kernel_rfl) (wpE_seq (rg (q0 (vi 52) (wpL_nil (th_n (wpE_ret ?_)))))))))))
   refine th_r (rs1 Try.results60 (v := (vi 52)) ?_)
   exact ⟨52, rfl, h⟩
  ·replace h := h.2 hg3
   refine q1 (vi inside1) (want1 rfl (yD 15 hg3)) (q1 (vb (decide (inside1 ≥ 64))) (want1 rfl (yD 15 hg3)) (q2 (vb (decide (inside1 ≥ 64))) (xF hg3) (wpL_nil (th_n ?_))))
   refine wpE_cond (t := (decide (inside1 ≥ 64))) (by kernel_rfl) (fun hc4 => ?_) (fun hc4 => ?_)
   ·replace h := h.1 hc4
    refine wpE_seq (rg (q0 (vi 52) (wpL_nil (th_n (wpE_ret (th_r (rs1 Try.results60 (v := (vi 52)) ?_)))))))
    exact ⟨52, rfl, h⟩
   ·replace h := h.2 hc4
    refine wpE_skip (th_n ?_)
    exact ⟨hm, h⟩
def m_D1_l1 (p1 : Option Addr) (p3 p4 : Addr) (v1 : Sl) (x1 : Int) (wl1 : World) (Kc1 : Int → World → Prop) (K : Int → Int → World → Prop) : Prop :=
 Br (decide (x1 < (v1.len : Int)))
  (∃ a1 : Addr, At v1 x1 6 a1 ∧
  ∃ aH aI : Int, ∃ aJ aK : Int, ∃ aL : ByteArray, ∃ bR : Sl, Row wl1 a1 [(vi aH), (vi aI), (vi aJ), (vu aK), (vs aL), bR.v] ∧
  ∀ (p5 : Addr) (w6 : World), New wl1 (.cells #[(vi 0), (vi 0), (vi 0), (vu 0), (vs ⟨#[]⟩), Sl.nil.v] 63) p5 w6 →
  (∀ j, j < 6 → CanW w6 (p5.add j)) ∧ ∀ w7 : World, w7 = storeRow w6 p5 [(vi aH), (vi aI), (vi aJ), (vu aK), (vs aL), bR.v] →
  ∃ bM bN : Int, ∃ bO bP : Int, ∃ bQ : ByteArray, ∃ cU : Sl, Row w7 p5 [(vi bM), (vi bN), (vi bO), (vu bP), (vs bQ), cU.v] ∧
  Calls Try.prog 61 #[(vp p1), (.agg #[(vi bM), (vi bN), (vi bO), (vu bP), (vs bQ), cU.v])] w7 (fun e w8 => ∃ r1 r2 : Int, e = .returned (.tuple #[(vi r1), (vi r2)]) ∧ 
   Br (r2 != 0)
    (K 0 r2 w8)
    (∃ a2 : Addr, At (Sl.mk (some p4) 2 2) x1 1 a2 ∧
    ∃ v2 : Option Addr, w8.cell? a2 = some (vp v2) ∧
    ∃ a3 : Addr, v2 = some a3 ∧
    CanW w8 a3 ∧ ∀ w9 : World, w9 = w8.setCell a3 (vi r1) →
    Kc1 (IntKind.i64.wrap (x1 + 1)) w9)))
  (∃ bU bV : Int, ∃ bW bX : Int, ∃ bY : ByteArray, ∃ aF aG : Int, Row wl1 p3 [(vi bU), (vi bV), (vi bW), (vu bX), (vs bY), (vi aF), (vi aG)] ∧
  Calls Try.prog 59 #[(vp p1), (.agg #[(vi bU), (vi bV), (vi bW), (vu bX), (vs bY), (vi aF), (vi aG)])] wl1 (fun e w10 => ∃ r3 r4 : Int, e = .returned (.tuple #[(vi r3), (vi r4)]) ∧ 
   K r3 r4 w10))
def m_D1 (p1 : Option Addr) (aT aU : Int) (aV aW : Int) (aX : ByteArray) (aY : Sl) (w : World) (K : Int → Int → World → Prop) : Prop :=
 ∀ (p2 : Addr) (w1 : World), New w (.cells #[(vi aT), (vi aU), (vi aV), (vu aW), (vs aX), aY.v] 63) p2 w1 →
 ∃ aA aB : Int, ∃ aC aD : Int, ∃ aE : ByteArray, ∃ bG : Sl, Row w1 p2 [(vi aA), (vi aB), (vi aC), (vu aD), (vs aE), bG.v] ∧
 Calls Try.prog 73 #[(.agg #[(vi aA), (vi aB), (vi aC), (vu aD), (vs aE), bG.v])] w1 (fun e w2 => ∃ aM aN : Int, ∃ aO aP : Int, ∃ aQ : ByteArray, ∃ aR aS : Int, e = .returned (.agg #[(vi aM), (vi aN), (vi aO), (vu aP), (vs aQ), (vi aR), (vi aS)]) ∧ 
  ∀ (p3 : Addr) (w3 : World), New w2 (.cells #[(vi 0), (vi 0), (vi 0), (vu 0), (vs ⟨#[]⟩), (vi 0), (vi 0)] 41) p3 w3 →
  (∀ j, j < 7 → CanW w3 (p3.add j)) ∧ ∀ w4 : World, w4 = storeRow w3 p3 [(vi aM), (vi aN), (vi aO), (vu aP), (vs aQ), (vi aR), (vi aS)] →
  ∀ (p4 : Addr) (w5 : World), New w4 (.cells #[(vp (some (p3.add 5))), (vp (some (p3.add 6)))] 126) p4 w5 →
  ∃ v1 : Sl, w5.cell? (p2.add 5) = some v1.v ∧
  ∃ (I1 : Int → World → Prop) (mu1 : Int → World → Nat), I1 0 w5 ∧
   ∀ (x1 : Int) (wl1 : World), I1 x1 wl1 → m_D1_l1 p1 p3 p4 v1 x1 wl1 (fun y'0 w' => I1 y'0 w' ∧ mu1 y'0 w' < mu1 x1 wl1) K)
theorem w_D1 (p1 : Option Addr) (aT aU : Int) (aV aW : Int) (aX : ByteArray) (aY : Sl) (w : World) (K : Int → Int → World → Prop) (h : m_D1 p1 aT aU aV aW aX aY w K) :
  Calls Try.prog 61 #[(vp p1), (.agg #[(vi aT), (vi aU), (vi aV), (vu aW), (vs aX), aY.v])] w (fun e w' => ∃ r5 r6 : Int, e = .returned (.tuple #[(vi r5), (vi r6)]) ∧ K r5 r6 w') := by
 unfold m_D1 at h
 refine cw (args := [(vp p1), (.agg #[(vi aT), (vi aU), (vi aV), (vu aW), (vs aX), aY.v])]) Try.func61 Try.ntmps61 (wpE_seq (rg (sn (O := (.cells #[(vi aT), (vi aU), (vi aV), (vu aW), (vs aX), aY.v] 63)) xb ?_)))
 intro p2 w1 hn7
 replace h := h p2 w1 hn7
 refine q0 (vi 0) (q0 (vi 0) (wpL_nil (th_n (wpE_seq (rg ?_)))))
 obtain ⟨aA, aB, aC, aD, aE, bG, hv8, h⟩ := h
 refine q2 (.agg #[(vi aA), (vi aB), (vi aC), (vu aD), (vs aE), bG.v]) (x_loadA (a := p2) (vs := [(vi aA), (vi aB), (vi aC), (vu aD), (vs aE), bG.v]) (by kernel_rfl) (Try.isAgg63 _) (Try.sizeOf63 _) rfl hv8) ?_
 refine sc Try.call73 (h.mono ?_)
 rintro e w2 ⟨aM, aN, aO, aP, aQ, aR, aS, rfl, h⟩
 refine ⟨_, rfl, ?_⟩
 refine sn (O := (.cells #[(vi 0), (vi 0), (vi 0), (vu 0), (vs ⟨#[]⟩), (vi 0), (vi 0)] 41)) (x_alloc (Try.zeroValue41 _) rfl) ?_
 intro p3 w3 hn6
 replace h := h p3 w3 hn6
 obtain ⟨hp1, h⟩ := h
 refine st_set (want0 rfl) (x_storeA (a := p3) (vs := [(vi aM), (vi aN), (vi aO), (vu aP), (vs aQ), (vi aR), (vi aS)]) (by kernel_rfl) (by kernel_rfl) rfl (Try.sizeOf41 _) rfl hp1) ?_
 intro w4 hn1
 replace h := h w4 hn1
 refine wpL_nil (th_n (wpE_seq (rg (q0 (vp (some (p3.add 5))) (q0 (vp (some (p3.add 6))) (st_new (O := (.cells #[(vp (some (p3.add 5))), (vp (some (p3.add 6)))] 126)) (fun p => (Sl.mk (some p) 2 2).v) (want0 rfl) (x_buildSlice (vs := #[(0, (vp (some (p3.add 5)))), (1, (vp (some (p3.add 6))))]) (by kernel_rfl) (by kernel_rfl)) ?_))))))
 intro p4 w5 hn5
 replace h := h p4 w5 hn5
 refine q0 ((Sl.mk (some p4) 2 2).v) (wpL_nil (th_n (wpE_seq (wpE_seq (rg (q0 (vp (some (p2.add 5))) ?_))))))
 obtain ⟨v1, hv7, h⟩ := h
 refine q2 v1.v (xl (Try.isAgg22 _) hv7) (q0 (vi (v1.len : Int)) (q0 (vi 0) (wpL_nil (th_n (wpE_block ?_)))))
 obtain ⟨I1, mu1, h0, hr⟩ := h
 refine wpE_loop (σ := Int × World) (fun s ρ w => w = s.2 ∧ Has ρ [(0, (vp p1)), (6, (vp (some p3))), (7, (Sl.mk (some p4) 2 2).v), (18, v1.v), (19, (vi (v1.len : Int))), (20, (vi s.1))] ∧ I1 s.1 s.2) (fun s => mu1 s.1 s.2) (0, w5) ⟨rfl, hm, h0⟩ ?_
 rintro ⟨x1, wl1⟩ ρ w ⟨hw, hH, hI⟩
 obtain rfl : wl1 = w := (show w = wl1 from hw).symm
 replace hH : Has ρ [(0, (vp p1)), (6, (vp (some p3))), (7, (Sl.mk (some p4) 2 2).v), (18, v1.v), (19, (vi (v1.len : Int))), (20, (vi x1))] := hH
 have h := hr x1 wl1 hI
 clear hr h0
 unfold m_D1_l1 at h
 refine wpE_has hH ?_
 clear hH hI
 refine wpE_seq (rg (q0 (vb (decide (x1 < (v1.len : Int)))) (wpL_nil (th_n (wpE_seq ?_)))))
 refine wpE_cond (t := (decide (x1 < (v1.len : Int)))) (by kernel_rfl) (fun hc1 => ?_) (fun hc1 => ?_)
 ·replace h := h.1 hc1
  refine wpE_skip (th_n (wpE_seq (wpE_block (wpE_seq (rg (q0 (vi x1) ?_))))))
  obtain ⟨a1, hv5, h⟩ := h
  refine q2 (vp (some a1)) (xi (Try.runUnderlying22 _) (Try.sizeOf63 _) hv5) ?_
  obtain ⟨aH, aI, aJ, aK, aL, bR, hv4, h⟩ := h
  refine q2 (.agg #[(vi aH), (vi aI), (vi aJ), (vu aK), (vs aL), bR.v]) (x_loadA (a := a1) (vs := [(vi aH), (vi aI), (vi aJ), (vu aK), (vs aL), bR.v]) (by kernel_rfl) (Try.isAgg63 _) (Try.sizeOf63 _) rfl hv4) (sn (O := (.cells #[(vi 0), (vi 0), (vi 0), (vu 0), (vs ⟨#[]⟩), Sl.nil.v] 63)) (x_alloc (Try.zeroValue63 _) rfl) ?_)
  intro p5 w6 hn4
  replace h := h p5 w6 hn4
  refine q0 (vi x1) ?_
  obtain ⟨hp2, h⟩ := h
  refine st_set (want0 rfl) (x_storeA (a := p5) (vs := [(vi aH), (vi aI), (vi aJ), (vu aK), (vs aL), bR.v]) (by kernel_rfl) (by kernel_rfl) rfl (Try.sizeOf63 _) rfl hp2) ?_
  intro w7 hn2
  replace h := h w7 hn2
  refine wpL_nil (th_n (wpE_seq (rg (q0 (vp p1) ?_))))
  obtain ⟨bM, bN, bO, bP, bQ, cU, hv3, h⟩ := h
  refine q2 (.agg #[(vi bM), (vi bN), (vi bO), (vu bP), (vs bQ), cU.v]) (x_loadA (a := p5) (vs := [(vi bM), (vi bN), (vi bO), (vu bP), (vs bQ), cU.v]) (by kernel_rfl) (Try.isAgg63 _) (Try.sizeOf63 _) rfl hv3) ?_
  refine sc Try.call61 (h.mono ?_)
  rintro e w8 ⟨r1, r2, rfl, h⟩
  refine ⟨_, rfl, ?_⟩
  refine q0 (.tuple #[(vi r1), (vi r2)]) (q0 (vi r1) (q0 (vi r2) (q0 (vi r1) (q0 (vi r2) (wpL_nil (th_n (wpE_seq (wpE_seq (rg (q0 (vi r2) (q0 (vb (r2 != 0)) ?_)))))))))))
  refine wpL_nil (th_n ?_)
  refine wpE_cond (t := (r2 != 0)) (by kernel_rfl) (fun hc2 => ?_) (fun hc2 => ?_)
  ·replace h := h.1 hc2
   refine wpE_seq (rg (q0 (vi r2) (q0 (vi 0) (q0 (vi r2) (wpL_nil (th_n (wpE_ret (th_r (bl_r (th_r (th_r ?_)))))))))))
   refine bl_r (th_r (res2 (.inl rfl) Try.results61 (v := (vi 0)) (by kernel_rfl) (v' := (vi r2)) (by kernel_rfl) ?_))
   exact ⟨0, r2, rfl, h⟩
  ·replace h := h.2 hc2
   refine wpE_skip (th_n (rg (q0 ((Sl.mk (some p4) 2 2).v) (q0 (vi x1) ?_))))
   obtain ⟨a2, hv2, h⟩ := h
   refine q2 (vp (some a2)) (xi (Try.runUnderlying127 _) (Try.sizeOf126 _) hv2) ?_
   obtain ⟨v2, hv1, h⟩ := h
   refine q2 (vp v2) (xl (Try.isAgg126 _) hv1) (q0 (vi r1) ?_)
   obtain ⟨a3, hp3, h⟩ := h
   refine q2 (vp (some a3)) (x_nilCheck (p := v2) (by kernel_rfl) hp3) ?_
   obtain ⟨hp4, h⟩ := h
   refine st_set (want0 rfl) (x_store (a := a3) (v := (vi r1)) (by kernel_rfl) (by kernel_rfl) rfl (Try.sizeOf23 _) hp4) ?_
   intro w9 hn3
   replace h := h w9 hn3
   refine wpL_nil (bl_n (th_n (rg (q0 (vi (IntKind.i64.wrap (x1 + 1))) (q0 (vi (IntKind.i64.wrap (x1 + 1))) (wpL_nil (th_n ?_)))))))
   exact ⟨((IntKind.i64.wrap (x1 + 1)), w9), ⟨rfl, hm, h.1⟩, h.2⟩
 ·replace h := h.2 hc1
  refine wpE_exit (th_x (th_x (bl_eq (th_n (wpE_seq (rg (q0 (vp p1) ?_)))))))
  obtain ⟨bU, bV, bW, bX, bY, aF, aG, hv6, h⟩ := h
  refine q2 (.agg #[(vi bU), (vi bV), (vi bW), (vu bX), (vs bY), (vi aF), (vi aG)]) (x_loadA (a := p3) (vs := [(vi bU), (vi bV), (vi bW), (vu bX), (vs bY), (vi aF), (vi aG)]) (by kernel_rfl) (Try.isAgg41 _) (Try.sizeOf41 _) rfl hv6) ?_
  refine sc Try.call59 (h.mono ?_)
  rintro e w10 ⟨r3, r4, rfl, h⟩
  refine ⟨_, rfl, ?_⟩
  refine q0 (vi r3) (q0 (vi r4) (q0 (vi r3) (q0 (vi r4) (wpL_nil (th_n (wpE_ret (res2 (.inl rfl) Try.results61 (v := (vi r3)) (by kernel_rfl) (v' := (vi r4)) (by kernel_rfl) ?_)))))))
  exact ⟨r3, r4, rfl, h⟩
def m_E1_l1 (p1 : Option Addr) (n1 : Int) (s1 : Sl) (x1 : Int) (wl1 : World) (Kc1 : Int → World → Prop) (K : World → Prop) : Prop :=
 Br (decide (x1 < (s1.len : Int)))
  (∃ a2 : Addr, At s1 x1 9 a2 ∧
  ∃ vnodeKind1 vnodeFrom1 : Int, ∃ vnodeTo1 vnodeNum1 : Int, ∃ vnodeText1 : ByteArray, ∃ vnodeA1 vnodeB1 : Int, ∃ vsize1 vdepth1 : Int, Row wl1 a2 [(vi vnodeKind1), (vi vnodeFrom1), (vi vnodeTo1), (vu vnodeNum1), (vs vnodeText1), (vi vnodeA1), (vi vnodeB1), (vi vsize1), (vi vdepth1)] ∧
  ∀ (p2 : Addr) (w1 : World), New wl1 (.cells #[(vi 0), (vi 0), (vi 0), (vu 0), (vs ⟨#[]⟩), (vi 0), (vi 0), (vi 0), (vi 0)] 112) p2 w1 →
  (∀ j, j < 9 → CanW w1 (p2.add j)) ∧ ∀ w2 : World, w2 = storeRow w1 p2 [(vi vnodeKind1), (vi vnodeFrom1), (vi vnodeTo1), (vu vnodeNum1), (vs vnodeText1), (vi vnodeA1), (vi vnodeB1), (vi vsize1), (vi vdepth1)] →
  ∃ C1 : World → Prop, C1 w2.drew ∧ ∀ w3, w3 = w2.drew →
  ∃ a3 : Addr, p1 = some a3 ∧
  ∃ v2 : Option Nat, (∀ w', C1 w' → w'.cell? (a3.add 1) = some (.map v2)) ∧
  ∃ aA aB : Int, ∃ aC aD : Int, ∃ aE : ByteArray, ∃ aF aG : Int, (∀ w', C1 w' → Row w' p2 [(vi aA), (vi aB), (vi aC), (vu aD), (vs aE), (vi aF), (vi aG)]) ∧
  ∃ w4 : World, (Builtin.delete_ #[100, 41] 0 #[(.map v2), (.agg #[(vi aA), (vi aB), (vi aC), (vu aD), (vs aE), (vi aF), (vi aG)])]).run Try.prog w3 = .ok (.tuple #[]) w4 ∧
  Kc1 (IntKind.i64.wrap (x1 + 1)) w4)
  (∃ a4 : Addr, p1 = some a4 ∧
  ∃ v3 : Sl, wl1.cell? a4 = some v3.v ∧
  ∃ s2 : Sl, (Instr.sliceAt 99 v3.v none (some (vi n1)) none).run Try.prog wl1 = .ok s2.v wl1 ∧
  ∃ a5 : Addr, p1 = some a5 ∧
  CanW wl1 a5 ∧ ∀ w5 : World, w5 = wl1.setCell a5 s2.v →
  K w5)
def m_E1 (p1 : Option Addr) (n1 : Int) (w : World) (K : World → Prop) : Prop :=
 ∃ a1 : Addr, p1 = some a1 ∧
 ∃ v1 : Sl, w.cell? a1 = some v1.v ∧
 ∃ s1 : Sl, (Instr.sliceAt 99 v1.v (some (vi n1)) none none).run Try.prog w = .ok s1.v w ∧
 ∃ (I1 : Int → World → Prop) (mu1 : Int → World → Nat), I1 0 w ∧
  ∀ (x1 : Int) (wl1 : World), I1 x1 wl1 → m_E1_l1 p1 n1 s1 x1 wl1 (fun y'0 w' => I1 y'0 w' ∧ mu1 y'0 w' < mu1 x1 wl1) K
theorem w_E1 (p1 : Option Addr) (n1 : Int) (w : World) (K : World → Prop) (h : m_E1 p1 n1 w K) :
  Calls Try.prog 62 #[(vp p1), (vi n1)] w (fun e w' => e = .returned (.tuple #[]) ∧ K  w') := by
 unfold m_E1 at h
 refine cw (args := [(vp p1), (vi n1)]) Try.func62 Try.ntmps62 (wpE_seq (wpE_seq (rg (q0 (vp p1) ?_))))
 obtain ⟨a1, hp1, h⟩ := h
 refine q2 (vp (some a1)) (x_nilCheck (p := p1) (by kernel_rfl) hp1) (q0 (vp (some a1)) ?_)
 obtain ⟨v1, hv9, h⟩ := h
 refine q2 v1.v (xl (Try.isAgg99 _) hv9) (q0 (vi n1) ?_)
 obtain ⟨s1, hv8, h⟩ := h
 refine q2 s1.v (x_slice (by kernel_rfl) (by kernel_rfl) (by kernel_rfl) (by kernel_rfl) hv8) (q0 (vi (s1.len : Int)) (q0 (vi 0) (wpL_nil (th_n (wpE_block ?_)))))
 obtain ⟨I1, mu1, h0, hr⟩ := h
 refine wpE_loop (σ := Int × World) (fun s ρ w => w = s.2 ∧ Has ρ [(0, (vp p1)), (1, (vi n1)), (11, s1.v), (12, (vi (s1.len : Int))), (13, (vi s.1))] ∧ I1 s.1 s.2) (fun s => mu1 s.1 s.2) (0, w) ⟨rfl, hm, h0⟩ ?_
 rintro ⟨x1, wl1⟩ ρ w ⟨hw, hH, hI⟩
 obtain rfl : wl1 = w := (show w = wl1 from hw).symm
 replace hH : Has ρ [(0, (vp p1)), (1, (vi n1)), (11, s1.v), (12, (vi (s1.len : Int))), (13, (vi x1))] := hH
 have h := hr x1 wl1 hI
 clear hr h0
 unfold m_E1_l1 at h
 refine wpE_has hH ?_
 clear hH hI
 refine wpE_seq (rg (q0 (vb (decide (x1 < (s1.len : Int)))) (wpL_nil (th_n (wpE_seq ?_)))))
 refine wpE_cond (t := (decide (x1 < (s1.len : Int)))) (by kernel_rfl) (fun hc1 => ?_) (fun hc1 => ?_)
 ·replace h := h.1 hc1
  refine wpE_skip (th_n (wpE_seq (wpE_block (wpE_seq (rg ?_)))))
  obtain ⟨a2, hv5, h⟩ := h
  refine q2 (vp (some a2)) (xi (Try.runUnderlying99 _) (Try.sizeOf112 _) hv5) ?_
  obtain ⟨vnodeKind1, vnodeFrom1, vnodeTo1, vnodeNum1, vnodeText1, vnodeA1, vnodeB1, vsize1, vdepth1, hv4, h⟩ := h
  refine q2 (.agg #[(vi vnodeKind1), (vi vnodeFrom1), (vi vnodeTo1), (vu vnodeNum1), (vs vnodeText1), (vi vnodeA1), (vi vnodeB1), (vi vsize1), (vi vdepth1)]) (x_loadA (a := a2) (vs := [(vi vnodeKind1), (vi vnodeFrom1), (vi vnodeTo1), (vu vnodeNum1), (vs vnodeText1), (vi vnodeA1), (vi vnodeB1), (vi vsize1), (vi vdepth1)]) (by kernel_rfl) (Try.isAgg112 _) (Try.sizeOf112 _) rfl hv4) (sn (O := (.cells #[(vi 0), (vi 0), (vi 0), (vu 0), (vs ⟨#[]⟩), (vi 0), (vi 0), (vi 0), (vi 0)] 112)) (x_alloc (Try.zeroValue112 _) rfl) ?_)
  intro p2 w1 hn2
  replace h := h p2 w1 hn2
  obtain ⟨hp2, h⟩ := h
  refine st_set (want0 rfl) (x_storeA (a := p2) (vs := [(vi vnodeKind1), (vi vnodeFrom1), (vi vnodeTo1), (vu vnodeNum1), (vs vnodeText1), (vi vnodeA1), (vi vnodeB1), (vi vsize1), (vi vdepth1)]) (by kernel_rfl) (by kernel_rfl) rfl (Try.sizeOf112 _) rfl hp2) ?_
  intro w2 hn1
  replace h := h w2 hn1
  refine wpL_nil (th_n ?_)
  obtain ⟨C1, hC, h⟩ := h
  refine wpE_drawnC C1 [6] [6] (by kernel_rfl) (by kernel_rfl) (by kernel_rfl) (by kernel_rfl) hC ?_
  clear hC
  intro w3 hw3
  replace h := h w3 hw3
  refine qx 0 (vp p1) Kp0 (qg 1 ?_)
  obtain ⟨a3, hp3, h⟩ := h
  refine sy (v := (vp (some a3))) Kp1 (fun _ _ => (x_nilCheck (p := p1) (by kernel_rfl) hp3)) (qx 2 (vp (some (a3.add 1))) Kp2 (qg 3 ?_))
  obtain ⟨v2, hv3, h⟩ := h
  refine sy (v := (.map v2)) Kp3 (fun w' hw' => (xl (Try.isAgg100 _) (hv3 w' hw'))) (qx 4 (vp (some p2)) Kp4 (qg 5 ?_))
  obtain ⟨aA, aB, aC, aD, aE, aF, aG, hv2, h⟩ := h
  refine sy (v := (.agg #[(vi aA), (vi aB), (vi aC), (vu aD), (vs aE), (vi aF), (vi aG)])) Kp5 (fun w' hw' => (x_loadA (a := p2) (vs := [(vi aA), (vi aB), (vi aC), (vu aD), (vs aE), (vi aF), (vi aG)]) (by kernel_rfl) (Try.isAgg41 _) (Try.sizeOf41 _) rfl (hv2 w' hw'))) (lg 6 ?_)
  obtain ⟨w4, hv1, h⟩ := h
  refine sl (v := (.tuple #[])) Kp6 (want0 rfl) (by kernel_rfl) (x_builtin (args := #[(.map v2), (.agg #[(vi aA), (vi aB), (vi aC), (vu aD), (vs aE), (vi aF), (vi aG)])]) (by kernel_rfl) (fun _ => rfl) hv1) (.inl (by kernel_rfl)) (wn (bl_n (th_n (rg (q0 (vi (IntKind.i64.wrap (x1 + 1))) (q0 (vi (IntKind.i64.wrap (x1 + 1))) (wpL_nil (th_n ?_))))))))
  exact ⟨((IntKind.i64.wrap (x1 + 1)), w4), ⟨rfl, hm, h.1⟩, h.2⟩
 ·replace h := h.2 hc1
  refine wpE_exit (th_x (th_x (bl_eq (th_n (rg (q0 (vp p1) (q0 (vp p1) ?_)))))))
  obtain ⟨a4, hp4, h⟩ := h
  refine q2 (vp (some a4)) (x_nilCheck (p := p1) (by kernel_rfl) hp4) (q0 (vp (some a4)) ?_)
  obtain ⟨v3, hv7, h⟩ := h
  refine q2 v3.v (xl (Try.isAgg99 _) hv7) (q0 (vi n1) ?_)
  obtain ⟨s2, hv6, h⟩ := h
  refine q2 s2.v (x_slice (by kernel_rfl) (by kernel_rfl) (by kernel_rfl) (by kernel_rfl) hv6) ?_
  obtain ⟨a5, hp5, h⟩ := h
  refine q2 (vp (some a5)) (x_nilCheck (p := p1) (by kernel_rfl) hp5) (q0 (vp (some a5)) ?_)
  obtain ⟨hp6, h⟩ := h
  refine st_set (want0 rfl) (x_store (a := a5) (v := s2.v) (by kernel_rfl) (by kernel_rfl) rfl (Try.sizeOf99 _) hp6) ?_
  intro w5 hn3
  replace h := h w5 hn3
  refine wpL_nil (res0 (.inr rfl) Try.results62 ?_)
  exact ⟨rfl, h⟩
def m_F1_j1 (p1 : Option Addr) (t1 : Int) (x1 : Bool) (w : World) (K : Bool → World → Prop) : Prop :=
 Br x1
  (∃ a1 : Addr, p1 = some a1 ∧
  ∃ v1 : Sl, w.cell? a1 = some v1.v ∧
  K (decide (t1 ≤ (v1.len : Int))) w)
  (K false w)
def m_F1 (p1 : Option Addr) (t1 : Int) (w : World) (K : Bool → World → Prop) : Prop :=
 Br (!(Option.isNone p1))
  (m_F1_j1 p1 t1 (decide (t1 ≥ 1)) w K)
  (m_F1_j1 p1 t1 false w K)
theorem w_F1 (p1 : Option Addr) (t1 : Int) (w : World) (K : Bool → World → Prop) (h : m_F1 p1 t1 w K) :
  Calls Try.prog 66 #[(vp p1), (vi t1)] w (fun e w' => ∃ r1 : Bool, e = .returned (vb r1) ∧ K r1 w') := by
 unfold m_F1 at h
 refine cw (args := [(vp p1), (vi t1)]) Try.func66 Try.ntmps66 (wpE_seq (rg (q0 (vb false) (wpL_nil (th_n (wpE_seq (rg (q0 (vp p1) (q2 (vb (!(Option.isNone p1))) (x_ptrneq (by kernel_rfl) rfl Try.underlying28) (q0 (vb (!(Option.isNone p1))) ?_))))))))))
 refine wpL_join 3 (fun ρ w => ∃ x1 : Bool, Has ρ [(0, (vp p1)), (1, (vi t1)), (10, (vb x1))] ∧ m_F1_j1 p1 t1 x1 w K) ?_ ?_
 ·rintro ρ w ⟨x1, hH, h⟩
  unfold m_F1_j1 at h
  refine wpL_has hH ?_
  clear hH
  refine q0 (vb x1) ?_
  rcases Bool.eq_false_or_eq_true x1 with hg1 | hg1
  ·replace h := h.1 hg1
   refine q1 (vi t1) (want1 rfl (yD 11 hg1)) (q1 (vp p1) (want1 rfl (yD 11 hg1)) ?_)
   obtain ⟨a1, hp1, h⟩ := h
   refine stp (v := (vp (some a1))) (want1 rfl (yD 11 hg1)) (x_nilCheck (p := p1) (by kernel_rfl) hp1) (q1 (vp (some a1)) (want1 rfl (yD 11 hg1)) ?_)
   obtain ⟨v1, hv1, h⟩ := h
   refine stp (v := v1.v) (want1 rfl (yD 11 hg1)) (xl (Try.isAgg99 _) hv1) (q1 (vi (v1.len : Int)) (want1 rfl (yD 11 hg1)) (q1 (vb (decide (t1 ≤ (v1.len : Int)))) (want1 rfl (yD 11 hg1)) (q2 (vb (decide (t1 ≤ (v1.len : Int)))) (xT hg1) (q0 (vb (decide (t1 ≤ (v1.len : Int)))) (wpL_nil (th_n (wpE_ret (rs1 Try.results66 (v := (vb (decide (t1 ≤ (v1.len : Int))))) ?_))))))))
   exact ⟨(decide (t1 ≤ (v1.len : Int))), rfl, h⟩
  ·replace h := h.2 hg1
   refine sk (yD 11 hg1) (sk (yD 11 hg1) (sk (yD 11 hg1) (sk (yD 11 hg1) (sk (yD 11 hg1) (sk (yD 11 hg1) (sk (yD 11 hg1) (q2 (vb false) (xF hg1) (q0 (vb false) (wpL_nil (th_n (wpE_ret ?_)))))))))))
   refine rs1 Try.results66 (v := (vb false)) ?_
   exact ⟨false, rfl, h⟩
 ·skip
  rcases Bool.eq_false_or_eq_true (!(Option.isNone p1)) with hg2 | hg2
  ·replace h := h.1 hg2
   refine q1 (vi t1) (want1 rfl (yD 7 hg2)) (q1 (vb (decide (t1 ≥ 1))) (want1 rfl (yD 7 hg2)) (q2 (vb (decide (t1 ≥ 1))) (xT hg2) (wpL_nil ?_)))
   exact ⟨(decide (t1 ≥ 1)), hm, h⟩
  ·replace h := h.2 hg2
   refine sk (yD 7 hg2) (sk (yD 7 hg2) (q2 (vb false) (xF hg2) (wpL_nil ?_)))
   exact ⟨false, hm, h⟩
def m_M2 (p1 : Option Addr) (t1 : Int) (w : World) (K : Sl → World → Prop) : Prop :=
 ∀ (p2 : Addr) (w1 : World), New w (.cells #[(vp p1)] 28) p2 w1 →
 ∀ (p3 : Addr) (w2 : World), New w1 (.cells #[Sl.nil.v] 36) p3 w2 →
 ∀ (p4 : Addr) (w3 : World), New w2 (.map #[] 0) p4 w3 →
 ∀ (p5 : Addr) (w4 : World), New w3 (.cells #[(.map none)] 130) p5 w4 →
 CanW w4 p5 ∧ ∀ w5 : World, w5 = w4.setCell p5 (.map (some p4.block)) →
 ∀ (p6 : Addr) (w6 : World), New w5 (.cells #[(.nilFunc : Value)] 90) p6 w6 →
 CanW w6 p6 ∧ ∀ w7 : World, w7 = w6.setCell p6 (.func (.func 79) #[] #[(vp (some p5)), (vp (some p2)), (vp (some p6)), (vp (some p3))]) →
 ∃ v1 : Option Addr, w7.cell? p2 = some (vp v1) ∧
 Calls Try.prog 66 #[(vp v1), (vi t1)] w7 (fun e w8 => ∃ r1 : Bool, e = .returned (vb r1) ∧ 
  Br r1
   (∃ v2 : Value, w8.cell? p6 = some v2 ∧
   ∃ (f1 : FuncId) (fs1 cs1 : Array Value), v2 = .func (.func f1) fs1 cs1 ∧
   (∀ args w, (callFunc f1 args).run Try.prog w = .ok (.enter f1 args) w) ∧ Calls Try.prog f1 (fs1 ++ #[(vi t1)] ++ cs1) w8 (fun e w9 => e = .returned (.tuple #[]) ∧ 
    ∃ v3 : Sl, w9.cell? p3 = some v3.v ∧
    K v3 w9))
   (∃ v4 : Sl, w8.cell? p3 = some v4.v ∧
   K v4 w8))
theorem w_M2 (p1 : Option Addr) (t1 : Int) (w : World) (K : Sl → World → Prop) (h : m_M2 p1 t1 w K) :
  Calls Try.prog 68 #[(vp p1), (vi t1)] w (fun e w' => ∃ r2 : Sl, e = .returned r2.v ∧ K r2 w') := by
 unfold m_M2 at h
 refine cw (args := [(vp p1), (vi t1)]) Try.func68 Try.ntmps68 (wpE_seq (rg (sn (O := (.cells #[(vp p1)] 28)) xb ?_)))
 intro p2 w1 hn7
 replace h := h p2 w1 hn7
 refine q0 Sl.nil.v (wpL_nil (th_n (wpE_seq (rg (sn (O := (.cells #[Sl.nil.v] 36)) (x_alloc (Try.zeroValue36 _) rfl) ?_)))))
 intro p3 w2 hn6
 replace h := h p3 w2 hn6
 refine wpL_nil (th_n (wpE_seq (rg (st_new (O := (.map #[] 0)) (fun p => .map (some p.block)) (want0 rfl) (by kernel_rfl) ?_))))
 intro p4 w3 hn5
 replace h := h p4 w3 hn5
 refine sn (O := (.cells #[(.map none)] 130)) (x_alloc (Try.zeroValue130 _) rfl) ?_
 intro p5 w4 hn4
 replace h := h p5 w4 hn4
 obtain ⟨hp1, h⟩ := h
 refine st_set (want0 rfl) (x_store (a := p5) (v := (.map (some p4.block))) (by kernel_rfl) (by kernel_rfl) rfl (Try.sizeOf130 _) hp1) ?_
 intro w5 hn1
 replace h := h w5 hn1
 refine wpL_nil (th_n (wpE_seq (rg (sn (O := (.cells #[(.nilFunc : Value)] 90)) (x_alloc (Try.zeroValue90 _) rfl) ?_))))
 intro p6 w6 hn3
 replace h := h p6 w6 hn3
 refine wpL_nil (th_n (wpE_seq (rg (q0 (.func (.func 79) #[] #[(vp (some p5)), (vp (some p2)), (vp (some p6)), (vp (some p3))]) ?_))))
 obtain ⟨hp2, h⟩ := h
 refine st_set (want0 rfl) (x_store (a := p6) (v := (.func (.func 79) #[] #[(vp (some p5)), (vp (some p2)), (vp (some p6)), (vp (some p3))])) (by kernel_rfl) (by kernel_rfl) rfl (Try.sizeOf90 _) hp2) ?_
 intro w7 hn2
 replace h := h w7 hn2
 refine wpL_nil (th_n (wpE_seq (wpE_seq (rg ?_))))
 obtain ⟨v1, hv4, h⟩ := h
 refine q2 (vp v1) (xl (Try.isAgg28 _) hv4) (q0 (vi t1) ?_)
 refine sc Try.call66 (h.mono ?_)
 rintro e w8 ⟨r1, rfl, h⟩
 refine ⟨_, rfl, ?_⟩
 refine wpL_nil (th_n ?_)
 refine wpE_cond (t := r1) (by kernel_rfl) (fun hc1 => ?_) (fun hc1 => ?_)
 ·replace h := h.1 hc1
  refine rg ?_
  obtain ⟨v2, hv2, h⟩ := h
  refine q2 v2 (xl (Try.isAgg90 _) hv2) (q0 (vi t1) ?_)
  obtain ⟨f1, fs1, cs1, hp3, h⟩ := h
  obtain ⟨hf1, h⟩ := h
  refine st_call (want0 rfl) (x_callmE (fs := fs1) (caps := cs1) (args := #[(vi t1)]) (by kernel_rfl) hp3 hf1 (by kernel_rfl) rfl) (h.mono ?_)
  rintro e w9 ⟨rfl, h⟩
  refine ⟨_, rfl, ?_⟩
  refine wpL_nil (th_n (wpE_seq (rg ?_)))
  obtain ⟨v3, hv1, h⟩ := h
  refine q2 v3.v (xl (Try.isAgg36 _) hv1) (q0 v3.v (wpL_nil (th_n (wpE_ret (rs1 Try.results68 (v := v3.v) ?_)))))
  exact ⟨v3, rfl, h⟩
 ·replace h := h.2 hc1
  refine wpE_skip (th_n (wpE_seq (rg ?_)))
  obtain ⟨v4, hv3, h⟩ := h
  refine q2 v4.v (xl (Try.isAgg36 _) hv3) (q0 v4.v (wpL_nil (th_n (wpE_ret (rs1 Try.results68 (v := v4.v) ?_)))))
  exact ⟨v4, rfl, h⟩
def m_N2 (kind1 : Int) (w : World) (K : Bool → Bool → Bool → Bool → Int → Bool → World → Prop) : Prop :=
 ∀ (p1 : Addr) (w1 : World), New w (.cells #[(vb false), (vb false), (vb false), (vb false), (vi 0)] 117) p1 w1 →
 Br (decide (kind1 < 1))
  ((∀ j, j < 5 → CanW w1 (p1.add j)) ∧ ∀ w2 : World, w2 = storeRow w1 p1 [(vb false), (vb false), (vb false), (vb false), (vi 0)] →
  ∃ qfrom1 qto1 : Bool, ∃ qnum1 qtext1 : Bool, ∃ qkids1 : Int, Row w2 p1 [(vb qfrom1), (vb qto1), (vb qnum1), (vb qtext1), (vi qkids1)] ∧
  K qfrom1 qto1 qnum1 qtext1 qkids1 false w2)
  (Br (decide (kind1 > 9))
   ((∀ j, j < 5 → CanW w1 (p1.add j)) ∧ ∀ w3 : World, w3 = storeRow w1 p1 [(vb false), (vb false), (vb false), (vb false), (vi 0)] →
   ∃ qfrom2 qto2 : Bool, ∃ qnum2 qtext2 : Bool, ∃ qkids2 : Int, Row w3 p1 [(vb qfrom2), (vb qto2), (vb qnum2), (vb qtext2), (vi qkids2)] ∧
   K qfrom2 qto2 qnum2 qtext2 qkids2 false w3)
   (Calls Try.prog 91 #[] w1 (fun e w4 => ∃ r1 : Array Value, e = .returned (.agg r1) ∧ 
    ∃ efrom1 eto1 : Bool, ∃ enum1 etext1 : Bool, ∃ ekids1 : Int, (Instr.index 142 (.agg r1) (vi kind1)).run Try.prog w4 = .ok (.agg #[(vb efrom1), (vb eto1), (vb enum1), (vb etext1), (vi ekids1)]) w4 ∧
    (∀ j, j < 5 → CanW w4 (p1.add j)) ∧ ∀ w5 : World, w5 = storeRow w4 p1 [(vb efrom1), (vb eto1), (vb enum1), (vb etext1), (vi ekids1)] →
    ∃ qfrom3 qto3 : Bool, ∃ qnum3 qtext3 : Bool, ∃ qkids3 : Int, Row w5 p1 [(vb qfrom3), (vb qto3), (vb qnum3), (vb qtext3), (vi qkids3)] ∧
    K qfrom3 qto3 qnum3 qtext3 qkids3 true w5)))
theorem w_N2 (kind1 : Int) (w : World) (K : Bool → Bool → Bool → Bool → Int → Bool → World → Prop) (h : m_N2 kind1 w K) :
  Calls Try.prog 71 #[(vi kind1)] w (fun e w' => ∃ rfrom1 rto1 : Bool, ∃ rnum1 rtext1 : Bool, ∃ rkids1 : Int, ∃ r2 : Bool, e = .returned (.tuple #[(.agg #[(vb rfrom1), (vb rto1), (vb rnum1), (vb rtext1), (vi rkids1)]), (vb r2)]) ∧ K rfrom1 rto1 rnum1 rtext1 rkids1 r2 w') := by
 unfold m_N2 at h
 refine cw (args := [(vi kind1)]) Try.func71 Try.ntmps71 (wpE_seq (rg (sn (O := (.cells #[(vb false), (vb false), (vb false), (vb false), (vi 0)] 117)) (x_alloc (Try.zeroValue117 _) rfl) ?_)))
 intro p1 w1 hn4
 replace h := h p1 w1 hn4
 refine q0 (vb false) (wpL_nil (th_n (wpE_seq (wpE_seq (rg (q0 (vi kind1) (q0 (vb (decide (kind1 < 1))) (q0 (vb (decide (kind1 < 1))) ?_))))))))
 rcases Bool.eq_false_or_eq_true (decide (kind1 < 1)) with hg1 | hg1
 ·replace h := h.1 hg1
  refine sk (yD 6 hg1) (sk (yD 6 hg1) (q2 (vb true) (xT hg1) (wpL_nil (th_n (wpE_condT (by kernel_rfl) (wpE_seq (rg (q0 (.agg #[(vb false), (vb false), (vb false), (vb false), (vi 0)]) ?_))))))))
  obtain ⟨hp1, h⟩ := h
  refine st_set (want0 rfl) (x_storeA (a := p1) (vs := [(vb false), (vb false), (vb false), (vb false), (vi 0)]) (by kernel_rfl) (by kernel_rfl) rfl (Try.sizeOf117 _) rfl hp1) ?_
  intro w2 hn1
  replace h := h w2 hn1
  refine q0 (vb false) (wpL_nil (th_n (wpE_ret (th_r ?_))))
  obtain ⟨qfrom1, qto1, qnum1, qtext1, qkids1, hv1, h⟩ := h
  refine resG (.inl rfl) (vs := [(.agg #[(vb qfrom1), (vb qto1), (vb qnum1), (vb qtext1), (vi qkids1)]), (vb false)]) (v := (.tuple #[(.agg #[(vb qfrom1), (vb qto1), (vb qnum1), (vb qtext1), (vi qkids1)]), (vb false)])) Try.results71 ⟨(RV.cellA (by kernel_rfl) (Try.isAgg117 _) (Try.sizeOf117 _) rfl hv1), (rvT (by kernel_rfl)), trivial⟩ (by kernel_rfl) ?_
  exact ⟨qfrom1, qto1, qnum1, qtext1, qkids1, false, rfl, h⟩
 ·replace h := h.2 hg1
  refine q1 (vi kind1) (want1 rfl (yD 6 hg1)) (q1 (vb (decide (kind1 > 9))) (want1 rfl (yD 6 hg1)) (q2 (vb (decide (kind1 > 9))) (xF hg1) (wpL_nil (th_n ?_))))
  refine wpE_cond (t := (decide (kind1 > 9))) (by kernel_rfl) (fun hc1 => ?_) (fun hc1 => ?_)
  ·replace h := h.1 hc1
   refine wpE_seq (rg (q0 (.agg #[(vb false), (vb false), (vb false), (vb false), (vi 0)]) ?_))
   obtain ⟨hp2, h⟩ := h
   refine st_set (want0 rfl) (x_storeA (a := p1) (vs := [(vb false), (vb false), (vb false), (vb false), (vi 0)]) (by kernel_rfl) (by kernel_rfl) rfl (Try.sizeOf117 _) rfl hp2) ?_
   intro w3 hn2
   replace h := h w3 hn2
   refine q0 (vb false) (wpL_nil (th_n (wpE_ret (th_r ?_))))
   obtain ⟨qfrom2, qto2, qnum2, qtext2, qkids2, hv2, h⟩ := h
   refine resG (.inl rfl) (vs := [(.agg #[(vb qfrom2), (vb qto2), (vb qnum2), (vb qtext2), (vi qkids2)]), (vb false)]) (v := (.tuple #[(.agg #[(vb qfrom2), (vb qto2), (vb qnum2), (vb qtext2), (vi qkids2)]), (vb false)])) Try.results71 ⟨(RV.cellA (by kernel_rfl) (Try.isAgg117 _) (Try.sizeOf117 _) rfl hv2), (rvT (by kernel_rfl)), trivial⟩ (by kernel_rfl) ?_
   exact ⟨qfrom2, qto2, qnum2, qtext2, qkids2, false, rfl, h⟩
  ·replace h := h.2 hc1
   refine wpE_skip (th_n (wpE_seq (rg ?_)))
   refine sc Try.call91 (h.mono ?_)
   rintro e w4 ⟨r1, rfl, h⟩
   refine ⟨_, rfl, ?_⟩
   refine q0 (vi kind1) ?_
   obtain ⟨efrom1, eto1, enum1, etext1, ekids1, hv4, h⟩ := h
   refine q2 (.agg #[(vb efrom1), (vb eto1), (vb enum1), (vb etext1), (vi ekids1)]) (x_index (by kernel_rfl) (by kernel_rfl) hv4) ?_
   obtain ⟨hp3, h⟩ := h
   refine st_set (want0 rfl) (x_storeA (a := p1) (vs := [(vb efrom1), (vb eto1), (vb enum1), (vb etext1), (vi ekids1)]) (by kernel_rfl) (by kernel_rfl) rfl (Try.sizeOf117 _) rfl hp3) ?_
   intro w5 hn3
   replace h := h w5 hn3
   refine q0 (vb true) (wpL_nil (th_n (wpE_ret ?_)))
   obtain ⟨qfrom3, qto3, qnum3, qtext3, qkids3, hv3, h⟩ := h
   refine resG (.inl rfl) (vs := [(.agg #[(vb qfrom3), (vb qto3), (vb qnum3), (vb qtext3), (vi qkids3)]), (vb true)]) (v := (.tuple #[(.agg #[(vb qfrom3), (vb qto3), (vb qnum3), (vb qtext3), (vi qkids3)]), (vb true)])) Try.results71 ⟨(RV.cellA (by kernel_rfl) (Try.isAgg117 _) (Try.sizeOf117 _) rfl hv3), (rvT (by kernel_rfl)), trivial⟩ (by kernel_rfl) ?_
   exact ⟨qfrom3, qto3, qnum3, qtext3, qkids3, true, rfl, h⟩
def m_F_l3 (p1 : Option Addr) (s1 : Sl) (size1 depth1 x1 : Int) (wl1 : World) (Kc3 : Int → Int → Int → World → Prop) (K : Int → Int → Int → World → Prop) : Prop :=
 Br (decide (x1 < (s1.len : Int)))
  (∃ a1 : Addr, At s1 x1 1 a1 ∧
  ∃ v4 : Int, wl1.cell? a1 = some (vi v4) ∧
  Calls Try.prog 66 #[(vp p1), (vi v4)] wl1 (fun e w6 => ∃ r2 : Bool, e = .returned (vb r2) ∧ 
   Br (!r2)
    (K 0 0 51 w6)
    (Calls Try.prog 92 #[(vp p1), (vi v4)] w6 (fun e w7 => ∃ r3 : Int, e = .returned (vi r3) ∧ 
     Calls Try.prog 93 #[(vp p1), (vi v4)] w7 (fun e w8 => ∃ r4 : Int, e = .returned (vi r4) ∧ 
      ∃ z1 : Int, (Builtin.max_ #[3, 3] 3 #[(vi depth1), (vi r4)]).run Try.prog w8 = .ok (vi z1) w8 ∧
      Kc3 (IntKind.i64.wrap (size1 + r3)) z1 (IntKind.i64.wrap (x1 + 1)) w8)))))
  (Br (decide (size1 > 4096))
   (K 0 0 52 wl1)
   (Br (decide ((IntKind.i64.wrap (depth1 + 1)) > 64))
    (K 0 0 52 wl1)
    (K size1 (IntKind.i64.wrap (depth1 + 1)) 0 wl1)))
def m_F_j2 (p1 : Option Addr) (p2 p3 : Addr) (e2 : Int) (w : World) (K : Int → Int → Int → World → Prop) : Prop :=
 Br (e2 != 0)
  (K 0 0 e2 w)
  (∃ v1 : Int, w.cell? (p2.add 5) = some (vi v1) ∧
  ∃ v2 : Int, w.cell? (p2.add 6) = some (vi v2) ∧
  ∀ (p4 : Addr) (w5 : World), New w (.cells #[(vi v1), (vi v2)] 23) p4 w5 →
  ∃ v3 : Int, w5.cell? (p3.add 4) = some (vi v3) ∧
  ∃ s1 : Sl, (Instr.sliceAt 36 (Sl.mk (some p4) 2 2).v none (some (vi v3)) none).run Try.prog w5 = .ok s1.v w5 ∧
  ∃ (I1 : Int → Int → Int → World → Prop) (mu1 : Int → Int → Int → World → Nat), I1 1 0 0 w5 ∧
   ∀ (size1 depth1 x1 : Int) (wl1 : World), I1 size1 depth1 x1 wl1 → m_F_l3 p1 s1 size1 depth1 x1 wl1 (fun y'0 y'1 y'2 w' => I1 y'0 y'1 y'2 w' ∧ mu1 y'0 y'1 y'2 w' < mu1 size1 depth1 x1 wl1) K)
def m_F_j1 (p1 : Option Addr) (p2 p3 : Addr) (e1 : Int) (w : World) (K : Int → Int → Int → World → Prop) : Prop :=
 Br (e1 == 0)
  (∃ vfrom1 vto1 : Bool, ∃ vnum1 vtext1 : Bool, ∃ vkids1 : Int, Row w p3 [(vb vfrom1), (vb vto1), (vb vnum1), (vb vtext1), (vi vkids1)] ∧
  ∃ aH aI : Int, ∃ aJ aK : Int, ∃ aL : ByteArray, ∃ bS bT : Int, Row w p2 [(vi aH), (vi aI), (vi aJ), (vu aK), (vs aL), (vi bS), (vi bT)] ∧
  Calls Try.prog 75 #[(.agg #[(vb vfrom1), (vb vto1), (vb vnum1), (vb vtext1), (vi vkids1)]), (.agg #[(vi aH), (vi aI), (vi aJ), (vu aK), (vs aL), (vi bS), (vi bT)])] w (fun e w9 => ∃ r5 : Int, e = .returned (vi r5) ∧ 
   m_F_j2 p1 p2 p3 r5 w9 K))
  (m_F_j2 p1 p2 p3 e1 w K)
def m_F_j5 (p1 : Option Addr) (p2 : Addr) (r1 : Int) (p3 : Addr) (x2 x3 : Bool) (w : World) (K : Int → Int → Int → World → Prop) : Prop :=
 Br (r1 == 0)
  (Br x2
   (m_F_j1 p1 p2 p3 53 w K)
   (Br x3
    (m_F_j1 p1 p2 p3 53 w K)
    (m_F_j1 p1 p2 p3 r1 w K)))
  (m_F_j1 p1 p2 p3 r1 w K)
def m_F_j4 (p1 : Option Addr) (p2 : Addr) (r1 : Int) (p3 : Addr) (x2 : Bool) (w : World) (K : Int → Int → Int → World → Prop) : Prop :=
 Br (r1 == 0)
  (Br x2
   (m_F_j1 p1 p2 p3 53 w K)
   (∃ v6 : Int, w.cell? (p3.add 4) = some (vi v6) ∧
   Br (decide (v6 < 2))
    (∃ v7 : Int, w.cell? (p2.add 6) = some (vi v7) ∧
    m_F_j5 p1 p2 r1 p3 x2 (v7 != 0) w K)
    (m_F_j5 p1 p2 r1 p3 x2 false w K)))
  (m_F_j1 p1 p2 p3 r1 w K)
def m_F (p1 : Option Addr) (aZ bA : Int) (bB bC : Int) (bD : ByteArray) (bE bF : Int) (w : World) (K : Int → Int → Int → World → Prop) : Prop :=
 ∀ (p2 : Addr) (w1 : World), New w (.cells #[(vi aZ), (vi bA), (vi bB), (vu bC), (vs bD), (vi bE), (vi bF)] 41) p2 w1 →
 ∃ aA aB : Int, ∃ aC aD : Int, ∃ aE : ByteArray, ∃ aF aG : Int, Row w1 p2 [(vi aA), (vi aB), (vi aC), (vu aD), (vs aE), (vi aF), (vi aG)] ∧
 Calls Try.prog 74 #[(.agg #[(vi aA), (vi aB), (vi aC), (vu aD), (vs aE), (vi aF), (vi aG)])] w1 (fun e w2 => ∃ rfrom1 rto1 : Bool, ∃ rnum1 rtext1 : Bool, ∃ rkids1 r1 : Int, e = .returned (.tuple #[(.agg #[(vb rfrom1), (vb rto1), (vb rnum1), (vb rtext1), (vi rkids1)]), (vi r1)]) ∧ 
  ∀ (p3 : Addr) (w3 : World), New w2 (.cells #[(vb false), (vb false), (vb false), (vb false), (vi 0)] 117) p3 w3 →
  (∀ j, j < 5 → CanW w3 (p3.add j)) ∧ ∀ w4 : World, w4 = storeRow w3 p3 [(vb rfrom1), (vb rto1), (vb rnum1), (vb rtext1), (vi rkids1)] →
  Br (r1 == 0)
   (∃ v5 : Int, w4.cell? (p3.add 4) = some (vi v5) ∧
   Br (decide (v5 < 1))
    (∃ v8 : Int, w4.cell? (p2.add 5) = some (vi v8) ∧
    m_F_j4 p1 p2 r1 p3 (v8 != 0) w4 K)
    (m_F_j4 p1 p2 r1 p3 false w4 K))
   (m_F_j1 p1 p2 p3 r1 w4 K))
theorem w_F (p1 : Option Addr) (aZ bA : Int) (bB bC : Int) (bD : ByteArray) (bE bF : Int) (w : World) (K : Int → Int → Int → World → Prop) (h : m_F p1 aZ bA bB bC bD bE bF w K) :
  Calls Try.prog 72 #[(vp p1), (.agg #[(vi aZ), (vi bA), (vi bB), (vu bC), (vs bD), (vi bE), (vi bF)])] w (fun e w' => ∃ r6 r7 r8 : Int, e = .returned (.tuple #[(vi r6), (vi r7), (vi r8)]) ∧ K r6 r7 r8 w') := by
 unfold m_F at h
 refine cw (args := [(vp p1), (.agg #[(vi aZ), (vi bA), (vi bB), (vu bC), (vs bD), (vi bE), (vi bF)])]) Try.func72 Try.ntmps72 (wpE_seq (rg (sn (O := (.cells #[(vi aZ), (vi bA), (vi bB), (vu bC), (vs bD), (vi bE), (vi bF)] 41)) xb ?_)))
 intro p2 w1 hn4
 replace h := h p2 w1 hn4
 refine q0 (vi 0) (q0 (vi 0) (q0 (vi 0) (wpL_nil (th_n (wpE_seq (rg ?_))))))
 obtain ⟨aA, aB, aC, aD, aE, aF, aG, hv14, h⟩ := h
 refine q2 (.agg #[(vi aA), (vi aB), (vi aC), (vu aD), (vs aE), (vi aF), (vi aG)]) (x_loadA (a := p2) (vs := [(vi aA), (vi aB), (vi aC), (vu aD), (vs aE), (vi aF), (vi aG)]) (by kernel_rfl) (Try.isAgg41 _) (Try.sizeOf41 _) rfl hv14) ?_
 refine sc Try.call74 (h.mono ?_)
 rintro e w2 ⟨rfrom1, rto1, rnum1, rtext1, rkids1, r1, rfl, h⟩
 refine ⟨_, rfl, ?_⟩
 refine q0 (.tuple #[(.agg #[(vb rfrom1), (vb rto1), (vb rnum1), (vb rtext1), (vi rkids1)]), (vi r1)]) (q0 (.agg #[(vb rfrom1), (vb rto1), (vb rnum1), (vb rtext1), (vi rkids1)]) (q0 (vi r1) (sn (O := (.cells #[(vb false), (vb false), (vb false), (vb false), (vi 0)] 117)) (x_alloc (Try.zeroValue117 _) rfl) ?_)))
 intro p3 w3 hn3
 replace h := h p3 w3 hn3
 obtain ⟨hp1, h⟩ := h
 refine st_set (want0 rfl) (x_storeA (a := p3) (vs := [(vb rfrom1), (vb rto1), (vb rnum1), (vb rtext1), (vi rkids1)]) (by kernel_rfl) (by kernel_rfl) rfl (Try.sizeOf117 _) rfl hp1) ?_
 intro w4 hn1
 replace h := h w4 hn1
 refine q0 (vi r1) (wpL_nil (th_n ?_))
 refine wpE_join (fun ρ w => ∃ e1 : Int, Has ρ [(0, (vp p1)), (3, (vp (some p2))), (7, (vp (some p3))), (8, (vi e1))] ∧ m_F_j1 p1 p2 p3 e1 w K) ?_ ?_
 ·rintro ρ w ⟨e1, hH, h⟩
  unfold m_F_j1 at h
  refine wpE_has hH ?_
  clear hH
  refine wpE_join (fun ρ w => ∃ e2 : Int, Has ρ [(0, (vp p1)), (3, (vp (some p2))), (7, (vp (some p3))), (8, (vi e2))] ∧ m_F_j2 p1 p2 p3 e2 w K) ?_ ?_
  ·rintro ρ w ⟨e2, hH, h⟩
   unfold m_F_j2 at h
   refine wpE_has hH ?_
   clear hH
   refine wpE_seq (wpE_seq (rg (q0 (vi e2) (q0 (vb (e2 != 0)) (wpL_nil (th_n ?_))))))
   refine wpE_cond (t := (e2 != 0)) (by kernel_rfl) (fun hc1 => ?_) (fun hc1 => ?_)
   ·replace h := h.1 hc1
    refine wpE_seq (rg (q0 (vi e2) (q0 (vi 0) (q0 (vi 0) (q0 (vi e2) (wpL_nil (th_n (wpE_ret (th_r (res3 (.inl rfl) Try.results72 (v := (vi 0)) (by kernel_rfl) (v' := (vi 0)) (by kernel_rfl) (v'' := (vi e2)) (by kernel_rfl) ?_))))))))))
    exact ⟨0, 0, e2, rfl, h⟩
   ·replace h := h.2 hc1
    refine wpE_skip (th_n (wpE_seq (rg (q0 (vi 1) (q0 (vi 0) (wpL_nil (th_n (wpE_seq (wpE_seq (rg (q0 (vp (some (p2.add 5))) ?_)))))))))))
    obtain ⟨v1, hv7, h⟩ := h
    refine q2 (vi v1) (xl (Try.isAgg23 _) hv7) (q0 (vp (some (p2.add 6))) ?_)
    obtain ⟨v2, hv6, h⟩ := h
    refine q2 (vi v2) (xl (Try.isAgg23 _) hv6) (st_new (O := (.cells #[(vi v1), (vi v2)] 23)) (fun p => (Sl.mk (some p) 2 2).v) (want0 rfl) (x_buildSlice (vs := #[(0, (vi v1)), (1, (vi v2))]) (by kernel_rfl) (by kernel_rfl)) ?_)
    intro p4 w5 hn2
    replace h := h p4 w5 hn2
    refine q0 (vp (some (p3.add 4))) ?_
    obtain ⟨v3, hv5, h⟩ := h
    refine q2 (vi v3) (xl (Try.isAgg3 _) hv5) ?_
    obtain ⟨s1, hv4, h⟩ := h
    refine q2 s1.v (x_slice (by kernel_rfl) (by kernel_rfl) (by kernel_rfl) (by kernel_rfl) hv4) (q0 (vi (s1.len : Int)) (q0 (vi 0) (wpL_nil (th_n (wpE_block ?_)))))
    obtain ⟨I1, mu1, h0, hr⟩ := h
    refine wpE_loop (σ := Int × Int × Int × World) (fun s ρ w => w = s.2.2.2 ∧ Has ρ [(0, (vp p1)), (9, (vi s.1)), (10, (vi s.2.1)), (55, s1.v), (56, (vi (s1.len : Int))), (57, (vi s.2.2.1))] ∧ I1 s.1 s.2.1 s.2.2.1 s.2.2.2) (fun s => mu1 s.1 s.2.1 s.2.2.1 s.2.2.2) (1, 0, 0, w5) ⟨rfl, hm, h0⟩ ?_
    rintro ⟨size1, depth1, x1, wl1⟩ ρ w ⟨hw, hH, hI⟩
    obtain rfl : wl1 = w := (show w = wl1 from hw).symm
    replace hH : Has ρ [(0, (vp p1)), (9, (vi size1)), (10, (vi depth1)), (55, s1.v), (56, (vi (s1.len : Int))), (57, (vi x1))] := hH
    have h := hr size1 depth1 x1 wl1 hI
    clear hr h0
    unfold m_F_l3 at h
    refine wpE_has hH ?_
    clear hH hI
    refine wpE_seq (rg (q0 (vb (decide (x1 < (s1.len : Int)))) (wpL_nil (th_n (wpE_seq ?_)))))
    refine wpE_cond (t := (decide (x1 < (s1.len : Int)))) (by kernel_rfl) (fun hc2 => ?_) (fun hc2 => ?_)
    ·replace h := h.1 hc2
     refine wpE_skip (th_n (wpE_seq (wpE_block (wpE_seq (rg ?_)))))
     obtain ⟨a1, hv3, h⟩ := h
     refine q2 (vp (some a1)) (xi (Try.runUnderlying36 _) (Try.sizeOf23 _) hv3) ?_
     obtain ⟨v4, hv2, h⟩ := h
     refine q2 (vi v4) (xl (Try.isAgg23 _) hv2) (q0 (vi v4) (wpL_nil (th_n (wpE_seq (wpE_seq (rg (q0 (vp p1) (q0 (vi v4) ?_))))))))
     refine sc Try.call66 (h.mono ?_)
     rintro e w6 ⟨r2, rfl, h⟩
     refine ⟨_, rfl, ?_⟩
     refine q0 (vb (!r2)) (wpL_nil (th_n ?_))
     refine wpE_cond (t := (!r2)) (by kernel_rfl) (fun hc3 => ?_) (fun hc3 => ?_)
     ·replace h := h.1 hc3
      refine wpE_seq (rg (q0 (vi 0) (q0 (vi 0) (q0 (vi 51) (wpL_nil (th_n (wpE_ret (th_r (bl_r (th_r (th_r ?_)))))))))))
      refine bl_r (th_r (res3 (.inl rfl) Try.results72 (v := (vi 0)) (by kernel_rfl) (v' := (vi 0)) (by kernel_rfl) (v'' := (vi 51)) (by kernel_rfl) ?_))
      exact ⟨0, 0, 51, rfl, h⟩
     ·replace h := h.2 hc3
      refine wpE_skip (th_n (wpE_seq (rg (q0 (vi size1) (q0 (vp p1) (q0 (vi v4) ?_))))))
      refine sc Try.call92 (h.mono ?_)
      rintro e w7 ⟨r3, rfl, h⟩
      refine ⟨_, rfl, ?_⟩
      refine q0 (vi (IntKind.i64.wrap (size1 + r3))) (q0 (vi (IntKind.i64.wrap (size1 + r3))) (wpL_nil (th_n (rg (q0 (vi depth1) (q0 (vp p1) (q0 (vi v4) ?_)))))))
      refine sc Try.call93 (h.mono ?_)
      rintro e w8 ⟨r4, rfl, h⟩
      refine ⟨_, rfl, ?_⟩
      obtain ⟨z1, hv1, h⟩ := h
      refine q2 (vi z1) (x_builtin (args := #[(vi depth1), (vi r4)]) (by kernel_rfl) (fun _ => rfl) hv1) (q0 (vi z1) (wpL_nil (bl_n (th_n (rg (q0 (vi (IntKind.i64.wrap (x1 + 1))) (q0 (vi (IntKind.i64.wrap (x1 + 1))) (wpL_nil (th_n ?_)))))))))
      exact ⟨((IntKind.i64.wrap (size1 + r3)), z1, (IntKind.i64.wrap (x1 + 1)), w8), ⟨rfl, hm, h.1⟩, h.2⟩
    ·replace h := h.2 hc2
     refine wpE_exit (th_x (th_x (bl_eq (th_n (wpE_seq (rg (q0 (vi depth1) (q0 (vi (IntKind.i64.wrap (depth1 + 1))) (q0 (vi (IntKind.i64.wrap (depth1 + 1))) (wpL_nil (th_n ?_)))))))))))
     refine wpE_seq (wpE_seq (rg (q0 (vi size1) (q0 (vb (decide (size1 > 4096))) (q0 (vb (decide (size1 > 4096))) ?_)))))
     rcases Bool.eq_false_or_eq_true (decide (size1 > 4096)) with hg1 | hg1
     ·replace h := h.1 hg1
      refine sk (yD 80 hg1) (sk (yD 80 hg1) (q2 (vb true) (xT hg1) (wpL_nil (th_n (wpE_condT (by kernel_rfl) (wpE_seq (rg (q0 (vi 0) (q0 (vi 0) (q0 (vi 52) (wpL_nil ?_)))))))))))
      refine th_n (wpE_ret (th_r (res3 (.inl rfl) Try.results72 (v := (vi 0)) (by kernel_rfl) (v' := (vi 0)) (by kernel_rfl) (v'' := (vi 52)) (by kernel_rfl) ?_)))
      exact ⟨0, 0, 52, rfl, h⟩
     ·replace h := h.2 hg1
      refine q1 (vi (IntKind.i64.wrap (depth1 + 1))) (want1 rfl (yD 80 hg1)) (q1 (vb (decide ((IntKind.i64.wrap (depth1 + 1)) > 64))) (want1 rfl (yD 80 hg1)) (q2 (vb (decide ((IntKind.i64.wrap (depth1 + 1)) > 64))) (xF hg1) (wpL_nil (th_n ?_))))
      refine wpE_cond (t := (decide ((IntKind.i64.wrap (depth1 + 1)) > 64))) (by kernel_rfl) (fun hc4 => ?_) (fun hc4 => ?_)
      ·replace h := h.1 hc4
       refine wpE_seq (rg (q0 (vi 0) (q0 (vi 0) (q0 (vi 52) (wpL_nil (th_n (wpE_ret (th_r (res3 (.inl rfl) Try.results72 (v := (vi 0)) (by kernel_rfl) (v' := (vi 0)) (by kernel_rfl) (v'' := (vi 52)) (by kernel_rfl) ?_)))))))))
       exact ⟨0, 0, 52, rfl, h⟩
      ·replace h := h.2 hc4
       refine wpE_skip (th_n (wpE_seq (rg (q0 (vi size1) (q0 (vi (IntKind.i64.wrap (depth1 + 1))) (q0 (vi size1) (q0 (vi (IntKind.i64.wrap (depth1 + 1))) (q0 (vi 0) (wpL_nil (th_n (wpE_ret ?_)))))))))))
       refine res3 (.inl rfl) Try.results72 (v := (vi size1)) (by kernel_rfl) (v' := (vi (IntKind.i64.wrap (depth1 + 1)))) (by kernel_rfl) (v'' := (vi 0)) (by kernel_rfl) ?_
       exact ⟨size1, (IntKind.i64.wrap (depth1 + 1)), 0, rfl, h⟩
  ·skip
   refine wpE_seq (rg (q0 (vi e1) (q0 (vb (e1 == 0)) (wpL_nil (th_n ?_)))))
   refine wpE_cond (t := (e1 == 0)) (by kernel_rfl) (fun hc5 => ?_) (fun hc5 => ?_)
   ·replace h := h.1 hc5
    refine rg ?_
    obtain ⟨vfrom1, vto1, vnum1, vtext1, vkids1, hv9, h⟩ := h
    refine q2 (.agg #[(vb vfrom1), (vb vto1), (vb vnum1), (vb vtext1), (vi vkids1)]) (x_loadA (a := p3) (vs := [(vb vfrom1), (vb vto1), (vb vnum1), (vb vtext1), (vi vkids1)]) (by kernel_rfl) (Try.isAgg117 _) (Try.sizeOf117 _) rfl hv9) ?_
    obtain ⟨aH, aI, aJ, aK, aL, bS, bT, hv8, h⟩ := h
    refine q2 (.agg #[(vi aH), (vi aI), (vi aJ), (vu aK), (vs aL), (vi bS), (vi bT)]) (x_loadA (a := p2) (vs := [(vi aH), (vi aI), (vi aJ), (vu aK), (vs aL), (vi bS), (vi bT)]) (by kernel_rfl) (Try.isAgg41 _) (Try.sizeOf41 _) rfl hv8) ?_
    refine sc Try.call75 (h.mono ?_)
    rintro e w9 ⟨r5, rfl, h⟩
    refine ⟨_, rfl, ?_⟩
    refine q0 (vi r5) (wpL_nil (th_n ?_))
    exact ⟨r5, hm, h⟩
   ·replace h := h.2 hc5
    refine wpE_skip (th_n ?_)
    exact ⟨e1, hm, h⟩
 ·skip
  refine wpE_seq (rg (q0 (vi r1) (q0 (vb (r1 == 0)) (q0 (vb (r1 == 0)) ?_))))
  rcases Bool.eq_false_or_eq_true (r1 == 0) with hg2 | hg2
  ·replace h := h.1 hg2
   refine q1 (vp (some (p3.add 4))) (want1 rfl (yD 20 hg2)) ?_
   obtain ⟨v5, hv13, h⟩ := h
   refine stp (v := (vi v5)) (want1 rfl (yD 20 hg2)) (xl (Try.isAgg3 _) hv13) (q1 (vb (decide (v5 < 1))) (want1 rfl (yD 20 hg2)) (q1 (vb (decide (v5 < 1))) (want1 rfl (yD 20 hg2)) ?_))
   refine wpL_join 4 (fun ρ w => ∃ x2 : Bool, Has ρ [(0, (vp p1)), (3, (vp (some p2))), (7, (vp (some p3))), (8, (vi r1)), (20, (vb (r1 == 0))), (28, (vb x2))] ∧ m_F_j4 p1 p2 r1 p3 x2 w K) ?_ ?_
   ·rintro ρ w ⟨x2, hH, h⟩
    unfold m_F_j4 at h
    refine wpL_has hH ?_
    clear hH
    rcases Bool.eq_false_or_eq_true (r1 == 0) with hg3 | hg3
    ·replace h := h.1 hg3
     refine q1 (vb x2) (want1 rfl (yD 20 hg3)) ?_
     rcases Bool.eq_false_or_eq_true x2 with hg4 | hg4
     ·replace h := h.1 hg4
      refine sk (yD 29 hg4) (sk (yD 29 hg4) (sk (yD 29 hg4) (sk (yD 29 hg4) (sm (sm (sm (sk (yD 29 hg4) (stp (v := (vb true)) (want1 rfl (yD 20 hg3)) (xT hg4) (q2 (vb true) (xT hg3) (wpL_nil (th_n ?_)))))))))))
      refine wpE_condT (by kernel_rfl) (rg (q0 (vi 53) (wpL_nil (th_n ?_))))
      exact ⟨53, hm, h⟩
     ·replace h := h.2 hg4
      refine q1 (vp (some (p3.add 4))) (want1 rfl (yD 29 hg4)) ?_
      obtain ⟨v6, hv11, h⟩ := h
      refine stp (v := (vi v6)) (want1 rfl (yD 29 hg4)) (xl (Try.isAgg3 _) hv11) (q1 (vb (decide (v6 < 2))) (want1 rfl (yD 29 hg4)) (q1 (vb (decide (v6 < 2))) (want1 rfl (yD 29 hg4)) ?_))
      refine wpL_join 4 (fun ρ w => ∃ x3 : Bool, Has ρ [(0, (vp p1)), (3, (vp (some p2))), (7, (vp (some p3))), (8, (vi r1)), (20, (vb (r1 == 0))), (29, (vb x2)), (37, (vb x3))] ∧ m_F_j5 p1 p2 r1 p3 x2 x3 w K) ?_ ?_
      ·rintro ρ w ⟨x3, hH, h⟩
       unfold m_F_j5 at h
       refine wpL_has hH ?_
       clear hH
       rcases Bool.eq_false_or_eq_true (r1 == 0) with hg5 | hg5
       ·replace h := h.1 hg5
        rcases Bool.eq_false_or_eq_true x2 with hg6 | hg6
        ·replace h := h.1 hg6
         refine stp (v := (vb true)) (want1 rfl (yD 20 hg5)) (xT hg6) (q2 (vb true) (xT hg5) (wpL_nil (th_n (wpE_condT (by kernel_rfl) (rg (q0 (vi 53) (wpL_nil (th_n ?_))))))))
         exact ⟨53, hm, h⟩
        ·replace h := h.2 hg6
         refine stp (v := (vb x3)) (want1 rfl (yD 20 hg5)) (xF hg6) (q2 (vb x3) (xT hg5) (wpL_nil (th_n ?_)))
         refine wpE_cond (t := x3) (by kernel_rfl) (fun hc6 => ?_) (fun hc6 => ?_)
         ·replace h := h.1 hc6
          refine rg (q0 (vi 53) (wpL_nil (th_n ?_)))
          exact ⟨53, hm, h⟩
         ·replace h := h.2 hc6
          refine wpE_skip (th_n ?_)
          exact ⟨r1, hm, h⟩
       ·replace h := h.2 hg5
        refine sk (yD 20 hg5) (q2 (vb false) (xF hg5) (wpL_nil (th_n (wpE_condF (by kernel_rfl) (wpE_skip (th_n ?_))))))
        exact ⟨r1, hm, h⟩
      ·skip
       rcases Bool.eq_false_or_eq_true (decide (v6 < 2)) with hg7 | hg7
       ·replace h := h.1 hg7
        refine q1 (vp (some (p2.add 6))) (want1 rfl (yD 33 hg7)) ?_
        obtain ⟨v7, hv10, h⟩ := h
        refine stp (v := (vi v7)) (want1 rfl (yD 33 hg7)) (xl (Try.isAgg23 _) hv10) (q1 (vb (v7 != 0)) (want1 rfl (yD 33 hg7)) (stp (v := (vb (v7 != 0))) (want1 rfl (yD 29 hg4)) (xT hg7) (wpL_nil ?_)))
        exact ⟨(v7 != 0), hm, h⟩
       ·replace h := h.2 hg7
        refine sk (yD 33 hg7) (sk (yD 33 hg7) (sk (yD 33 hg7) (stp (v := (vb false)) (want1 rfl (yD 29 hg4)) (xF hg7) (wpL_nil ?_))))
        exact ⟨false, hm, h⟩
    ·replace h := h.2 hg3
     refine sk (yD 20 hg3) (sm (sm (sm (sm (sm (sm (sm (sm (sk (yD 20 hg3) (q2 (vb false) (xF hg3) (wpL_nil ?_)))))))))))
     refine th_n (wpE_condF (by kernel_rfl) (wpE_skip (th_n ?_)))
     exact ⟨r1, hm, h⟩
   ·skip
    rcases Bool.eq_false_or_eq_true (decide (v5 < 1)) with hg8 | hg8
    ·replace h := h.1 hg8
     refine q1 (vp (some (p2.add 5))) (want1 rfl (yD 24 hg8)) ?_
     obtain ⟨v8, hv12, h⟩ := h
     refine stp (v := (vi v8)) (want1 rfl (yD 24 hg8)) (xl (Try.isAgg23 _) hv12) (q1 (vb (v8 != 0)) (want1 rfl (yD 24 hg8)) (stp (v := (vb (v8 != 0))) (want1 rfl (yD 20 hg2)) (xT hg8) (wpL_nil ?_)))
     exact ⟨(v8 != 0), hm, h⟩
    ·replace h := h.2 hg8
     refine sk (yD 24 hg8) (sk (yD 24 hg8) (sk (yD 24 hg8) (stp (v := (vb false)) (want1 rfl (yD 20 hg2)) (xF hg8) (wpL_nil ?_))))
     exact ⟨false, hm, h⟩
  ·replace h := h.2 hg2
   refine sk (yD 20 hg2) (sk (yD 20 hg2) (sk (yD 20 hg2) (sk (yD 20 hg2) (sm (sm (sm (sk (yD 20 hg2) (sk (yD 20 hg2) (sm (sm (sm ?_)))))))))))
   refine sm (sm (sm (sm (sm (sk (yD 20 hg2) (q2 (vb false) (xF hg2) (wpL_nil (th_n (wpE_condF (by kernel_rfl) (wpE_skip (th_n ?_)))))))))))
   exact ⟨r1, hm, h⟩
def m_O2 (aT aU : Int) (aV aW : Int) (aX : ByteArray) (aY : Sl) (w : World) (K : Int → Int → Int → Int → ByteArray → Int → Int → World → Prop) : Prop :=
 ∀ (p1 : Addr) (w1 : World), New w (.cells #[(vi aT), (vi aU), (vi aV), (vu aW), (vs aX), aY.v] 63) p1 w1 →
 ∀ (p2 : Addr) (w2 : World), New w1 (.cells #[(vi 0), (vi 0), (vi 0), (vu 0), (vs ⟨#[]⟩), (vi 0), (vi 0)] 41) p2 w2 →
 ∃ v1 : Int, w2.cell? p1 = some (vi v1) ∧
 ∃ v2 : Int, w2.cell? (p1.add 1) = some (vi v2) ∧
 ∃ v3 : Int, w2.cell? (p1.add 2) = some (vi v3) ∧
 ∃ v4 : Int, w2.cell? (p1.add 3) = some (vu v4) ∧
 ∃ v5 : ByteArray, w2.cell? (p1.add 4) = some (vs v5) ∧
 (∀ j, j < 7 → CanW w2 (p2.add j)) ∧ ∀ w3 : World, w3 = storeRow w2 p2 [(vi v1), (vi v2), (vi v3), (vu v4), (vs v5), (vi 0), (vi 0)] →
 ∃ bH bI : Int, ∃ bJ bK : Int, ∃ bL : ByteArray, ∃ cE cF : Int, Row w3 p2 [(vi bH), (vi bI), (vi bJ), (vu bK), (vs bL), (vi cE), (vi cF)] ∧
 K bH bI bJ bK bL cE cF w3
theorem w_O2 (aT aU : Int) (aV aW : Int) (aX : ByteArray) (aY : Sl) (w : World) (K : Int → Int → Int → Int → ByteArray → Int → Int → World → Prop) (h : m_O2 aT aU aV aW aX aY w K) :
  Calls Try.prog 73 #[(.agg #[(vi aT), (vi aU), (vi aV), (vu aW), (vs aX), aY.v])] w (fun e w' => ∃ aM aN : Int, ∃ aO aP : Int, ∃ aQ : ByteArray, ∃ aR aS : Int, e = .returned (.agg #[(vi aM), (vi aN), (vi aO), (vu aP), (vs aQ), (vi aR), (vi aS)]) ∧ K aM aN aO aP aQ aR aS w') := by
 unfold m_O2 at h
 refine cw (args := [(.agg #[(vi aT), (vi aU), (vi aV), (vu aW), (vs aX), aY.v])]) Try.func73 Try.ntmps73 (wpE_seq (rg (sn (O := (.cells #[(vi aT), (vi aU), (vi aV), (vu aW), (vs aX), aY.v] 63)) xb ?_)))
 intro p1 w1 hn3
 replace h := h p1 w1 hn3
 refine sn (O := (.cells #[(vi 0), (vi 0), (vi 0), (vu 0), (vs ⟨#[]⟩), (vi 0), (vi 0)] 41)) (x_alloc (Try.zeroValue41 _) rfl) ?_
 intro p2 w2 hn2
 replace h := h p2 w2 hn2
 refine wpL_nil (th_n (wpE_seq (rg (q0 (vp (some p1)) ?_))))
 obtain ⟨v1, hv6, h⟩ := h
 refine q2 (vi v1) (xl (Try.isAgg3 _) hv6) (q0 (vp (some (p1.add 1))) ?_)
 obtain ⟨v2, hv5, h⟩ := h
 refine q2 (vi v2) (xl (Try.isAgg3 _) hv5) (q0 (vp (some (p1.add 2))) ?_)
 obtain ⟨v3, hv4, h⟩ := h
 refine q2 (vi v3) (xl (Try.isAgg3 _) hv4) (q0 (vp (some (p1.add 3))) ?_)
 obtain ⟨v4, hv3, h⟩ := h
 refine q2 (vu v4) (xl (Try.isAgg39 _) hv3) (q0 (vp (some (p1.add 4))) ?_)
 obtain ⟨v5, hv2, h⟩ := h
 refine q2 (vs v5) (xl (Try.isAgg9 _) hv2) (q0 (.agg #[(vi v1), (vi v2), (vi v3), (vu v4), (vs v5), (vi 0), (vi 0)]) ?_)
 obtain ⟨hp1, h⟩ := h
 refine st_set (want0 rfl) (x_storeA (a := p2) (vs := [(vi v1), (vi v2), (vi v3), (vu v4), (vs v5), (vi 0), (vi 0)]) (by kernel_rfl) (by kernel_rfl) rfl (Try.sizeOf41 _) rfl hp1) ?_
 intro w3 hn1
 replace h := h w3 hn1
 refine wpL_nil (th_n (wpE_ret ?_))
 obtain ⟨bH, bI, bJ, bK, bL, cE, cF, hv1, h⟩ := h
 refine resG (.inl rfl) (vs := [(.agg #[(vi bH), (vi bI), (vi bJ), (vu bK), (vs bL), (vi cE), (vi cF)])]) (v := (.agg #[(vi bH), (vi bI), (vi bJ), (vu bK), (vs bL), (vi cE), (vi cF)])) Try.results73 ⟨(RV.cellA (by kernel_rfl) (Try.isAgg41 _) (Try.sizeOf41 _) rfl hv1), trivial⟩ (by kernel_rfl) ?_
 exact ⟨bH, bI, bJ, bK, bL, cE, cF, rfl, h⟩
def m_E_j3 (p1 p2 p3 : Addr) (x3 : Bool) (w : World) (K : Bool → Bool → Bool → Bool → Int → Int → World → Prop) : Prop :=
 Br x3
  (∃ vfrom1 vto1 : Bool, ∃ vnum1 vtext1 : Bool, ∃ vkids1 : Int, Row w p3 [(vb vfrom1), (vb vto1), (vb vnum1), (vb vtext1), (vi vkids1)] ∧
  (∀ j, j < 5 → CanW w (p2.add j)) ∧ ∀ w6 : World, w6 = storeRow w p2 [(vb vfrom1), (vb vto1), (vb vnum1), (vb vtext1), (vi vkids1)] →
  ∃ qfrom1 qto1 : Bool, ∃ qnum1 qtext1 : Bool, ∃ qkids1 : Int, Row w6 p2 [(vb qfrom1), (vb qto1), (vb qnum1), (vb qtext1), (vi qkids1)] ∧
  K qfrom1 qto1 qnum1 qtext1 qkids1 53 w6)
  (∃ v2 : Bool, w.cell? (p3.add 3) = some (vb v2) ∧
  Br (!v2)
   (∃ v3 : ByteArray, w.cell? (p1.add 4) = some (vs v3) ∧
   Br (!(decide (v3 = ⟨#[]⟩)))
    (∃ vfrom2 vto2 : Bool, ∃ vnum2 vtext2 : Bool, ∃ vkids2 : Int, Row w p3 [(vb vfrom2), (vb vto2), (vb vnum2), (vb vtext2), (vi vkids2)] ∧
    (∀ j, j < 5 → CanW w (p2.add j)) ∧ ∀ w7 : World, w7 = storeRow w p2 [(vb vfrom2), (vb vto2), (vb vnum2), (vb vtext2), (vi vkids2)] →
    ∃ qfrom2 qto2 : Bool, ∃ qnum2 qtext2 : Bool, ∃ qkids2 : Int, Row w7 p2 [(vb qfrom2), (vb qto2), (vb qnum2), (vb qtext2), (vi qkids2)] ∧
    K qfrom2 qto2 qnum2 qtext2 qkids2 53 w7)
    (∃ vfrom3 vto3 : Bool, ∃ vnum3 vtext3 : Bool, ∃ vkids3 : Int, Row w p3 [(vb vfrom3), (vb vto3), (vb vnum3), (vb vtext3), (vi vkids3)] ∧
    (∀ j, j < 5 → CanW w (p2.add j)) ∧ ∀ w8 : World, w8 = storeRow w p2 [(vb vfrom3), (vb vto3), (vb vnum3), (vb vtext3), (vi vkids3)] →
    ∃ qfrom3 qto3 : Bool, ∃ qnum3 qtext3 : Bool, ∃ qkids3 : Int, Row w8 p2 [(vb qfrom3), (vb qto3), (vb qnum3), (vb qtext3), (vi qkids3)] ∧
    K qfrom3 qto3 qnum3 qtext3 qkids3 0 w8))
   (∃ vfrom4 vto4 : Bool, ∃ vnum4 vtext4 : Bool, ∃ vkids4 : Int, Row w p3 [(vb vfrom4), (vb vto4), (vb vnum4), (vb vtext4), (vi vkids4)] ∧
   (∀ j, j < 5 → CanW w (p2.add j)) ∧ ∀ w9 : World, w9 = storeRow w p2 [(vb vfrom4), (vb vto4), (vb vnum4), (vb vtext4), (vi vkids4)] →
   ∃ qfrom4 qto4 : Bool, ∃ qnum4 qtext4 : Bool, ∃ qkids4 : Int, Row w9 p2 [(vb qfrom4), (vb qto4), (vb qnum4), (vb qtext4), (vi qkids4)] ∧
   K qfrom4 qto4 qnum4 qtext4 qkids4 0 w9))
def m_E_j4 (p1 p2 p3 : Addr) (x2 x4 : Bool) (w : World) (K : Bool → Bool → Bool → Bool → Int → Int → World → Prop) : Prop :=
 Br x2
  (m_E_j3 p1 p2 p3 true w K)
  (m_E_j3 p1 p2 p3 x4 w K)
def m_E_j2 (p1 p2 p3 : Addr) (x2 : Bool) (w : World) (K : Bool → Bool → Bool → Bool → Int → Int → World → Prop) : Prop :=
 Br x2
  (m_E_j3 p1 p2 p3 true w K)
  (∃ v4 : Bool, w.cell? (p3.add 2) = some (vb v4) ∧
  Br (!v4)
   (∃ v5 : Int, w.cell? (p1.add 3) = some (vu v5) ∧
   m_E_j4 p1 p2 p3 x2 (v5 != 0) w K)
   (m_E_j4 p1 p2 p3 x2 false w K))
def m_E_j5 (p1 p2 p3 : Addr) (x1 x5 : Bool) (w : World) (K : Bool → Bool → Bool → Bool → Int → Int → World → Prop) : Prop :=
 Br x1
  (m_E_j2 p1 p2 p3 true w K)
  (m_E_j2 p1 p2 p3 x5 w K)
def m_E_j1 (p1 p2 p3 : Addr) (x1 : Bool) (w : World) (K : Bool → Bool → Bool → Bool → Int → Int → World → Prop) : Prop :=
 Br x1
  (m_E_j2 p1 p2 p3 true w K)
  (∃ v6 : Bool, w.cell? (p3.add 1) = some (vb v6) ∧
  Br (!v6)
   (∃ v7 : Int, w.cell? (p1.add 2) = some (vi v7) ∧
   m_E_j5 p1 p2 p3 x1 (v7 != 0) w K)
   (m_E_j5 p1 p2 p3 x1 false w K))
def m_E_j6 (p1 p2 : Addr) (r1 : Bool) (p3 : Addr) (x6 : Bool) (w : World) (K : Bool → Bool → Bool → Bool → Int → Int → World → Prop) : Prop :=
 Br (!r1)
  (m_E_j1 p1 p2 p3 true w K)
  (m_E_j1 p1 p2 p3 x6 w K)
def m_E (aZ bA : Int) (bB bC : Int) (bD : ByteArray) (bE bF : Int) (w : World) (K : Bool → Bool → Bool → Bool → Int → Int → World → Prop) : Prop :=
 ∀ (p1 : Addr) (w1 : World), New w (.cells #[(vi aZ), (vi bA), (vi bB), (vu bC), (vs bD), (vi bE), (vi bF)] 41) p1 w1 →
 ∀ (p2 : Addr) (w2 : World), New w1 (.cells #[(vb false), (vb false), (vb false), (vb false), (vi 0)] 117) p2 w2 →
 ∃ v1 : Int, w2.cell? p1 = some (vi v1) ∧
 Calls Try.prog 71 #[(vi v1)] w2 (fun e w3 => ∃ rfrom1 rto1 : Bool, ∃ rnum1 rtext1 : Bool, ∃ rkids1 : Int, ∃ r1 : Bool, e = .returned (.tuple #[(.agg #[(vb rfrom1), (vb rto1), (vb rnum1), (vb rtext1), (vi rkids1)]), (vb r1)]) ∧ 
  ∀ (p3 : Addr) (w4 : World), New w3 (.cells #[(vb false), (vb false), (vb false), (vb false), (vi 0)] 117) p3 w4 →
  (∀ j, j < 5 → CanW w4 (p3.add j)) ∧ ∀ w5 : World, w5 = storeRow w4 p3 [(vb rfrom1), (vb rto1), (vb rnum1), (vb rtext1), (vi rkids1)] →
  Br (!r1)
   (m_E_j1 p1 p2 p3 true w5 K)
   (∃ v8 : Bool, w5.cell? p3 = some (vb v8) ∧
   Br (!v8)
    (∃ v9 : Int, w5.cell? (p1.add 1) = some (vi v9) ∧
    m_E_j6 p1 p2 r1 p3 (v9 != 0) w5 K)
    (m_E_j6 p1 p2 r1 p3 false w5 K)))
theorem w_E (aZ bA : Int) (bB bC : Int) (bD : ByteArray) (bE bF : Int) (w : World) (K : Bool → Bool → Bool → Bool → Int → Int → World → Prop) (h : m_E aZ bA bB bC bD bE bF w K) :
  Calls Try.prog 74 #[(.agg #[(vi aZ), (vi bA), (vi bB), (vu bC), (vs bD), (vi bE), (vi bF)])] w (fun e w' => ∃ rfrom2 rto2 : Bool, ∃ rnum2 rtext2 : Bool, ∃ rkids2 r2 : Int, e = .returned (.tuple #[(.agg #[(vb rfrom2), (vb rto2), (vb rnum2), (vb rtext2), (vi rkids2)]), (vi r2)]) ∧ K rfrom2 rto2 rnum2 rtext2 rkids2 r2 w') := by
 unfold m_E at h
 refine cw (args := [(.agg #[(vi aZ), (vi bA), (vi bB), (vu bC), (vs bD), (vi bE), (vi bF)])]) Try.func74 Try.ntmps74 (wpE_seq (rg (sn (O := (.cells #[(vi aZ), (vi bA), (vi bB), (vu bC), (vs bD), (vi bE), (vi bF)] 41)) xb ?_)))
 intro p1 w1 hn8
 replace h := h p1 w1 hn8
 refine sn (O := (.cells #[(vb false), (vb false), (vb false), (vb false), (vi 0)] 117)) (x_alloc (Try.zeroValue117 _) rfl) ?_
 intro p2 w2 hn7
 replace h := h p2 w2 hn7
 refine q0 (vi 0) (wpL_nil (th_n (wpE_seq (rg (q0 (vp (some p1)) ?_)))))
 obtain ⟨v1, hv17, h⟩ := h
 refine q2 (vi v1) (xl (Try.isAgg3 _) hv17) ?_
 refine sc Try.call71 (h.mono ?_)
 rintro e w3 ⟨rfrom1, rto1, rnum1, rtext1, rkids1, r1, rfl, h⟩
 refine ⟨_, rfl, ?_⟩
 refine q0 (.tuple #[(.agg #[(vb rfrom1), (vb rto1), (vb rnum1), (vb rtext1), (vi rkids1)]), (vb r1)]) (q0 (.agg #[(vb rfrom1), (vb rto1), (vb rnum1), (vb rtext1), (vi rkids1)]) (q0 (vb r1) (sn (O := (.cells #[(vb false), (vb false), (vb false), (vb false), (vi 0)] 117)) (x_alloc (Try.zeroValue117 _) rfl) ?_)))
 intro p3 w4 hn6
 replace h := h p3 w4 hn6
 obtain ⟨hp1, h⟩ := h
 refine st_set (want0 rfl) (x_storeA (a := p3) (vs := [(vb rfrom1), (vb rto1), (vb rnum1), (vb rtext1), (vi rkids1)]) (by kernel_rfl) (by kernel_rfl) rfl (Try.sizeOf117 _) rfl hp1) ?_
 intro w5 hn1
 replace h := h w5 hn1
 refine q0 (vb r1) (wpL_nil (th_n (wpE_seq (wpE_seq (rg (q0 (vb r1) (q0 (vb (!r1)) (q0 (vb (!r1)) ?_))))))))
 refine wpL_join 9 (fun ρ w => ∃ x1 : Bool, Has ρ [(1, (vp (some p1))), (2, (vp (some p2))), (4, (vp (some p3))), (23, (vb x1))] ∧ m_E_j1 p1 p2 p3 x1 w K) ?_ ?_
 ·rintro ρ w ⟨x1, hH, h⟩
  unfold m_E_j1 at h
  refine wpL_has hH ?_
  clear hH
  refine q0 (vb x1) ?_
  refine wpL_join 9 (fun ρ w => ∃ x2 : Bool, Has ρ [(1, (vp (some p1))), (2, (vp (some p2))), (4, (vp (some p3))), (33, (vb x2))] ∧ m_E_j2 p1 p2 p3 x2 w K) ?_ ?_
  ·rintro ρ w ⟨x2, hH, h⟩
   unfold m_E_j2 at h
   refine wpL_has hH ?_
   clear hH
   refine q0 (vb x2) ?_
   refine wpL_join 9 (fun ρ w => ∃ x3 : Bool, Has ρ [(1, (vp (some p1))), (2, (vp (some p2))), (4, (vp (some p3))), (43, (vb x3))] ∧ m_E_j3 p1 p2 p3 x3 w K) ?_ ?_
   ·rintro ρ w ⟨x3, hH, h⟩
    unfold m_E_j3 at h
    refine wpL_has hH ?_
    clear hH
    refine q0 (vb x3) ?_
    rcases Bool.eq_false_or_eq_true x3 with hg1 | hg1
    ·replace h := h.1 hg1
     refine sk (yD 44 hg1) (sk (yD 44 hg1) (sk (yD 44 hg1) (sk (yD 44 hg1) (sm (sm (sm (sk (yD 44 hg1) (q2 (vb true) (xT hg1) (wpL_nil (th_n (wpE_condT (by kernel_rfl) ?_)))))))))))
     refine wpE_seq (rg ?_)
     obtain ⟨vfrom1, vto1, vnum1, vtext1, vkids1, hv2, h⟩ := h
     refine q2 (.agg #[(vb vfrom1), (vb vto1), (vb vnum1), (vb vtext1), (vi vkids1)]) (x_loadA (a := p3) (vs := [(vb vfrom1), (vb vto1), (vb vnum1), (vb vtext1), (vi vkids1)]) (by kernel_rfl) (Try.isAgg117 _) (Try.sizeOf117 _) rfl hv2) ?_
     obtain ⟨hp2, h⟩ := h
     refine st_set (want0 rfl) (x_storeA (a := p2) (vs := [(vb vfrom1), (vb vto1), (vb vnum1), (vb vtext1), (vi vkids1)]) (by kernel_rfl) (by kernel_rfl) rfl (Try.sizeOf117 _) rfl hp2) ?_
     intro w6 hn2
     replace h := h w6 hn2
     refine q0 (vi 53) (wpL_nil (th_n (wpE_ret (th_r ?_))))
     obtain ⟨qfrom1, qto1, qnum1, qtext1, qkids1, hv1, h⟩ := h
     refine resG (.inl rfl) (vs := [(.agg #[(vb qfrom1), (vb qto1), (vb qnum1), (vb qtext1), (vi qkids1)]), (vi 53)]) (v := (.tuple #[(.agg #[(vb qfrom1), (vb qto1), (vb qnum1), (vb qtext1), (vi qkids1)]), (vi 53)])) Try.results74 ⟨(RV.cellA (by kernel_rfl) (Try.isAgg117 _) (Try.sizeOf117 _) rfl hv1), (rvT (by kernel_rfl)), trivial⟩ (by kernel_rfl) ?_
     exact ⟨qfrom1, qto1, qnum1, qtext1, qkids1, 53, rfl, h⟩
    ·replace h := h.2 hg1
     refine q1 (vp (some (p3.add 3))) (want1 rfl (yD 44 hg1)) ?_
     obtain ⟨v2, hv10, h⟩ := h
     refine stp (v := (vb v2)) (want1 rfl (yD 44 hg1)) (xl (Try.isAgg4 _) hv10) (q1 (vb (!v2)) (want1 rfl (yD 44 hg1)) (q1 (vb (!v2)) (want1 rfl (yD 44 hg1)) ?_))
     rcases Bool.eq_false_or_eq_true (!v2) with hg2 | hg2
     ·replace h := h.1 hg2
      refine q1 (vp (some (p1.add 4))) (want1 rfl (yD 48 hg2)) ?_
      obtain ⟨v3, hv7, h⟩ := h
      refine stp (v := (vs v3)) (want1 rfl (yD 48 hg2)) (xl (Try.isAgg9 _) hv7) (stp (v := (vb (!(decide (v3 = ⟨#[]⟩))))) (want1 rfl (yD 48 hg2)) (x_strneq (by kernel_rfl) (by kernel_rfl)) (stp (v := (vb (!(decide (v3 = ⟨#[]⟩))))) (want1 rfl (yD 44 hg1)) (xT hg2) (q2 (vb (!(decide (v3 = ⟨#[]⟩)))) (xF hg1) (wpL_nil (th_n ?_)))))
      refine wpE_cond (t := (!(decide (v3 = ⟨#[]⟩)))) (by kernel_rfl) (fun hc1 => ?_) (fun hc1 => ?_)
      ·replace h := h.1 hc1
       refine wpE_seq (rg ?_)
       obtain ⟨vfrom2, vto2, vnum2, vtext2, vkids2, hv4, h⟩ := h
       refine q2 (.agg #[(vb vfrom2), (vb vto2), (vb vnum2), (vb vtext2), (vi vkids2)]) (x_loadA (a := p3) (vs := [(vb vfrom2), (vb vto2), (vb vnum2), (vb vtext2), (vi vkids2)]) (by kernel_rfl) (Try.isAgg117 _) (Try.sizeOf117 _) rfl hv4) ?_
       obtain ⟨hp3, h⟩ := h
       refine st_set (want0 rfl) (x_storeA (a := p2) (vs := [(vb vfrom2), (vb vto2), (vb vnum2), (vb vtext2), (vi vkids2)]) (by kernel_rfl) (by kernel_rfl) rfl (Try.sizeOf117 _) rfl hp3) ?_
       intro w7 hn3
       replace h := h w7 hn3
       refine q0 (vi 53) (wpL_nil (th_n (wpE_ret (th_r ?_))))
       obtain ⟨qfrom2, qto2, qnum2, qtext2, qkids2, hv3, h⟩ := h
       refine resG (.inl rfl) (vs := [(.agg #[(vb qfrom2), (vb qto2), (vb qnum2), (vb qtext2), (vi qkids2)]), (vi 53)]) (v := (.tuple #[(.agg #[(vb qfrom2), (vb qto2), (vb qnum2), (vb qtext2), (vi qkids2)]), (vi 53)])) Try.results74 ⟨(RV.cellA (by kernel_rfl) (Try.isAgg117 _) (Try.sizeOf117 _) rfl hv3), (rvT (by kernel_rfl)), trivial⟩ (by kernel_rfl) ?_
       exact ⟨qfrom2, qto2, qnum2, qtext2, qkids2, 53, rfl, h⟩
      ·replace h := h.2 hc1
       refine wpE_skip (th_n (wpE_seq (rg ?_)))
       obtain ⟨vfrom3, vto3, vnum3, vtext3, vkids3, hv6, h⟩ := h
       refine q2 (.agg #[(vb vfrom3), (vb vto3), (vb vnum3), (vb vtext3), (vi vkids3)]) (x_loadA (a := p3) (vs := [(vb vfrom3), (vb vto3), (vb vnum3), (vb vtext3), (vi vkids3)]) (by kernel_rfl) (Try.isAgg117 _) (Try.sizeOf117 _) rfl hv6) ?_
       obtain ⟨hp4, h⟩ := h
       refine st_set (want0 rfl) (x_storeA (a := p2) (vs := [(vb vfrom3), (vb vto3), (vb vnum3), (vb vtext3), (vi vkids3)]) (by kernel_rfl) (by kernel_rfl) rfl (Try.sizeOf117 _) rfl hp4) ?_
       intro w8 hn4
       replace h := h w8 hn4
       refine q0 (vi 0) (wpL_nil (th_n (wpE_ret ?_)))
       obtain ⟨qfrom3, qto3, qnum3, qtext3, qkids3, hv5, h⟩ := h
       refine resG (.inl rfl) (vs := [(.agg #[(vb qfrom3), (vb qto3), (vb qnum3), (vb qtext3), (vi qkids3)]), (vi 0)]) (v := (.tuple #[(.agg #[(vb qfrom3), (vb qto3), (vb qnum3), (vb qtext3), (vi qkids3)]), (vi 0)])) Try.results74 ⟨(RV.cellA (by kernel_rfl) (Try.isAgg117 _) (Try.sizeOf117 _) rfl hv5), (rvT (by kernel_rfl)), trivial⟩ (by kernel_rfl) ?_
       exact ⟨qfrom3, qto3, qnum3, qtext3, qkids3, 0, rfl, h⟩
     ·replace h := h.2 hg2
      refine sk (yD 48 hg2) (sk (yD 48 hg2) (sk (yD 48 hg2) (stp (v := (vb false)) (want1 rfl (yD 44 hg1)) (xF hg2) (q2 (vb false) (xF hg1) (wpL_nil (th_n (wpE_condF (by kernel_rfl) (wpE_skip (th_n (wpE_seq (rg ?_)))))))))))
      obtain ⟨vfrom4, vto4, vnum4, vtext4, vkids4, hv9, h⟩ := h
      refine q2 (.agg #[(vb vfrom4), (vb vto4), (vb vnum4), (vb vtext4), (vi vkids4)]) (x_loadA (a := p3) (vs := [(vb vfrom4), (vb vto4), (vb vnum4), (vb vtext4), (vi vkids4)]) (by kernel_rfl) (Try.isAgg117 _) (Try.sizeOf117 _) rfl hv9) ?_
      obtain ⟨hp5, h⟩ := h
      refine st_set (want0 rfl) (x_storeA (a := p2) (vs := [(vb vfrom4), (vb vto4), (vb vnum4), (vb vtext4), (vi vkids4)]) (by kernel_rfl) (by kernel_rfl) rfl (Try.sizeOf117 _) rfl hp5) ?_
      intro w9 hn5
      replace h := h w9 hn5
      refine q0 (vi 0) (wpL_nil (th_n (wpE_ret ?_)))
      obtain ⟨qfrom4, qto4, qnum4, qtext4, qkids4, hv8, h⟩ := h
      refine resG (.inl rfl) (vs := [(.agg #[(vb qfrom4), (vb qto4), (vb qnum4), (vb qtext4), (vi qkids4)]), (vi 0)]) (v := (.tuple #[(.agg #[(vb qfrom4), (vb qto4), (vb qnum4), (vb qtext4), (vi qkids4)]), (vi 0)])) Try.results74 ⟨(RV.cellA (by kernel_rfl) (Try.isAgg117 _) (Try.sizeOf117 _) rfl hv8), (rvT (by kernel_rfl)), trivial⟩ (by kernel_rfl) ?_
      exact ⟨qfrom4, qto4, qnum4, qtext4, qkids4, 0, rfl, h⟩
   ·skip
    rcases Bool.eq_false_or_eq_true x2 with hg3 | hg3
    ·replace h := h.1 hg3
     refine sk (yD 34 hg3) (sk (yD 34 hg3) (sk (yD 34 hg3) (sk (yD 34 hg3) (sm (sm (sm (sk (yD 34 hg3) (q2 (vb true) (xT hg3) (wpL_nil ?_)))))))))
     exact ⟨true, hm, h⟩
    ·replace h := h.2 hg3
     refine q1 (vp (some (p3.add 2))) (want1 rfl (yD 34 hg3)) ?_
     obtain ⟨v4, hv12, h⟩ := h
     refine stp (v := (vb v4)) (want1 rfl (yD 34 hg3)) (xl (Try.isAgg4 _) hv12) (q1 (vb (!v4)) (want1 rfl (yD 34 hg3)) (q1 (vb (!v4)) (want1 rfl (yD 34 hg3)) ?_))
     refine wpL_join 4 (fun ρ w => ∃ x4 : Bool, Has ρ [(1, (vp (some p1))), (2, (vp (some p2))), (4, (vp (some p3))), (34, (vb x2)), (42, (vb x4))] ∧ m_E_j4 p1 p2 p3 x2 x4 w K) ?_ ?_
     ·rintro ρ w ⟨x4, hH, h⟩
      unfold m_E_j4 at h
      refine wpL_has hH ?_
      clear hH
      rcases Bool.eq_false_or_eq_true x2 with hg4 | hg4
      ·replace h := h.1 hg4
       refine q2 (vb true) (xT hg4) (wpL_nil ?_)
       exact ⟨true, hm, h⟩
      ·replace h := h.2 hg4
       refine q2 (vb x4) (xF hg4) (wpL_nil ?_)
       exact ⟨x4, hm, h⟩
     ·skip
      rcases Bool.eq_false_or_eq_true (!v4) with hg5 | hg5
      ·replace h := h.1 hg5
       refine q1 (vp (some (p1.add 3))) (want1 rfl (yD 38 hg5)) ?_
       obtain ⟨v5, hv11, h⟩ := h
       refine stp (v := (vu v5)) (want1 rfl (yD 38 hg5)) (xl (Try.isAgg39 _) hv11) (q1 (vb (v5 != 0)) (want1 rfl (yD 38 hg5)) (stp (v := (vb (v5 != 0))) (want1 rfl (yD 34 hg3)) (xT hg5) (wpL_nil ?_)))
       exact ⟨(v5 != 0), hm, h⟩
      ·replace h := h.2 hg5
       refine sk (yD 38 hg5) (sk (yD 38 hg5) (sk (yD 38 hg5) (stp (v := (vb false)) (want1 rfl (yD 34 hg3)) (xF hg5) (wpL_nil ?_))))
       exact ⟨false, hm, h⟩
  ·skip
   rcases Bool.eq_false_or_eq_true x1 with hg6 | hg6
   ·replace h := h.1 hg6
    refine sk (yD 24 hg6) (sk (yD 24 hg6) (sk (yD 24 hg6) (sk (yD 24 hg6) (sm (sm (sm (sk (yD 24 hg6) (q2 (vb true) (xT hg6) (wpL_nil ?_)))))))))
    exact ⟨true, hm, h⟩
   ·replace h := h.2 hg6
    refine q1 (vp (some (p3.add 1))) (want1 rfl (yD 24 hg6)) ?_
    obtain ⟨v6, hv14, h⟩ := h
    refine stp (v := (vb v6)) (want1 rfl (yD 24 hg6)) (xl (Try.isAgg4 _) hv14) (q1 (vb (!v6)) (want1 rfl (yD 24 hg6)) (q1 (vb (!v6)) (want1 rfl (yD 24 hg6)) ?_))
    refine wpL_join 4 (fun ρ w => ∃ x5 : Bool, Has ρ [(1, (vp (some p1))), (2, (vp (some p2))), (4, (vp (some p3))), (24, (vb x1)), (32, (vb x5))] ∧ m_E_j5 p1 p2 p3 x1 x5 w K) ?_ ?_
    ·rintro ρ w ⟨x5, hH, h⟩
     unfold m_E_j5 at h
     refine wpL_has hH ?_
     clear hH
     rcases Bool.eq_false_or_eq_true x1 with hg7 | hg7
     ·replace h := h.1 hg7
      refine q2 (vb true) (xT hg7) (wpL_nil ?_)
      exact ⟨true, hm, h⟩
     ·replace h := h.2 hg7
      refine q2 (vb x5) (xF hg7) (wpL_nil ?_)
      exact ⟨x5, hm, h⟩
    ·skip
     rcases Bool.eq_false_or_eq_true (!v6) with hg8 | hg8
     ·replace h := h.1 hg8
      refine q1 (vp (some (p1.add 2))) (want1 rfl (yD 28 hg8)) ?_
      obtain ⟨v7, hv13, h⟩ := h
      refine stp (v := (vi v7)) (want1 rfl (yD 28 hg8)) (xl (Try.isAgg3 _) hv13) (q1 (vb (v7 != 0)) (want1 rfl (yD 28 hg8)) (stp (v := (vb (v7 != 0))) (want1 rfl (yD 24 hg6)) (xT hg8) (wpL_nil ?_)))
      exact ⟨(v7 != 0), hm, h⟩
     ·replace h := h.2 hg8
      refine sk (yD 28 hg8) (sk (yD 28 hg8) (sk (yD 28 hg8) (stp (v := (vb false)) (want1 rfl (yD 24 hg6)) (xF hg8) (wpL_nil ?_))))
      exact ⟨false, hm, h⟩
 ·skip
  rcases Bool.eq_false_or_eq_true (!r1) with hg9 | hg9
  ·replace h := h.1 hg9
   refine sk (yD 14 hg9) (sk (yD 14 hg9) (sk (yD 14 hg9) (sk (yD 14 hg9) (sm (sm (sm (sk (yD 14 hg9) (q2 (vb true) (xT hg9) (wpL_nil ?_)))))))))
   exact ⟨true, hm, h⟩
  ·replace h := h.2 hg9
   refine q1 (vp (some p3)) (want1 rfl (yD 14 hg9)) ?_
   obtain ⟨v8, hv16, h⟩ := h
   refine stp (v := (vb v8)) (want1 rfl (yD 14 hg9)) (xl (Try.isAgg4 _) hv16) (q1 (vb (!v8)) (want1 rfl (yD 14 hg9)) (q1 (vb (!v8)) (want1 rfl (yD 14 hg9)) ?_))
   refine wpL_join 4 (fun ρ w => ∃ x6 : Bool, Has ρ [(1, (vp (some p1))), (2, (vp (some p2))), (4, (vp (some p3))), (14, (vb (!r1))), (22, (vb x6))] ∧ m_E_j6 p1 p2 r1 p3 x6 w K) ?_ ?_
   ·rintro ρ w ⟨x6, hH, h⟩
    unfold m_E_j6 at h
    refine wpL_has hH ?_
    clear hH
    rcases Bool.eq_false_or_eq_true (!r1) with hg10 | hg10
    ·replace h := h.1 hg10
     refine q2 (vb true) (xT hg10) (wpL_nil ?_)
     exact ⟨true, hm, h⟩
    ·replace h := h.2 hg10
     refine q2 (vb x6) (xF hg10) (wpL_nil ?_)
     exact ⟨x6, hm, h⟩
   ·skip
    rcases Bool.eq_false_or_eq_true (!v8) with hg11 | hg11
    ·replace h := h.1 hg11
     refine q1 (vp (some (p1.add 1))) (want1 rfl (yD 18 hg11)) ?_
     obtain ⟨v9, hv15, h⟩ := h
     refine stp (v := (vi v9)) (want1 rfl (yD 18 hg11)) (xl (Try.isAgg3 _) hv15) (q1 (vb (v9 != 0)) (want1 rfl (yD 18 hg11)) (stp (v := (vb (v9 != 0))) (want1 rfl (yD 14 hg9)) (xT hg11) (wpL_nil ?_)))
     exact ⟨(v9 != 0), hm, h⟩
    ·replace h := h.2 hg11
     refine sk (yD 18 hg11) (sk (yD 18 hg11) (sk (yD 18 hg11) (stp (v := (vb false)) (want1 rfl (yD 14 hg9)) (xF hg11) (wpL_nil ?_))))
     exact ⟨false, hm, h⟩
def m_Y_j1 (p1 p2 : Addr) (x1 : Bool) (w : World) (K : Int → World → Prop) : Prop :=
 Br x1
  (K 50 w)
  (∃ v1 : Bool, w.cell? (p1.add 1) = some (vb v1) ∧
  Br v1
   (∃ v2 : Int, w.cell? (p2.add 2) = some (vi v2) ∧
   Calls Try.prog 94 #[(vi v2)] w (fun e w3 => ∃ r1 : Bool, e = .returned (vb r1) ∧ 
    Br (!r1)
     (K 50 w3)
     (∃ v3 : Int, w3.cell? (p2.add 2) = some (vi v3) ∧
     ∃ v4 : Int, w3.cell? (p2.add 1) = some (vi v4) ∧
     Br (v3 == v4)
      (K 50 w3)
      (∃ v5 : ByteArray, w3.cell? (p2.add 4) = some (vs v5) ∧
      Br (decide ((v5.size : Int) > 64))
       (K 1 w3)
       (K 0 w3)))))
   (∃ v6 : ByteArray, w.cell? (p2.add 4) = some (vs v6) ∧
   Br (decide ((v6.size : Int) > 64))
    (K 1 w)
    (K 0 w)))
def m_Y (sfrom1 sto1 : Bool) (snum1 stext1 : Bool) (skids1 aZ : Int) (bA bB bC : Int) (bD : ByteArray) (bE bF : Int) (w : World) (K : Int → World → Prop) : Prop :=
 ∀ (p1 : Addr) (w1 : World), New w (.cells #[(vb sfrom1), (vb sto1), (vb snum1), (vb stext1), (vi skids1)] 117) p1 w1 →
 ∀ (p2 : Addr) (w2 : World), New w1 (.cells #[(vi aZ), (vi bA), (vi bB), (vu bC), (vs bD), (vi bE), (vi bF)] 41) p2 w2 →
 ∃ v7 : Bool, w2.cell? p1 = some (vb v7) ∧
 Br v7
  (∃ v8 : Int, w2.cell? (p2.add 1) = some (vi v8) ∧
  Calls Try.prog 94 #[(vi v8)] w2 (fun e w4 => ∃ r2 : Bool, e = .returned (vb r2) ∧ 
   m_Y_j1 p1 p2 (!r2) w4 K))
  (m_Y_j1 p1 p2 false w2 K)
theorem w_Y (sfrom1 sto1 : Bool) (snum1 stext1 : Bool) (skids1 aZ : Int) (bA bB bC : Int) (bD : ByteArray) (bE bF : Int) (w : World) (K : Int → World → Prop) (h : m_Y sfrom1 sto1 snum1 stext1 skids1 aZ bA bB bC bD bE bF w K) :
  Calls Try.prog 75 #[(.agg #[(vb sfrom1), (vb sto1), (vb snum1), (vb stext1), (vi skids1)]), (.agg #[(vi aZ), (vi bA), (vi bB), (vu bC), (vs bD), (vi bE), (vi bF)])] w (fun e w' => ∃ r3 : Int, e = .returned (vi r3) ∧ K r3 w') := by
 unfold m_Y at h
 refine cw (args := [(.agg #[(vb sfrom1), (vb sto1), (vb snum1), (vb stext1), (vi skids1)]), (.agg #[(vi aZ), (vi bA), (vi bB), (vu bC), (vs bD), (vi bE), (vi bF)])]) Try.func75 Try.ntmps75 (wpE_seq (rg (sn (O := (.cells #[(vb sfrom1), (vb sto1), (vb snum1), (vb stext1), (vi skids1)] 117)) xb ?_)))
 intro p1 w1 hn2
 replace h := h p1 w1 hn2
 refine sn (O := (.cells #[(vi aZ), (vi bA), (vi bB), (vu bC), (vs bD), (vi bE), (vi bF)] 41)) xb ?_
 intro p2 w2 hn1
 replace h := h p2 w2 hn1
 refine q0 (vi 0) (wpL_nil (th_n (wpE_seq (wpE_block (wpE_seq ?_)))))
 refine wpE_join (fun ρ w => ∃ x1 : Bool, Has ρ [(2, (vp (some p1))), (3, (vp (some p2))), (5, (vb x1))] ∧ m_Y_j1 p1 p2 x1 w K) ?_ ?_
 ·rintro ρ w ⟨x1, hH, h⟩
  unfold m_Y_j1 at h
  refine wpE_has hH ?_
  clear hH
  refine wpE_cond (t := x1) (by kernel_rfl) (fun hc1 => ?_) (fun hc1 => ?_)
  ·replace h := h.1 hc1
   refine wpE_skip (th_n (wpE_condT' (t := x1) (by kernel_rfl) hc1 (wpE_seq (rg (q0 (vi 50) (wpL_nil (th_n (wpE_ret (bl_r (th_r (rs1 Try.results75 (v := (vi 50)) ?_)))))))))))
   exact ⟨50, rfl, h⟩
  ·replace h := h.2 hc1
   refine rg (q0 (vp (some (p1.add 1))) ?_)
   obtain ⟨v1, hv6, h⟩ := h
   refine q2 (vb v1) (xl (Try.isAgg4 _) hv6) (q0 (vb v1) ?_)
   rcases Bool.eq_false_or_eq_true v1 with hg1 | hg1
   ·replace h := h.1 hg1
    refine q1 (vp (some (p2.add 2))) (want1 rfl (yD 16 hg1)) ?_
    obtain ⟨v2, hv4, h⟩ := h
    refine stp (v := (vi v2)) (want1 rfl (yD 16 hg1)) (xl (Try.isAgg3 _) hv4) ?_
    refine st_call (want1 rfl (yD 16 hg1)) (xc Try.call94) (h.mono ?_)
    rintro e w3 ⟨r1, rfl, h⟩
    refine ⟨_, rfl, ?_⟩
    refine q1 (vb (!r1)) (want1 rfl (yD 16 hg1)) (q1 (vb (!r1)) (want1 rfl (yD 16 hg1)) ?_)
    rcases Bool.eq_false_or_eq_true (!r1) with hg2 | hg2
    ·replace h := h.1 hg2
     refine sk (yD 21 hg2) (sk (yD 21 hg2) (sk (yD 21 hg2) (sk (yD 21 hg2) (sk (yD 21 hg2) (stp (v := (vb true)) (want1 rfl (yD 16 hg1)) (xT hg2) (q2 (vb true) (xT hg1) (q0 (vb true) (wpL_nil (th_n (wpE_condT (by kernel_rfl) (wpE_seq ?_)))))))))))
     refine rg (q0 (vi 50) (wpL_nil (th_n (wpE_ret (bl_r (th_r (rs1 Try.results75 (v := (vi 50)) ?_)))))))
     exact ⟨50, rfl, h⟩
    ·replace h := h.2 hg2
     refine q1 (vp (some (p2.add 2))) (want1 rfl (yD 21 hg2)) ?_
     obtain ⟨v3, hv3, h⟩ := h
     refine stp (v := (vi v3)) (want1 rfl (yD 21 hg2)) (xl (Try.isAgg3 _) hv3) (q1 (vp (some (p2.add 1))) (want1 rfl (yD 21 hg2)) ?_)
     obtain ⟨v4, hv2, h⟩ := h
     refine stp (v := (vi v4)) (want1 rfl (yD 21 hg2)) (xl (Try.isAgg3 _) hv2) (q1 (vb (v3 == v4)) (want1 rfl (yD 21 hg2)) (stp (v := (vb (v3 == v4))) (want1 rfl (yD 16 hg1)) (xF hg2) (q2 (vb (v3 == v4)) (xT hg1) (q0 (vb (v3 == v4)) (wpL_nil (th_n ?_))))))
     refine wpE_cond (t := (v3 == v4)) (by kernel_rfl) (fun hc2 => ?_) (fun hc2 => ?_)
     ·replace h := h.1 hc2
      refine wpE_seq (rg (q0 (vi 50) (wpL_nil (th_n (wpE_ret (bl_r (th_r (rs1 Try.results75 (v := (vi 50)) ?_))))))))
      exact ⟨50, rfl, h⟩
     ·replace h := h.2 hc2
      refine wpE_seq (rg (q0 (vp (some (p2.add 4))) ?_))
      obtain ⟨v5, hv1, h⟩ := h
      refine q2 (vs v5) (xl (Try.isAgg9 _) hv1) (q0 (vi (v5.size : Int)) (q0 (vb (decide ((v5.size : Int) > 64))) (q0 (vb (decide ((v5.size : Int) > 64))) (wpL_nil (th_n ?_)))))
      refine wpE_cond (t := (decide ((v5.size : Int) > 64))) (by kernel_rfl) (fun hc3 => ?_) (fun hc3 => ?_)
      ·replace h := h.1 hc3
       refine wpE_seq (rg (q0 (vi 1) (wpL_nil (th_n (wpE_ret (bl_r (th_r (rs1 Try.results75 (v := (vi 1)) ?_))))))))
       exact ⟨1, rfl, h⟩
      ·replace h := h.2 hc3
       refine wpE_skip (bl_n (th_n (wpE_seq (rg (q0 (vi 0) (wpL_nil (th_n (wpE_ret (rs1 Try.results75 (v := (vi 0)) ?_)))))))))
       exact ⟨0, rfl, h⟩
   ·replace h := h.2 hg1
    refine sk (yD 16 hg1) (sk (yD 16 hg1) (sk (yD 16 hg1) (sk (yD 16 hg1) (sk (yD 16 hg1) (sm (sm (sm (sm (sm (sk (yD 16 hg1) (q2 (vb false) (xF hg1) ?_)))))))))))
    refine q0 (vb false) (wpL_nil (th_n (wpE_condF (by kernel_rfl) (wpE_seq (rg (q0 (vp (some (p2.add 4))) ?_))))))
    obtain ⟨v6, hv5, h⟩ := h
    refine q2 (vs v6) (xl (Try.isAgg9 _) hv5) (q0 (vi (v6.size : Int)) (q0 (vb (decide ((v6.size : Int) > 64))) (q0 (vb (decide ((v6.size : Int) > 64))) (wpL_nil (th_n ?_)))))
    refine wpE_cond (t := (decide ((v6.size : Int) > 64))) (by kernel_rfl) (fun hc4 => ?_) (fun hc4 => ?_)
    ·replace h := h.1 hc4
     refine wpE_seq (rg (q0 (vi 1) (wpL_nil (th_n (wpE_ret (bl_r (th_r (rs1 Try.results75 (v := (vi 1)) ?_))))))))
     exact ⟨1, rfl, h⟩
    ·replace h := h.2 hc4
     refine wpE_skip (bl_n (th_n (wpE_seq (rg (q0 (vi 0) (wpL_nil (th_n (wpE_ret (rs1 Try.results75 (v := (vi 0)) ?_)))))))))
     exact ⟨0, rfl, h⟩
 ·skip
  refine rg (q0 (vp (some p1)) ?_)
  obtain ⟨v7, hv8, h⟩ := h
  refine q2 (vb v7) (xl (Try.isAgg4 _) hv8) (q0 (vb v7) ?_)
  rcases Bool.eq_false_or_eq_true v7 with hg3 | hg3
  ·replace h := h.1 hg3
   refine q1 (vp (some (p2.add 1))) (want1 rfl (yD 8 hg3)) ?_
   obtain ⟨v8, hv7, h⟩ := h
   refine stp (v := (vi v8)) (want1 rfl (yD 8 hg3)) (xl (Try.isAgg3 _) hv7) ?_
   refine st_call (want1 rfl (yD 8 hg3)) (xc Try.call94) (h.mono ?_)
   rintro e w4 ⟨r2, rfl, h⟩
   refine ⟨_, rfl, ?_⟩
   refine q1 (vb (!r2)) (want1 rfl (yD 8 hg3)) (q2 (vb (!r2)) (xT hg3) (q0 (vb (!r2)) (wpL_nil (th_n ?_))))
   exact ⟨(!r2), hm, h⟩
  ·replace h := h.2 hg3
   refine sk (yD 8 hg3) (sk (yD 8 hg3) (sk (yD 8 hg3) (sk (yD 8 hg3) (q2 (vb false) (xF hg3) (q0 (vb false) (wpL_nil (th_n ?_)))))))
   exact ⟨false, hm, h⟩
def m_G1_l1 (t1 : Int) (cap3 cap4 : Addr) (r1 : Sl) (x1 : Int) (wl1 : World) (Kc1 : Int → World → Prop) (K : World → Prop) : Prop :=
 Br (decide (x1 < (r1.len : Int)))
  (∃ a1 : Addr, At r1 x1 1 a1 ∧
  ∃ v6 : Int, wl1.cell? a1 = some (vi v6) ∧
  ∃ v7 : Value, wl1.cell? cap3 = some v7 ∧
  ∃ (f1 : FuncId) (fs1 cs1 : Array Value), v7 = .func (.func f1) fs1 cs1 ∧
  (∀ args w, (callFunc f1 args).run Try.prog w = .ok (.enter f1 args) w) ∧ Calls Try.prog f1 (fs1 ++ #[(vi v6)] ++ cs1) wl1 (fun e w3 => e = .returned (.tuple #[]) ∧ 
   Kc1 (IntKind.i64.wrap (x1 + 1)) w3))
  (∃ v8 : Sl, wl1.cell? cap4 = some v8.v ∧
  ∀ (p1 : Addr) (w4 : World), New wl1 (.cells #[(vi t1)] 23) p1 w4 →
  ∃ s1 : Sl, ∃ w5 : World, (Builtin.append_ #[36, 36] 36 #[v8.v, (Sl.mk (some p1) 1 1).v]).run Try.prog w4 = .ok s1.v w5 ∧
  CanW w5 cap4 ∧ ∀ w6 : World, w6 = w5.setCell cap4 s1.v →
  K w6)
def m_G1 (t1 : Int) (cap1 cap2 : Addr) (cap3 cap4 : Addr) (w : World) (K : World → Prop) : Prop :=
 ∃ v1 : Option Nat, w.cell? cap1 = some (.map v1) ∧
 ∃ v2 : Int, (Instr.lookup 130 (.map v1) (vi t1) false).run Try.prog w = .ok (vi v2) w ∧
 Br (decide (v2 > 0))
  (K w)
  (∃ v3 : Option Nat, w.cell? cap1 = some (.map v3) ∧
  ∃ v4 : Int, (Instr.lookup 130 (.map v3) (vi t1) false).run Try.prog w = .ok (vi v4) w ∧
  ∃ w1 : World, (Instr.mapUpdate 130 (.map v3) (vi t1) (vi (IntKind.i64.wrap (v4 + 1)))).run Try.prog w = .ok () w1 ∧
  ∃ v5 : Option Addr, w1.cell? cap2 = some (vp v5) ∧
  Calls Try.prog 56 #[(vp v5), (vi t1)] w1 (fun e w2 => ∃ r1 : Sl, e = .returned r1.v ∧ 
   ∃ (I1 : Int → World → Prop) (mu1 : Int → World → Nat), I1 0 w2 ∧
    ∀ (x1 : Int) (wl1 : World), I1 x1 wl1 → m_G1_l1 t1 cap3 cap4 r1 x1 wl1 (fun y'0 w' => I1 y'0 w' ∧ mu1 y'0 w' < mu1 x1 wl1) K))
theorem w_G1 (t1 : Int) (cap1 cap2 : Addr) (cap3 cap4 : Addr) (w : World) (K : World → Prop) (h : m_G1 t1 cap1 cap2 cap3 cap4 w K) :
  Calls Try.prog 79 #[(vi t1), (vp (some cap1)), (vp (some cap2)), (vp (some cap3)), (vp (some cap4))] w (fun e w' => e = .returned (.tuple #[]) ∧ K  w') := by
 unfold m_G1 at h
 refine cw (args := [(vi t1), (vp (some cap1)), (vp (some cap2)), (vp (some cap3)), (vp (some cap4))]) Try.func79 Try.ntmps79 (wpE_seq (wpE_seq (rg ?_)))
 obtain ⟨v1, hv11, h⟩ := h
 refine q2 (.map v1) (xl (Try.isAgg130 _) hv11) (q0 (vi t1) ?_)
 obtain ⟨v2, hv10, h⟩ := h
 refine q2 (vi v2) (x_lookup (by kernel_rfl) (by kernel_rfl) hv10) (q0 (vb (decide (v2 > 0))) (wpL_nil (th_n ?_)))
 refine wpE_cond (t := (decide (v2 > 0))) (by kernel_rfl) (fun hc1 => ?_) (fun hc1 => ?_)
 ·replace h := h.1 hc1
  refine wpE_ret (th_r (res0 (.inl rfl) Try.results79 ?_))
  exact ⟨rfl, h⟩
 ·replace h := h.2 hc1
  refine wpE_skip (th_n (wpE_seq (rg ?_)))
  obtain ⟨v3, hv9, h⟩ := h
  refine q2 (.map v3) (xl (Try.isAgg130 _) hv9) (q0 (vi t1) ?_)
  obtain ⟨v4, hv8, h⟩ := h
  refine q2 (vi v4) (x_lookup (by kernel_rfl) (by kernel_rfl) hv8) (q0 (vi (IntKind.i64.wrap (v4 + 1))) ?_)
  obtain ⟨w1, hv7, h⟩ := h
  refine st_skip (want0 rfl) (x_mapUpdate (by kernel_rfl) (by kernel_rfl) (by kernel_rfl) hv7) (wpL_nil (th_n (wpE_seq (wpE_seq (rg ?_)))))
  obtain ⟨v5, hv6, h⟩ := h
  refine q2 (vp v5) (xl (Try.isAgg28 _) hv6) (q0 (vi t1) ?_)
  refine sc Try.call56 (h.mono ?_)
  rintro e w2 ⟨r1, rfl, h⟩
  refine ⟨_, rfl, ?_⟩
  refine q0 (vi (r1.len : Int)) (q0 (vi 0) (wpL_nil (th_n (wpE_block ?_))))
  obtain ⟨I1, mu1, h0, hr⟩ := h
  refine wpE_loop (σ := Int × World) (fun s ρ w => w = s.2 ∧ Has ρ [(0, (vi t1)), (3, (vp (some cap3))), (4, (vp (some cap4))), (18, r1.v), (19, (vi (r1.len : Int))), (20, (vi s.1))] ∧ I1 s.1 s.2) (fun s => mu1 s.1 s.2) (0, w2) ⟨rfl, hm, h0⟩ ?_
  rintro ⟨x1, wl1⟩ ρ w ⟨hw, hH, hI⟩
  obtain rfl : wl1 = w := (show w = wl1 from hw).symm
  replace hH : Has ρ [(0, (vi t1)), (3, (vp (some cap3))), (4, (vp (some cap4))), (18, r1.v), (19, (vi (r1.len : Int))), (20, (vi x1))] := hH
  have h := hr x1 wl1 hI
  clear hr h0
  unfold m_G1_l1 at h
  refine wpE_has hH ?_
  clear hH hI
  refine wpE_seq (rg (q0 (vb (decide (x1 < (r1.len : Int)))) (wpL_nil (th_n (wpE_seq ?_)))))
  refine wpE_cond (t := (decide (x1 < (r1.len : Int)))) (by kernel_rfl) (fun hc2 => ?_) (fun hc2 => ?_)
  ·replace h := h.1 hc2
   refine wpE_skip (th_n (wpE_seq (wpE_block (wpE_seq (rg ?_)))))
   obtain ⟨a1, hv3, h⟩ := h
   refine q2 (vp (some a1)) (xi (Try.runUnderlying36 _) (Try.sizeOf23 _) hv3) ?_
   obtain ⟨v6, hv2, h⟩ := h
   refine q2 (vi v6) (xl (Try.isAgg23 _) hv2) (q0 (vi v6) (wpL_nil (th_n (rg ?_))))
   obtain ⟨v7, hv1, h⟩ := h
   refine q2 v7 (xl (Try.isAgg90 _) hv1) (q0 (vi v6) ?_)
   obtain ⟨f1, fs1, cs1, hp1, h⟩ := h
   obtain ⟨hf1, h⟩ := h
   refine st_call (want0 rfl) (x_callmE (fs := fs1) (caps := cs1) (args := #[(vi v6)]) (by kernel_rfl) hp1 hf1 (by kernel_rfl) rfl) (h.mono ?_)
   rintro e w3 ⟨rfl, h⟩
   refine ⟨_, rfl, ?_⟩
   refine wpL_nil (bl_n (th_n (rg (q0 (vi (IntKind.i64.wrap (x1 + 1))) (q0 (vi (IntKind.i64.wrap (x1 + 1))) (wpL_nil (th_n ?_)))))))
   exact ⟨((IntKind.i64.wrap (x1 + 1)), w3), ⟨rfl, hm, h.1⟩, h.2⟩
  ·replace h := h.2 hc2
   refine wpE_exit (th_x (th_x (bl_eq (th_n (rg ?_)))))
   obtain ⟨v8, hv5, h⟩ := h
   refine q2 v8.v (xl (Try.isAgg36 _) hv5) (q0 (vi t1) (st_new (O := (.cells #[(vi t1)] 23)) (fun p => (Sl.mk (some p) 1 1).v) (want0 rfl) (x_buildSlice (vs := #[(0, (vi t1))]) (by kernel_rfl) (by kernel_rfl)) ?_))
   intro p1 w4 hn2
   replace h := h p1 w4 hn2
   obtain ⟨s1, w5, hv4, h⟩ := h
   refine st (v := s1.v) (want0 rfl) (x_builtin (args := #[v8.v, (Sl.mk (some p1) 1 1).v]) (by kernel_rfl) (fun _ => rfl) hv4) ?_
   obtain ⟨hp2, h⟩ := h
   refine st_set (want0 rfl) (x_store (a := cap4) (v := s1.v) (by kernel_rfl) (by kernel_rfl) rfl (Try.sizeOf36 _) hp2) ?_
   intro w6 hn1
   replace h := h w6 hn1
   refine wpL_nil (res0 (.inr rfl) Try.results79 ?_)
   exact ⟨rfl, h⟩
def m_P2  (w : World) (K : (Array Value) → World → Prop) : Prop :=
 ∀ (p1 : Addr) (w1 : World), New w (.cells #[(vb false), (vb false), (vb false), (vb false), (vi 0), (vb false), (vb false), (vb false), (vb false), (vi 0), (vb false), (vb false), (vb false), (vb false), (vi 0), (vb false), (vb false), (vb false), (vb false), (vi 0), (vb false), (vb false), (vb false), (vb false), (vi 0), (vb false), (vb false), (vb false), (vb false), (vi 0), (vb false), (vb false), (vb false), (vb false), (vi 0), (vb false), (vb false), (vb false), (vb false), (vi 0), (vb false), (vb false), (vb false), (vb false), (vi 0), (vb false), (vb false), (vb false), (vb false), (vi 0)] 142) p1 w1 →
 (∀ j, j < 50 → CanW w1 (p1.add j)) ∧ ∀ w2 : World, w2 = storeRow w1 p1 [(vb false), (vb false), (vb false), (vb false), (vi 0), (vb true), (vb false), (vb false), (vb false), (vi 0), (vb false), (vb false), (vb true), (vb false), (vi 0), (vb false), (vb false), (vb false), (vb true), (vi 0), (vb false), (vb false), (vb false), (vb false), (vi 2), (vb false), (vb false), (vb false), (vb false), (vi 1), (vb true), (vb false), (vb false), (vb false), (vi 0), (vb true), (vb false), (vb false), (vb false), (vi 1), (vb true), (vb true), (vb false), (vb false), (vi 1), (vb true), (vb true), (vb false), (vb false), (vi 1)] →
 ∃ q1 : Array Value, (q1.size = 50 ∧ Row w2 p1 q1.toList) ∧
 K q1 w2
theorem w_P2  (w : World) (K : (Array Value) → World → Prop) (h : m_P2  w K) :
  Calls Try.prog 91 #[] w (fun e w' => ∃ r1 : Array Value, e = .returned (.agg r1) ∧ K r1 w') := by
 unfold m_P2 at h
 refine cw (args := []) Try.func91 Try.ntmps91 (wpE_seq (rg (sn (O := (.cells #[(vb false), (vb false), (vb false), (vb false), (vi 0), (vb false), (vb false), (vb false), (vb false), (vi 0), (vb false), (vb false), (vb false), (vb false), (vi 0), (vb false), (vb false), (vb false), (vb false), (vi 0), (vb false), (vb false), (vb false), (vb false), (vi 0), (vb false), (vb false), (vb false), (vb false), (vi 0), (vb false), (vb false), (vb false), (vb false), (vi 0), (vb false), (vb false), (vb false), (vb false), (vi 0), (vb false), (vb false), (vb false), (vb false), (vi 0), (vb false), (vb false), (vb false), (vb false), (vi 0)] 142)) (x_alloc (Try.zeroValue142 _) rfl) ?_)))
 intro p1 w1 hn2
 replace h := h p1 w1 hn2
 refine wpL_nil (th_n (wpE_seq (rg (q0 (.agg #[(vb true), (vb false), (vb false), (vb false), (vi 0)]) (q0 (.agg #[(vb false), (vb false), (vb true), (vb false), (vi 0)]) (q0 (.agg #[(vb false), (vb false), (vb false), (vb true), (vi 0)]) (q0 (.agg #[(vb false), (vb false), (vb false), (vb false), (vi 2)]) (q0 (.agg #[(vb false), (vb false), (vb false), (vb false), (vi 1)]) (q0 (.agg #[(vb true), (vb false), (vb false), (vb false), (vi 0)]) (q0 (.agg #[(vb true), (vb false), (vb false), (vb false), (vi 1)]) (q0 (.agg #[(vb true), (vb true), (vb false), (vb false), (vi 1)]) ?_)))))))))))
 refine q0 (.agg #[(vb true), (vb true), (vb false), (vb false), (vi 1)]) (q0 (.agg #[(vb false), (vb false), (vb false), (vb false), (vi 0), (vb true), (vb false), (vb false), (vb false), (vi 0), (vb false), (vb false), (vb true), (vb false), (vi 0), (vb false), (vb false), (vb false), (vb true), (vi 0), (vb false), (vb false), (vb false), (vb false), (vi 2), (vb false), (vb false), (vb false), (vb false), (vi 1), (vb true), (vb false), (vb false), (vb false), (vi 0), (vb true), (vb false), (vb false), (vb false), (vi 1), (vb true), (vb true), (vb false), (vb false), (vi 1), (vb true), (vb true), (vb false), (vb false), (vi 1)]) ?_)
 obtain ⟨hp1, h⟩ := h
 refine st_set (want0 rfl) (x_storeA (a := p1) (vs := [(vb false), (vb false), (vb false), (vb false), (vi 0), (vb true), (vb false), (vb false), (vb false), (vi 0), (vb false), (vb false), (vb true), (vb false), (vi 0), (vb false), (vb false), (vb false), (vb true), (vi 0), (vb false), (vb false), (vb false), (vb false), (vi 2), (vb false), (vb false), (vb false), (vb false), (vi 1), (vb true), (vb false), (vb false), (vb false), (vi 0), (vb true), (vb false), (vb false), (vb false), (vi 1), (vb true), (vb true), (vb false), (vb false), (vi 1), (vb true), (vb true), (vb false), (vb false), (vi 1)]) (by kernel_rfl) (by kernel_rfl) rfl (Try.sizeOf142 _) rfl hp1) ?_
 intro w2 hn1
 replace h := h w2 hn1
 refine wpL_nil (th_n (wpE_ret ?_))
 obtain ⟨q1, hv1, h⟩ := h
 refine resG (.inl rfl) (vs := [(.agg q1)]) (v := (.agg q1)) Try.results91 ⟨(RV.cellAr (A := p1) (vs := q1) (by kernel_rfl) (Try.isAgg142 _) (Try.sizeOf142 _) hv1), trivial⟩ (by kernel_rfl) ?_
 exact ⟨q1, rfl, h⟩
def m_Q2 (p1 : Option Addr) (t1 : Int) (w : World) (K : Int → World → Prop) : Prop :=
 Calls Try.prog 66 #[(vp p1), (vi t1)] w (fun e w1 => ∃ r1 : Bool, e = .returned (vb r1) ∧ 
  Br (!r1)
   (K 0 w1)
   (∃ a1 : Addr, p1 = some a1 ∧
   ∃ v1 : Sl, w1.cell? a1 = some v1.v ∧
   ∃ a2 : Addr, At v1 (IntKind.i64.wrap (t1 - 1)) 9 a2 ∧
   ∃ v2 : Int, w1.cell? (a2.add 7) = some (vi v2) ∧
   K v2 w1))
theorem w_Q2 (p1 : Option Addr) (t1 : Int) (w : World) (K : Int → World → Prop) (h : m_Q2 p1 t1 w K) :
  Calls Try.prog 92 #[(vp p1), (vi t1)] w (fun e w' => ∃ r2 : Int, e = .returned (vi r2) ∧ K r2 w') := by
 unfold m_Q2 at h
 refine cw (args := [(vp p1), (vi t1)]) Try.func92 Try.ntmps92 (wpE_seq (rg (q0 (vi 0) (wpL_nil (th_n (wpE_seq (wpE_seq (rg (q0 (vp p1) (q0 (vi t1) ?_))))))))))
 refine sc Try.call66 (h.mono ?_)
 rintro e w1 ⟨r1, rfl, h⟩
 refine ⟨_, rfl, ?_⟩
 refine q0 (vb (!r1)) (wpL_nil (th_n ?_))
 refine wpE_cond (t := (!r1)) (by kernel_rfl) (fun hc1 => ?_) (fun hc1 => ?_)
 ·replace h := h.1 hc1
  refine wpE_seq (rg (q0 (vi 0) (wpL_nil (th_n (wpE_ret (th_r (rs1 Try.results92 (v := (vi 0)) ?_)))))))
  exact ⟨0, rfl, h⟩
 ·replace h := h.2 hc1
  refine wpE_skip (th_n (wpE_seq (rg (q0 (vp p1) ?_))))
  obtain ⟨a1, hp1, h⟩ := h
  refine q2 (vp (some a1)) (x_nilCheck (p := p1) (by kernel_rfl) hp1) (q0 (vp (some a1)) ?_)
  obtain ⟨v1, hv3, h⟩ := h
  refine q2 v1.v (xl (Try.isAgg99 _) hv3) (q0 (vi t1) (q0 (vi (IntKind.i64.wrap (t1 - 1))) ?_))
  obtain ⟨a2, hv2, h⟩ := h
  refine q2 (vp (some a2)) (xi (Try.runUnderlying99 _) (Try.sizeOf112 _) hv2) (q0 (vp (some (a2.add 7))) ?_)
  obtain ⟨v2, hv1, h⟩ := h
  refine q2 (vi v2) (xl (Try.isAgg3 _) hv1) (q0 (vi v2) (wpL_nil (th_n (wpE_ret (rs1 Try.results92 (v := (vi v2)) ?_)))))
  exact ⟨v2, rfl, h⟩
def m_R2 (p1 : Option Addr) (t1 : Int) (w : World) (K : Int → World → Prop) : Prop :=
 Calls Try.prog 66 #[(vp p1), (vi t1)] w (fun e w1 => ∃ r1 : Bool, e = .returned (vb r1) ∧ 
  Br (!r1)
   (K 0 w1)
   (∃ a1 : Addr, p1 = some a1 ∧
   ∃ v1 : Sl, w1.cell? a1 = some v1.v ∧
   ∃ a2 : Addr, At v1 (IntKind.i64.wrap (t1 - 1)) 9 a2 ∧
   ∃ v2 : Int, w1.cell? (a2.add 8) = some (vi v2) ∧
   K v2 w1))
theorem w_R2 (p1 : Option Addr) (t1 : Int) (w : World) (K : Int → World → Prop) (h : m_R2 p1 t1 w K) :
  Calls Try.prog 93 #[(vp p1), (vi t1)] w (fun e w' => ∃ r2 : Int, e = .returned (vi r2) ∧ K r2 w') := by
 unfold m_R2 at h
 refine cw (args := [(vp p1), (vi t1)]) Try.func93 Try.ntmps93 (wpE_seq (rg (q0 (vi 0) (wpL_nil (th_n (wpE_seq (wpE_seq (rg (q0 (vp p1) (q0 (vi t1) ?_))))))))))
 refine sc Try.call66 (h.mono ?_)
 rintro e w1 ⟨r1, rfl, h⟩
 refine ⟨_, rfl, ?_⟩
 refine q0 (vb (!r1)) (wpL_nil (th_n ?_))
 refine wpE_cond (t := (!r1)) (by kernel_rfl) (fun hc1 => ?_) (fun hc1 => ?_)
 ·replace h := h.1 hc1
  refine wpE_seq (rg (q0 (vi 0) (wpL_nil (th_n (wpE_ret (th_r (rs1 Try.results93 (v := (vi 0)) ?_)))))))
  exact ⟨0, rfl, h⟩
 ·replace h := h.2 hc1
  refine wpE_skip (th_n (wpE_seq (rg (q0 (vp p1) ?_))))
  obtain ⟨a1, hp1, h⟩ := h
  refine q2 (vp (some a1)) (x_nilCheck (p := p1) (by kernel_rfl) hp1) (q0 (vp (some a1)) ?_)
  obtain ⟨v1, hv3, h⟩ := h
  refine q2 v1.v (xl (Try.isAgg99 _) hv3) (q0 (vi t1) (q0 (vi (IntKind.i64.wrap (t1 - 1))) ?_))
  obtain ⟨a2, hv2, h⟩ := h
  refine q2 (vp (some a2)) (xi (Try.runUnderlying99 _) (Try.sizeOf112 _) hv2) (q0 (vp (some (a2.add 8))) ?_)
  obtain ⟨v2, hv1, h⟩ := h
  refine q2 (vi v2) (xl (Try.isAgg3 _) hv1) (q0 (vi v2) (wpL_nil (th_n (wpE_ret (rs1 Try.results93 (v := (vi v2)) ?_)))))
  exact ⟨v2, rfl, h⟩
def m_S2 (n1 : Int) (w : World) (K : Bool → World → Prop) : Prop :=
 Br (decide (n1 ≥ 0))
  (K (decide (n1 < 16)) w)
  (K false w)
theorem w_S2 (n1 : Int) (w : World) (K : Bool → World → Prop) (h : m_S2 n1 w K) :
  Calls Try.prog 94 #[(vi n1)] w (fun e w' => ∃ r1 : Bool, e = .returned (vb r1) ∧ K r1 w') := by
 unfold m_S2 at h
 refine cw (args := [(vi n1)]) Try.func94 Try.ntmps94 (wpE_seq (rg (q0 (vb false) (wpL_nil (th_n (wpE_seq (rg (q0 (vi n1) (q0 (vb (decide (n1 ≥ 0))) (q0 (vb (decide (n1 ≥ 0))) ?_))))))))))
 rcases Bool.eq_false_or_eq_true (decide (n1 ≥ 0)) with hg1 | hg1
 ·replace h := h.1 hg1
  refine q1 (vi n1) (want1 rfl (yD 5 hg1)) (q1 (vb (decide (n1 < 16))) (want1 rfl (yD 5 hg1)) (q2 (vb (decide (n1 < 16))) (xT hg1) (q0 (vb (decide (n1 < 16))) (wpL_nil (th_n (wpE_ret (rs1 Try.results94 (v := (vb (decide (n1 < 16)))) ?_)))))))
  exact ⟨(decide (n1 < 16)), rfl, h⟩
 ·replace h := h.2 hg1
  refine sk (yD 5 hg1) (sk (yD 5 hg1) (q2 (vb false) (xF hg1) (q0 (vb false) (wpL_nil (th_n (wpE_ret (rs1 Try.results94 (v := (vb false)) ?_)))))))
  exact ⟨false, rfl, h⟩
end Go.Proofs
end
section
open Go Go.SE
namespace Go.Proofs
attribute [local irreducible] Calls
theorem c_isName (n : Int) (w : World) : Calls Try.prog 94 #[.int .i64 n] w (fun e w' => ∃ r, e = .returned (.bool r) ∧ (r = Sp.isName n ∧ w' = w)) := by
 refine w_S2 n w (fun r w' => r = Sp.isName n ∧ w' = w) ?_
 unfold m_S2
 refine ⟨fun h => ⟨?_, rfl⟩, fun h => ⟨?_, rfl⟩⟩
 ·have : 0 ≤ n := by simpa using h
  simp [Sp.isName, this]
 ·have : ¬ 0 ≤ n := by simpa using h
  simp [Sp.isName, this]
theorem c_fields (s1 s2 s3 s4 : Bool) (s5 k f t u : Int) (x : ByteArray) (a b : Int) (w : World) :
  Calls Try.prog 75 #[.agg #[.bool s1, .bool s2, .bool s3, .bool s4, .int .i64 s5], .agg #[.int .i64 k, .int .i64 f, .int .i64 t, .int .u64 u, .string x, .int .i64 a, .int .i64 b]] w
   (fun e w' => ∃ r, e = .returned (.int .i64 r) ∧ (r = Sp.fieldsErr ⟨s1, s2, s3, s4, s5⟩ ⟨k, f, t, u, x, a, b⟩ ∧ Pure w w')) := by
 refine w_Y _ _ _ _ _ _ _ _ _ _ _ _ w (fun r w' => r = Sp.fieldsErr ⟨s1, s2, s3, s4, s5⟩ ⟨k, f, t, u, x, a, b⟩ ∧ Pure w w') ?_
 unfold m_Y
 intro p1 w1 h1 p2 w2 h2
 have b1 := (Box.of_new h1).pure (Ext.new h2)
 have b2 := Box.of_new h2
 have E : Pure w w2 := (Ext.new h1).trans (Ext.new h2)
 have J : ∀ c : Bool, c = (s1 && !Sp.isName f) → m_Y_j1 p1 p2 c w2 (fun r w' => r = Sp.fieldsErr ⟨s1, s2, s3, s4, s5⟩ ⟨k, f, t, u, x, a, b⟩ ∧ Pure w w') := by
  intro c hc
  unfold m_Y_j1
  refine ⟨fun h => ⟨?_, E⟩, fun h => ⟨_, b1.cell rfl, fun h' => ⟨_, b2.cell rfl, ?_⟩, fun h' => ⟨_, b2.cell rfl, fun h3 => ⟨?_, E⟩, fun h3 => ⟨?_, E⟩⟩⟩⟩
  ·rw [hc] at h; simp [Sp.fieldsErr, h]
  ·refine (c_isName _ _).mono ?_
   rintro _ _ ⟨r, rfl, rfl, rfl⟩
   rw [hc] at h
   refine ⟨_, rfl, fun h2 => ⟨?_, E⟩, fun h2 => ⟨_, b2.cell rfl, _, b2.cell rfl, fun h3 => ⟨?_, E⟩, fun h3 => ⟨_, b2.cell rfl, fun h4 => ⟨?_, E⟩, fun h4 => ⟨?_, E⟩⟩⟩⟩
   ·simp [Sp.fieldsErr, h', h2]
   ·simp [Sp.fieldsErr, h', h3]
   ·simp only [Sp.fieldsErr, h, h', h3]; simp at h2 h4; simp [h2]; omega
   ·simp only [Sp.fieldsErr, h, h', h3]; simp at h2 h4; simp [h2]; omega
  ·rw [hc] at h; simp only [Sp.fieldsErr, h, h']; simp at h3; simp; omega
  ·rw [hc] at h; simp only [Sp.fieldsErr, h, h']; simp at h3; simp; omega
 refine ⟨_, b1.cell0, fun h => ⟨_, b2.cell rfl, ?_⟩, fun h => J _ (by simp [h])⟩
 refine (c_isName _ _).mono ?_
 rintro _ _ ⟨r, rfl, rfl, rfl⟩
 exact ⟨_, rfl, J _ (by simp [h])⟩
end Go.Proofs
end
section
open Go Go.SE
namespace Go.Proofs
attribute [local irreducible] Calls
def shapesT : Array Value := #[.bool false, .bool false, .bool false, .bool false, .int .i64 0, .bool true, .bool false, .bool false, .bool false, .int .i64 0, .bool false, .bool false, .bool true, .bool false, .int .i64 0, .bool false, .bool false, .bool false, .bool true, .int .i64 0, .bool false, .bool false, .bool false, .bool false, .int .i64 2, .bool false, .bool false, .bool false, .bool false, .int .i64 1, .bool true, .bool false, .bool false, .bool false, .int .i64 0, .bool true, .bool false, .bool false, .bool false, .int .i64 1, .bool true, .bool true, .bool false, .bool false, .int .i64 1, .bool true, .bool true, .bool false, .bool false, .int .i64 1]
theorem c_shapes (w : World) : Calls Try.prog 91 #[] w (fun e w' => ∃ r, e = .returned (.agg r) ∧ (r = shapesT ∧ Pure w w')) := by
 refine w_P2 w (fun r w' => r = shapesT ∧ Pure w w') ?_
 unfold m_P2
 intro p1 w1 h1
 have E1 : Pure w w1 := Ext.new h1
 have hp := New.own (Ext.refl w) h1
 have b1 := Box.of_newA h1
 clear h1
 refine bx 50 b1 (by kernel_rfl) (by kernel_rfl) (fun w' b E => ?_)
 refine ⟨shapesT, ⟨by kernel_rfl, b.row_eq (by kernel_rfl)⟩, rfl, E1.own hp E⟩
theorem c_shapeOf (k : Int) (w : World) : Calls Try.prog 71 #[.int .i64 k] w (fun e w' => ∃ r1 : Bool, ∃ r2 : Bool, ∃ r3 : Bool, ∃ r4 : Bool, ∃ r5 : Int, ∃ r : Bool, e = .returned (.tuple #[.agg #[.bool r1, .bool r2, .bool r3, .bool r4, .int .i64 r5], .bool r]) ∧ (((⟨r1, r2, r3, r4, r5⟩ : Sp.Shape) = Sp.shapeOf k ∧ r = Sp.isKind k) ∧ Pure w w')) := by
 refine w_N2 k w (fun r1 r2 r3 r4 r5 r w' => ((⟨r1, r2, r3, r4, r5⟩ : Sp.Shape) = Sp.shapeOf k ∧ r = Sp.isKind k) ∧ Pure w w') ?_
 unfold m_N2
 intro p1 w1 h1
 have E1 : Pure w w1 := Ext.new h1
 have b1 := Box.of_new h1
 have hp := New.own (Ext.refl w) h1
 refine ⟨fun h => bx 5 b1 rfl rfl (fun w' b E => ⟨_, _, _, _, _, b.row, ⟨?_, ?_⟩, E1.own hp E⟩), fun h => ⟨fun h2 => bx 5 b1 rfl rfl (fun w' b E => ⟨_, _, _, _, _, b.row, ⟨?_, ?_⟩, E1.own hp E⟩), fun h2 => ?_⟩⟩
 ·have : k < 1 := by simpa using h
  simp only [Sp.shapeOf, Sp.noShape]; repeat rw [if_neg (by omega)]
 ·have : k < 1 := by simpa using h
  simp [Sp.isKind]; omega
 ·have : 9 < k := by simpa using h2
  simp only [Sp.shapeOf, Sp.noShape]; repeat rw [if_neg (by omega)]
 ·have : 9 < k := by simpa using h2
  simp [Sp.isKind]; omega
 ·have h3 : ¬ k < 1 := by simpa using h
  have h4 : ¬ 9 < k := by simpa using h2
  refine (c_shapes _).mono ?_
  rintro _ w4 ⟨_, rfl, rfl, E4⟩
  refine ⟨_, rfl, ?_⟩
  have b4 := b1.pure E4
  have E5 : Pure w w4 := E1.trans E4
  have hk : k = 1 ∨ k = 2 ∨ k = 3 ∨ k = 4 ∨ k = 5 ∨ k = 6 ∨ k = 7 ∨ k = 8 ∨ k = 9 := by omega
  rcases hk with rfl | rfl | rfl | rfl | rfl | rfl | rfl | rfl | rfl
  ·exact ⟨true, false, false, false, 0, by kernel_rfl, bx 5 b4 rfl rfl (fun w' b E => ⟨_, _, _, _, _, b.row, ⟨by decide, by decide⟩, E5.own hp E⟩)⟩
  ·exact ⟨false, false, true, false, 0, by kernel_rfl, bx 5 b4 rfl rfl (fun w' b E => ⟨_, _, _, _, _, b.row, ⟨by decide, by decide⟩, E5.own hp E⟩)⟩
  ·exact ⟨false, false, false, true, 0, by kernel_rfl, bx 5 b4 rfl rfl (fun w' b E => ⟨_, _, _, _, _, b.row, ⟨by decide, by decide⟩, E5.own hp E⟩)⟩
  ·exact ⟨false, false, false, false, 2, by kernel_rfl, bx 5 b4 rfl rfl (fun w' b E => ⟨_, _, _, _, _, b.row, ⟨by decide, by decide⟩, E5.own hp E⟩)⟩
  ·exact ⟨false, false, false, false, 1, by kernel_rfl, bx 5 b4 rfl rfl (fun w' b E => ⟨_, _, _, _, _, b.row, ⟨by decide, by decide⟩, E5.own hp E⟩)⟩
  ·exact ⟨true, false, false, false, 0, by kernel_rfl, bx 5 b4 rfl rfl (fun w' b E => ⟨_, _, _, _, _, b.row, ⟨by decide, by decide⟩, E5.own hp E⟩)⟩
  ·exact ⟨true, false, false, false, 1, by kernel_rfl, bx 5 b4 rfl rfl (fun w' b E => ⟨_, _, _, _, _, b.row, ⟨by decide, by decide⟩, E5.own hp E⟩)⟩
  ·exact ⟨true, true, false, false, 1, by kernel_rfl, bx 5 b4 rfl rfl (fun w' b E => ⟨_, _, _, _, _, b.row, ⟨by decide, by decide⟩, E5.own hp E⟩)⟩
  ·exact ⟨true, true, false, false, 1, by kernel_rfl, bx 5 b4 rfl rfl (fun w' b E => ⟨_, _, _, _, _, b.row, ⟨by decide, by decide⟩, E5.own hp E⟩)⟩
theorem c_plain (k f t u : Int) (x : ByteArray) (a b : Int) (w : World) :
  Calls Try.prog 74 #[.agg #[.int .i64 k, .int .i64 f, .int .i64 t, .int .u64 u, .string x, .int .i64 a, .int .i64 b]] w
   (fun e w' => ∃ r1 : Bool, ∃ r2 : Bool, ∃ r3 : Bool, ∃ r4 : Bool, ∃ r5 : Int, ∃ r : Int, e = .returned (.tuple #[.agg #[.bool r1, .bool r2, .bool r3, .bool r4, .int .i64 r5], .int .i64 r]) ∧ (((⟨r1, r2, r3, r4, r5⟩ : Sp.Shape) = Sp.shapeOf k ∧ r = Sp.plainErr ⟨k, f, t, u, x, a, b⟩) ∧ Pure w w')) := by
 suffices key : ∀ K : Bool → Bool → Bool → Bool → Int → Int → World → Prop, (∀ r1 r2 r3 r4 r5 r w', ((⟨r1, r2, r3, r4, r5⟩ : Sp.Shape) = Sp.shapeOf k ∧ r = Sp.plainErr ⟨k, f, t, u, x, a, b⟩) ∧ Pure w w' → K r1 r2 r3 r4 r5 r w') → m_E k f t u x a b w K from
  w_E _ _ _ _ _ _ _ w _ (key _ (fun _ _ _ _ _ _ _ h => h))
 intro K hK
 unfold m_E
 intro p1 w1 h1 p2 w2 h2
 have a1 := (Box.of_new h1).pure (Ext.new h2)
 have a2 := Box.of_new h2
 have E2 : Pure w w2 := (Ext.new h1).trans (Ext.new h2)
 have o2 := New.own (Ext.new h1 : Pure w w1) h2
 have n12 : p1.block ≠ p2.block := New.ne h2 (Box.of_new h1).blk
 refine ⟨_, a1.cell0, ?_⟩
 refine (c_shapeOf _ _).mono ?_
 rintro _ w3 ⟨s1, s2, s3, s4, s5, ok, rfl, ⟨hs, hok⟩, E3⟩
 refine ⟨_, _, _, _, _, _, rfl, ?_⟩
 intro p3 w4 h3
 have E4 : Pure w w4 := (E2.trans E3).trans (Ext.new h3)
 have o3 := New.own (E2.trans E3) h3
 have n13 : p1.block ≠ p3.block := New.ne h3 (a1.pure E3).blk
 have n23 : p2.block ≠ p3.block := New.ne h3 (a2.pure E3).blk
 refine bx 5 (Box.of_new h3) rfl rfl (fun w5 b3 E => ?_)
 have b1 := ((a1.pure E3).pure (Ext.new h3)).ext E n13
 have b2 := ((a2.pure E3).pure (Ext.new h3)).ext E n23
 have E5 := E4.own o3 E
 clear E E4 E3 E2 a1 a2 h1 h2 h3
 have fin : ∀ v : Int, v = Sp.plainErr ⟨k, f, t, u, x, a, b⟩ → (∀ j, j < 5 → CanW w5 (p2.add j)) ∧ ∀ w', w' = storeRow w5 p2 [.bool s1, .bool s2, .bool s3, .bool s4, .int .i64 s5] →
   ∃ q1 : Bool, ∃ q2 : Bool, ∃ q3 : Bool, ∃ q4 : Bool, ∃ q5 : Int, Row w' p2 [.bool q1, .bool q2, .bool q3, .bool q4, .int .i64 q5] ∧ K q1 q2 q3 q4 q5 v w' := fun v hv =>
  bx 5 b2 rfl rfl (fun w' b E => ⟨_, _, _, _, _, b.row, hK _ _ _ _ _ _ _ ⟨⟨hs, hv⟩, E5.own o2 E⟩⟩)
 obtain ⟨e1, e2, e3, e4, e5⟩ : s1 = (Sp.shapeOf k).frm ∧ s2 = (Sp.shapeOf k).to ∧ s3 = (Sp.shapeOf k).num ∧ s4 = (Sp.shapeOf k).text ∧ s5 = (Sp.shapeOf k).kids := by rw [← hs]; simp
 have J3 : ∀ c : Bool, c = (!ok || (!s1 && f != 0) || (!s2 && t != 0) || (!s3 && u != 0)) → m_E_j3 p1 p2 p3 c w5 K := by
  intro c hc
  unfold m_E_j3
  refine ⟨fun h => ⟨_, _, _, _, _, b3.row, fin _ ?_⟩, fun h => ⟨_, b3.cell rfl, fun h4 => ⟨_, b1.cell rfl, fun h5 => ⟨_, _, _, _, _, b3.row, fin _ ?_⟩, fun h5 => ⟨_, _, _, _, _, b3.row, fin _ ?_⟩⟩, fun h4 => ⟨_, _, _, _, _, b3.row, fin _ ?_⟩⟩⟩
  ·rw [h] at hc
   simp only [Sp.plainErr, ← e1, ← e2, ← e3, ← e4, ← hok, ← hc]; simp
  ·rw [h] at hc
   simp only [Sp.plainErr, ← e1, ← e2, ← e3, ← e4, ← hok, ← hc]; simp at h4 h5; simp [h4, h5]
  ·rw [h] at hc
   simp only [Sp.plainErr, ← e1, ← e2, ← e3, ← e4, ← hok, ← hc]; simp at h4 h5; simp [h4, h5]
  ·rw [h] at hc
   simp only [Sp.plainErr, ← e1, ← e2, ← e3, ← e4, ← hok, ← hc]; simp at h4; simp [h4]
 have J2 : ∀ c : Bool, c = (!ok || (!s1 && f != 0) || (!s2 && t != 0)) → m_E_j2 p1 p2 p3 c w5 K := by
  intro c hc
  have J4 : ∀ d : Bool, d = (!s3 && u != 0) → m_E_j4 p1 p2 p3 c d w5 K := fun d hd => ⟨fun h => J3 _ (by rw [← hc, h]; rfl), fun h => J3 _ (by rw [← hc, h]; simpa using hd)⟩
  exact ⟨fun h => J3 _ (by rw [← hc, h]; rfl), fun h => ⟨_, b3.cell rfl, fun h4 => ⟨_, b1.cell rfl, J4 _ (by rw [h4]; rfl)⟩, fun h4 => J4 _ (by rw [h4]; rfl)⟩⟩
 have J1 : ∀ c : Bool, c = (!ok || (!s1 && f != 0)) → m_E_j1 p1 p2 p3 c w5 K := by
  intro c hc
  have J5 : ∀ d : Bool, d = (!s2 && t != 0) → m_E_j5 p1 p2 p3 c d w5 K := fun d hd => ⟨fun h => J2 _ (by rw [← hc, h]; rfl), fun h => J2 _ (by rw [← hc, h]; simpa using hd)⟩
  exact ⟨fun h => J2 _ (by rw [← hc, h]; rfl), fun h => ⟨_, b3.cell rfl, fun h4 => ⟨_, b1.cell rfl, J5 _ (by rw [h4]; rfl)⟩, fun h4 => J5 _ (by rw [h4]; rfl)⟩⟩
 have J6 : ∀ d : Bool, d = (!s1 && f != 0) → m_E_j6 p1 p2 ok p3 d w5 K := fun d hd => ⟨fun h => J1 _ (by rw [h]; rfl), fun h => J1 _ (by rw [h]; simpa using hd)⟩
 exact ⟨fun h => J1 _ (by rw [h]; rfl), fun h => ⟨_, b3.cell0, fun h4 => ⟨_, b1.cell rfl, J6 _ (by rw [h4]; rfl)⟩, fun h4 => J6 _ (by rw [h4]; rfl)⟩⟩
end Go.Proofs
end
section
open Go Go.SE
namespace Go.Proofs
attribute [local irreducible] Calls
def nrow (n : Sp.Node) : List Value := [.int .i64 n.kind, .int .i64 n.frm, .int .i64 n.to, .int .u64 n.num, .string n.text, .int .i64 n.a, .int .i64 n.b]
def erow (e : Sp.Ent) : List Value := nrow e.node ++ [.int .i64 e.size, .int .i64 e.depth]
def nkey (n : Sp.Node) : Value := .agg (nrow n).toArray
def pmap (L : Sp.Pool) : List (Value × Value) := L.zipIdx.map fun p => (nkey p.1.node, .int .i64 (p.2 + 1 : Nat))
structure PoolS (w : World) (p : Addr) (L : Sp.Pool) (s : Sl) (m : Nat) : Prop where
 box : Box w p [s.v, .map (some m)] 102
 rows : Rws w 112 9 s (L.map erow)
 map : CMap w m (pmap L)
 n1 : m ≠ p.block
 n2 : ¬ s.blk p.block
 n3 : ¬ s.blk m
def PoolAt (w : World) (p : Addr) (L : Sp.Pool) (F : Nat → Prop) : Prop := ∃ s m, PoolS w p L s m ∧ ∀ b, F b ↔ (b = p.block ∨ s.blk b ∨ b = m)
theorem PoolAt.ext {G : Nat → Prop} {w w' : World} {p : Addr} {L : Sp.Pool} {F : Nat → Prop} (h : PoolAt w p L F) (hE : Ext G w w') (hd : ∀ b, F b → ¬ G b) : PoolAt w' p L F := by
 obtain ⟨s, m, h, hF⟩ := h
 exact ⟨s, m, ⟨h.box.ext hE (hd _ ((hF _).2 (.inl rfl))), h.rows.ext hE (fun b hb => hd _ ((hF _).2 (.inr (.inl hb)))), h.map.ext hE (hd _ ((hF _).2 (.inr (.inr rfl)))), h.n1, h.n2, h.n3⟩, hF⟩
theorem PoolAt.pure {w w' : World} {p : Addr} {L : Sp.Pool} {F : Nat → Prop} (h : PoolAt w p L F) (hE : Pure w w') : PoolAt w' p L F := h.ext hE (fun _ _ h => h)
theorem PoolAt.lt {w : World} {p : Addr} {L : Sp.Pool} {F : Nat → Prop} (h : PoolAt w p L F) {b : Nat} (hb : F b) : b < w.heap.size := by
 obtain ⟨s, m, h, hF⟩ := h
 rcases (hF b).1 hb with rfl | hb | rfl
 ·exact h.box.lt
 ·exact h.rows.lt hb
 ·exact h.map.lt
theorem i64 {n : Int} (h : -9223372036854775808 ≤ n) (h' : n ≤ 9223372036854775807) : IntKind.i64.wrap n = n := IntWalk.i64_in n ⟨h, h'⟩
theorem c_in (p : Addr) (t : Int) (w : World) {L : Sp.Pool} {F : Nat → Prop} (hP : PoolAt w p L F) : Calls Try.prog 66 #[.pointer (some p), .int .i64 t] w (fun e w' => ∃ r, e = .returned (.bool r) ∧ (r = Sp.inP L t ∧ w = w')) := by
 obtain ⟨s, m, h, _⟩ := hP
 refine w_F1 (some p) t w (fun r w' => r = Sp.inP L t ∧ w = w') ?_
 unfold m_F1
 have hl : (s.len : Int) = L.length := by rw [h.rows.len]; simp
 refine Br.t rfl ⟨fun h1 => ⟨p, rfl, s, h.box.cell0, ?_, rfl⟩, fun h1 => ⟨?_, rfl⟩⟩
 ·have : 1 ≤ t := by simpa using h1
  simp [Sp.inP, hl, this]
 ·have : ¬ 1 ≤ t := by simpa using h1
  simp [Sp.inP, this]
theorem PoolS.at {w : World} {p : Addr} {L : Sp.Pool} {s : Sl} {m : Nat} (h : PoolS w p L s m) {t : Int} (ht : Sp.inP L t = true) (hok : Sp.Ok L) : ∃ a e, At s (IntKind.i64.wrap (t - 1)) 9 a ∧ Row w a (erow e) ∧ s.blk a.block ∧ Sp.get L t = some e := by
 obtain ⟨h1, h2⟩ := Sp.inP_iff.1 ht
 obtain ⟨e, hg, _, hi, he⟩ := Sp.get_some ht
 have := hok.few
 rw [i64 (by omega) (by omega)]
 obtain ⟨a, hat, hr, hb⟩ := h.rows.at (i := t - 1) (by omega) (by simpa using hi)
 exact ⟨a, e, hat, (by rw [List.getElem_map, he] at hr; exact hr), hb, hg⟩
theorem c_Size (p : Addr) (t : Int) (w : World) {L : Sp.Pool} {F : Nat → Prop} (hP : PoolAt w p L F) (hok : Sp.Ok L) : Calls Try.prog 92 #[.pointer (some p), .int .i64 t] w (fun e w' => ∃ r, e = .returned (.int .i64 r) ∧ (r = Sp.sizeOf L t ∧ w = w')) := by
 refine w_Q2 (some p) t w (fun r w' => r = Sp.sizeOf L t ∧ w = w') ?_
 unfold m_Q2
 refine (c_in p t w hP).mono ?_
 rintro _ _ ⟨_, rfl, rfl, rfl⟩
 obtain ⟨s, m, h, _⟩ := hP
 refine ⟨_, rfl, fun h1 => ⟨?_, rfl⟩, fun h1 => ?_⟩
 ·simp [Sp.sizeOf, Sp.get_none (show Sp.inP L t = false by simpa using h1)]
 ·obtain ⟨a, e, hat, hr, _, hg⟩ := h.at (show Sp.inP L t = true by simpa using h1) hok
  exact ⟨p, rfl, s, h.box.cell0, a, hat, e.size, hr 7 (by simp [erow, nrow]), by simp [Sp.sizeOf, hg], rfl⟩
theorem c_Depth (p : Addr) (t : Int) (w : World) {L : Sp.Pool} {F : Nat → Prop} (hP : PoolAt w p L F) (hok : Sp.Ok L) : Calls Try.prog 93 #[.pointer (some p), .int .i64 t] w (fun e w' => ∃ r, e = .returned (.int .i64 r) ∧ (r = Sp.depthOf L t ∧ w = w')) := by
 refine w_R2 (some p) t w (fun r w' => r = Sp.depthOf L t ∧ w = w') ?_
 unfold m_R2
 refine (c_in p t w hP).mono ?_
 rintro _ _ ⟨_, rfl, rfl, rfl⟩
 obtain ⟨s, m, h, _⟩ := hP
 refine ⟨_, rfl, fun h1 => ⟨?_, rfl⟩, fun h1 => ?_⟩
 ·simp [Sp.depthOf, Sp.get_none (show Sp.inP L t = false by simpa using h1)]
 ·obtain ⟨a, e, hat, hr, _, hg⟩ := h.at (show Sp.inP L t = true by simpa using h1) hok
  exact ⟨p, rfl, s, h.box.cell0, a, hat, e.depth, hr 8 (by simp [erow, nrow]), by simp [Sp.depthOf, hg], rfl⟩
theorem c_Node (p : Addr) (t : Int) (w : World) {L : Sp.Pool} {F : Nat → Prop} (hP : PoolAt w p L F) (hok : Sp.Ok L) : Calls Try.prog 44 #[.pointer (some p), .int .i64 t] w
  (fun e w' => ∃ k : Int, ∃ f : Int, ∃ t' : Int, ∃ u : Int, ∃ x : ByteArray, ∃ a : Int, ∃ b : Int, ∃ r : Bool, e = .returned (.tuple #[.agg #[.int .i64 k, .int .i64 f, .int .i64 t', .int .u64 u, .string x, .int .i64 a, .int .i64 b], .bool r]) ∧ (((⟨k, f, t', u, x, a, b⟩ : Sp.Node) = Sp.nodeOf L t ∧ r = Sp.inP L t) ∧ Pure w w')) := by
 refine w_J2 (some p) t w (fun k f t' u x a b r w' => ((⟨k, f, t', u, x, a, b⟩ : Sp.Node) = Sp.nodeOf L t ∧ r = Sp.inP L t) ∧ Pure w w') ?_
 unfold m_J2
 intro p1 w1 h1
 have E1 : Pure w w1 := Ext.new h1
 have b1 := Box.of_new h1
 have hp := New.own (Ext.refl w) h1
 refine (c_in p t w1 (hP.pure E1)).mono ?_
 rintro _ _ ⟨_, rfl, rfl, rfl⟩
 obtain ⟨s, m, h, _⟩ := hP.pure E1
 refine ⟨_, rfl, fun h1 => bx 7 b1 rfl rfl (fun w' b E => ⟨_, _, _, _, _, _, _, b.row, ⟨?_, ?_⟩, E1.own hp E⟩), fun h1 => ?_⟩
 ·simp [Sp.nodeOf, Sp.get_none (show Sp.inP L t = false by simpa using h1), Sp.noNode]
 ·symm; simpa using h1
 ·have ht : Sp.inP L t = true := by simpa using h1
  obtain ⟨a, e, hat, hr, _, hg⟩ := h.at ht hok
  have hn : Row w1 a (nrow e.node) := fun i hi => by
   have := hr i (by simp [erow]; omega)
   rw [this]; unfold erow; rw [List.getElem?_append_left hi]
  exact ⟨p, rfl, s, h.box.cell0, a, hat, _, _, _, _, _, _, _, hn, bx 7 b1 rfl rfl (fun w' b E => ⟨_, _, _, _, _, _, _, b.row, ⟨by simp [Sp.nodeOf, hg], ht.symm⟩, E1.own hp E⟩)⟩
end Go.Proofs
end
section
open Go Go.SE
namespace Go.Proofs
attribute [local irreducible] Calls
theorem run_cut2 (p : Addr) (k : Int) (w : World) (hk : k = 0 ∨ k = 1 ∨ k = 2) : (Instr.sliceAt 36 (Sl.mk (some p) 2 2).v .none (some (.int .i64 k)) .none).run Try.prog w = .ok (Sl.mk (some p) k.toNat 2).v w := by
 rcases hk with rfl | rfl | rfl <;> kernel_rfl
theorem c_check (p : Addr) (k f t u : Int) (x : ByteArray) (a b : Int) (w : World) {L : Sp.Pool} {F : Nat → Prop} (hP : PoolAt w p L F) (hok : Sp.Ok L) :
  Calls Try.prog 72 #[.pointer (some p), .agg #[.int .i64 k, .int .i64 f, .int .i64 t, .int .u64 u, .string x, .int .i64 a, .int .i64 b]] w
   (fun e w' => ∃ r1 : Int, ∃ r2 : Int, ∃ r3 : Int, e = .returned (.tuple #[.int .i64 r1, .int .i64 r2, .int .i64 r3]) ∧ ((r1, r2, r3) = Sp.check L ⟨k, f, t, u, x, a, b⟩ ∧ Pure w w')) := by
 suffices key : ∀ K : Int → Int → Int → World → Prop, (∀ r1 r2 r3 w', (r1, r2, r3) = Sp.check L ⟨k, f, t, u, x, a, b⟩ ∧ Pure w w' → K r1 r2 r3 w') → m_F (some p) k f t u x a b w K from
  w_F _ _ _ _ _ _ _ _ w _ (key _ (fun _ _ _ _ h => h))
 intro K hK
 unfold m_F
 intro p2 w1 h1
 have b1 := Box.of_new h1
 have E1 : Pure w w1 := Ext.new h1
 refine ⟨_, _, _, _, _, _, _, b1.row, ?_⟩
 refine (c_plain _ _ _ _ _ _ _ _).mono ?_
 rintro _ w2 ⟨s1, s2, s3, s4, s5, pe, rfl, ⟨hs, hpe⟩, E2⟩
 refine ⟨_, _, _, _, _, _, rfl, ?_⟩
 intro p3 w3 h3
 have b2 := (b1.pure E2).pure (Ext.new h3)
 have n23 : p2.block ≠ p3.block := New.ne h3 (b1.pure E2).blk
 have E3 : Pure w w3 := (E1.trans E2).trans (Ext.new h3)
 have o3 := New.own (E1.trans E2) h3
 refine bx 5 (Box.of_new h3) rfl rfl (fun w4 b3 E => ?_)
 have b2 := b2.ext E n23
 have E4 : Pure w w4 := E3.own o3 E
 clear E E3 E2 E1 b1 h1 h3
 have hsh : Sp.shapeOf k = ⟨s1, s2, s3, s4, s5⟩ := hs.symm
 have hk5 : s5 = 0 ∨ s5 = 1 ∨ s5 = 2 := by have := Sp.kids_le k; rw [hsh] at this; exact this
 generalize hn : (⟨k, f, t, u, x, a, b⟩ : Sp.Node) = n at *
 have hnk : n.kind = k := by rw [← hn]
 have hna : n.a = a := by rw [← hn]
 have hnb : n.b = b := by rw [← hn]
 have J2 : ∀ e2 w', Pure w4 w' → (e2 ≠ 0 → Sp.check L n = (0, 0, e2)) → (e2 = 0 → pe = 0 ∧ ((decide (s5 < 1) && a != 0) || (decide (s5 < 2) && b != 0)) = false ∧ Sp.fieldsErr ⟨s1, s2, s3, s4, s5⟩ n = 0) → m_F_j2 (some p) p2 p3 e2 w' K := by
  intro e2 w' E' hne heq
  have b2 := b2.pure E'
  have b3 := b3.pure E'
  have E5 := E4.trans E'
  have hP' := hP.pure E5
  unfold m_F_j2
  refine ⟨fun h => hK _ _ _ _ ⟨(hne (by simpa using h)).symm, E5⟩, fun h => ⟨_, b2.cell rfl, _, b2.cell rfl, ?_⟩⟩
  intro p4 w5 h5
  obtain ⟨hp0, hc0, hf0⟩ := heq (by simpa using h)
  have b4 := Box.of_new h5
  have E6 := E5.trans (Ext.new h5)
  have hP6 := hP.pure E6
  refine ⟨_, (b3.pure (Ext.new h5)).cell rfl, _, run_cut2 p4 s5 w5 hk5, ?_⟩
  have hks : Sp.kidsOf n = [a, b].take s5.toNat := by simp [Sp.kidsOf, hnk, hsh, hna, hnb]
  have hlen : (Sp.kidsOf n).length = s5.toNat := by rw [hks]; rcases hk5 with rfl | rfl | rfl <;> rfl
  have hget : ∀ j (hj : j < (Sp.kidsOf n).length), w5.cell? (p4.add (j * 1)) = some (.int .i64 (Sp.kidsOf n)[j]) := by
   intro j hj
   have hj2 : j < s5.toNat := by omega
   have : (Sp.kidsOf n)[j] = [a, b][j]'(by simp; omega) := by simp only [hks, List.getElem_take]
   rw [this, Nat.mul_one]
   refine b4.cell ?_
   have h2 : j = 0 ∨ j = 1 := by omega
   rcases h2 with rfl | rfl <;> rfl
  have hrest : Sp.check L n = if (Sp.kidsOf n).any (fun t => !Sp.inP L t) then (0, 0, 51) else if 1 + ((Sp.kidsOf n).map (Sp.sizeOf L)).sum > 4096 ∨ (Sp.kidsOf n).foldl (fun d t => max d (Sp.depthOf L t)) 0 + 1 > 64 then (0, 0, 52) else (1 + ((Sp.kidsOf n).map (Sp.sizeOf L)).sum, (Sp.kidsOf n).foldl (fun d t => max d (Sp.depthOf L t)) 0 + 1, 0) := by
   unfold Sp.check
   simp only [hnk, hsh, hna, hnb, ← hpe, hp0, hc0, hf0]
   simp
  generalize hkk : Sp.kidsOf n = ks at *
  have hl2 : ks.length ≤ 2 := by omega
  have hsum : ∀ j, 0 ≤ ((ks.take j).map (Sp.sizeOf L)).sum ∧ ((ks.take j).map (Sp.sizeOf L)).sum ≤ 4096 * (ks.take j).length := by
   intro j
   generalize ks.take j = l
   induction l with
   | nil => simp
   | cons y l ih => have := hok.sizeOf y; simp only [List.map_cons, List.sum_cons, List.length_cons]; omega
  have hdep : ∀ (l : List Int) (d : Int), 0 ≤ d → d ≤ 64 → 0 ≤ l.foldl (fun d t => max d (Sp.depthOf L t)) d ∧ l.foldl (fun d t => max d (Sp.depthOf L t)) d ≤ 64 := by
   intro l
   induction l with
   | nil => intro d h1 h2; exact ⟨h1, h2⟩
   | cons y l ih => intro d h1 h2; have := hok.depthOf y; exact ih (max d (Sp.depthOf L y)) (by omega) (by omega)
  refine ⟨fun sz d x w' => ∃ j : Nat, x = j ∧ j ≤ ks.length ∧ sz = 1 + ((ks.take j).map (Sp.sizeOf L)).sum ∧ d = (ks.take j).foldl (fun d t => max d (Sp.depthOf L t)) 0 ∧ (ks.take j).any (fun t => !Sp.inP L t) = false ∧ w5 = w', fun _ _ x _ => (2 - x).toNat, ⟨0, rfl, Nat.zero_le _, by simp, by simp, by simp, rfl⟩, ?_⟩
  rintro sz d _ _ ⟨j, rfl, hj, rfl, rfl, hin, rfl⟩
  unfold m_F_l3
  have hs1 := hsum j
  have hd1 := hdep (ks.take j) 0 (by omega) (by omega)
  have htl : (ks.take j).length ≤ 2 := by rw [List.length_take]; omega
  refine ⟨fun h => ?_, fun h => ?_⟩
  ·have hlt : j < ks.length := by have h := of_decide_eq_true h; simp only at h; omega
   refine ⟨p4.add (j * 1), ⟨by omega, of_decide_eq_true h, p4, rfl, by simp⟩, ks[j], hget j hlt, ?_⟩
   have htk : ks.take (j + 1) = ks.take j ++ [ks[j]] := List.take_succ_eq_append_getElem hlt
   refine (c_in p _ w5 hP6).mono ?_
   rintro _ _ ⟨_, rfl, rfl, rfl⟩
   refine ⟨_, rfl, fun h => ?_, fun h => ?_⟩
   ·refine hK _ _ _ _ ⟨?_, E6⟩
    rw [hrest, if_pos]
    exact List.any_eq_true.2 ⟨ks[j], List.getElem_mem hlt, h⟩
   ·refine (c_Size p _ w5 hP6 hok).mono ?_
    rintro _ _ ⟨_, rfl, rfl, rfl⟩
    refine ⟨_, rfl, ?_⟩
    refine (c_Depth p _ w5 hP6 hok).mono ?_
    rintro _ _ ⟨_, rfl, rfl, rfl⟩
    refine ⟨_, rfl, _, run_max_int2 _ _ _ _ _ _ _, ⟨j + 1, ?_, hlt, ?_, ?_, ?_, rfl⟩, ?_⟩
    ·rw [i64 (by omega) (by omega)]; omega
    ·have := hok.sizeOf ks[j]
     rw [i64 (by omega) (by omega), htk, List.map_append, List.sum_append]; simp only [List.map_cons, List.map_nil, List.sum_cons, List.sum_nil]; omega
    ·rw [htk, List.foldl_append]; simp only [List.foldl_cons, List.foldl_nil]; split <;> omega
    ·rw [htk, List.any_append, hin]; simpa using h
    ·show (2 - IntKind.i64.wrap ((j : Int) + 1)).toNat < (2 - (j : Int)).toNat
     rw [i64 (by omega) (by omega)]; omega
  ·have hge : j = ks.length := by have h := of_decide_eq_false h; simp only at h; omega
   subst hge
   rw [List.take_length] at hs1 hd1 hin ⊢
   have hlt : (ks.length : Int) ≤ 2 := by omega
   refine ⟨fun h => hK _ _ _ _ ⟨?_, E6⟩, fun h => ?_⟩
   ·rw [hrest, hin, if_neg (by simp), if_pos (.inl (by simpa using h))]
   ·rw [i64 (by omega) (by omega)]
    refine ⟨fun h' => hK _ _ _ _ ⟨?_, E6⟩, fun h' => hK _ _ _ _ ⟨?_, E6⟩⟩
    ·rw [hrest, hin, if_neg (by simp), if_pos (.inr (by simpa using h'))]
    ·rw [hrest, hin, if_neg (by simp), if_neg (by simp at h h'; omega)]
 have J1 : ∀ e1, (e1 ≠ 0 → Sp.check L n = (0, 0, e1)) → (e1 = 0 → pe = 0 ∧ ((decide (s5 < 1) && a != 0) || (decide (s5 < 2) && b != 0)) = false) → m_F_j1 (some p) p2 p3 e1 w4 K := by
  intro e1 hne heq
  unfold m_F_j1
  refine ⟨fun h => ⟨_, _, _, _, _, b3.row, _, _, _, _, _, _, _, b2.row, ?_⟩, fun h => J2 _ _ (Ext.refl _) hne (fun e => by rw [e] at h; cases h)⟩
  obtain ⟨hp0, hc0⟩ := heq (by simpa using h)
  refine (c_fields _ _ _ _ _ _ _ _ _ _ _ _ _).mono ?_
  rintro _ w9 ⟨_, rfl, rfl, E9⟩
  rw [hn]
  refine ⟨_, rfl, J2 _ _ E9 (fun hf => ?_) (fun hf => ⟨hp0, hc0, hf⟩)⟩
  unfold Sp.check
  simp only [hnk, hsh, hna, hnb, ← hpe, hp0, hc0]
  simp [hf]
 have J53 : pe = 0 → ((decide (s5 < 1) && a != 0) || (decide (s5 < 2) && b != 0)) = true → m_F_j1 (some p) p2 p3 53 w4 K := fun hp0 hc => J1 53 (fun _ => by
  unfold Sp.check
  simp only [hnk, hsh, hna, hnb, ← hpe, hp0, hc]
  simp) (fun e => by cases e)
 have Jpe : pe ≠ 0 → m_F_j1 (some p) p2 p3 pe w4 K := fun hp => J1 pe (fun _ => by
  unfold Sp.check
  simp only [← hpe]
  rw [if_pos hp]) (fun e => absurd e hp)
 have J5 : ∀ x2 x3, x2 = (decide (s5 < 1) && a != 0) → x3 = (decide (s5 < 2) && b != 0) → m_F_j5 (some p) p2 pe p3 x2 x3 w4 K := by
  intro x2 x3 h2 h3
  unfold m_F_j5
  refine ⟨fun h => ⟨fun hx => J53 (by simpa using h) (by rw [← h2, hx]; rfl), fun hx => ⟨fun hy => J53 (by simpa using h) (by rw [← h2, ← h3, hy]; simp), fun hy => J1 pe (fun e => absurd (by simpa using h) e) (fun e => ⟨e, by rw [← h2, ← h3, hx, hy]; rfl⟩)⟩⟩, fun h => Jpe (by simpa using h)⟩
 have J4 : ∀ x2, x2 = (decide (s5 < 1) && a != 0) → m_F_j4 (some p) p2 pe p3 x2 w4 K := by
  intro x2 h2
  unfold m_F_j4
  refine ⟨fun h => ⟨fun hx => J53 (by simpa using h) (by rw [← h2, hx]; rfl), fun hx => ⟨_, b3.cell rfl, fun h5 => ⟨_, b2.cell rfl, J5 _ _ h2 (by rw [h5]; rfl)⟩, fun h5 => J5 _ _ h2 (by rw [h5]; rfl)⟩⟩, fun h => Jpe (by simpa using h)⟩
 exact ⟨fun h => ⟨_, b3.cell rfl, fun h5 => ⟨_, b2.cell rfl, J4 _ (by rw [h5]; rfl)⟩, fun h5 => J4 _ (by rw [h5]; rfl)⟩, fun h => Jpe (by simpa using h)⟩
end Go.Proofs
end
section
open Go Go.SE
namespace Go.Proofs
attribute [local irreducible] Calls
def IsNodeKey (v : Value) : Prop := ∃ n, v = nkey n
theorem nkey_inj {n n' : Sp.Node} : nkey n = nkey n' ↔ n = n' := by
 constructor
 ·intro h
  cases n; cases n'
  simp [nkey, nrow] at h
  simp [h]
 ·rintro rfl; rfl
theorem sameBits_node (n : Sp.Node) : Instr.sameBits 10000 (nkey n) (nkey n) = true := by
 have h : ∀ d, Instr.sameBits (d + 1) (nkey n) (nkey n) = true := fun d => by
  have e : (n.text == n.text) = true := by rw [beq_toListBytes]; simp
  cases d <;> simp [Instr.sameBits, nkey, nrow, e]
 exact h 9999
theorem keyOK_node : KeyOK Try.prog 41 IsNodeKey := by
 refine KeyOK.of_struct Try.underlying41 ?_ ?_ ?_
 ·rintro _ ⟨n, rfl⟩ em w; kernel_rfl
 ·rintro _ _ w ⟨n, rfl⟩ ⟨n', rfl⟩
  refine ⟨decide (n = n'), ?_, by simp only [nkey_inj, decide_eq_true_eq]; exact eq_comm⟩
  obtain ⟨k, f, t, u, x, a, b⟩ := n
  obtain ⟨k', f', t', u', x', a', b'⟩ := n'
  simp [Op.equal, Op.maxDepth, go_sem, streq, nkey, nrow]
  repeat' split
  all_goals simp_all
 ·rintro _ ⟨n, rfl⟩; exact sameBits_node n
theorem slT_entry : SlType Try.prog 99 112 9 (16 * 5) := by
 refine ⟨Try.underlying99, ⟨Try.t112, _, by kernel_rfl, (by kernel_rfl : Try.t112.zero = some (.agg #[.int .i64 0, .int .i64 0, .int .i64 0, .int .u64 0, .string ⟨#[]⟩, .int .i64 0, .int .i64 0, .int .i64 0, .int .i64 0])), by kernel_rfl, by kernel_rfl, rfl⟩, by omega⟩
theorem pmap_get {L : Sp.Pool} {i : Nat} {n : Sp.Node} {v : Value} (h : (pmap L)[i]? = some (nkey n, v)) : ∃ e, L[i]? = some e ∧ e.node = n ∧ v = .int .i64 (i + 1 : Nat) := by
 simp only [pmap, List.getElem?_map, List.getElem?_zipIdx, Option.map_map, Option.map_eq_some_iff] at h
 obtain ⟨e, he, h⟩ := h
 simp only [Function.comp, Prod.mk.injEq] at h
 exact ⟨e, he, nkey_inj.1 h.1, by rw [← h.2]; simp⟩
theorem pmap_not {L : Sp.Pool} {n : Sp.Node} (h : ∀ q ∈ pmap L, q.1 ≠ nkey n) : ∀ e ∈ L, e.node ≠ n := by
 intro e he hn
 obtain ⟨i, hi, rfl⟩ := List.mem_iff_getElem.1 he
 refine h (nkey L[i].node, .int .i64 (i + 1 : Nat)) ?_ (by rw [hn])
 exact List.mem_map.2 ⟨(L[i], i), by rw [List.mem_zipIdx_iff_getElem?]; simp [hi], rfl⟩
theorem pmap_keys {L : Sp.Pool} : ∀ q ∈ pmap L, IsNodeKey q.1 := by
 intro q hq
 obtain ⟨x, _, rfl⟩ := List.mem_map.1 hq
 exact ⟨_, rfl⟩
theorem pmap_snoc (L : Sp.Pool) (e : Sp.Ent) : pmap (L ++ [e]) = pmap L ++ [(nkey e.node, .int .i64 (L.length + 1 : Nat))] := by
 simp [pmap, List.zipIdx_append]
theorem find_of {L : Sp.Pool} (hok : Sp.Ok L) {i : Nat} {e : Sp.Ent} (h : L[i]? = some e) : Sp.find L e.node = some i := by
 obtain ⟨hi, rfl⟩ := List.getElem?_eq_some_iff.1 h
 unfold Sp.find
 rw [List.findIdx?_eq_some_iff_getElem]
 refine ⟨hi, by simp, fun j hj => ?_⟩
 have hnd := hok.nodup
 simp only [decide_eq_true_eq]
 intro e
 exact List.pairwise_iff_getElem.1 hnd j i (by simp; omega) (by simpa using hi) hj (by simpa using e)
theorem find_none {L : Sp.Pool} {n : Sp.Node} (h : ∀ e ∈ L, e.node ≠ n) : Sp.find L n = none := by
 unfold Sp.find
 rw [List.findIdx?_eq_none_iff]
 intro e he; simpa using h e he
theorem c_Make (p : Addr) (k f t u : Int) (x : ByteArray) (a b : Int) (w : World) {L : Sp.Pool} {F : Nat → Prop} (hP : PoolAt w p L F) (hok : Sp.Ok L) :
  Calls Try.prog 59 #[.pointer (some p), .agg #[.int .i64 k, .int .i64 f, .int .i64 t, .int .u64 u, .string x, .int .i64 a, .int .i64 b]] w
   (fun e w' => ∃ r1 : Int, ∃ r2 : Int, e = .returned (.tuple #[.int .i64 r1, .int .i64 r2]) ∧ ((r1, r2) = ((Sp.make L ⟨k, f, t, u, x, a, b⟩).1, (Sp.make L ⟨k, f, t, u, x, a, b⟩).2.1) ∧ ∃ F', PoolAt w' p (Sp.make L ⟨k, f, t, u, x, a, b⟩).2.2 F' ∧ Ext F w w' ∧ ∀ b, F' b → F b ∨ w.heap.size ≤ b)) := by
 suffices key : ∀ K : Int → Int → World → Prop, (∀ r1 r2 w', ((r1, r2) = ((Sp.make L ⟨k, f, t, u, x, a, b⟩).1, (Sp.make L ⟨k, f, t, u, x, a, b⟩).2.1) ∧ ∃ F', PoolAt w' p (Sp.make L ⟨k, f, t, u, x, a, b⟩).2.2 F' ∧ Ext F w w' ∧ ∀ b, F' b → F b ∨ w.heap.size ≤ b) → K r1 r2 w') → m_Y1 (some p) k f t u x a b w K from
  w_Y1 _ _ _ _ _ _ _ _ w _ (key _ (fun _ _ _ h => h))
 intro K hK
 unfold m_Y1
 intro p2 w1 h1
 have b1 := Box.of_new h1
 have E1 : Pure w w1 := Ext.new h1
 have o2 : ¬ F p2.block := fun h => by have := hP.lt h; have := h1.at_size; omega
 refine Br.f rfl ⟨_, _, _, _, _, _, _, b1.row, ?_⟩
 refine (c_check p k f t u x a b w1 (hP.pure E1) hok).mono ?_
 rintro _ w2 ⟨sz, dp, er, rfl, hck, E2⟩
 refine ⟨_, _, _, rfl, ?_⟩
 generalize hn : (⟨k, f, t, u, x, a, b⟩ : Sp.Node) = n at *
 have E3 : Pure w w2 := E1.trans E2
 have same : ∀ w', Pure w w' → ∃ F', PoolAt w' p L F' ∧ Ext F w w' ∧ ∀ b, F' b → F b ∨ w.heap.size ≤ b := fun w' E => ⟨F, hP.pure E, E.pure, fun _ h => .inl h⟩
 refine ⟨fun h => hK _ _ _ ?_, fun h => ?_⟩
 ·have he : er ≠ 0 := by simpa using h
  have : Sp.make L n = (0, er, L) := by unfold Sp.make; simp [← hck, he]
  rw [this]; exact ⟨rfl, same _ E3⟩
 ·have he : er = 0 := by simpa using h
  subst he
  intro w3 hw3
  have E4 : Pure w w3 := by rw [hw3]; exact E3.trans (Ext.drew w2)
  have b3 := (b1.pure E2).pure (show Pure w2 w3 by rw [hw3]; exact Ext.drew w2)
  clear hw3
  obtain ⟨s, m, hS, hF⟩ := hP.pure E4
  refine ⟨p, rfl, _, hS.box.cell (i := 1) rfl, _, _, _, _, _, _, _, b3.row, ?_⟩
  have hkey : (Value.agg #[.int .i64 k, .int .i64 f, .int .i64 t, .int .u64 u, .string x, .int .i64 a, .int .i64 b]) = nkey n := by rw [← hn]; rfl
  rw [hkey]
  rcases hS.map.lookup (P := Try.prog) (T := 100) (E := 23) Try.underlying100 keyOK_node pmap_keys ⟨n, rfl⟩ (Try.zeroValue23 _) true with ⟨hnot, hrun⟩ | ⟨i, v, hi, hrun⟩
  ·refine ⟨_, _, hrun, Br.f rfl ⟨p, rfl, s, hS.box.cell0, ?_⟩⟩
   have hno := pmap_not hnot
   have hfn := find_none hno
   have hlen : (s.len : Int) = L.length := by rw [hS.rows.len]; simp
   refine ⟨fun h => hK _ _ _ ?_, fun h => ?_⟩
   ·have h2 : 65536 ≤ L.length := by have h := of_decide_eq_true h; omega
    have : Sp.make L n = (0, 6, L) := by unfold Sp.make; simp [← hck, hfn, h2]
    rw [this]; exact ⟨rfl, same _ E4⟩
   ·have h2 : ¬ 65536 ≤ L.length := by have h := of_decide_eq_false h; omega
    have hmk : Sp.make L n = ((L.length : Int) + 1, 0, L ++ [⟨n, sz, dp⟩]) := by unfold Sp.make; simp [← hck, hfn, h2]
    refine ⟨fun w' => w'.cell? p = some s.v ∧ Row w' p2 (nrow n), ⟨?_, ?_⟩, ?_⟩
    ·exact Ext.cell (F := None) (Ext.drew w3) hS.box.cell0 id
    ·rw [← hn]; exact Ext.row (F := None) (Ext.drew w3) b3.row id
    intro w4 hw4
    have E5 : Pure w3 w4 := by rw [hw4]; exact Ext.drew w3
    clear hw4
    have hS4 : PoolS w4 p L s m := by
     exact ⟨hS.box.pure E5, hS.rows.pure E5, hS.map.ext E5 id, hS.n1, hS.n2, hS.n3⟩
    have b4 := b3.pure E5
    refine ⟨p, rfl, s, fun w' h => h.1, k, f, t, u, x, a, b, fun w' h => by have := h.2; rw [← hn] at this; exact this, ?_⟩
    intro p3 w5 h5
    have E6 : Pure w4 w5 := Ext.new h5
    have o3 : w.heap.size ≤ p3.block := New.own (E4.trans E5) h5
    have b5 := Box.of_new h5
    have hrows5 := hS4.rows.pure E6
    have hbox5 := hS4.box.pure E6
    have hmap5 : CMap w5 m (pmap L) := hS4.map.ext E6 id
    have b45 := b4.pure E6
    have hrow : Row w5 p3 (erow ⟨n, sz, dp⟩) := by rw [← hn]; exact b5.row
    refine ⟨⟨hbox5.cell0, by rw [← hn]; exact b45.row⟩, ?_⟩
    obtain ⟨s1, w6, hr6, hrows6, E7, hb6⟩ := hrows5.append (P := Try.prog) (ty := 99) slT_entry (c := 1) hrow (by simp [erow, nrow]) (by simp [erow, nrow, oneCell]) (by simp; omega) (by simp [maxLen]; omega)
    have nb : ∀ b, s.blk b → b ≠ p2.block := fun b hb e => o2 (by rw [← e]; exact (hF b).2 (.inr (.inl hb)))
    have hbox6 := hbox5.ext E7 hS.n2
    have hmap6 := hmap5.ext E7 hS.n3
    have b6 := b45.ext E7 (fun h => nb _ h rfl)
    refine ⟨s1, w6, hr6, ⟨hbox6.cell0, by rw [← hn]; exact b6.row⟩, p, rfl, hbox6.canW0 (by simp), ?_⟩
    intro w7 hw7
    have hbox7 : Box w7 p [s1.v, .map (some m)] 102 := by rw [hw7]; exact hbox6.set0
    have E8 : Ext (· = p.block) w6 w7 := by rw [hw7]; exact Ext.setCell p _
    clear hw7
    have hs1p : ¬ s1.blk p.block := fun h => (hb6 _ h).elim hS.n2 (fun h => by have := hbox5.lt; omega)
    have hs1m : ¬ s1.blk m := fun h => (hb6 _ h).elim hS.n3 (fun h => by have := hmap5.lt; omega)
    have hrows7 := hrows6.ext E8 (fun b hb e => hs1p (by rw [← e]; exact hb))
    have hmap7 := hmap6.ext E8 hS.n1
    have b7 := b6.ext E8 (fun e => o2 (by rw [e]; exact (hF _).2 (.inl rfl)))
    have hl1 : (s1.len : Int) = L.length + 1 := by rw [hrows6.len]; simp
    refine ⟨p, rfl, s1, hbox7.cell0, ?_⟩
    refine ⟨fun w' => w'.cell? (p.add 1) = some (.map (some m)) ∧ Row w' p2 (nrow n), ⟨?_, ?_⟩, ?_⟩
    ·exact Ext.cell (F := None) (Ext.drew w7) (hbox7.cell (i := 1) rfl) id
    ·rw [← hn]; exact Ext.row (F := None) (Ext.drew w7) b7.row id
    intro w8 hw8
    have E9 : Pure w7 w8 := by rw [hw8]; exact Ext.drew w7
    clear hw8
    refine ⟨p, rfl, some m, fun w' h => h.1, k, f, t, u, x, a, b, fun w' h => by have := h.2; rw [← hn] at this; exact this, ?_⟩
    rw [hkey, hl1]
    have hmap8 : CMap w8 m (pmap L) := hmap7.ext E9 id
    obtain ⟨w9, hr9, hmap9, E10⟩ := hmap8.insert (P := Try.prog) (v := .int .i64 ((L.length : Int) + 1)) Try.underlying100 keyOK_node pmap_keys ⟨n, rfl⟩ hnot
    refine ⟨w9, hr9, hK _ _ _ ?_⟩
    rw [hmk]
    have hbox9 := (hbox7.pure E9).ext E10 (fun e => hS.n1 e.symm)
    have hrows9 := (hrows7.pure E9).ext E10 (fun b hb e => hs1m (by rw [← e]; exact hb))
    refine ⟨rfl, fun b => b = p.block ∨ s1.blk b ∨ b = m, ⟨s1, m, ⟨hbox9, ?_, ?_, hS.n1, hs1p, hs1m⟩, fun _ => Iff.rfl⟩, ?_, ?_⟩
    ·simpa using hrows9
    ·rw [pmap_snoc]; simpa using hmap9
    ·have hF' : ∀ b, F b ↔ (b = p.block ∨ s.blk b ∨ b = m) := hF
     have Ea : Ext F w w5 := ((E4.trans E5).trans E6).pure
     have Eb : Ext F w w6 := Ea.trans' E7 (fun i _ h => (hF' i).2 (.inr (.inl h)))
     have Ec : Ext F w w7 := Eb.trans' E8 (fun i _ h => (hF' i).2 (.inl h))
     have Ed : Ext F w w8 := Ec.thenPure E9
     exact Ed.trans' E10 (fun i _ h => (hF' i).2 (.inr (.inr h)))
    ·intro b hb
     rcases hb with rfl | hb | rfl
     ·exact .inl ((hF _).2 (.inl rfl))
     ·rcases hb6 b hb with h | h
      ·exact .inl ((hF _).2 (.inr (.inl h)))
      ·right; have := ((E4.trans E5).trans E6).size; omega
     ·exact .inl ((hF _).2 (.inr (.inr rfl)))
  ·obtain ⟨e, he, hen, rfl⟩ := pmap_get hi
   refine ⟨_, _, hrun, Br.t rfl (hK _ _ _ ?_)⟩
   have hfd := find_of hok he
   rw [hen] at hfd
   have : Sp.make L n = ((i : Int) + 1, 0, L) := by unfold Sp.make; simp [← hck, hfd]
   rw [this]; exact ⟨by simp, same _ E4⟩
end Go.Proofs
end
