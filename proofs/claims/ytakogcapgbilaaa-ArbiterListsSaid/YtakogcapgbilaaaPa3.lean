import Derived.Test.YtakogcapgbilaaaProg
import Derived.KernelRfl
import Derived.Test.YtakogcapgbilaaaPa0
import Derived.Test.YtakogcapgbilaaaPa2
section
open Go Go.SE
namespace Go.Proofs
set_option maxRecDepth 100000
set_option maxHeartbeats 4000000
attribute [local irreducible] wpL wpX opE wpE Calls
def m_arbiter_read_l1 (p1 : Option Addr) (shown1 s1 : Sl) (x1 : Int) (wl1 : World) (Kc1 : Int → World → Prop) (K : Sl → World → Prop) : Prop :=
 Br (decide (x1 < (shown1.len : Int)))
  (∃ a1 : Addr, At shown1 x1 1 a1 ∧
  ∃ v1 : Int, wl1.cell? a1 = some (vi v1) ∧
  Calls Try.prog 130 #[(vp p1), (vi v1)] wl1 (fun e w2 => ∃ aF aR aG : Int, ∃ aS : ByteArray, ∃ aT r1 : Bool, e = .returned (.tuple #[(.agg #[(vi aF), (vi aR), (vu aG), (vs aS), (vb aT)]), (vb r1)]) ∧ 
   ∃ a2 : Addr, At s1 x1 5 a2 ∧
   (∀ j, j < 5 → CanW w2 (a2.add j)) ∧ ∀ w3 : World, w3 = storeRow w2 a2 [(vi aF), (vi aR), (vu aG), (vs aS), (vb aT)] →
   Kc1 (IntKind.i64.wrap (x1 + 1)) w3))
  (K s1 wl1)
def m_arbiter_read (p1 : Option Addr) (shown1 : Sl) (w : World) (K : Sl → World → Prop) : Prop :=
 ∃ s1 : Sl, ∃ w1 : World, (Instr.makeSlice 27 (vi (shown1.len : Int)) (vi (shown1.len : Int))).run Try.prog w = .ok s1.v w1 ∧
 Br (Option.isNone p1)
  (K s1 w1)
  (∃ (I1 : Int → World → Prop) (mu1 : Int → World → Nat), I1 0 w1 ∧
   ∀ (x1 : Int) (wl1 : World), I1 x1 wl1 → m_arbiter_read_l1 p1 shown1 s1 x1 wl1 (fun y'0 w' => I1 y'0 w' ∧ mu1 y'0 w' < mu1 x1 wl1) K)
theorem w_arbiter_read (p1 : Option Addr) (shown1 : Sl) (w : World) (K : Sl → World → Prop) (h : m_arbiter_read p1 shown1 w K) :
  Calls Try.prog 79 #[(vp p1), shown1.v] w (fun e w' => ∃ r2 : Sl, e = .returned r2.v ∧ K r2 w') := by
 unfold m_arbiter_read at h
 refine calls_of_wpE (args := [(vp p1), shown1.v]) Try.func79 rfl Try.ntmps79 (Nat.le_of_ble_eq_true rfl) (wpE_seq (rg (q0 Sl.nil.v (wpL_nil (th_n (wpE_seq (rg (q0 shown1.v (q0 (vi (shown1.len : Int)) ?_)))))))))
 obtain ⟨s1, w1, hv4, h⟩ := h
 refine st (v := s1.v) (want0 rfl) (x_makeSlice (by kernel_rfl) (by kernel_rfl) hv4) (q0 s1.v (wpL_nil (th_n (wpE_seq (wpE_seq (rg (q0 (vp p1) (q2 (vb (Option.isNone p1)) (x_ptreq (by kernel_rfl) rfl Try.underlying25) (wpL_nil (th_n ?_))))))))))
 refine wpE_cond (t := (Option.isNone p1)) (by kernel_rfl) (fun hc1 => ?_) (fun hc1 => ?_)
 ·replace h := h.1 hc1
  refine wpE_seq (rg (q0 s1.v (q0 s1.v (wpL_nil (th_n (wpE_ret (th_r (res1 (.inl rfl) Try.results79 (v := s1.v) (by kernel_rfl) ?_))))))))
  exact ⟨s1, rfl, h⟩
 ·replace h := h.2 hc1
  refine wpE_skip (th_n (wpE_seq (wpE_seq (rg (q0 shown1.v (q0 (vi (shown1.len : Int)) (q0 (vi 0) (wpL_nil (th_n (wpE_block ?_))))))))))
  obtain ⟨I1, mu1, h0, hr⟩ := h
  refine wpE_loop (σ := Int × World) (fun s ρ w => w = s.2 ∧ Has ρ [(0, (vp p1)), (5, s1.v), (14, shown1.v), (15, (vi (shown1.len : Int))), (16, (vi s.1))] ∧ I1 s.1 s.2) (fun s => mu1 s.1 s.2) (0, w1) ⟨rfl, Has.mk (by kernel_rfl), h0⟩ ?_
  rintro ⟨x1, wl1⟩ ρ w ⟨hw, hH, hI⟩
  obtain rfl : wl1 = w := (show w = wl1 from hw).symm
  replace hH : Has ρ [(0, (vp p1)), (5, s1.v), (14, shown1.v), (15, (vi (shown1.len : Int))), (16, (vi x1))] := hH
  have h := hr x1 wl1 hI
  clear hr h0
  unfold m_arbiter_read_l1 at h
  refine wpE_has hH ?_
  clear hH hI
  refine wpE_seq (rg (q0 (vb (decide (x1 < (shown1.len : Int)))) (wpL_nil (th_n (wpE_seq ?_)))))
  refine wpE_cond (t := (decide (x1 < (shown1.len : Int)))) (by kernel_rfl) (fun hc2 => ?_) (fun hc2 => ?_)
  ·replace h := h.1 hc2
   refine wpE_skip (th_n (wpE_seq (wpE_block (wpE_seq (rg (q0 (vi x1) ?_))))))
   obtain ⟨a1, hv3, h⟩ := h
   refine q2 (vp (some a1)) (x_indexAddr (s := shown1) (k := .i64) (i := x1) (by kernel_rfl) (by kernel_rfl) (Try.runUnderlying26 _) (Try.sizeOf41 _) hv3) ?_
   obtain ⟨v1, hv2, h⟩ := h
   refine q2 (vi v1) (xl (Try.isAgg41 _) hv2) (q0 (vi x1) (q0 (vi v1) (wpL_nil (th_n (rg (q0 s1.v (q0 (vi x1) (q0 (vp p1) (q0 (vi v1) ?_)))))))))
   refine st_call (want0 rfl) (xc Try.call130) (h.mono ?_)
   rintro e w2 ⟨aF, aR, aG, aS, aT, r1, rfl, h⟩
   refine ⟨_, rfl, ?_⟩
   refine q0 (.tuple #[(.agg #[(vi aF), (vi aR), (vu aG), (vs aS), (vb aT)]), (vb r1)]) (q0 (.agg #[(vi aF), (vi aR), (vu aG), (vs aS), (vb aT)]) (q0 (vb r1) ?_))
   obtain ⟨a2, hv1, h⟩ := h
   refine q2 (vp (some a2)) (x_indexAddr (s := s1) (k := .i64) (i := x1) (by kernel_rfl) (by kernel_rfl) (Try.runUnderlying27 _) (Try.sizeOf132 _) hv1) ?_
   obtain ⟨hp1, h⟩ := h
   refine st_set (want0 rfl) (x_storeA (a := a2) (vs := [(vi aF), (vi aR), (vu aG), (vs aS), (vb aT)]) (by kernel_rfl) (by kernel_rfl) rfl (Try.sizeOf132 _) rfl hp1) ?_
   intro w3 hn1
   replace h := h w3 hn1
   refine wpL_nil (bl_n (th_n (rg (q0 (vi (IntKind.i64.wrap (x1 + 1))) (q0 (vi (IntKind.i64.wrap (x1 + 1))) (wpL_nil (th_n ?_)))))))
   exact ⟨((IntKind.i64.wrap (x1 + 1)), w3), ⟨rfl, Has.mk (by kernel_rfl), h.1⟩, h.2⟩
  ·replace h := h.2 hc2
   refine wpE_exit (th_x (th_x (bl_eq (th_n (wpE_seq (rg (q0 s1.v (q0 s1.v (wpL_nil (th_n (wpE_ret ?_)))))))))))
   refine res1 (.inl rfl) Try.results79 (v := s1.v) (by kernel_rfl) ?_
   exact ⟨s1, rfl, h⟩
def m_arbiter_bonds_j1 (by1 : Int) (p1 : Addr) (out1 : Sl) (why1 : Int) (w : World) (K : Sl → World → Prop) : Prop :=
 ∃ v2 : Int, w.cell? (p1.add 1) = some (vi v2) ∧
 ∃ v3 : Int, w.cell? (p1.add 2) = some (vu v3) ∧
 ∃ v4 : ByteArray, w.cell? (p1.add 3) = some (vs v4) ∧
 ∀ (p2 : Addr) (w2 : World), New w (.cells #[(vi v2), (vu v3), (vs v4), (vi why1), (vi by1)] 46) p2 w2 →
 ∃ s1 : Sl, ∃ w3 : World, (Builtin.append_ #[31, 31] 31 #[out1.v, (Sl.mk (some p2) 1 1).v]).run Try.prog w2 = .ok s1.v w3 ∧
 K s1 w3
def m_arbiter_bonds (aA aB aC : Int) (aD : ByteArray) (aE : Bool) (by1 : Int) (w : World) (K : Sl → World → Prop) : Prop :=
 ∀ (p1 : Addr) (w1 : World), New w (.cells #[(vi aA), (vi aB), (vu aC), (vs aD), (vb aE)] 132) p1 w1 →
 ∃ v1 : Int, w1.cell? p1 = some (vi v1) ∧
 Br (v1 == 6)
  (CanW w1 (p1.add 1) ∧ ∀ w4 : World, w4 = w1.setCell (p1.add 1) (vi 1) →
  ∃ v5 : Int, w4.cell? (p1.add 2) = some (vu v5) ∧
  ∃ v6 : ByteArray, w4.cell? (p1.add 3) = some (vs v6) ∧
  ∀ (p3 : Addr) (w5 : World), New w4 (.cells #[(vi 0), (vu v5), (vs v6), (vi 2), (vi by1)] 46) p3 w5 →
  ∃ s2 : Sl, ∃ w6 : World, (Builtin.append_ #[31, 31] 31 #[Sl.nil.v, (Sl.mk (some p3) 1 1).v]).run Try.prog w5 = .ok s2.v w6 ∧
  m_arbiter_bonds_j1 by1 p1 s2 2 w6 K)
  (Br (v1 == 2)
   (m_arbiter_bonds_j1 by1 p1 Sl.nil 1 w1 K)
   (K Sl.nil w1))
theorem w_arbiter_bonds (aA aB aC : Int) (aD : ByteArray) (aE : Bool) (by1 : Int) (w : World) (K : Sl → World → Prop) (h : m_arbiter_bonds aA aB aC aD aE by1 w K) :
  Calls Try.prog 80 #[(.agg #[(vi aA), (vi aB), (vu aC), (vs aD), (vb aE)]), (vi by1)] w (fun e w' => ∃ r1 : Sl, e = .returned r1.v ∧ K r1 w') := by
 unfold m_arbiter_bonds at h
 refine calls_of_wpE (args := [(.agg #[(vi aA), (vi aB), (vu aC), (vs aD), (vb aE)]), (vi by1)]) Try.func80 rfl Try.ntmps80 (Nat.le_of_ble_eq_true rfl) (wpE_seq (rg (sn (O := (.cells #[(vi aA), (vi aB), (vu aC), (vs aD), (vb aE)] 132)) xb ?_)))
 intro p1 w1 hn4
 replace h := h p1 w1 hn4
 refine q0 Sl.nil.v (wpL_nil (th_n (wpE_seq (rg (q0 Sl.nil.v (wpL_nil (th_n (wpE_seq (wpE_seq (rg (q0 (vi 1) ?_)))))))))))
 refine wpL_nil (th_n (wpE_seq (rg (q0 (vp (some p1)) ?_))))
 obtain ⟨v1, hv8, h⟩ := h
 refine q2 (vi v1) (xl (Try.isAgg3 _) hv8) (wpL_nil (th_n (wpE_block ?_)))
 refine wpE_join (fun ρ w => ∃ out1 : Sl, ∃ why1 : Int, Has ρ [(1, (vi by1)), (2, (vp (some p1))), (5, out1.v), (6, (vi why1))] ∧ m_arbiter_bonds_j1 by1 p1 out1 why1 w K) ?_ ?_
 ·rintro ρ w ⟨out1, why1, hH, h⟩
  unfold m_arbiter_bonds_j1 at h
  refine wpE_has hH ?_
  clear hH
  refine wpE_seq (rg (q0 out1.v (q0 (vp (some (p1.add 1))) ?_)))
  obtain ⟨v2, hv4, h⟩ := h
  refine q2 (vi v2) (xl (Try.isAgg3 _) hv4) (q0 (vp (some (p1.add 2))) ?_)
  obtain ⟨v3, hv3, h⟩ := h
  refine q2 (vu v3) (xl (Try.isAgg38 _) hv3) (q0 (vp (some (p1.add 3))) ?_)
  obtain ⟨v4, hv2, h⟩ := h
  refine q2 (vs v4) (xl (Try.isAgg9 _) hv2) (q0 (vi why1) (q0 (vi by1) (q0 (.agg #[(vi v2), (vu v3), (vs v4), (vi why1), (vi by1)]) (st_new (O := (.cells #[(vi v2), (vu v3), (vs v4), (vi why1), (vi by1)] 46)) (fun p => (Sl.mk (some p) 1 1).v) (want0 rfl) (x_buildSlice (vs := #[(0, (.agg #[(vi v2), (vu v3), (vs v4), (vi why1), (vi by1)]))]) (by kernel_rfl) (by kernel_rfl)) ?_))))
  intro p2 w2 hn1
  replace h := h p2 w2 hn1
  obtain ⟨s1, w3, hv1, h⟩ := h
  refine st (v := s1.v) (want0 rfl) (x_builtin (args := #[out1.v, (Sl.mk (some p2) 1 1).v]) (by kernel_rfl) (fun _ => rfl) hv1) (q0 s1.v (wpL_nil (th_n (wpE_exit (bl_eq (th_n (wpE_seq (rg (q0 s1.v (q0 s1.v (wpL_nil ?_)))))))))))
  refine th_n (wpE_ret (res1 (.inl rfl) Try.results80 (v := s1.v) (by kernel_rfl) ?_))
  exact ⟨s1, rfl, h⟩
 ·skip
  refine wpE_block (wpE_seq (wpE_block (wpE_seq (wpE_seq (wpE_seq (rg (q0 (vb (v1 == 6)) (q0 (vb (v1 == 6)) (wpL_nil (th_n ?_))))))))))
  refine wpE_cond (t := (v1 == 6)) (by kernel_rfl) (fun hc1 => ?_) (fun hc1 => ?_)
  ·replace h := h.1 hc1
   refine wpE_exit (th_x (th_x (bl_eq (th_n (wpE_seq (rg (q0 (vi 2) (wpL_nil (th_n (wpE_seq (rg ?_)))))))))))
   refine q0 (vp (some (p1.add 1))) ?_
   obtain ⟨hp1, h⟩ := h
   refine st_set (want0 rfl) (x_store (a := (p1.add 1)) (v := (vi 1)) (by kernel_rfl) (by kernel_rfl) rfl (Try.sizeOf3 _) hp1) ?_
   intro w4 hn2
   replace h := h w4 hn2
   refine wpL_nil (th_n (rg (q0 Sl.nil.v (q0 (vp (some (p1.add 2))) ?_))))
   obtain ⟨v5, hv7, h⟩ := h
   refine q2 (vu v5) (xl (Try.isAgg38 _) hv7) (q0 (vp (some (p1.add 3))) ?_)
   obtain ⟨v6, hv6, h⟩ := h
   refine q2 (vs v6) (xl (Try.isAgg9 _) hv6) (q0 (vi 2) (q0 (vi by1) (q0 (.agg #[(vi 0), (vu v5), (vs v6), (vi 2), (vi by1)]) (st_new (O := (.cells #[(vi 0), (vu v5), (vs v6), (vi 2), (vi by1)] 46)) (fun p => (Sl.mk (some p) 1 1).v) (want0 rfl) (x_buildSlice (vs := #[(0, (.agg #[(vi 0), (vu v5), (vs v6), (vi 2), (vi by1)]))]) (by kernel_rfl) (by kernel_rfl)) ?_))))
   intro p3 w5 hn3
   replace h := h p3 w5 hn3
   obtain ⟨s2, w6, hv5, h⟩ := h
   refine st (v := s2.v) (want0 rfl) (x_builtin (args := #[Sl.nil.v, (Sl.mk (some p3) 1 1).v]) (by kernel_rfl) (fun _ => rfl) hv5) (q0 s2.v (wpL_nil (bl_n (th_n ?_))))
   exact ⟨s2, 2, Has.mk (by kernel_rfl), h⟩
  ·replace h := h.2 hc1
   refine wpE_skip (th_n (wpE_seq (rg (q0 (vb (v1 == 2)) (q0 (vb (v1 == 2)) (wpL_nil (th_n ?_)))))))
   refine wpE_cond (t := (v1 == 2)) (by kernel_rfl) (fun hc2 => ?_) (fun hc2 => ?_)
   ·replace h := h.1 hc2
    refine wpE_exit (th_x (bl_ne rfl (th_x (bl_eq (th_n ?_)))))
    exact ⟨Sl.nil, 1, Has.mk (by kernel_rfl), h⟩
   ·replace h := h.2 hc2
    refine wpE_skip (th_n (wpE_exit (bl_ne rfl (th_x (bl_ne rfl (th_x (bl_eq (th_n (wpE_seq (rg (q0 Sl.nil.v ?_)))))))))))
    refine q0 Sl.nil.v (wpL_nil (th_n (wpE_ret (res1 (.inl rfl) Try.results80 (v := Sl.nil.v) (by kernel_rfl) ?_))))
    exact ⟨Sl.nil, rfl, h⟩
def m_arbiter_fault_j3 (p1 p2 : Addr) (p3 p4 : Addr) (x3 : Bool) (w : World) (K : Int → Int → Int → Int → Int → World → Prop) : Prop :=
 Br x3
  (CanW w p4 ∧ ∀ w13 : World, w13 = w.setCell p4 (vi 0) →
  CanW w13 (p4.add 2) ∧ ∀ w14 : World, w14 = w13.setCell (p4.add 2) (vi 3) →
  ∃ aU aV : Int, ∃ aW aX aY : Int, Row w14 p4 [(vi aU), (vu aV), (vi aW), (vi aX), (vi aY)] ∧
  (∀ j, j < 5 → CanW w14 (p3.add j)) ∧ ∀ w15 : World, w15 = storeRow w14 p3 [(vi aU), (vu aV), (vi aW), (vi aX), (vi aY)] →
  ∃ aZ bA : Int, ∃ bB bC bD : Int, Row w15 p3 [(vi aZ), (vu bA), (vi bB), (vi bC), (vi bD)] ∧
  K aZ bA bB bC bD w15)
  (∃ aH aI aJ : Int, ∃ aK : ByteArray, ∃ aL : Bool, Row w p2 [(vi aH), (vi aI), (vu aJ), (vs aK), (vb aL)] ∧
  Calls Try.prog 131 #[(.agg #[(vi aH), (vi aI), (vu aJ), (vs aK), (vb aL)])] w (fun e w16 => ∃ r1 : Bool, e = .returned (vb r1) ∧ 
   Br r1
    (∃ v5 : Int, w16.cell? p1 = some (vi v5) ∧
    Br (v5 == 3)
     (CanW w16 p4 ∧ ∀ w17 : World, w17 = w16.setCell p4 (vi 0) →
     CanW w17 (p4.add 2) ∧ ∀ w18 : World, w18 = w17.setCell (p4.add 2) (vi 3) →
     ∃ bE bF : Int, ∃ bG bH bI : Int, Row w18 p4 [(vi bE), (vu bF), (vi bG), (vi bH), (vi bI)] ∧
     (∀ j, j < 5 → CanW w18 (p3.add j)) ∧ ∀ w19 : World, w19 = storeRow w18 p3 [(vi bE), (vu bF), (vi bG), (vi bH), (vi bI)] →
     ∃ bJ bK : Int, ∃ bL bM bN : Int, Row w19 p3 [(vi bJ), (vu bK), (vi bL), (vi bM), (vi bN)] ∧
     K bJ bK bL bM bN w19)
     (∃ bO bP : Int, ∃ bQ bR bS : Int, Row w16 p4 [(vi bO), (vu bP), (vi bQ), (vi bR), (vi bS)] ∧
     (∀ j, j < 5 → CanW w16 (p3.add j)) ∧ ∀ w20 : World, w20 = storeRow w16 p3 [(vi bO), (vu bP), (vi bQ), (vi bR), (vi bS)] →
     ∃ bT bU : Int, ∃ bV bW bX : Int, Row w20 p3 [(vi bT), (vu bU), (vi bV), (vi bW), (vi bX)] ∧
     K bT bU bV bW bX w20))
    (∃ bY bZ : Int, ∃ cA cB cC : Int, Row w16 p4 [(vi bY), (vu bZ), (vi cA), (vi cB), (vi cC)] ∧
    (∀ j, j < 5 → CanW w16 (p3.add j)) ∧ ∀ w21 : World, w21 = storeRow w16 p3 [(vi bY), (vu bZ), (vi cA), (vi cB), (vi cC)] →
    ∃ cD cE : Int, ∃ cF cG cH : Int, Row w21 p3 [(vi cD), (vu cE), (vi cF), (vi cG), (vi cH)] ∧
    K cD cE cF cG cH w21)))
def m_arbiter_fault_j2 (p1 p2 : Addr) (p3 p4 : Addr) (x2 : Bool) (w : World) (K : Int → Int → Int → Int → Int → World → Prop) : Prop :=
 Br x2
  (CanW w p4 ∧ ∀ w10 : World, w10 = w.setCell p4 (vi 2) →
  CanW w10 (p4.add 2) ∧ ∀ w11 : World, w11 = w10.setCell (p4.add 2) (vi 2) →
  ∃ cI cJ : Int, ∃ cK cL cM : Int, Row w11 p4 [(vi cI), (vu cJ), (vi cK), (vi cL), (vi cM)] ∧
  (∀ j, j < 5 → CanW w11 (p3.add j)) ∧ ∀ w12 : World, w12 = storeRow w11 p3 [(vi cI), (vu cJ), (vi cK), (vi cL), (vi cM)] →
  ∃ cN cO : Int, ∃ cP cQ cR : Int, Row w12 p3 [(vi cN), (vu cO), (vi cP), (vi cQ), (vi cR)] ∧
  K cN cO cP cQ cR w12)
  (∃ aM aN aO : Int, ∃ aP : ByteArray, ∃ aQ : Bool, Row w p1 [(vi aM), (vi aN), (vu aO), (vs aP), (vb aQ)] ∧
  Calls Try.prog 131 #[(.agg #[(vi aM), (vi aN), (vu aO), (vs aP), (vb aQ)])] w (fun e w22 => ∃ r2 : Bool, e = .returned (vb r2) ∧ 
   Br r2
    (∃ v6 : Int, w22.cell? p2 = some (vi v6) ∧
    m_arbiter_fault_j3 p1 p2 p3 p4 (v6 == 3) w22 K)
    (m_arbiter_fault_j3 p1 p2 p3 p4 false w22 K)))
def m_arbiter_fault_j4 (p1 p2 : Addr) (p3 p4 : Addr) (x4 : Bool) (w : World) (K : Int → Int → Int → Int → Int → World → Prop) : Prop :=
 Br x4
  (∃ dR dS dT : Int, ∃ dU : ByteArray, ∃ dV : Bool, Row w p1 [(vi dR), (vi dS), (vu dT), (vs dU), (vb dV)] ∧
  ∃ dW dX dY : Int, ∃ dZ : ByteArray, ∃ eA : Bool, Row w p2 [(vi dW), (vi dX), (vu dY), (vs dZ), (vb eA)] ∧
  ∃ b1 : Bool, (Go.binOp .neq 132 (.agg #[(vi dR), (vi dS), (vu dT), (vs dU), (vb dV)]) (.agg #[(vi dW), (vi dX), (vu dY), (vs dZ), (vb eA)])).run Try.prog w = .ok (vb b1) w ∧
  m_arbiter_fault_j2 p1 p2 p3 p4 b1 w K)
  (m_arbiter_fault_j2 p1 p2 p3 p4 false w K)
def m_arbiter_fault_j1 (p1 p2 : Addr) (p3 p4 : Addr) (x1 : Bool) (w : World) (K : Int → Int → Int → Int → Int → World → Prop) : Prop :=
 Br x1
  (∃ v4 : Int, w.cell? (p1.add 1) = some (vi v4) ∧
  CanW w p4 ∧ ∀ w7 : World, w7 = w.setCell p4 (vi v4) →
  CanW w7 (p4.add 2) ∧ ∀ w8 : World, w8 = w7.setCell (p4.add 2) (vi 1) →
  ∃ cS cT : Int, ∃ cU cV cW : Int, Row w8 p4 [(vi cS), (vu cT), (vi cU), (vi cV), (vi cW)] ∧
  (∀ j, j < 5 → CanW w8 (p3.add j)) ∧ ∀ w9 : World, w9 = storeRow w8 p3 [(vi cS), (vu cT), (vi cU), (vi cV), (vi cW)] →
  ∃ cX cY : Int, ∃ cZ dA dB : Int, Row w9 p3 [(vi cX), (vu cY), (vi cZ), (vi dA), (vi dB)] ∧
  K cX cY cZ dA dB w9)
  (∃ eB eC eD : Int, ∃ eE : ByteArray, ∃ eF : Bool, Row w p1 [(vi eB), (vi eC), (vu eD), (vs eE), (vb eF)] ∧
  Calls Try.prog 132 #[(.agg #[(vi eB), (vi eC), (vu eD), (vs eE), (vb eF)])] w (fun e w23 => ∃ r3 : Bool, e = .returned (vb r3) ∧ 
   Br r3
    (∃ eG eH eI : Int, ∃ eJ : ByteArray, ∃ eK : Bool, Row w23 p2 [(vi eG), (vi eH), (vu eI), (vs eJ), (vb eK)] ∧
    Calls Try.prog 132 #[(.agg #[(vi eG), (vi eH), (vu eI), (vs eJ), (vb eK)])] w23 (fun e w24 => ∃ r4 : Bool, e = .returned (vb r4) ∧ 
     m_arbiter_fault_j4 p1 p2 p3 p4 r4 w24 K))
    (m_arbiter_fault_j4 p1 p2 p3 p4 false w23 K)))
def m_arbiter_fault_j6 (p1 p2 : Addr) (p3 p4 : Addr) (x6 : Bool) (w : World) (K : Int → Int → Int → Int → Int → World → Prop) : Prop :=
 Br x6
  (∃ v8 : ByteArray, w.cell? (p1.add 3) = some (vs v8) ∧
  ∃ v9 : ByteArray, w.cell? (p2.add 3) = some (vs v9) ∧
  m_arbiter_fault_j1 p1 p2 p3 p4 (!(decide (v8 = v9))) w K)
  (m_arbiter_fault_j1 p1 p2 p3 p4 false w K)
def m_arbiter_fault_j5 (p1 p2 : Addr) (p3 p4 : Addr) (x5 : Bool) (w : World) (K : Int → Int → Int → Int → Int → World → Prop) : Prop :=
 Br x5
  (∃ v10 : Int, w.cell? (p1.add 1) = some (vi v10) ∧
  ∃ v11 : Int, w.cell? (p2.add 1) = some (vi v11) ∧
  m_arbiter_fault_j6 p1 p2 p3 p4 (v10 == v11) w K)
  (m_arbiter_fault_j6 p1 p2 p3 p4 false w K)
def m_arbiter_fault (dC dD dE : Int) (dF : ByteArray) (dG : Bool) (dH dI dJ : Int) (dK : ByteArray) (dL : Bool) (w : World) (K : Int → Int → Int → Int → Int → World → Prop) : Prop :=
 ∀ (p1 : Addr) (w1 : World), New w (.cells #[(vi dC), (vi dD), (vu dE), (vs dF), (vb dG)] 132) p1 w1 →
 ∀ (p2 : Addr) (w2 : World), New w1 (.cells #[(vi dH), (vi dI), (vu dJ), (vs dK), (vb dL)] 132) p2 w2 →
 ∀ (p3 : Addr) (w3 : World), New w2 (.cells #[(vi 0), (vu 0), (vi 0), (vi 0), (vi 0)] 134) p3 w3 →
 ∃ v1 : Int, w3.cell? (p1.add 2) = some (vu v1) ∧
 ∀ (p4 : Addr) (w4 : World), New w3 (.cells #[(vi 0), (vu 0), (vi 0), (vi 0), (vi 0)] 134) p4 w4 →
 (∀ j, j < 5 → CanW w4 (p4.add j)) ∧ ∀ w5 : World, w5 = storeRow w4 p4 [(vi 0), (vu v1), (vi 0), (vi 0), (vi 0)] →
 ∃ v2 : Int, w5.cell? (p1.add 2) = some (vu v2) ∧
 ∃ v3 : Int, w5.cell? (p2.add 2) = some (vu v3) ∧
 Br (v2 != v3)
  ((∀ j, j < 5 → CanW w5 (p3.add j)) ∧ ∀ w6 : World, w6 = storeRow w5 p3 [(vi 0), (vu 0), (vi 0), (vi 0), (vi 0)] →
  ∃ dM dN : Int, ∃ dO dP dQ : Int, Row w6 p3 [(vi dM), (vu dN), (vi dO), (vi dP), (vi dQ)] ∧
  K dM dN dO dP dQ w6)
  (∃ v7 : Int, w5.cell? p1 = some (vi v7) ∧
  Br (v7 == 2)
   (∃ v12 : Int, w5.cell? p2 = some (vi v12) ∧
   m_arbiter_fault_j5 p1 p2 p3 p4 (v12 == 2) w5 K)
   (m_arbiter_fault_j5 p1 p2 p3 p4 false w5 K))
theorem w_arbiter_fault (dC dD dE : Int) (dF : ByteArray) (dG : Bool) (dH dI dJ : Int) (dK : ByteArray) (dL : Bool) (w : World) (K : Int → Int → Int → Int → Int → World → Prop) (h : m_arbiter_fault dC dD dE dF dG dH dI dJ dK dL w K) :
  Calls Try.prog 82 #[(.agg #[(vi dC), (vi dD), (vu dE), (vs dF), (vb dG)]), (.agg #[(vi dH), (vi dI), (vu dJ), (vs dK), (vb dL)])] w (fun e w' => ∃ eL aG : Int, ∃ aF eM eN : Int, e = .returned (.agg #[(vi eL), (vu aG), (vi aF), (vi eM), (vi eN)]) ∧ K eL aG aF eM eN w') := by
 unfold m_arbiter_fault at h
 refine calls_of_wpE (args := [(.agg #[(vi dC), (vi dD), (vu dE), (vs dF), (vb dG)]), (.agg #[(vi dH), (vi dI), (vu dJ), (vs dK), (vb dL)])]) Try.func82 rfl Try.ntmps82 (Nat.le_of_ble_eq_true rfl) (wpE_seq (rg (sn (O := (.cells #[(vi dC), (vi dD), (vu dE), (vs dF), (vb dG)] 132)) xb ?_)))
 intro p1 w1 hn20
 replace h := h p1 w1 hn20
 refine sn (O := (.cells #[(vi dH), (vi dI), (vu dJ), (vs dK), (vb dL)] 132)) xb ?_
 intro p2 w2 hn19
 replace h := h p2 w2 hn19
 refine sn (O := (.cells #[(vi 0), (vu 0), (vi 0), (vi 0), (vi 0)] 134)) (x_alloc (Try.zeroValue134 _) rfl) ?_
 intro p3 w3 hn18
 replace h := h p3 w3 hn18
 refine wpL_nil (th_n (wpE_seq (rg (q0 (vp (some (p1.add 2))) ?_))))
 obtain ⟨v1, hv32, h⟩ := h
 refine q2 (vu v1) (xl (Try.isAgg38 _) hv32) (q0 (.agg #[(vi 0), (vu v1), (vi 0), (vi 0), (vi 0)]) (sn (O := (.cells #[(vi 0), (vu 0), (vi 0), (vi 0), (vi 0)] 134)) (x_alloc (Try.zeroValue134 _) rfl) ?_))
 intro p4 w4 hn17
 replace h := h p4 w4 hn17
 obtain ⟨hp1, h⟩ := h
 refine st_set (want0 rfl) (x_storeA (a := p4) (vs := [(vi 0), (vu v1), (vi 0), (vi 0), (vi 0)]) (by kernel_rfl) (by kernel_rfl) rfl (Try.sizeOf134 _) rfl hp1) ?_
 intro w5 hn1
 replace h := h w5 hn1
 refine wpL_nil (th_n (wpE_seq (wpE_seq (rg (q0 (vp (some (p1.add 2))) ?_)))))
 obtain ⟨v2, hv31, h⟩ := h
 refine q2 (vu v2) (xl (Try.isAgg38 _) hv31) (q0 (vp (some (p2.add 2))) ?_)
 obtain ⟨v3, hv30, h⟩ := h
 refine q2 (vu v3) (xl (Try.isAgg38 _) hv30) (q0 (vb (v2 != v3)) (wpL_nil (th_n ?_)))
 refine wpE_cond (t := (v2 != v3)) (by kernel_rfl) (fun hc1 => ?_) (fun hc1 => ?_)
 ·replace h := h.1 hc1
  refine wpE_seq (rg (q0 (.agg #[(vi 0), (vu 0), (vi 0), (vi 0), (vi 0)]) ?_))
  obtain ⟨hp2, h⟩ := h
  refine st_set (want0 rfl) (x_storeA (a := p3) (vs := [(vi 0), (vu 0), (vi 0), (vi 0), (vi 0)]) (by kernel_rfl) (by kernel_rfl) rfl (Try.sizeOf134 _) rfl hp2) ?_
  intro w6 hn2
  replace h := h w6 hn2
  refine wpL_nil (th_n (wpE_ret (th_r ?_)))
  obtain ⟨dM, dN, dO, dP, dQ, hv1, h⟩ := h
  refine resG (.inl rfl) (vs := [(.agg #[(vi dM), (vu dN), (vi dO), (vi dP), (vi dQ)])]) (v := (.agg #[(vi dM), (vu dN), (vi dO), (vi dP), (vi dQ)])) Try.results82 ⟨(RV.cellA (by kernel_rfl) (Try.isAgg134 _) (Try.sizeOf134 _) rfl hv1), trivial⟩ (by kernel_rfl) ?_
  exact ⟨dM, dN, dO, dP, dQ, rfl, h⟩
 ·replace h := h.2 hc1
  refine wpE_skip (th_n (wpE_seq (rg (q0 (.func (.func 131) #[] #[]) (wpL_nil (th_n (wpE_seq (wpE_block ?_))))))))
  refine wpE_join (fun ρ w => ∃ x1 : Bool, Has ρ [(2, (vp (some p1))), (3, (vp (some p2))), (4, (vp (some p3))), (5, (vp (some p4))), (6, (.func (.func 131) #[] #[])), (16, (vb x1))] ∧ m_arbiter_fault_j1 p1 p2 p3 p4 x1 w K) ?_ ?_
  ·rintro ρ w ⟨x1, hH, h⟩
   unfold m_arbiter_fault_j1 at h
   refine wpE_has hH ?_
   clear hH
   refine wpE_cond (t := x1) (by kernel_rfl) (fun hc2 => ?_) (fun hc2 => ?_)
   ·replace h := h.1 hc2
    refine rg (q0 (vp (some (p1.add 1))) ?_)
    obtain ⟨v4, hv4, h⟩ := h
    refine q2 (vi v4) (xl (Try.isAgg3 _) hv4) (q0 (vp (some p4)) ?_)
    obtain ⟨hp3, h⟩ := h
    refine st_set (want0 rfl) (x_store (a := p4) (v := (vi v4)) (by kernel_rfl) (by kernel_rfl) rfl (Try.sizeOf3 _) hp3) ?_
    intro w7 hn3
    replace h := h w7 hn3
    refine q0 (vp (some (p4.add 2))) ?_
    obtain ⟨hp4, h⟩ := h
    refine st_set (want0 rfl) (x_store (a := (p4.add 2)) (v := (vi 1)) (by kernel_rfl) (by kernel_rfl) rfl (Try.sizeOf3 _) hp4) ?_
    intro w8 hn4
    replace h := h w8 hn4
    refine wpL_nil (bl_n (th_n (wpE_seq (rg ?_))))
    obtain ⟨cS, cT, cU, cV, cW, hv3, h⟩ := h
    refine q2 (.agg #[(vi cS), (vu cT), (vi cU), (vi cV), (vi cW)]) (x_loadA (a := p4) (vs := [(vi cS), (vu cT), (vi cU), (vi cV), (vi cW)]) (by kernel_rfl) (Try.isAgg134 _) (Try.sizeOf134 _) rfl hv3) ?_
    obtain ⟨hp5, h⟩ := h
    refine st_set (want0 rfl) (x_storeA (a := p3) (vs := [(vi cS), (vu cT), (vi cU), (vi cV), (vi cW)]) (by kernel_rfl) (by kernel_rfl) rfl (Try.sizeOf134 _) rfl hp5) ?_
    intro w9 hn5
    replace h := h w9 hn5
    refine wpL_nil (th_n (wpE_ret ?_))
    obtain ⟨cX, cY, cZ, dA, dB, hv2, h⟩ := h
    refine resG (.inl rfl) (vs := [(.agg #[(vi cX), (vu cY), (vi cZ), (vi dA), (vi dB)])]) (v := (.agg #[(vi cX), (vu cY), (vi cZ), (vi dA), (vi dB)])) Try.results82 ⟨(RV.cellA (by kernel_rfl) (Try.isAgg134 _) (Try.sizeOf134 _) rfl hv2), trivial⟩ (by kernel_rfl) ?_
    exact ⟨cX, cY, cZ, dA, dB, rfl, h⟩
   ·replace h := h.2 hc2
    refine wpE_join (fun ρ w => ∃ x2 : Bool, Has ρ [(2, (vp (some p1))), (3, (vp (some p2))), (4, (vp (some p3))), (5, (vp (some p4))), (6, (.func (.func 131) #[] #[])), (43, (vb x2))] ∧ m_arbiter_fault_j2 p1 p2 p3 p4 x2 w K) ?_ ?_
    ·rintro ρ w ⟨x2, hH, h⟩
     unfold m_arbiter_fault_j2 at h
     refine wpE_has hH ?_
     clear hH
     refine wpE_cond (t := x2) (by kernel_rfl) (fun hc3 => ?_) (fun hc3 => ?_)
     ·replace h := h.1 hc3
      refine rg (q0 (vp (some p4)) ?_)
      obtain ⟨hp6, h⟩ := h
      refine st_set (want0 rfl) (x_store (a := p4) (v := (vi 2)) (by kernel_rfl) (by kernel_rfl) rfl (Try.sizeOf3 _) hp6) ?_
      intro w10 hn6
      replace h := h w10 hn6
      refine q0 (vp (some (p4.add 2))) ?_
      obtain ⟨hp7, h⟩ := h
      refine st_set (want0 rfl) (x_store (a := (p4.add 2)) (v := (vi 2)) (by kernel_rfl) (by kernel_rfl) rfl (Try.sizeOf3 _) hp7) ?_
      intro w11 hn7
      replace h := h w11 hn7
      refine wpL_nil (bl_n (th_n (wpE_seq (rg ?_))))
      obtain ⟨cI, cJ, cK, cL, cM, hv6, h⟩ := h
      refine q2 (.agg #[(vi cI), (vu cJ), (vi cK), (vi cL), (vi cM)]) (x_loadA (a := p4) (vs := [(vi cI), (vu cJ), (vi cK), (vi cL), (vi cM)]) (by kernel_rfl) (Try.isAgg134 _) (Try.sizeOf134 _) rfl hv6) ?_
      obtain ⟨hp8, h⟩ := h
      refine st_set (want0 rfl) (x_storeA (a := p3) (vs := [(vi cI), (vu cJ), (vi cK), (vi cL), (vi cM)]) (by kernel_rfl) (by kernel_rfl) rfl (Try.sizeOf134 _) rfl hp8) ?_
      intro w12 hn8
      replace h := h w12 hn8
      refine wpL_nil (th_n (wpE_ret ?_))
      obtain ⟨cN, cO, cP, cQ, cR, hv5, h⟩ := h
      refine resG (.inl rfl) (vs := [(.agg #[(vi cN), (vu cO), (vi cP), (vi cQ), (vi cR)])]) (v := (.agg #[(vi cN), (vu cO), (vi cP), (vi cQ), (vi cR)])) Try.results82 ⟨(RV.cellA (by kernel_rfl) (Try.isAgg134 _) (Try.sizeOf134 _) rfl hv5), trivial⟩ (by kernel_rfl) ?_
      exact ⟨cN, cO, cP, cQ, cR, rfl, h⟩
     ·replace h := h.2 hc3
      refine wpE_seq ?_
      refine wpE_join (fun ρ w => ∃ x3 : Bool, Has ρ [(2, (vp (some p1))), (3, (vp (some p2))), (4, (vp (some p3))), (5, (vp (some p4))), (6, (.func (.func 131) #[] #[])), (57, (vb x3))] ∧ m_arbiter_fault_j3 p1 p2 p3 p4 x3 w K) ?_ ?_
      ·rintro ρ w ⟨x3, hH, h⟩
       unfold m_arbiter_fault_j3 at h
       refine wpE_has hH ?_
       clear hH
       refine wpE_cond (t := x3) (by kernel_rfl) (fun hc4 => ?_) (fun hc4 => ?_)
       ·replace h := h.1 hc4
        refine wpE_skip (th_n (wpE_condT' (t := x3) (by kernel_rfl) hc4 (rg (q0 (vp (some p4)) ?_))))
        obtain ⟨hp9, h⟩ := h
        refine st_set (want0 rfl) (x_store (a := p4) (v := (vi 0)) (by kernel_rfl) (by kernel_rfl) rfl (Try.sizeOf3 _) hp9) ?_
        intro w13 hn9
        replace h := h w13 hn9
        refine q0 (vp (some (p4.add 2))) ?_
        obtain ⟨hp10, h⟩ := h
        refine st_set (want0 rfl) (x_store (a := (p4.add 2)) (v := (vi 3)) (by kernel_rfl) (by kernel_rfl) rfl (Try.sizeOf3 _) hp10) ?_
        intro w14 hn10
        replace h := h w14 hn10
        refine wpL_nil (bl_n (th_n (wpE_seq (rg ?_))))
        obtain ⟨aU, aV, aW, aX, aY, hv8, h⟩ := h
        refine q2 (.agg #[(vi aU), (vu aV), (vi aW), (vi aX), (vi aY)]) (x_loadA (a := p4) (vs := [(vi aU), (vu aV), (vi aW), (vi aX), (vi aY)]) (by kernel_rfl) (Try.isAgg134 _) (Try.sizeOf134 _) rfl hv8) ?_
        obtain ⟨hp11, h⟩ := h
        refine st_set (want0 rfl) (x_storeA (a := p3) (vs := [(vi aU), (vu aV), (vi aW), (vi aX), (vi aY)]) (by kernel_rfl) (by kernel_rfl) rfl (Try.sizeOf134 _) rfl hp11) ?_
        intro w15 hn11
        replace h := h w15 hn11
        refine wpL_nil (th_n (wpE_ret ?_))
        obtain ⟨aZ, bA, bB, bC, bD, hv7, h⟩ := h
        refine resG (.inl rfl) (vs := [(.agg #[(vi aZ), (vu bA), (vi bB), (vi bC), (vi bD)])]) (v := (.agg #[(vi aZ), (vu bA), (vi bB), (vi bC), (vi bD)])) Try.results82 ⟨(RV.cellA (by kernel_rfl) (Try.isAgg134 _) (Try.sizeOf134 _) rfl hv7), trivial⟩ (by kernel_rfl) ?_
        exact ⟨aZ, bA, bB, bC, bD, rfl, h⟩
       ·replace h := h.2 hc4
        refine rg (q0 (.func (.func 131) #[] #[]) ?_)
        obtain ⟨aH, aI, aJ, aK, aL, hv16, h⟩ := h
        refine q2 (.agg #[(vi aH), (vi aI), (vu aJ), (vs aK), (vb aL)]) (x_loadA (a := p2) (vs := [(vi aH), (vi aI), (vu aJ), (vs aK), (vb aL)]) (by kernel_rfl) (Try.isAgg132 _) (Try.sizeOf132 _) rfl hv16) ?_
        refine st_call (want0 rfl) (x_callm (fs := #[]) (caps := #[]) (args := #[(.agg #[(vi aH), (vi aI), (vu aJ), (vs aK), (vb aL)])]) (args' := #[(.agg #[(vi aH), (vi aI), (vu aJ), (vs aK), (vb aL)])]) (by kernel_rfl) Try.call131 (by kernel_rfl) (by kernel_rfl)) (h.mono ?_)
        rintro e w16 ⟨r1, rfl, h⟩
        refine ⟨_, rfl, ?_⟩
        refine q0 (vb r1) ?_
        rcases Bool.eq_false_or_eq_true r1 with hg1 | hg1
        ·replace h := h.1 hg1
         refine q1 (vp (some p1)) (want1 rfl (yD 69 hg1)) ?_
         obtain ⟨v5, hv13, h⟩ := h
         refine stp (v := (vi v5)) (want1 rfl (yD 69 hg1)) (xl (Try.isAgg3 _) hv13) (q1 (vb (v5 == 3)) (want1 rfl (yD 69 hg1)) (q2 (vb (v5 == 3)) (xT hg1) (q0 (vb (v5 == 3)) (wpL_nil (th_n ?_)))))
         refine wpE_cond (t := (v5 == 3)) (by kernel_rfl) (fun hc5 => ?_) (fun hc5 => ?_)
         ·replace h := h.1 hc5
          refine rg (q0 (vp (some p4)) ?_)
          obtain ⟨hp12, h⟩ := h
          refine st_set (want0 rfl) (x_store (a := p4) (v := (vi 0)) (by kernel_rfl) (by kernel_rfl) rfl (Try.sizeOf3 _) hp12) ?_
          intro w17 hn12
          replace h := h w17 hn12
          refine q0 (vp (some (p4.add 2))) ?_
          obtain ⟨hp13, h⟩ := h
          refine st_set (want0 rfl) (x_store (a := (p4.add 2)) (v := (vi 3)) (by kernel_rfl) (by kernel_rfl) rfl (Try.sizeOf3 _) hp13) ?_
          intro w18 hn13
          replace h := h w18 hn13
          refine wpL_nil (bl_n (th_n (wpE_seq (rg ?_))))
          obtain ⟨bE, bF, bG, bH, bI, hv10, h⟩ := h
          refine q2 (.agg #[(vi bE), (vu bF), (vi bG), (vi bH), (vi bI)]) (x_loadA (a := p4) (vs := [(vi bE), (vu bF), (vi bG), (vi bH), (vi bI)]) (by kernel_rfl) (Try.isAgg134 _) (Try.sizeOf134 _) rfl hv10) ?_
          obtain ⟨hp14, h⟩ := h
          refine st_set (want0 rfl) (x_storeA (a := p3) (vs := [(vi bE), (vu bF), (vi bG), (vi bH), (vi bI)]) (by kernel_rfl) (by kernel_rfl) rfl (Try.sizeOf134 _) rfl hp14) ?_
          intro w19 hn14
          replace h := h w19 hn14
          refine wpL_nil (th_n (wpE_ret ?_))
          obtain ⟨bJ, bK, bL, bM, bN, hv9, h⟩ := h
          refine resG (.inl rfl) (vs := [(.agg #[(vi bJ), (vu bK), (vi bL), (vi bM), (vi bN)])]) (v := (.agg #[(vi bJ), (vu bK), (vi bL), (vi bM), (vi bN)])) Try.results82 ⟨(RV.cellA (by kernel_rfl) (Try.isAgg134 _) (Try.sizeOf134 _) rfl hv9), trivial⟩ (by kernel_rfl) ?_
          exact ⟨bJ, bK, bL, bM, bN, rfl, h⟩
         ·replace h := h.2 hc5
          refine wpE_skip (bl_n (th_n (wpE_seq (rg ?_))))
          obtain ⟨bO, bP, bQ, bR, bS, hv12, h⟩ := h
          refine q2 (.agg #[(vi bO), (vu bP), (vi bQ), (vi bR), (vi bS)]) (x_loadA (a := p4) (vs := [(vi bO), (vu bP), (vi bQ), (vi bR), (vi bS)]) (by kernel_rfl) (Try.isAgg134 _) (Try.sizeOf134 _) rfl hv12) ?_
          obtain ⟨hp15, h⟩ := h
          refine st_set (want0 rfl) (x_storeA (a := p3) (vs := [(vi bO), (vu bP), (vi bQ), (vi bR), (vi bS)]) (by kernel_rfl) (by kernel_rfl) rfl (Try.sizeOf134 _) rfl hp15) ?_
          intro w20 hn15
          replace h := h w20 hn15
          refine wpL_nil (th_n (wpE_ret ?_))
          obtain ⟨bT, bU, bV, bW, bX, hv11, h⟩ := h
          refine resG (.inl rfl) (vs := [(.agg #[(vi bT), (vu bU), (vi bV), (vi bW), (vi bX)])]) (v := (.agg #[(vi bT), (vu bU), (vi bV), (vi bW), (vi bX)])) Try.results82 ⟨(RV.cellA (by kernel_rfl) (Try.isAgg134 _) (Try.sizeOf134 _) rfl hv11), trivial⟩ (by kernel_rfl) ?_
          exact ⟨bT, bU, bV, bW, bX, rfl, h⟩
        ·replace h := h.2 hg1
         refine sk (yD 69 hg1) (sk (yD 69 hg1) (sk (yD 69 hg1) (q2 (vb false) (xF hg1) (q0 (vb false) (wpL_nil (th_n (wpE_condF (by kernel_rfl) (wpE_skip (bl_n (th_n (wpE_seq ?_)))))))))))
         refine rg ?_
         obtain ⟨bY, bZ, cA, cB, cC, hv15, h⟩ := h
         refine q2 (.agg #[(vi bY), (vu bZ), (vi cA), (vi cB), (vi cC)]) (x_loadA (a := p4) (vs := [(vi bY), (vu bZ), (vi cA), (vi cB), (vi cC)]) (by kernel_rfl) (Try.isAgg134 _) (Try.sizeOf134 _) rfl hv15) ?_
         obtain ⟨hp16, h⟩ := h
         refine st_set (want0 rfl) (x_storeA (a := p3) (vs := [(vi bY), (vu bZ), (vi cA), (vi cB), (vi cC)]) (by kernel_rfl) (by kernel_rfl) rfl (Try.sizeOf134 _) rfl hp16) ?_
         intro w21 hn16
         replace h := h w21 hn16
         refine wpL_nil (th_n (wpE_ret ?_))
         obtain ⟨cD, cE, cF, cG, cH, hv14, h⟩ := h
         refine resG (.inl rfl) (vs := [(.agg #[(vi cD), (vu cE), (vi cF), (vi cG), (vi cH)])]) (v := (.agg #[(vi cD), (vu cE), (vi cF), (vi cG), (vi cH)])) Try.results82 ⟨(RV.cellA (by kernel_rfl) (Try.isAgg134 _) (Try.sizeOf134 _) rfl hv14), trivial⟩ (by kernel_rfl) ?_
         exact ⟨cD, cE, cF, cG, cH, rfl, h⟩
      ·skip
       refine rg (q0 (.func (.func 131) #[] #[]) ?_)
       obtain ⟨aM, aN, aO, aP, aQ, hv18, h⟩ := h
       refine q2 (.agg #[(vi aM), (vi aN), (vu aO), (vs aP), (vb aQ)]) (x_loadA (a := p1) (vs := [(vi aM), (vi aN), (vu aO), (vs aP), (vb aQ)]) (by kernel_rfl) (Try.isAgg132 _) (Try.sizeOf132 _) rfl hv18) ?_
       refine st_call (want0 rfl) (x_callm (fs := #[]) (caps := #[]) (args := #[(.agg #[(vi aM), (vi aN), (vu aO), (vs aP), (vb aQ)])]) (args' := #[(.agg #[(vi aM), (vi aN), (vu aO), (vs aP), (vb aQ)])]) (by kernel_rfl) Try.call131 (by kernel_rfl) (by kernel_rfl)) (h.mono ?_)
       rintro e w22 ⟨r2, rfl, h⟩
       refine ⟨_, rfl, ?_⟩
       refine q0 (vb r2) ?_
       rcases Bool.eq_false_or_eq_true r2 with hg2 | hg2
       ·replace h := h.1 hg2
        refine q1 (vp (some p2)) (want1 rfl (yD 61 hg2)) ?_
        obtain ⟨v6, hv17, h⟩ := h
        refine stp (v := (vi v6)) (want1 rfl (yD 61 hg2)) (xl (Try.isAgg3 _) hv17) (q1 (vb (v6 == 3)) (want1 rfl (yD 61 hg2)) (q2 (vb (v6 == 3)) (xT hg2) (q0 (vb (v6 == 3)) (wpL_nil (th_n ?_)))))
        exact ⟨(v6 == 3), Has.mk (by kernel_rfl), h⟩
       ·replace h := h.2 hg2
        refine sk (yD 61 hg2) (sk (yD 61 hg2) (sk (yD 61 hg2) (q2 (vb false) (xF hg2) (q0 (vb false) (wpL_nil (th_n ?_))))))
        exact ⟨false, Has.mk (by kernel_rfl), h⟩
    ·skip
     refine rg ?_
     obtain ⟨eB, eC, eD, eE, eF, hv23, h⟩ := h
     refine q2 (.agg #[(vi eB), (vi eC), (vu eD), (vs eE), (vb eF)]) (x_loadA (a := p1) (vs := [(vi eB), (vi eC), (vu eD), (vs eE), (vb eF)]) (by kernel_rfl) (Try.isAgg132 _) (Try.sizeOf132 _) rfl hv23) ?_
     refine st_call (want0 rfl) (xc Try.call132) (h.mono ?_)
     rintro e w23 ⟨r3, rfl, h⟩
     refine ⟨_, rfl, ?_⟩
     refine q0 (vb r3) ?_
     refine wpL_join 3 (fun ρ w => ∃ x4 : Bool, Has ρ [(2, (vp (some p1))), (3, (vp (some p2))), (4, (vp (some p3))), (5, (vp (some p4))), (6, (.func (.func 131) #[] #[])), (49, (vb x4))] ∧ m_arbiter_fault_j4 p1 p2 p3 p4 x4 w K) ?_ ?_
     ·rintro ρ w ⟨x4, hH, h⟩
      unfold m_arbiter_fault_j4 at h
      refine wpL_has hH ?_
      clear hH
      refine q0 (vb x4) ?_
      rcases Bool.eq_false_or_eq_true x4 with hg3 | hg3
      ·replace h := h.1 hg3
       obtain ⟨dR, dS, dT, dU, dV, hv21, h⟩ := h
       refine stp (v := (.agg #[(vi dR), (vi dS), (vu dT), (vs dU), (vb dV)])) (want1 rfl (yD 50 hg3)) (x_loadA (a := p1) (vs := [(vi dR), (vi dS), (vu dT), (vs dU), (vb dV)]) (by kernel_rfl) (Try.isAgg132 _) (Try.sizeOf132 _) rfl hv21) ?_
       obtain ⟨dW, dX, dY, dZ, eA, hv20, h⟩ := h
       refine stp (v := (.agg #[(vi dW), (vi dX), (vu dY), (vs dZ), (vb eA)])) (want1 rfl (yD 50 hg3)) (x_loadA (a := p2) (vs := [(vi dW), (vi dX), (vu dY), (vs dZ), (vb eA)]) (by kernel_rfl) (Try.isAgg132 _) (Try.sizeOf132 _) rfl hv20) ?_
       obtain ⟨b1, hv19, h⟩ := h
       refine stp (v := (vb b1)) (want1 rfl (yD 50 hg3)) (x_aggeq (by kernel_rfl) (by kernel_rfl) (by kernel_rfl) hv19) (q2 (vb b1) (xT hg3) (q0 (vb b1) (wpL_nil (th_n ?_))))
       exact ⟨b1, Has.mk (by kernel_rfl), h⟩
      ·replace h := h.2 hg3
       refine sk (yD 50 hg3) (sk (yD 50 hg3) (sk (yD 50 hg3) (q2 (vb false) (xF hg3) (q0 (vb false) (wpL_nil (th_n ?_))))))
       exact ⟨false, Has.mk (by kernel_rfl), h⟩
     ·skip
      rcases Bool.eq_false_or_eq_true r3 with hg4 | hg4
      ·replace h := h.1 hg4
       obtain ⟨eG, eH, eI, eJ, eK, hv22, h⟩ := h
       refine stp (v := (.agg #[(vi eG), (vi eH), (vu eI), (vs eJ), (vb eK)])) (want1 rfl (yD 46 hg4)) (x_loadA (a := p2) (vs := [(vi eG), (vi eH), (vu eI), (vs eJ), (vb eK)]) (by kernel_rfl) (Try.isAgg132 _) (Try.sizeOf132 _) rfl hv22) ?_
       refine st_call (want1 rfl (yD 46 hg4)) (xc Try.call132) (h.mono ?_)
       rintro e w24 ⟨r4, rfl, h⟩
       refine ⟨_, rfl, ?_⟩
       refine q2 (vb r4) (xT hg4) (wpL_nil ?_)
       exact ⟨r4, Has.mk (by kernel_rfl), h⟩
      ·replace h := h.2 hg4
       refine sk (yD 46 hg4) (sk (yD 46 hg4) (q2 (vb false) (xF hg4) (wpL_nil ?_)))
       exact ⟨false, Has.mk (by kernel_rfl), h⟩
  ·skip
   refine rg (q0 (vp (some p1)) ?_)
   obtain ⟨v7, hv29, h⟩ := h
   refine q2 (vi v7) (xl (Try.isAgg3 _) hv29) (q0 (vb (v7 == 2)) (q0 (vb (v7 == 2)) ?_))
   refine wpL_join 4 (fun ρ w => ∃ x5 : Bool, Has ρ [(2, (vp (some p1))), (3, (vp (some p2))), (4, (vp (some p3))), (5, (vp (some p4))), (6, (.func (.func 131) #[] #[])), (24, (vb x5))] ∧ m_arbiter_fault_j5 p1 p2 p3 p4 x5 w K) ?_ ?_
   ·rintro ρ w ⟨x5, hH, h⟩
    unfold m_arbiter_fault_j5 at h
    refine wpL_has hH ?_
    clear hH
    refine q0 (vb x5) ?_
    refine wpL_join 6 (fun ρ w => ∃ x6 : Bool, Has ρ [(2, (vp (some p1))), (3, (vp (some p2))), (4, (vp (some p3))), (5, (vp (some p4))), (6, (.func (.func 131) #[] #[])), (31, (vb x6))] ∧ m_arbiter_fault_j6 p1 p2 p3 p4 x6 w K) ?_ ?_
    ·rintro ρ w ⟨x6, hH, h⟩
     unfold m_arbiter_fault_j6 at h
     refine wpL_has hH ?_
     clear hH
     refine q0 (vb x6) ?_
     rcases Bool.eq_false_or_eq_true x6 with hg5 | hg5
     ·replace h := h.1 hg5
      refine q1 (vp (some (p1.add 3))) (want1 rfl (yD 32 hg5)) ?_
      obtain ⟨v8, hv25, h⟩ := h
      refine stp (v := (vs v8)) (want1 rfl (yD 32 hg5)) (xl (Try.isAgg9 _) hv25) (q1 (vp (some (p2.add 3))) (want1 rfl (yD 32 hg5)) ?_)
      obtain ⟨v9, hv24, h⟩ := h
      refine stp (v := (vs v9)) (want1 rfl (yD 32 hg5)) (xl (Try.isAgg9 _) hv24) (stp (v := (vb (!(decide (v8 = v9))))) (want1 rfl (yD 32 hg5)) (x_strneq (by kernel_rfl) (by kernel_rfl)) (q2 (vb (!(decide (v8 = v9)))) (xT hg5) (q0 (vb (!(decide (v8 = v9)))) (wpL_nil (th_n ?_)))))
      exact ⟨(!(decide (v8 = v9))), Has.mk (by kernel_rfl), h⟩
     ·replace h := h.2 hg5
      refine sk (yD 32 hg5) (sk (yD 32 hg5) (sk (yD 32 hg5) (sk (yD 32 hg5) (sk (yD 32 hg5) (q2 (vb false) (xF hg5) (q0 (vb false) (wpL_nil (th_n ?_))))))))
      exact ⟨false, Has.mk (by kernel_rfl), h⟩
    ·skip
     rcases Bool.eq_false_or_eq_true x5 with hg6 | hg6
     ·replace h := h.1 hg6
      refine q1 (vp (some (p1.add 1))) (want1 rfl (yD 25 hg6)) ?_
      obtain ⟨v10, hv27, h⟩ := h
      refine stp (v := (vi v10)) (want1 rfl (yD 25 hg6)) (xl (Try.isAgg3 _) hv27) (q1 (vp (some (p2.add 1))) (want1 rfl (yD 25 hg6)) ?_)
      obtain ⟨v11, hv26, h⟩ := h
      refine stp (v := (vi v11)) (want1 rfl (yD 25 hg6)) (xl (Try.isAgg3 _) hv26) (q1 (vb (v10 == v11)) (want1 rfl (yD 25 hg6)) (q2 (vb (v10 == v11)) (xT hg6) (wpL_nil ?_)))
      exact ⟨(v10 == v11), Has.mk (by kernel_rfl), h⟩
     ·replace h := h.2 hg6
      refine sk (yD 25 hg6) (sk (yD 25 hg6) (sk (yD 25 hg6) (sk (yD 25 hg6) (sk (yD 25 hg6) (q2 (vb false) (xF hg6) (wpL_nil ?_))))))
      exact ⟨false, Has.mk (by kernel_rfl), h⟩
   ·skip
    rcases Bool.eq_false_or_eq_true (v7 == 2) with hg7 | hg7
    ·replace h := h.1 hg7
     refine q1 (vp (some p2)) (want1 rfl (yD 20 hg7)) ?_
     obtain ⟨v12, hv28, h⟩ := h
     refine stp (v := (vi v12)) (want1 rfl (yD 20 hg7)) (xl (Try.isAgg3 _) hv28) (q1 (vb (v12 == 2)) (want1 rfl (yD 20 hg7)) (q2 (vb (v12 == 2)) (xT hg7) (wpL_nil ?_)))
     exact ⟨(v12 == 2), Has.mk (by kernel_rfl), h⟩
    ·replace h := h.2 hg7
     refine sk (yD 20 hg7) (sk (yD 20 hg7) (sk (yD 20 hg7) (q2 (vb false) (xF hg7) (wpL_nil ?_))))
     exact ⟨false, Has.mk (by kernel_rfl), h⟩
def m_arbiter_fault_1 (aA aB aC : Int) (aD : ByteArray) (aE : Bool) (w : World) (K : Bool → World → Prop) : Prop :=
 ∀ (p1 : Addr) (w1 : World), New w (.cells #[(vi aA), (vi aB), (vu aC), (vs aD), (vb aE)] 132) p1 w1 →
 ∃ v1 : Int, w1.cell? p1 = some (vi v1) ∧
 Br (v1 == 2)
  (∃ v2 : Int, w1.cell? (p1.add 1) = some (vi v2) ∧
  K (v2 == 0) w1)
  (K false w1)
theorem w_arbiter_fault_1 (aA aB aC : Int) (aD : ByteArray) (aE : Bool) (w : World) (K : Bool → World → Prop) (h : m_arbiter_fault_1 aA aB aC aD aE w K) :
  Calls Try.prog 131 #[(.agg #[(vi aA), (vi aB), (vu aC), (vs aD), (vb aE)])] w (fun e w' => ∃ r1 : Bool, e = .returned (vb r1) ∧ K r1 w') := by
 unfold m_arbiter_fault_1 at h
 refine calls_of_wpE (args := [(.agg #[(vi aA), (vi aB), (vu aC), (vs aD), (vb aE)])]) Try.func131 rfl Try.ntmps131 (Nat.le_of_ble_eq_true rfl) (wpE_seq (rg (sn (O := (.cells #[(vi aA), (vi aB), (vu aC), (vs aD), (vb aE)] 132)) xb ?_)))
 intro p1 w1 hn1
 replace h := h p1 w1 hn1
 refine q0 (vb false) (wpL_nil (th_n (wpE_seq (rg (q0 (vp (some p1)) ?_)))))
 obtain ⟨v1, hv2, h⟩ := h
 refine q2 (vi v1) (xl (Try.isAgg3 _) hv2) (q0 (vb (v1 == 2)) (q0 (vb (v1 == 2)) ?_))
 rcases Bool.eq_false_or_eq_true (v1 == 2) with hg1 | hg1
 ·replace h := h.1 hg1
  refine q1 (vp (some (p1.add 1))) (want1 rfl (yD 6 hg1)) ?_
  obtain ⟨v2, hv1, h⟩ := h
  refine stp (v := (vi v2)) (want1 rfl (yD 6 hg1)) (xl (Try.isAgg3 _) hv1) (q1 (vb (v2 == 0)) (want1 rfl (yD 6 hg1)) (q2 (vb (v2 == 0)) (xT hg1) (q0 (vb (v2 == 0)) (wpL_nil (th_n (wpE_ret (res1 (.inl rfl) Try.results131 (v := (vb (v2 == 0))) (by kernel_rfl) ?_)))))))
  exact ⟨(v2 == 0), rfl, h⟩
 ·replace h := h.2 hg1
  refine sk (yD 6 hg1) (sk (yD 6 hg1) (sk (yD 6 hg1) (q2 (vb false) (xF hg1) (q0 (vb false) (wpL_nil (th_n (wpE_ret (res1 (.inl rfl) Try.results131 (v := (vb false)) (by kernel_rfl) ?_))))))))
  exact ⟨false, rfl, h⟩
def m_arbiter_isVerdict (aA aB aC : Int) (aD : ByteArray) (aE : Bool) (w : World) (K : Bool → World → Prop) : Prop :=
 ∀ (p1 : Addr) (w1 : World), New w (.cells #[(vi aA), (vi aB), (vu aC), (vs aD), (vb aE)] 132) p1 w1 →
 ∃ v1 : Int, w1.cell? p1 = some (vi v1) ∧
 Br (v1 == 5)
  (K true w1)
  (∃ v2 : Int, w1.cell? p1 = some (vi v2) ∧
  K (v2 == 6) w1)
theorem w_arbiter_isVerdict (aA aB aC : Int) (aD : ByteArray) (aE : Bool) (w : World) (K : Bool → World → Prop) (h : m_arbiter_isVerdict aA aB aC aD aE w K) :
  Calls Try.prog 132 #[(.agg #[(vi aA), (vi aB), (vu aC), (vs aD), (vb aE)])] w (fun e w' => ∃ r1 : Bool, e = .returned (vb r1) ∧ K r1 w') := by
 unfold m_arbiter_isVerdict at h
 refine calls_of_wpE (args := [(.agg #[(vi aA), (vi aB), (vu aC), (vs aD), (vb aE)])]) Try.func132 rfl Try.ntmps132 (Nat.le_of_ble_eq_true rfl) (wpE_seq (rg (sn (O := (.cells #[(vi aA), (vi aB), (vu aC), (vs aD), (vb aE)] 132)) xb ?_)))
 intro p1 w1 hn1
 replace h := h p1 w1 hn1
 refine q0 (vb false) (wpL_nil (th_n (wpE_seq (rg (q0 (vp (some p1)) ?_)))))
 obtain ⟨v1, hv2, h⟩ := h
 refine q2 (vi v1) (xl (Try.isAgg3 _) hv2) (q0 (vb (v1 == 5)) (q0 (vb (v1 == 5)) ?_))
 rcases Bool.eq_false_or_eq_true (v1 == 5) with hg1 | hg1
 ·replace h := h.1 hg1
  refine sk (yD 6 hg1) (sk (yD 6 hg1) (sk (yD 6 hg1) (q2 (vb true) (xT hg1) (q0 (vb true) (wpL_nil (th_n (wpE_ret (res1 (.inl rfl) Try.results132 (v := (vb true)) (by kernel_rfl) ?_))))))))
  exact ⟨true, rfl, h⟩
 ·replace h := h.2 hg1
  refine q1 (vp (some p1)) (want1 rfl (yD 6 hg1)) ?_
  obtain ⟨v2, hv1, h⟩ := h
  refine stp (v := (vi v2)) (want1 rfl (yD 6 hg1)) (xl (Try.isAgg3 _) hv1) (q1 (vb (v2 == 6)) (want1 rfl (yD 6 hg1)) (q2 (vb (v2 == 6)) (xF hg1) (q0 (vb (v2 == 6)) (wpL_nil (th_n (wpE_ret (res1 (.inl rfl) Try.results132 (v := (vb (v2 == 6))) (by kernel_rfl) ?_)))))))
  exact ⟨(v2 == 6), rfl, h⟩
end Go.Proofs
end
section
open Go Go.SE
namespace Go.Proofs
attribute [local irreducible] Calls
def lrow (l : Sp.Letter) : List Value := [.int .i64 l.kind, .int .i64 l.frm, .int .u64 l.c, .string l.text, .bool l.fake]
theorem slT_letter : SlType Try.prog 27 132 5 48 := by
 refine ⟨Try.underlying27, ⟨Try.t132, _, by kernel_rfl, (by kernel_rfl : Try.t132.zero = some (.agg #[.int .i64 0, .int .i64 0, .int .u64 0, .string ⟨#[]⟩, .bool false])), by kernel_rfl, by kernel_rfl, rfl⟩, by omega⟩
theorem zero_letter : ∀ i z, Try.prog.info? 132 = some i → i.zero = some z → z.cells = (lrow Sp.noLetter).toArray := by
 intro i z hi hz
 have h1 : Try.prog.info? 132 = some Try.t132 := by kernel_rfl
 rw [h1] at hi; cases hi
 have h2 : Try.t132.zero = some (.agg #[.int .i64 0, .int .i64 0, .int .u64 0, .string ⟨#[]⟩, .bool false]) := by kernel_rfl
 rw [h2] at hz; cases hz; rfl
def trows (ts : List Int) : List (List Value) := ts.map fun t => [.int .i64 t]
def readAll (L : Sp.Pool) (ts : List Int) : List Sp.Letter := ts.map fun t => (Sp.read L t).1
structure RetS (w : World) (e : TypeId) (sz : Nat) (rs : List (List Value)) (s : Sl) (w' : World) : Prop where
 rows : Rws w' e sz s rs
 own : ∀ b, s.blk b → w.heap.size ≤ b
 pure : Pure w w'
theorem c_arb_read (p : Addr) (sh : Sl) (ts : List Int) (w : World) {S : Nat → Prop} {L : Sp.Pool} {F : Nat → Prop} (hP : PoolAt w p L F) (hok : Sp.Ok L) (hs : Lst S w 1 sh (trows ts)) (hn : ts.length ≤ 1000000) :
  Calls Try.prog 79 #[.pointer (some p), sh.v] w (fun e w' => ∃ s : Sl, e = .returned s.v ∧ RetS w 132 5 ((readAll L ts).map lrow) s w') := by
 suffices key : ∀ K : Sl → World → Prop, (∀ s w', RetS w 132 5 ((readAll L ts).map lrow) s w' → K s w') → m_arbiter_read (some p) sh w K from
  w_arbiter_read _ _ w _ (key _ (fun _ _ h => h))
 intro K hK
 unfold m_arbiter_read
 have hl : sh.len = ts.length := by rw [hs.len]; simp [trows]
 obtain ⟨w1, hr1, hrows, E1⟩ := Rws.make (P := Try.prog) slT_letter zero_letter (k := .i64) (k' := .i64) (n := sh.len) (by omega) (by simp [maxLen]; omega) w
 refine ⟨_, w1, hr1, Br.f rfl ?_⟩
 have hb1 : ∀ b, (Sl.mk (some ⟨w.heap.size, 0, none⟩) sh.len sh.len).blk b → b = w.heap.size := by
  rintro b ⟨a, h, rfl⟩; cases h; rfl
 generalize hs1 : (Sl.mk (some ⟨w.heap.size, 0, none⟩) sh.len sh.len) = s1 at *
 have hrl : (readAll L ts).length = ts.length := by simp [readAll]
 refine ⟨fun x w' => ∃ j : Nat, x = j ∧ j ≤ ts.length ∧ Pure w w' ∧ Rws w' 132 5 s1 (((readAll L ts).map lrow).take j ++ List.replicate (ts.length - j) (lrow Sp.noLetter)), fun x _ => ((ts.length : Int) - x).toNat, ⟨0, rfl, Nat.zero_le _, E1, by simpa [hl] using hrows⟩, ?_⟩
 rintro _ wl ⟨j, rfl, hj, El, hrl2⟩
 unfold m_arbiter_read_l1
 refine ⟨fun h => ?_, fun h => ?_⟩
 ·have hlt : j < ts.length := by have h := of_decide_eq_true h; omega
  obtain ⟨a, hat, _, hrow⟩ := (hs.pure El).at_ j (by simpa [trows] using hlt)
  have hcell : wl.cell? a = some (.int .i64 ts[j]) := by
   have := hrow 0 (by simp [trows])
   simpa [trows, Addr.add] using this
  refine ⟨a, hat, _, hcell, ?_⟩
  refine (c_letter_Read p ts[j] wl (hP.pure El) hok).mono ?_
  rintro _ w2 ⟨k, f, c, x, g, ok, rfl, hrd, E2⟩
  have hl1 : (⟨k, f, c, x, g⟩ : Sp.Letter) = (Sp.read L ts[j]).1 := congrArg Prod.fst hrd
  have hlen : (((readAll L ts).map lrow).take j ++ List.replicate (ts.length - j) (lrow Sp.noLetter)).length = ts.length := by rw [List.length_append, List.length_take, List.length_map, hrl, List.length_replicate]; omega
  obtain ⟨a2, hat2, hcan, hset⟩ := (hrl2.pure E2).set (i := j) (by omega) (r := lrow ⟨k, f, c, x, g⟩) rfl (k := (j : Int)) rfl
  refine ⟨_, _, _, _, _, _, rfl, a2, hat2, hcan, ?_⟩
  intro w3 hw3
  obtain ⟨hrows3, E3⟩ := hset w3 hw3
  rw [i64 (by omega) (by omega)]
  refine ⟨⟨j + 1, by omega, hlt, (El.trans E2).trans' E3 (fun i hi h => by have := hb1 i h; omega), ?_⟩, by show ((ts.length : Int) - ((j : Int) + 1)).toNat < ((ts.length : Int) - (j : Int)).toNat; omega⟩
  have e : (((readAll L ts).map lrow).take j ++ List.replicate (ts.length - j) (lrow Sp.noLetter)).set j (lrow ⟨k, f, c, x, g⟩) = ((readAll L ts).map lrow).take (j + 1) ++ List.replicate (ts.length - (j + 1)) (lrow Sp.noLetter) := by
   have hj2 : j < ((readAll L ts).map lrow).length := by rw [List.length_map, hrl]; omega
   have hl2 : (((readAll L ts).map lrow).take j).length = j := by rw [List.length_take]; omega
   have hrep : ts.length - j = (ts.length - (j + 1)) + 1 := by omega
   rw [List.set_append_right _ _ (by omega), hl2, Nat.sub_self, hrep, List.replicate_succ, List.set_cons_zero, List.take_succ_eq_append_getElem hj2, List.append_assoc]
   have hx : ((readAll L ts).map lrow)[j] = lrow ⟨k, f, c, x, g⟩ := by rw [hl1]; simp only [readAll, List.getElem_map]
   rw [hx, List.singleton_append]
  rw [e] at hrows3
  exact hrows3
 ·have hge : j = ts.length := by have h := of_decide_eq_false h; omega
  refine hK _ _ ⟨?_, fun b hb => by have := hb1 b hb; omega, El⟩
  subst hge
  rw [Nat.sub_self, List.take_of_length_le (by simp [hrl])] at hrl2
  simpa using hrl2
end Go.Proofs
end
section
open Go Go.SE
namespace Go.Sp
structure Bond where
 who : Int
 c : Int
 text : ByteArray
 why : Int
 by_ : Int
deriving DecidableEq
def bondsOf (l : Letter) (by_ : Int) : List Bond :=
 if l.kind = 6 then [⟨0, l.c, l.text, 2, by_⟩, ⟨1, l.c, l.text, 2, by_⟩] else if l.kind = 2 then [⟨l.frm, l.c, l.text, 1, by_⟩] else []
def judgeBonds (who c : Int) (x : ByteArray) (i : Int) : List Bond → Option (Int × Int)
 | [] => none
 | b :: bs => if b.who = who ∧ b.c = c ∧ b.text = x then some (b.why, i) else judgeBonds who c x i bs
def judgeFrom (who c : Int) (x : ByteArray) : Int → List Letter → Bool × Int × Int
 | _, [] => (false, 0, -1)
 | i, l :: ls => match judgeBonds who c x i (bondsOf l i) with
  | some r => (true, r)
  | none => judgeFrom who c x (i + 1) ls
end Go.Sp
namespace Go.Proofs
attribute [local irreducible] Calls
def brow (b : Sp.Bond) : List Value := [.int .i64 b.who, .int .u64 b.c, .string b.text, .int .i64 b.why, .int .i64 b.by_]
theorem slT_bond : SlType Try.prog 31 46 5 48 := by
 refine ⟨Try.underlying31, ⟨Try.t46, _, by kernel_rfl, (by kernel_rfl : Try.t46.zero = some (.agg #[.int .i64 0, .int .u64 0, .string ⟨#[]⟩, .int .i64 0, .int .i64 0])), by kernel_rfl, by kernel_rfl, rfl⟩, by omega⟩
theorem c_arb_bonds (k f c : Int) (x : ByteArray) (g : Bool) (n : Int) (w : World) :
  Calls Try.prog 80 #[.agg #[.int .i64 k, .int .i64 f, .int .u64 c, .string x, .bool g], .int .i64 n] w (fun e w' => ∃ s : Sl, e = .returned s.v ∧ RetS w 46 5 ((Sp.bondsOf ⟨k, f, c, x, g⟩ n).map brow) s w') := by
 suffices key : ∀ K : Sl → World → Prop, (∀ s w', RetS w 46 5 ((Sp.bondsOf ⟨k, f, c, x, g⟩ n).map brow) s w' → K s w') → m_arbiter_bonds k f c x g n w K from
  w_arbiter_bonds _ _ _ _ _ _ w _ (key _ (fun _ _ h => h))
 intro K hK
 unfold m_arbiter_bonds
 intro p1 w1 h1
 have E1 : Pure w w1 := Ext.new h1
 have o1 := New.own (Ext.refl w) h1
 have b1 := Box.of_new h1
 clear h1
 have J1 : ∀ (fr : Int) (s : Sl) (why : Int) (rs : List Sp.Bond) (w2 : World), rs.length ≤ 1 → Box w2 p1 [.int .i64 k, .int .i64 fr, .int .u64 c, .string x, .bool g] 132 → Rws w2 46 5 s (rs.map brow) → (∀ b, s.blk b → w.heap.size ≤ b) → Pure w w2 →
   Sp.bondsOf ⟨k, f, c, x, g⟩ n = rs ++ [⟨fr, c, x, why, n⟩] → m_arbiter_bonds_j1 n p1 s why w2 K := by
  intro fr s why rs w2 hl hB hR hown E hs
  unfold m_arbiter_bonds_j1
  refine ⟨fr, hB.cell rfl, c, hB.cell rfl, x, hB.cell rfl, ?_⟩
  intro p2 w3 h3
  have E3 : Pure w2 w3 := Ext.new h3
  have hrow : Row w3 p2 (brow ⟨fr, c, x, why, n⟩) := (Box.of_new h3).row
  obtain ⟨s1, w4, hr, hR4, E4, hb4⟩ := (hR.pure E3).append (P := Try.prog) slT_bond (ty := 31) (c := 1) hrow rfl (by simp [brow, oneCell]) (by simp; omega) (by simp [maxLen]; omega)
  refine ⟨s1, w4, hr, hK _ _ ⟨?_, fun b hb => (hb4 b hb).elim (hown b) (fun h => by have := (E.trans E3).size; omega), (E.trans E3).trans' E4 (fun i hi h => by have := hown i h; omega)⟩⟩
  rw [hs]; simpa using hR4
 refine ⟨k, b1.cell0, fun h => ?_, fun h => ⟨fun h2 => ?_, fun h2 => ?_⟩⟩
 ·have hk : k = 6 := by simpa using h
  refine ⟨b1.canW (by simp), ?_⟩
  intro w4 hw4
  have b4 : Box w4 p1 [.int .i64 k, .int .i64 1, .int .u64 c, .string x, .bool g] 132 := by rw [hw4]; exact b1.set 1 _
  have E4 : Pure w w4 := by
   have := Ext.setCell (w := w1) (p1.add 1) (.int .i64 1); rw [add_block] at this
   rw [hw4]; exact E1.own o1 this
  clear hw4
  refine ⟨c, b4.cell rfl, x, b4.cell rfl, ?_⟩
  intro p3 w5 h5
  have E5 : Pure w4 w5 := Ext.new h5
  have hrow : Row w5 p3 (brow ⟨0, c, x, 2, n⟩) := (Box.of_new h5).row
  obtain ⟨s1, w6, hr, hR6, E6, hb6⟩ := (Rws.nil w5 46 5).append (P := Try.prog) slT_bond (ty := 31) (c := 1) hrow rfl (by simp [brow, oneCell]) (by simp) (by simp [maxLen])
  have E56 : Pure w5 w6 := E6.mono (fun i _ h => by obtain ⟨a, h, _⟩ := h; cases h)
  refine ⟨s1, w6, hr, J1 1 s1 2 [⟨0, c, x, 2, n⟩] w6 (by simp) (b4.pure (E5.trans E56)) (by simpa using hR6) (fun b hb => (hb6 b hb).elim (fun h => by obtain ⟨a, h, _⟩ := h; cases h) (fun h => by have := (E4.trans E5).size; omega)) ((E4.trans E5).trans E56) ?_⟩
  simp [Sp.bondsOf, hk]
 ·have hk : k ≠ 6 := by simpa using h
  have hk2 : k = 2 := by simpa using h2
  refine J1 f Sl.nil 1 [] w1 (by simp) b1 (by simpa using Rws.nil _ _ _) (fun b h => by obtain ⟨a, h, _⟩ := h; cases h) E1 ?_
  simp [Sp.bondsOf, hk2]
 ·have hk : k ≠ 6 := by simpa using h
  have hk2 : k ≠ 2 := by simpa using h2
  refine hK _ _ ⟨?_, (fun b h => by obtain ⟨a, h, _⟩ := h; cases h), E1⟩
  have : Sp.bondsOf ⟨k, f, c, x, g⟩ n = [] := by simp [Sp.bondsOf, hk, hk2]
  rw [this]; simpa using Rws.nil _ _ _
end Go.Proofs
end
section
open Go Go.SE
namespace Go.Sp
structure Fault where
 who : Int
 c : Int
 kind : Int
 a : Int
 b : Int
deriving DecidableEq
def isVerdict (l : Letter) : Bool := l.kind == 5 || l.kind == 6
def signedO (l : Letter) : Bool := l.kind == 2 && l.frm == 0
def fault (a b : Letter) : Fault :=
 if a.c ≠ b.c then ⟨0, 0, 0, 0, 0⟩
 else if (a.kind == 2 && b.kind == 2 && a.frm == b.frm && !decide (a.text = b.text)) = true then ⟨a.frm, a.c, 1, 0, 0⟩
 else if (isVerdict a && isVerdict b && !decide (a = b)) = true then ⟨2, a.c, 2, 0, 0⟩
 else if ((signedO a && b.kind == 3) || (signedO b && a.kind == 3)) = true then ⟨0, a.c, 3, 0, 0⟩
 else ⟨0, a.c, 0, 0, 0⟩
end Go.Sp
namespace Go.Proofs
attribute [local irreducible] Calls
def lval (l : Sp.Letter) : Value := .agg (lrow l).toArray
def frow (f : Sp.Fault) : List Value := [.int .i64 f.who, .int .u64 f.c, .int .i64 f.kind, .int .i64 f.a, .int .i64 f.b]
theorem c_isVerdict (l : Sp.Letter) (w : World) : Calls Try.prog 132 #[lval l] w (fun e w' => ∃ r : Bool, e = .returned (.bool r) ∧ (r = Sp.isVerdict l ∧ Pure w w')) := by
 refine w_arbiter_isVerdict _ _ _ _ _ w (fun r w' => r = Sp.isVerdict l ∧ Pure w w') ?_
 unfold m_arbiter_isVerdict
 intro p1 w1 h1
 have b1 := Box.of_new h1
 have E1 : Pure w w1 := Ext.new h1
 refine ⟨l.kind, b1.cell0, fun h => ⟨?_, E1⟩, fun h => ⟨l.kind, b1.cell0, ?_, E1⟩⟩
 ·unfold Sp.isVerdict; rw [h]; rfl
 ·unfold Sp.isVerdict; rw [h]; rfl
theorem c_fault1 (l : Sp.Letter) (w : World) : Calls Try.prog 131 #[lval l] w (fun e w' => ∃ r : Bool, e = .returned (.bool r) ∧ (r = Sp.signedO l ∧ Pure w w')) := by
 refine w_arbiter_fault_1 _ _ _ _ _ w (fun r w' => r = Sp.signedO l ∧ Pure w w') ?_
 unfold m_arbiter_fault_1
 intro p1 w1 h1
 have b1 := Box.of_new h1
 have E1 : Pure w w1 := Ext.new h1
 refine ⟨l.kind, b1.cell0, fun h => ⟨l.frm, b1.cell rfl, ?_, E1⟩, fun h => ⟨?_, E1⟩⟩
 ·unfold Sp.signedO; rw [h]; rfl
 ·unfold Sp.signedO; rw [h]; rfl
theorem run_letter_neq (a b : Sp.Letter) (w : World) : (Go.binOp .neq 132 (lval a) (lval b)).run Try.prog w = .ok (.bool (!decide (a = b))) w := by
 obtain ⟨k, f, c, x, g⟩ := a
 obtain ⟨k', f', c', x', g'⟩ := b
 simp [Go.binOp, Op.equal, Op.maxDepth, go_sem, streq, lval, lrow]
 repeat' split
 all_goals simp_all
theorem c_arb_fault (a b : Sp.Letter) (w : World) : Calls Try.prog 82 #[lval a, lval b] w
  (fun e w' => ∃ f1 : Int, ∃ f2 : Int, ∃ f3 : Int, ∃ f4 : Int, ∃ f5 : Int, e = .returned (.agg #[.int .i64 f1, .int .u64 f2, .int .i64 f3, .int .i64 f4, .int .i64 f5]) ∧ ((⟨f1, f2, f3, f4, f5⟩ : Sp.Fault) = Sp.fault a b ∧ Pure w w')) := by
 suffices key : ∀ K : Int → Int → Int → Int → Int → World → Prop, (∀ f1 f2 f3 f4 f5 w', ((⟨f1, f2, f3, f4, f5⟩ : Sp.Fault) = Sp.fault a b ∧ Pure w w') → K f1 f2 f3 f4 f5 w') → m_arbiter_fault a.kind a.frm a.c a.text a.fake b.kind b.frm b.c b.text b.fake w K from
  w_arbiter_fault _ _ _ _ _ _ _ _ _ _ w _ (key _ (fun _ _ _ _ _ _ h => h))
 intro K hK
 unfold m_arbiter_fault
 intro p1 w1 h1 p2 w2 h2 p3 w3 h3
 have E1 : Pure w w1 := Ext.new h1
 have E2 : Pure w w2 := E1.trans (Ext.new h2)
 have E3 : Pure w w3 := E2.trans (Ext.new h3)
 have o3 := New.own E2 h3
 have a1 : Box w3 p1 (lrow a) 132 := ((Box.of_new h1).pure (Ext.new h2)).pure (Ext.new h3 : Pure w2 w3)
 have a2 : Box w3 p2 (lrow b) 132 := (Box.of_new h2).pure (Ext.new h3 : Pure w2 w3)
 have a3 := Box.of_new h3
 clear h1 h2 h3
 refine ⟨a.c, a1.cell rfl, ?_⟩
 intro p4 w4 h4
 have E4 : Pure w w4 := E3.trans (Ext.new h4)
 have o4 := New.own E3 h4
 have n14 : p1.block ≠ p4.block := New.ne h4 a1.blk
 have n24 : p2.block ≠ p4.block := New.ne h4 a2.blk
 have n34 : p3.block ≠ p4.block := New.ne h4 a3.blk
 refine bx 5 (Box.of_new h4) rfl rfl (fun w5 b4 E45 => ?_)
 have E5 : Pure w w5 := E4.own o4 E45
 have b1 := (a1.pure (Ext.new h4 : Pure w3 w4)).ext E45 n14
 have b2 := (a2.pure (Ext.new h4 : Pure w3 w4)).ext E45 n24
 have b3 := (a3.pure (Ext.new h4 : Pure w3 w4)).ext E45 n34
 clear E45 h4 a1 a2 a3 E4 E3 E2 E1
 have out : ∀ (f : Sp.Fault) (w' : World), f = Sp.fault a b → Box w' p4 (frow f) 134 → Box w' p3 (frow ⟨0, 0, 0, 0, 0⟩) 134 → Pure w w' →
   ∃ vWho3 : Int, ∃ vC3 : Int, ∃ vKind3 : Int, ∃ vA3 : Int, ∃ vB3 : Int, Row w' p4 [(.int .i64 vWho3), (.int .u64 vC3), (.int .i64 vKind3), (.int .i64 vA3), (.int .i64 vB3)] ∧
   (∀ j, j < 5 → CanW w' (p3.add j)) ∧ ∀ w15 : World, w15 = storeRow w' p3 [(.int .i64 vWho3), (.int .u64 vC3), (.int .i64 vKind3), (.int .i64 vA3), (.int .i64 vB3)] →
   ∃ qWho4 : Int, ∃ qC4 : Int, ∃ qKind4 : Int, ∃ qA4 : Int, ∃ qB4 : Int, Row w15 p3 [(.int .i64 qWho4), (.int .u64 qC4), (.int .i64 qKind4), (.int .i64 qA4), (.int .i64 qB4)] ∧ K qWho4 qC4 qKind4 qA4 qB4 w15 := by
  intro f w' hf B4 B3 E
  refine ⟨f.who, f.c, f.kind, f.a, f.b, B4.row, ?_⟩
  exact bx 5 B3 rfl rfl (fun w15 b15 E15 => ⟨_, _, _, _, _, b15.row, hK _ _ _ _ _ _ ⟨hf, E.own o3 E15⟩⟩)
 have set2 : ∀ (x y : Int) (w' : World), (⟨x, a.c, y, 0, 0⟩ : Sp.Fault) = Sp.fault a b → Pure w5 w' →
   CanW w' p4 ∧ ∀ w13 : World, w13 = w'.setCell p4 (.int .i64 x) → CanW w13 (p4.add 2) ∧ ∀ w14 : World, w14 = w13.setCell (p4.add 2) (.int .i64 y) →
   ∃ vWho3 : Int, ∃ vC3 : Int, ∃ vKind3 : Int, ∃ vA3 : Int, ∃ vB3 : Int, Row w14 p4 [(.int .i64 vWho3), (.int .u64 vC3), (.int .i64 vKind3), (.int .i64 vA3), (.int .i64 vB3)] ∧
   (∀ j, j < 5 → CanW w14 (p3.add j)) ∧ ∀ w15 : World, w15 = storeRow w14 p3 [(.int .i64 vWho3), (.int .u64 vC3), (.int .i64 vKind3), (.int .i64 vA3), (.int .i64 vB3)] →
   ∃ qWho4 : Int, ∃ qC4 : Int, ∃ qKind4 : Int, ∃ qA4 : Int, ∃ qB4 : Int, Row w15 p3 [(.int .i64 qWho4), (.int .u64 qC4), (.int .i64 qKind4), (.int .i64 qA4), (.int .i64 qB4)] ∧ K qWho4 qC4 qKind4 qA4 qB4 w15 := by
  intro x y w' hf E
  have c4 := b4.pure E
  have c3 := b3.pure E
  refine ⟨c4.canW0 (by simp), ?_⟩
  intro w13 h13
  have d4 : Box w13 p4 [.int .i64 x, .int .u64 a.c, .int .i64 0, .int .i64 0, .int .i64 0] 134 := by rw [h13]; exact c4.set0
  have E13 : Ext (· = p4.block) w' w13 := by rw [h13]; exact Ext.setCell p4 _
  clear h13
  refine ⟨d4.canW (by simp), ?_⟩
  intro w14 h14
  have e4 : Box w14 p4 [.int .i64 x, .int .u64 a.c, .int .i64 y, .int .i64 0, .int .i64 0] 134 := by rw [h14]; exact d4.set 2 _
  have E14 : Ext (· = p4.block) w13 w14 := by rw [h14]; have := Ext.setCell (w := w13) (p4.add 2) (.int .i64 y); rw [add_block] at this; exact this
  clear h14
  exact out ⟨x, a.c, y, 0, 0⟩ w14 hf e4 ((c3.ext E13 n34).ext E14 n34) (((E5.trans E).own o4 E13).own o4 E14)
 refine ⟨a.c, b1.cell rfl, b.c, b2.cell rfl, fun h => ?_, fun h => ?_⟩
 ·have hc : a.c ≠ b.c := by simpa using h
  have : Sp.fault a b = ⟨0, 0, 0, 0, 0⟩ := by unfold Sp.fault; rw [if_pos hc]
  exact bx 5 b3 rfl rfl (fun w15 b15 E15 => ⟨0, 0, 0, 0, 0, b15.row, hK _ _ _ _ _ _ ⟨this.symm, E5.own o3 E15⟩⟩)
 have hc : ¬ a.c ≠ b.c := by simpa using h
 have hsp : Sp.fault a b = if (a.kind == 2 && b.kind == 2 && a.frm == b.frm && !decide (a.text = b.text)) = true then ⟨a.frm, a.c, 1, 0, 0⟩
   else if (Sp.isVerdict a && Sp.isVerdict b && !decide (a = b)) = true then ⟨2, a.c, 2, 0, 0⟩
   else if ((Sp.signedO a && b.kind == 3) || (Sp.signedO b && a.kind == 3)) = true then ⟨0, a.c, 3, 0, 0⟩
   else ⟨0, a.c, 0, 0, 0⟩ := by unfold Sp.fault; rw [if_neg hc]
 have J3 : ∀ (x : Bool) (w' : World), x = (Sp.signedO a && b.kind == 3) → ¬ (a.kind == 2 && b.kind == 2 && a.frm == b.frm && !decide (a.text = b.text)) = true → ¬ (Sp.isVerdict a && Sp.isVerdict b && !decide (a = b)) = true → Pure w5 w' → m_arbiter_fault_j3 p1 p2 p3 p4 x w' K := by
  intro x w' hx h1 h2 E
  rw [if_neg h1, if_neg h2, ← hx] at hsp
  unfold m_arbiter_fault_j3
  refine ⟨fun h => ?_, fun h => ⟨_, _, _, _, _, (b2.pure E).row, ?_⟩⟩
  ·rw [h, Bool.true_or, if_pos rfl] at hsp
   exact set2 0 3 w' hsp.symm E
  ·rw [h, Bool.false_or] at hsp
   refine (c_fault1 b w').mono ?_
   rintro _ w16 ⟨r, rfl, hr, E16⟩
   rw [← hr] at hsp
   have E' := E.trans E16
   refine ⟨r, rfl, fun hr1 => ⟨a.kind, (b1.pure E').cell0, fun h3 => ?_, fun h3 => ?_⟩, fun hr1 => ?_⟩
   ·rw [hr1, h3, if_pos (by simp)] at hsp
    exact set2 0 3 w16 hsp.symm E'
   ·rw [hr1, h3, if_neg (by simp)] at hsp
    exact out ⟨0, a.c, 0, 0, 0⟩ w16 hsp.symm (b4.pure E') (b3.pure E') (E5.trans E')
   ·rw [hr1, if_neg (by simp)] at hsp
    exact out ⟨0, a.c, 0, 0, 0⟩ w16 hsp.symm (b4.pure E') (b3.pure E') (E5.trans E')
 have J2 : ∀ (x : Bool) (w' : World), x = (Sp.isVerdict a && Sp.isVerdict b && !decide (a = b)) → ¬ (a.kind == 2 && b.kind == 2 && a.frm == b.frm && !decide (a.text = b.text)) = true → Pure w5 w' → m_arbiter_fault_j2 p1 p2 p3 p4 x w' K := by
  intro x w' hx h1 E
  unfold m_arbiter_fault_j2
  refine ⟨fun h => ?_, fun h => ⟨_, _, _, _, _, (b1.pure E).row, ?_⟩⟩
  ·rw [if_neg h1, if_pos (by rw [← hx, h])] at hsp
   exact set2 2 2 w' hsp.symm E
  ·refine (c_fault1 a w').mono ?_
   rintro _ w22 ⟨r, rfl, hr, E22⟩
   have E' := E.trans E22
   exact ⟨r, rfl, fun hr1 => ⟨b.kind, (b2.pure E').cell0, J3 _ w22 (by rw [← hr, hr1]; rfl) h1 (by rw [← hx, h]; simp) E'⟩, fun hr1 => J3 _ w22 (by rw [← hr, hr1]; rfl) h1 (by rw [← hx, h]; simp) E'⟩
 have J4 : ∀ (x : Bool) (w' : World), x = (Sp.isVerdict a && Sp.isVerdict b) → ¬ (a.kind == 2 && b.kind == 2 && a.frm == b.frm && !decide (a.text = b.text)) = true → Pure w5 w' → m_arbiter_fault_j4 p1 p2 p3 p4 x w' K := by
  intro x w' hx h1 E
  unfold m_arbiter_fault_j4
  refine ⟨fun h => ⟨_, _, _, _, _, (b1.pure E).row, _, _, _, _, _, (b2.pure E).row, _, run_letter_neq a b w', J2 _ w' ?_ h1 E⟩, fun h => J2 _ w' ?_ h1 E⟩
  ·rw [← hx, h]; rfl
  ·rw [← hx, h]; rfl
 have J1 : ∀ (x : Bool), x = (a.kind == 2 && b.kind == 2 && a.frm == b.frm && !decide (a.text = b.text)) → m_arbiter_fault_j1 p1 p2 p3 p4 x w5 K := by
  intro x hx
  unfold m_arbiter_fault_j1
  refine ⟨fun h => ⟨a.frm, b1.cell rfl, ?_⟩, fun h => ⟨_, _, _, _, _, b1.row, ?_⟩⟩
  ·rw [if_pos (by rw [← hx, h])] at hsp
   exact set2 a.frm 1 w5 hsp.symm (Ext.refl _)
  ·have h1 : ¬ (a.kind == 2 && b.kind == 2 && a.frm == b.frm && !decide (a.text = b.text)) = true := by rw [← hx, h]; simp
   refine (c_isVerdict a w5).mono ?_
   rintro _ w23 ⟨r, rfl, hr, E23⟩
   refine ⟨r, rfl, fun hr1 => ⟨_, _, _, _, _, (b2.pure E23).row, ?_⟩, fun hr1 => J4 _ w23 (by rw [← hr, hr1]; rfl) h1 E23⟩
   refine (c_isVerdict b w23).mono ?_
   rintro _ w24 ⟨r', rfl, hr', E24⟩
   exact ⟨r', rfl, J4 _ w24 (by rw [← hr, hr1, hr']; rfl) h1 (E23.trans E24)⟩
 have J6 : ∀ x, x = (a.kind == 2 && b.kind == 2 && a.frm == b.frm) → m_arbiter_fault_j6 p1 p2 p3 p4 x w5 K := by
  intro x hx
  unfold m_arbiter_fault_j6
  exact ⟨fun h => ⟨a.text, b1.cell rfl, b.text, b2.cell rfl, J1 _ (by rw [← hx, h]; rfl)⟩, fun h => J1 _ (by rw [← hx, h]; rfl)⟩
 have J5 : ∀ x, x = (a.kind == 2 && b.kind == 2) → m_arbiter_fault_j5 p1 p2 p3 p4 x w5 K := by
  intro x hx
  unfold m_arbiter_fault_j5
  exact ⟨fun h => ⟨a.frm, b1.cell rfl, b.frm, b2.cell rfl, J6 _ (by rw [← hx, h]; rfl)⟩, fun h => J6 _ (by rw [← hx, h]; rfl)⟩
 exact ⟨a.kind, b1.cell0, fun h => ⟨b.kind, b2.cell0, J5 _ (by rw [h]; rfl)⟩, fun h => J5 _ (by rw [h]; rfl)⟩
end Go.Proofs
end
section
open Go Go.SE
namespace Go.Proofs
attribute [local irreducible] Calls
def Reads (pv : Option Addr) (sh : Sl) (ls : List Sp.Letter) (w : World) : Prop :=
 ∀ w', Pure w w' → Calls Try.prog 79 #[.pointer pv, sh.v] w' (fun e w'' => ∃ s : Sl, e = .returned s.v ∧ RetS w' 132 5 (ls.map lrow) s w'')
theorem Reads.pure {pv : Option Addr} {sh : Sl} {ls : List Sp.Letter} {w w' : World} (h : Reads pv sh ls w) (E : Pure w w') : Reads pv sh ls w' := fun w2 E2 => h w2 (E.trans E2)
theorem reads_pool (p : Addr) (sh : Sl) (ts : List Int) (w : World) {S : Nat → Prop} {L : Sp.Pool} {F : Nat → Prop} (hP : PoolAt w p L F) (hok : Sp.Ok L) (hs : Lst S w 1 sh (trows ts)) (hn : ts.length ≤ 1000000) : Reads (some p) sh (readAll L ts) w :=
 fun w' E => c_arb_read p sh ts w' (hP.pure E) hok (hs.pure E) hn
theorem RetS.own' {w w' wv w0 : World} {e : TypeId} {sz : Nat} {rs : List (List Value)} {s : Sl} {H Hv : Nat → Prop} (h : RetS w e sz rs s w') (hs : Hst w0 Hv wv H w) : Own H w' e sz s rs :=
 ⟨h.rows, fun b hb hH => by have := h.own b hb; have := hs.lt b hH; omega⟩
theorem RetS.kept {w w' : World} {e : TypeId} {sz : Nat} {rs : List (List Value)} {s : Sl} {H : Nat → Prop} (h : RetS w e sz rs s w') : Kept H w w' := h.pure.keptP
def s_arbiter_fault (k1 f1 c1 : Int) (x1 : ByteArray) (g1 : Bool) (k2 f2 c2 : Int) (x2 : ByteArray) (g2 : Bool) : Int × Int × Int × Int × Int :=
 let f := Sp.fault ⟨k1, f1, c1, x1, g1⟩ ⟨k2, f2, c2, x2, g2⟩
 (f.who, f.c, f.kind, f.a, f.b)
theorem p_arbiter_fault (k1 f1 c1 : Int) (x1 : ByteArray) (g1 : Bool) (k2 f2 c2 : Int) (x2 : ByteArray) (g2 : Bool) (w0 : World) :
  Calls Try.prog 82 #[.agg #[.int .i64 k1, .int .i64 f1, .int .u64 c1, .string x1, .bool g1], .agg #[.int .i64 k2, .int .i64 f2, .int .u64 c2, .string x2, .bool g2]] w0
   (fun e w' => e = .returned (.agg #[.int .i64 (s_arbiter_fault k1 f1 c1 x1 g1 k2 f2 c2 x2 g2).1, .int .u64 (s_arbiter_fault k1 f1 c1 x1 g1 k2 f2 c2 x2 g2).2.1, .int .i64 (s_arbiter_fault k1 f1 c1 x1 g1 k2 f2 c2 x2 g2).2.2.1, .int .i64 (s_arbiter_fault k1 f1 c1 x1 g1 k2 f2 c2 x2 g2).2.2.2.1, .int .i64 (s_arbiter_fault k1 f1 c1 x1 g1 k2 f2 c2 x2 g2).2.2.2.2]) ∧ Pure w0 w') := by
 refine (c_arb_fault ⟨k1, f1, c1, x1, g1⟩ ⟨k2, f2, c2, x2, g2⟩ w0).mono ?_
 rintro _ w' ⟨r1, r2, r3, r4, r5, rfl, hf, E⟩
 refine ⟨?_, E⟩
 simp only [s_arbiter_fault, ← hf]
end Go.Proofs
end
section
open Go Go.SE
namespace Go.Proofs
set_option maxRecDepth 100000
set_option maxHeartbeats 4000000
attribute [local irreducible] wpL wpX opE wpE Calls
def m_arbiter_Bonds_j3 (p2 : Addr) (x2 aM aF : Int) (aG : ByteArray) (out3 : Sl) (H : Nat → Prop) (w : World) (Kc2 : Sl → Int → (Nat → Prop) → World → Prop) (_K : Sl → World → Prop) : Prop :=
 ∃ C1 : World → Prop, C1 w.drew ∧ ∀ w10, w10 = w.drew →
 ∃ v2 : Int, (∀ w', C1 w' → (Instr.lookup 141 (.map (some p2.block)) (.agg #[(vi aM), (vu aF), (vs aG)]) false).run Try.prog w' = .ok (vi v2) w') ∧
 ∃ v3 z1 : Int, ∃ w11 : World, (Instr.mapEntry 141 (.map (some p2.block)) (.agg #[(vi aM), (vu aF), (vs aG)])).run Try.prog w10 = .ok (.tuple #[(vi v3), (vi z1)]) w11 ∧ C1 w11 ∧
 Kept H w10 w11 ∧
 ∃ w12 : World, (Instr.entryStore 141 (.map (some p2.block)) (vi z1) (vi (IntKind.i64.wrap (v2 + 1)))).run Try.prog w11 = .ok () w12 ∧
 Kept H w11 w12 ∧
 Kc2 out3 (IntKind.i64.wrap (x2 + 1)) H w12
def m_arbiter_Bonds_l2 (p2 : Addr) (x1 : Int) (r2 out2 : Sl) (x2 : Int) (w0 : World) (Hl2 : Nat → Prop) (wl2 : World) (Kc1 : Sl → Int → (Nat → Prop) → World → Prop) (Kc2 : Sl → Int → (Nat → Prop) → World → Prop) (K : Sl → World → Prop) : Prop :=
 Br (decide (x2 < (r2.len : Int)))
  (∃ a2 : Addr, At r2 x2 5 a2 ∧
  ∃ aM aF : Int, ∃ aG : ByteArray, ∃ aT aZ : Int, Row wl2 a2 [(vi aM), (vu aF), (vs aG), (vi aT), (vi aZ)] ∧
  ∀ (H3 : Nat → Prop) (w9 : World), Hst w0 Hl2 wl2 H3 w9 →
  ∃ v1 : Int, (Instr.lookup 141 (.map (some p2.block)) (.agg #[(vi aM), (vu aF), (vs aG)]) false).run Try.prog w9 = .ok (vi v1) w9 ∧
  Br (v1 == 0)
   (∀ (p6 : Addr) (w13 : World), New w9 (.cells #[(vi aM), (vu aF), (vs aG), (vi aT), (vi aZ)] 46) p6 w13 →
   ∃ s1 : Sl, ∃ w14 : World, (Builtin.append_ #[31, 31] 31 #[out2.v, (Sl.mk (some p6) 1 1).v]).run Try.prog w13 = .ok s1.v w14 ∧
   Kept H3 w13 w14 ∧
   m_arbiter_Bonds_j3 p2 x2 aM aF aG s1 H3 w14 Kc2 K)
   (m_arbiter_Bonds_j3 p2 x2 aM aF aG out2 H3 w9 Kc2 K))
  (Kc1 out2 (IntKind.i64.wrap (x1 + 1)) Hl2 wl2)
def m_arbiter_Bonds_l1 (p2 : Addr) (r1 out1 : Sl) (x1 : Int) (w0 : World) (Hl1 : Nat → Prop) (wl1 : World) (Kc1 : Sl → Int → (Nat → Prop) → World → Prop) (K : Sl → World → Prop) : Prop :=
 Br (decide (x1 < (r1.len : Int)))
  (∃ a1 : Addr, At r1 x1 5 a1 ∧
  ∃ aB aD aA : Int, ∃ aC : ByteArray, ∃ aE : Bool, Row wl1 a1 [(vi aB), (vi aD), (vu aA), (vs aC), (vb aE)] ∧
  ∀ (H1 : Nat → Prop) (w4 : World), Hst w0 Hl1 wl1 H1 w4 →
  Calls Try.prog 80 #[(.agg #[(vi aB), (vi aD), (vu aA), (vs aC), (vb aE)]), (vi x1)] w4 (fun e w5 => ∃ r2 : Sl, e = .returned r2.v ∧ 
   Kept H1 w4 w5 ∧
   ∃ (I2 : Sl → Int → (Nat → Prop) → World → Prop) (mu2 : Sl → Int → World → Nat), I2 out1 0 H1 w5 ∧
    ∀ (out2 : Sl) (x2 : Int) (Hl2 : Nat → Prop) (wl2 : World), Hst w0 Hl2 wl2 Hl2 wl2 → I2 out2 x2 Hl2 wl2 → m_arbiter_Bonds_l2 p2 x1 r2 out2 x2 w0 Hl2 wl2 Kc1 (fun y'0 y'1 H' w' => I2 y'0 y'1 H' w' ∧ mu2 y'0 y'1 w' < mu2 out2 x2 wl2) K))
  (K out1 wl1)
def m_arbiter_Bonds (p1 : Option Addr) (shown1 : Sl) (w0 : World) (K : Sl → World → Prop) : Prop :=
 ∀ (p2 : Addr) (w1 : World), New w0 (.map #[] 0) p2 w1 →
 Calls Try.prog 79 #[(vp p1), shown1.v] w1 (fun e w2 => ∃ r1 : Sl, e = .returned r1.v ∧ 
  Kept None w1 w2 ∧
  ∃ (I1 : Sl → Int → (Nat → Prop) → World → Prop) (mu1 : Sl → Int → World → Nat), I1 Sl.nil 0 None w2 ∧
   ∀ (out1 : Sl) (x1 : Int) (Hl1 : Nat → Prop) (wl1 : World), Hst w0 Hl1 wl1 Hl1 wl1 → I1 out1 x1 Hl1 wl1 → m_arbiter_Bonds_l1 p2 r1 out1 x1 w0 Hl1 wl1 (fun y'0 y'1 H' w' => I1 y'0 y'1 H' w' ∧ mu1 y'0 y'1 w' < mu1 out1 x1 wl1) K)
theorem w_arbiter_Bonds (p1 : Option Addr) (shown1 : Sl) (w0 : World) (K : Sl → World → Prop) (h : m_arbiter_Bonds p1 shown1 w0 K) :
  Calls Try.prog 19 #[(vp p1), shown1.v] w0 (fun e w' => ∃ r3 : Sl, e = .returned r3.v ∧ K r3 w') := by
 unfold m_arbiter_Bonds at h
 refine calls_of_wpE (args := [(vp p1), shown1.v]) Try.func19 rfl Try.ntmps19 (Nat.le_of_ble_eq_true rfl) ?_
 have hs := Hst.start w0
 have hb := HB.nil None w0
 refine wpE_seq (rg (q0 Sl.nil.v (wpL_nil (th_n (wpE_seq (rg (q0 Sl.nil.v (wpL_nil (th_n (wpE_seq (rg ?_)))))))))))
 refine st_new (O := (.map #[] 0)) (fun p => .map (some p.block)) (want0 rfl) (by kernel_rfl) ?_
 intro p2 w1 hn8
 replace h := h p2 w1 hn8
 replace hs := hs.again (Ext.new (F := None) hn8).keptP
 replace hb := hb.kept (Ext.new (F := None) hn8).keptP
 refine q0 (.map (some p2.block)) (wpL_nil (th_n (wpE_seq (wpE_seq (rg (q0 (vp p1) (q0 shown1.v ?_)))))))
 refine st_call (want0 rfl) (xc Try.call79) (h.mono ?_)
 rintro e w2 ⟨r1, rfl, hk, h⟩
 refine ⟨_, rfl, ?_⟩
 obtain ⟨hs, hb⟩ := hk.hh hs hb
 refine q0 (vi (r1.len : Int)) (q0 (vi 0) (wpL_nil (th_n (wpE_block ?_))))
 obtain ⟨I1, mu1, h0, hr⟩ := h
 refine wpE_loop (σ := Sl × Int × (Nat → Prop) × World) (fun s ρ w => w = s.2.2.2 ∧ Has ρ [(5, s.1.v), (6, (.map (some p2.block))), (15, r1.v), (16, (vi (r1.len : Int))), (17, (vi s.2.1))] ∧ Hst w0 s.2.2.1 w s.2.2.1 w ∧ HB s.2.2.1 w [] ∧ I1 s.1 s.2.1 s.2.2.1 s.2.2.2) (fun s => mu1 s.1 s.2.1 s.2.2.2) (Sl.nil, 0, None, w2) ⟨rfl, Has.mk (by kernel_rfl), hs, hb, h0⟩ ?_
 clear hs hb
 rintro ⟨out1, x1, Hl1, wl1⟩ ρ w ⟨hw, hH, hs, hb, hI⟩
 obtain rfl : wl1 = w := (show w = wl1 from hw).symm
 replace hH : Has ρ [(5, out1.v), (6, (.map (some p2.block))), (15, r1.v), (16, (vi (r1.len : Int))), (17, (vi x1))] := hH
 replace hs : Hst w0 Hl1 wl1 Hl1 wl1 := hs
 replace hb : HB Hl1 wl1 [] := hb
 have h := hr out1 x1 Hl1 wl1 hs hI
 clear hr h0
 unfold m_arbiter_Bonds_l1 at h
 refine wpE_has hH ?_
 clear hH hI
 refine wpE_seq (rg (q0 (vb (decide (x1 < (r1.len : Int)))) (wpL_nil (th_n (wpE_seq ?_)))))
 refine wpE_cond (t := (decide (x1 < (r1.len : Int)))) (by kernel_rfl) (fun hc1 => ?_) (fun hc1 => ?_)
 ·replace h := h.1 hc1
  refine wpE_skip (th_n (wpE_seq (wpE_block (wpE_seq (rg (q0 (vi x1) ?_))))))
  obtain ⟨a1, hv9, h⟩ := h
  refine q2 (vp (some a1)) (x_indexAddr (s := r1) (k := .i64) (i := x1) (by kernel_rfl) (by kernel_rfl) (Try.runUnderlying27 _) (Try.sizeOf132 _) hv9) ?_
  obtain ⟨aB, aD, aA, aC, aE, hv8, h⟩ := h
  refine q2 (.agg #[(vi aB), (vi aD), (vu aA), (vs aC), (vb aE)]) (x_loadA (a := a1) (vs := [(vi aB), (vi aD), (vu aA), (vs aC), (vb aE)]) (by kernel_rfl) (Try.isAgg132 _) (Try.sizeOf132 _) rfl hv8) (sn (O := (.cells #[(vi 0), (vi 0), (vu 0), (vs ⟨#[]⟩), (vb false)] 132)) (x_alloc (Try.zeroValue132 _) rfl) ?_)
  intro p3 w3 hn1
  obtain ⟨H1, hs, hb⟩ := hs.alloc hb hn1
  refine q0 (vi x1) (st_set (want0 rfl) (x_storeA (a := p3) (vs := [(vi aB), (vi aD), (vu aA), (vs aC), (vb aE)]) (by kernel_rfl) (by kernel_rfl) rfl (Try.sizeOf132 _) rfl (hb.canWs0 0 5 gZ (by kernel_rfl))) ?_)
  intro w4 hn2
  have hsb : Hst w0 Hl1 wl1 H1 w4 ∧ HB H1 w4 [(p3, [(vi aB), (vi aD), (vu aA), (vs aC), (vb aE)], 132)] := by
   rw [hn2]
   exact hb.store0 (i := 0) (vs := [(vi aB), (vi aD), (vu aA), (vs aC), (vb aE)]) hs gZ (by kernel_rfl) (by kernel_rfl)
  clear hs hb hn2
  obtain ⟨hs, hb⟩ := hsb
  refine wpL_nil (th_n (wpE_seq (rg (q2 (.agg #[(vi aB), (vi aD), (vu aA), (vs aC), (vb aE)]) (x_loadA (a := p3) (vs := [(vi aB), (vi aD), (vu aA), (vs aC), (vb aE)]) (by kernel_rfl) (Try.isAgg132 _) (Try.sizeOf132 _) rfl (hb.row0 0 5 gZ (by kernel_rfl))) (q0 (vi x1) ?_)))))
  replace h := h H1 w4 hs
  replace hs := hs.here
  refine st_call (want0 rfl) (xc Try.call80) (h.mono ?_)
  rintro e w5 ⟨r2, rfl, hk, h⟩
  refine ⟨_, rfl, ?_⟩
  obtain ⟨hs, hb⟩ := hk.hh hs hb
  refine q0 (vi (r2.len : Int)) (q0 (vi 0) (wpL_nil (th_n (wpE_block ?_))))
  obtain ⟨I2, mu2, h0, hr⟩ := h
  refine wpE_loop (σ := Sl × Int × (Nat → Prop) × World) (fun s ρ w => w = s.2.2.2 ∧ Has ρ [(5, s.1.v), (6, (.map (some p2.block))), (15, r1.v), (16, (vi (r1.len : Int))), (17, (vi x1)), (24, r2.v), (25, (vi (r2.len : Int))), (26, (vi s.2.1))] ∧ Hst w0 s.2.2.1 w s.2.2.1 w ∧ HB s.2.2.1 w [(p3, [(vi aB), (vi aD), (vu aA), (vs aC), (vb aE)], 132)] ∧ I2 s.1 s.2.1 s.2.2.1 s.2.2.2) (fun s => mu2 s.1 s.2.1 s.2.2.2) (out1, 0, H1, w5) ⟨rfl, Has.mk (by kernel_rfl), hs, hb, h0⟩ ?_
  clear hs hb
  rintro ⟨out2, x2, Hl2, wl2⟩ ρ w ⟨hw, hH, hs, hb, hI⟩
  obtain rfl : wl2 = w := (show w = wl2 from hw).symm
  replace hH : Has ρ [(5, out2.v), (6, (.map (some p2.block))), (15, r1.v), (16, (vi (r1.len : Int))), (17, (vi x1)), (24, r2.v), (25, (vi (r2.len : Int))), (26, (vi x2))] := hH
  replace hs : Hst w0 Hl2 wl2 Hl2 wl2 := hs
  replace hb : HB Hl2 wl2 [(p3, [(vi aB), (vi aD), (vu aA), (vs aC), (vb aE)], 132)] := hb
  have h := hr out2 x2 Hl2 wl2 hs hI
  clear hr h0
  unfold m_arbiter_Bonds_l2 at h
  refine wpE_has hH ?_
  clear hH hI
  refine wpE_seq (rg (q0 (vb (decide (x2 < (r2.len : Int)))) (wpL_nil (th_n (wpE_seq ?_)))))
  refine wpE_cond (t := (decide (x2 < (r2.len : Int)))) (by kernel_rfl) (fun hc2 => ?_) (fun hc2 => ?_)
  ·replace h := h.1 hc2
   refine wpE_skip (th_n (wpE_seq (wpE_block (wpE_seq (rg ?_)))))
   obtain ⟨a2, hv7, h⟩ := h
   refine q2 (vp (some a2)) (x_indexAddr (s := r2) (k := .i64) (i := x2) (by kernel_rfl) (by kernel_rfl) (Try.runUnderlying31 _) (Try.sizeOf46 _) hv7) ?_
   obtain ⟨aM, aF, aG, aT, aZ, hv6, h⟩ := h
   refine q2 (.agg #[(vi aM), (vu aF), (vs aG), (vi aT), (vi aZ)]) (x_loadA (a := a2) (vs := [(vi aM), (vu aF), (vs aG), (vi aT), (vi aZ)]) (by kernel_rfl) (Try.isAgg46 _) (Try.sizeOf46 _) rfl hv6) (sn (O := (.cells #[(vi 0), (vu 0), (vs ⟨#[]⟩), (vi 0), (vi 0)] 46)) (x_alloc (Try.zeroValue46 _) rfl) ?_)
   intro p4 w6 hn3
   obtain ⟨H2, hs, hb⟩ := hs.alloc hb hn3
   refine st_set (want0 rfl) (x_storeA (a := p4) (vs := [(vi aM), (vu aF), (vs aG), (vi aT), (vi aZ)]) (by kernel_rfl) (by kernel_rfl) rfl (Try.sizeOf46 _) rfl (hb.canWs0 0 5 gZ (by kernel_rfl))) ?_
   intro w7 hn4
   have hsb : Hst w0 Hl2 wl2 H2 w7 ∧ HB H2 w7 [(p4, [(vi aM), (vu aF), (vs aG), (vi aT), (vi aZ)], 46), (p3, [(vi aB), (vi aD), (vu aA), (vs aC), (vb aE)], 132)] := by
    rw [hn4]
    exact hb.store0 (i := 0) (vs := [(vi aM), (vu aF), (vs aG), (vi aT), (vi aZ)]) hs gZ (by kernel_rfl) (by kernel_rfl)
   clear hs hb hn4
   obtain ⟨hs, hb⟩ := hsb
   refine wpL_nil (th_n (wpE_seq (rg (q0 (vp (some p4)) (q2 (vi aM) (xl (Try.isAgg3 _) (hb.c0 0 gZ)) (q0 (vp (some (p4.add 1))) (q2 (vu aF) (xl (Try.isAgg38 _) (hb.c 0 1 gZ)) (q0 (vp (some (p4.add 2))) (q2 (vs aG) (xl (Try.isAgg9 _) (hb.c 0 2 gZ)) (q0 (.agg #[(vi aM), (vu aF), (vs aG)]) (sn (O := (.cells #[(vi 0), (vu 0), (vs ⟨#[]⟩)] 40)) (x_alloc (Try.zeroValue40 _) rfl) ?_)))))))))))
   intro p5 w8 hn5
   obtain ⟨H3, hs, hb⟩ := hs.alloc hb hn5
   refine st_set (want0 rfl) (x_storeA (a := p5) (vs := [(vi aM), (vu aF), (vs aG)]) (by kernel_rfl) (by kernel_rfl) rfl (Try.sizeOf40 _) rfl (hb.canWs0 0 3 gZ (by kernel_rfl))) ?_
   intro w9 hn6
   have hsb : Hst w0 Hl2 wl2 H3 w9 ∧ HB H3 w9 [(p5, [(vi aM), (vu aF), (vs aG)], 40), (p4, [(vi aM), (vu aF), (vs aG), (vi aT), (vi aZ)], 46), (p3, [(vi aB), (vi aD), (vu aA), (vs aC), (vb aE)], 132)] := by
    rw [hn6]
    exact hb.store0 (i := 0) (vs := [(vi aM), (vu aF), (vs aG)]) hs gZ (by kernel_rfl) (by kernel_rfl)
   clear hs hb hn6
   obtain ⟨hs, hb⟩ := hsb
   refine wpL_nil (th_n (wpE_seq (wpE_seq (rg (q0 (.map (some p2.block)) (q2 (.agg #[(vi aM), (vu aF), (vs aG)]) (x_loadA (a := p5) (vs := [(vi aM), (vu aF), (vs aG)]) (by kernel_rfl) (Try.isAgg40 _) (Try.sizeOf40 _) rfl (hb.row0 0 3 gZ (by kernel_rfl))) ?_))))))
   replace h := h H3 w9 hs
   replace hs := hs.here
   obtain ⟨v1, hv5, h⟩ := h
   refine q2 (vi v1) (x_lookup (by kernel_rfl) (by kernel_rfl) hv5) (q0 (vb (v1 == 0)) (wpL_nil (th_n ?_)))
   refine wpE_joinT (fun ρ w => ∃ out3 : Sl, ∃ H : Nat → Prop, Has ρ [(5, out3.v), (6, (.map (some p2.block))), (11, (vp (some p5))), (15, r1.v), (16, (vi (r1.len : Int))), (17, (vi x1)), (24, r2.v), (25, (vi (r2.len : Int))), (26, (vi x2))] ∧ Hst w0 H w H w ∧ HB H w [(p5, [(vi aM), (vu aF), (vs aG)], 40), (p4, [(vi aM), (vu aF), (vs aG), (vi aT), (vi aZ)], 46), (p3, [(vi aB), (vi aD), (vu aA), (vs aC), (vb aE)], 132)] ∧ m_arbiter_Bonds_j3 p2 x2 aM aF aG out3 H w (fun y'0 y'1 H' w' => I2 y'0 y'1 H' w' ∧ mu2 y'0 y'1 w' < mu2 out2 x2 wl2) K) ?_ ?_
   ·clear h hs hb
    rintro ρ w ⟨out3, H, hH, hs, hb, h⟩
    unfold m_arbiter_Bonds_j3 at h
    refine wpE_has hH ?_
    clear hH
    obtain ⟨C1, hC, h⟩ := h
    refine wpE_drawnC (fun x => C1 x ∧ HB H x [(p5, [(vi aM), (vu aF), (vs aG)], 40), (p4, [(vi aM), (vu aF), (vs aG), (vi aT), (vi aZ)], 46), (p3, [(vi aB), (vi aD), (vu aA), (vs aC), (vb aE)], 132)]) [4, 6] [6] (by kernel_rfl) (by kernel_rfl) (by kernel_rfl) (by kernel_rfl) ⟨hC, hb.drew⟩ ?_
    clear hC
    intro w10 hw10
    replace h := h w10 hw10
    replace hs : Hst w0 H w H w10 := by rw [hw10]; exact hs.drew
    replace hb : HB H w10 [(p5, [(vi aM), (vu aF), (vs aG)], 40), (p4, [(vi aM), (vu aF), (vs aG), (vi aT), (vi aZ)], 46), (p3, [(vi aB), (vi aD), (vu aA), (vs aC), (vb aE)], 132)] := by rw [hw10]; exact hb.drew
    replace hs := hs.here
    refine qx 0 (.map (some p2.block)) Kp0 (qz 1 (.agg #[(vi aM), (vu aF), (vs aG)]) Kp1 (fun w' hw' => (x_loadA (a := p5) (vs := [(vi aM), (vu aF), (vs aG)]) (by kernel_rfl) (Try.isAgg40 _) (Try.sizeOf40 _) rfl (hw'.2.row0 0 3 gZ (by kernel_rfl)))) (qgo (k := 2) (by kernel_rfl) ?_))
    obtain ⟨v2, hv3, h⟩ := h
    refine sx (v := (vi v2)) Kp2 (want0 rfl) (by kernel_rfl) (fun w' hw' => (x_lookup (by kernel_rfl) (by kernel_rfl) (hv3 w' hw'.1))) (qx 3 (vi (IntKind.i64.wrap (v2 + 1))) Kp3 (lgo (k := 4) (by kernel_rfl) ?_))
    obtain ⟨v3, z1, w11, hv2, hC, hk, h⟩ := h
    refine sl (v := (.tuple #[(vi v3), (vi z1)])) Kp4 (want0 rfl) (by kernel_rfl) (x_mapEntry (by kernel_rfl) (by kernel_rfl) hv2) (.inr ⟨hC, hb.kept hk⟩) ?_
    clear hC
    obtain ⟨hs, hb⟩ := hk.hh hs hb
    refine qx 5 (vi z1) Kp5 (lgo (k := 6) (by kernel_rfl) ?_)
    obtain ⟨w12, hv1, hk, h⟩ := h
    refine sl_skip Kp6 (want0 rfl) (by kernel_rfl) (x_entryStore (by kernel_rfl) (by kernel_rfl) (by kernel_rfl) hv1) (.inl (by kernel_rfl)) ?_
    obtain ⟨hs, hb⟩ := hk.hh hs hb
    refine wpX_nil (by kernel_rfl) (bl_n (th_n (rg (q0 (vi (IntKind.i64.wrap (x2 + 1))) (q0 (vi (IntKind.i64.wrap (x2 + 1))) (wpL_nil (th_n ?_)))))))
    exact ⟨(out3, (IntKind.i64.wrap (x2 + 1)), H, w12), ⟨rfl, Has.mk (by kernel_rfl), hs, hb.drop 2, h.1⟩, h.2⟩
   ·skip
    refine wpE_cond (t := (v1 == 0)) (by kernel_rfl) (fun hc3 => ?_) (fun hc3 => ?_)
    ·replace h := h.1 hc3
     refine rg (q0 out2.v (q2 (.agg #[(vi aM), (vu aF), (vs aG), (vi aT), (vi aZ)]) (x_loadA (a := p4) (vs := [(vi aM), (vu aF), (vs aG), (vi aT), (vi aZ)]) (by kernel_rfl) (Try.isAgg46 _) (Try.sizeOf46 _) rfl (hb.row0 1 5 (gS gZ) (by kernel_rfl))) (st_new (O := (.cells #[(vi aM), (vu aF), (vs aG), (vi aT), (vi aZ)] 46)) (fun p => (Sl.mk (some p) 1 1).v) (want0 rfl) (x_buildSlice (vs := #[(0, (.agg #[(vi aM), (vu aF), (vs aG), (vi aT), (vi aZ)]))]) (by kernel_rfl) (by kernel_rfl)) ?_)))
     intro p6 w13 hn7
     replace h := h p6 w13 hn7
     replace hs := hs.again (Ext.new (F := None) hn7).keptP
     replace hb := hb.kept (Ext.new (F := None) hn7).keptP
     obtain ⟨s1, w14, hv4, hk, h⟩ := h
     refine st (v := s1.v) (want0 rfl) (x_builtin (args := #[out2.v, (Sl.mk (some p6) 1 1).v]) (by kernel_rfl) (fun _ => rfl) hv4) ?_
     obtain ⟨hs, hb⟩ := hk.hh hs hb
     refine q0 s1.v (wpL_nil (th_n ?_))
     exact ⟨s1, H3, Has.mk (by kernel_rfl), hs, hb, h⟩
    ·replace h := h.2 hc3
     refine wpE_skip (th_n ?_)
     exact ⟨out2, H3, Has.mk (by kernel_rfl), hs, hb, h⟩
  ·replace h := h.2 hc2
   refine wpE_exit (th_x (th_x (bl_eq (bl_n (th_n (rg (q0 (vi (IntKind.i64.wrap (x1 + 1))) (q0 (vi (IntKind.i64.wrap (x1 + 1))) (wpL_nil (th_n ?_))))))))))
   exact ⟨(out2, (IntKind.i64.wrap (x1 + 1)), Hl2, wl2), ⟨rfl, Has.mk (by kernel_rfl), hs, hb.drop 1, h.1⟩, h.2⟩
 ·replace h := h.2 hc1
  refine wpE_exit (th_x (th_x (bl_eq (th_n (wpE_seq (rg (q0 out1.v (q0 out1.v (wpL_nil (th_n (wpE_ret ?_)))))))))))
  refine res1 (.inl rfl) Try.results19 (v := out1.v) (by kernel_rfl) ?_
  exact ⟨out1, rfl, h⟩
def s_ref13_binds (aR bD bA : Int) (bE : ByteArray) (bF : Bool) (who1 c1 : Int) (text1 : ByteArray) : Int :=
 (cond ((((who1 != 0) && (who1 != 1)) || (bA != c1)) || (!(decide (bE = text1)))) 0 (cond ((aR == 2) && (bD == who1)) 1 (cond (aR == 6) 2 0)))
theorem pw_ref13_binds (aR bD bA : Int) (bE : ByteArray) (bF : Bool) (who1 c1 : Int) (text1 : ByteArray) (w0 : World) :
  Calls Try.prog 81 #[(.agg #[(vi aR), (vi bD), (vu bA), (vs bE), (vb bF)]), (vi who1), (vu c1), (vs text1)] w0 (fun e w' => ∃ b'0 b'1 b'2 : Bool, (((((who1 != 0) && (who1 != 1)) || (bA != c1)) || (!(decide (bE = text1)))) = b'0 ∧ ((aR == 2) && (bD == who1)) = b'1 ∧ (aR == 6) = b'2) ∧ (e = .returned (vi (cond b'0 0 (cond b'1 1 (cond b'2 2 0))))) ∧ Pure w0 w') := by
 refine calls_of_wpE (args := [(.agg #[(vi aR), (vi bD), (vu bA), (vs bE), (vb bF)]), (vi who1), (vu c1), (vs text1)]) Try.func81 rfl Try.ntmps81 (Nat.le_of_ble_eq_true rfl) ?_
 have hs := Hst.start w0
 have hb := HB.nil None w0
 refine wpE_seq (rg (sn (O := (.cells #[(vi aR), (vi bD), (vu bA), (vs bE), (vb bF)] 132)) xb ?_))
 intro p1 w1 hn1
 obtain ⟨H1, hs, hb⟩ := hs.alloc hb hn1
 refine q0 (vi 0) (wpL_nil (th_n (wpE_seq (wpE_seq ?_))))
 refine wpE_via (fun ρ wJ => ∃ b3'0 : Bool, ∃ HJ : Nat → Prop, ((((who1 != 0) && (who1 != 1)) || (bA != c1)) = b3'0) ∧ Hst w0 None w0 HJ wJ ∧ HB HJ wJ [(p1, [(vi aR), (vi bD), (vu bA), (vs bE), (vb bF)], 132)] ∧ Has ρ [(1, (vi who1)), (4, (vp (some p1))), (26, (vb (b3'0 || (!(decide (bE = text1))))))]) ?_ ?_
 ·skip
  refine rg (q0 (vi who1) (q0 (vb (who1 != 0)) (q0 (vb (who1 != 0)) ?_)))
  refine wpL_join 3 (fun ρ wJ => ∃ b4'0 : Bool, ∃ HJ : Nat → Prop, ((who1 != 0) = b4'0) ∧ Hst w0 None w0 HJ wJ ∧ HB HJ wJ [(p1, [(vi aR), (vi bD), (vu bA), (vs bE), (vb bF)], 132)] ∧ Has ρ [(1, (vi who1)), (2, (vu c1)), (3, (vs text1)), (4, (vp (some p1))), (14, (vb (b4'0 && (who1 != 1))))]) ?_ ?_
  ·clear hs hb
   rintro ρ w5 ⟨b4'0, H5, he0, hs, hb, hH⟩
   subst he0
   refine wpL_has hH ?_
   clear hH
   refine q0 (vb ((who1 != 0) && (who1 != 1))) ?_
   refine wpL_join 5 (fun ρ wJ => ∃ b5'0 : Bool, ∃ HJ : Nat → Prop, (((who1 != 0) && (who1 != 1)) = b5'0) ∧ Hst w0 None w0 HJ wJ ∧ HB HJ wJ [(p1, [(vi aR), (vi bD), (vu bA), (vs bE), (vb bF)], 132)] ∧ Has ρ [(1, (vi who1)), (3, (vs text1)), (4, (vp (some p1))), (20, (vb (b5'0 || (bA != c1))))]) ?_ ?_
   ·clear hs hb
    rintro ρ w6 ⟨b5'0, H6, he0, hs, hb, hH⟩
    subst he0
    refine wpL_has hH ?_
    clear hH
    refine q0 (vb (((who1 != 0) && (who1 != 1)) || (bA != c1))) ?_
    rcases Bool.eq_false_or_eq_true (((who1 != 0) && (who1 != 1)) || (bA != c1)) with hg10 | hg10
    ·skip
     refine sk (yD 21 hg10) (sk (yD 21 hg10) (sk (yD 21 hg10) (sk (yD 21 hg10) (q2 (vb true) (xT hg10) (wpL_nil (th_n ?_))))))
     exact ⟨true, _, hg10, hs, hb, Has.mk (by kernel_rfl)⟩
    ·skip
     refine q1 (vp (some (p1.add 3))) (want1 rfl (yD 21 hg10)) (stp (v := (vs bE)) (want1 rfl (yD 21 hg10)) (xl (Try.isAgg9 _) (hb.c 0 3 gZ)) (q1 (vs text1) (want1 rfl (yD 21 hg10)) (stp (v := (vb (!(decide (bE = text1))))) (want1 rfl (yD 21 hg10)) (x_strneq (by kernel_rfl) (by kernel_rfl)) (q2 (vb (!(decide (bE = text1)))) (xF hg10) (wpL_nil (th_n ?_))))))
     exact ⟨false, _, hg10, hs, hb, Has.mk (by kernel_rfl)⟩
   ·skip
    rcases Bool.eq_false_or_eq_true ((who1 != 0) && (who1 != 1)) with hg9 | hg9
    ·skip
     refine sk (yD 15 hg9) (sk (yD 15 hg9) (sk (yD 15 hg9) (sk (yD 15 hg9) (q2 (vb true) (xT hg9) (wpL_nil ?_)))))
     exact ⟨true, _, hg9, hs, hb, Has.mk (by kernel_rfl)⟩
    ·skip
     refine q1 (vp (some (p1.add 2))) (want1 rfl (yD 15 hg9)) (stp (v := (vu bA)) (want1 rfl (yD 15 hg9)) (xl (Try.isAgg38 _) (hb.c 0 2 gZ)) (q1 (vu c1) (want1 rfl (yD 15 hg9)) (q1 (vb (bA != c1)) (want1 rfl (yD 15 hg9)) (q2 (vb (bA != c1)) (xF hg9) (wpL_nil ?_)))))
     exact ⟨false, _, hg9, hs, hb, Has.mk (by kernel_rfl)⟩
  ·skip
   rcases Bool.eq_false_or_eq_true (who1 != 0) with hg7 | hg7
   ·skip
    refine q1 (vi who1) (want1 rfl (yD 11 hg7)) (q1 (vb (who1 != 1)) (want1 rfl (yD 11 hg7)) (q2 (vb (who1 != 1)) (xT hg7) (wpL_nil ?_)))
    exact ⟨true, _, hg7, hs, hb, Has.mk (by kernel_rfl)⟩
   ·skip
    refine sk (yD 11 hg7) (sk (yD 11 hg7) (q2 (vb false) (xF hg7) (wpL_nil ?_)))
    exact ⟨false, _, hg7, hs, hb, Has.mk (by kernel_rfl)⟩
 ·clear hs hb
  rintro ρ w4 ⟨b3'0, H4, he0, hs, hb, hH⟩
  subst he0
  refine norm_has hH ?_
  clear hH
  refine th_n ?_
  refine wpE_cond (t := ((((who1 != 0) && (who1 != 1)) || (bA != c1)) || (!(decide (bE = text1))))) (by kernel_rfl) (fun hc1 => ?_) (fun hc1 => ?_)
  ·skip
   refine wpE_seq (rg (q0 (vi 0) (wpL_nil (th_n (wpE_ret (th_r (res1 (.inl rfl) Try.results81 (v := (vi 0)) (by kernel_rfl) ?_)))))))
   exact ⟨true, _, _, ⟨hc1, rfl, rfl⟩, by kernel_rfl, (Ext.refl (F := None) _).hst hs⟩
  ·skip
   refine wpE_skip (th_n (wpE_seq (wpE_seq ?_)))
   refine wpE_via (fun ρ wJ => ∃ b6'0 : Bool, ∃ HJ : Nat → Prop, ((aR == 2) = b6'0) ∧ Hst w0 None w0 HJ wJ ∧ HB HJ wJ [(p1, [(vi aR), (vi bD), (vu bA), (vs bE), (vb bF)], 132)] ∧ Has ρ [(4, (vp (some p1))), (35, (vb (b6'0 && (bD == who1))))]) ?_ ?_
   ·skip
    refine rg (q0 (vp (some p1)) (q2 (vi aR) (xl (Try.isAgg3 _) (hb.c0 0 gZ)) (q0 (vb (aR == 2)) (q0 (vb (aR == 2)) ?_))))
    rcases Bool.eq_false_or_eq_true (aR == 2) with hg12 | hg12
    ·skip
     refine q1 (vp (some (p1.add 1))) (want1 rfl (yD 30 hg12)) (stp (v := (vi bD)) (want1 rfl (yD 30 hg12)) (xl (Try.isAgg3 _) (hb.c 0 1 gZ)) (q1 (vi who1) (want1 rfl (yD 30 hg12)) (q1 (vb (bD == who1)) (want1 rfl (yD 30 hg12)) (q2 (vb (bD == who1)) (xT hg12) (wpL_nil (th_n ?_))))))
     exact ⟨true, _, hg12, hs, hb, Has.mk (by kernel_rfl)⟩
    ·skip
     refine sk (yD 30 hg12) (sk (yD 30 hg12) (sk (yD 30 hg12) (sk (yD 30 hg12) (q2 (vb false) (xF hg12) (wpL_nil (th_n ?_))))))
     exact ⟨false, _, hg12, hs, hb, Has.mk (by kernel_rfl)⟩
   ·clear hs hb
    rintro ρ w7 ⟨b6'0, H7, he0, hs, hb, hH⟩
    subst he0
    refine norm_has hH ?_
    clear hH
    refine th_n ?_
    refine wpE_cond (t := ((aR == 2) && (bD == who1))) (by kernel_rfl) (fun hc2 => ?_) (fun hc2 => ?_)
    ·skip
     refine wpE_seq (rg (q0 (vi 1) (wpL_nil (th_n (wpE_ret (th_r (res1 (.inl rfl) Try.results81 (v := (vi 1)) (by kernel_rfl) ?_)))))))
     exact ⟨false, true, _, ⟨hc1, hc2, rfl⟩, by kernel_rfl, (Ext.refl (F := None) _).hst hs⟩
    ·skip
     refine wpE_skip (th_n (wpE_seq (wpE_seq (rg (q0 (vp (some p1)) (q2 (vi aR) (xl (Try.isAgg3 _) (hb.c0 0 gZ)) (q0 (vb (aR == 6)) (wpL_nil (th_n ?_)))))))))
     refine wpE_cond (t := (aR == 6)) (by kernel_rfl) (fun hc3 => ?_) (fun hc3 => ?_)
     ·skip
      refine wpE_seq (rg (q0 (vi 2) (wpL_nil (th_n (wpE_ret (th_r (res1 (.inl rfl) Try.results81 (v := (vi 2)) (by kernel_rfl) ?_)))))))
      exact ⟨false, false, true, ⟨hc1, hc2, hc3⟩, by kernel_rfl, (Ext.refl (F := None) _).hst hs⟩
     ·skip
      refine wpE_skip (th_n (wpE_seq (rg (q0 (vi 0) (wpL_nil (th_n (wpE_ret (res1 (.inl rfl) Try.results81 (v := (vi 0)) (by kernel_rfl) ?_))))))))
      exact ⟨false, false, false, ⟨hc1, hc2, hc3⟩, by kernel_rfl, (Ext.refl (F := None) _).hst hs⟩
theorem p_ref13_binds (aR bD bA : Int) (bE : ByteArray) (bF : Bool) (who1 c1 : Int) (text1 : ByteArray) (w0 : World) : Calls Try.prog 81 #[(.agg #[(.int .i64 aR), (.int .i64 bD), (.int .u64 bA), (.string bE), (.bool bF)]), (.int .i64 who1), (.int .u64 c1), (.string text1)] w0 (fun e w' => e = .returned (.int .i64 (s_ref13_binds aR bD bA bE bF who1 c1 text1)) ∧ Pure w0 w') := by
 refine (pw_ref13_binds aR bD bA bE bF who1 c1 text1 w0).mono ?_
 rintro e w' ⟨b'0, b'1, b'2, ⟨e0, e1, e2⟩, h, E⟩
 subst e0
 subst e1
 subst e2
 exact ⟨h, E⟩
def m_ref13_Judge_l1 (l1 : Sl) (aO aP : Int) (aQ : ByteArray) (i1 : Int) (bG : Bool) (bH bI : Int) (w0 : World) (Hl1 : Nat → Prop) (wl1 : World) (Kc1 : Int → Bool → Int → Int → (Nat → Prop) → World → Prop) (K : Bool → Int → Int → World → Prop) : Prop :=
 Br (decide (i1 < (l1.len : Int)))
  (∃ a1 : Addr, At l1 i1 5 a1 ∧
  ∃ aB aD aA : Int, ∃ aC : ByteArray, ∃ aE : Bool, Row wl1 a1 [(vi aB), (vi aD), (vu aA), (vs aC), (vb aE)] ∧ ¬ Hl1 a1.block ∧
  Br (((s_ref13_binds aB aD aA aC aE aO aP aQ) : Int) != 0)
   (∀ (H3 : Nat → Prop) (w7 : World), Hst w0 Hl1 wl1 H3 w7 →
   K true (s_ref13_binds aB aD aA aC aE aO aP aQ) i1 w7)
   (∀ (H3 : Nat → Prop) (w5 : World), Hst w0 Hl1 wl1 H3 w5 →
   Kc1 (IntKind.i64.wrap (i1 + 1)) bG bH bI H3 w5))
  (∀ (w8 : World), Hst w0 Hl1 wl1 Hl1 w8 →
  K false 0 (-1) w8)
def m_ref13_Judge (l1 : Sl) (aO aP : Int) (aQ : ByteArray) (w0 : World) (K : Bool → Int → Int → World → Prop) : Prop :=
 ∀ (H2 : Nat → Prop) (w2 : World), Hst w0 None w0 H2 w2 →
 ∃ (I1 : Int → Bool → Int → Int → (Nat → Prop) → World → Prop) (mu1 : Int → Bool → Int → Int → World → Nat), I1 0 false 0 0 H2 w2 ∧
  ∀ (i1 : Int) (bG : Bool) (bH bI : Int) (Hl1 : Nat → Prop) (wl1 : World), Hst w0 Hl1 wl1 Hl1 wl1 → I1 i1 bG bH bI Hl1 wl1 → m_ref13_Judge_l1 l1 aO aP aQ i1 bG bH bI w0 Hl1 wl1 (fun y'0 y'1 y'2 y'3 H' w' => I1 y'0 y'1 y'2 y'3 H' w' ∧ mu1 y'0 y'1 y'2 y'3 w' < mu1 i1 bG bH bI wl1) K
theorem w_ref13_Judge (l1 : Sl) (aO aP : Int) (aQ : ByteArray) (w0 : World) (K : Bool → Int → Int → World → Prop) (h : m_ref13_Judge l1 aO aP aQ w0 K) :
  Calls Try.prog 25 #[l1.v, (.agg #[(vi aO), (vu aP), (vs aQ)])] w0 (fun e w' => ∃ aY : Bool, ∃ bK bL : Int, e = .returned (.agg #[(vb aY), (vi bK), (vi bL)]) ∧ K aY bK bL w') := by
 unfold m_ref13_Judge at h
 refine calls_of_wpE (args := [l1.v, (.agg #[(vi aO), (vu aP), (vs aQ)])]) Try.func25 rfl Try.ntmps25 (Nat.le_of_ble_eq_true rfl) ?_
 have hs := Hst.start w0
 have hb := HB.nil None w0
 refine wpE_seq (rg (sn (O := (.cells #[(vi aO), (vu aP), (vs aQ)] 40)) xb ?_))
 intro p1 w1 hn1
 obtain ⟨H1, hs, hb⟩ := hs.alloc hb hn1
 refine sn (O := (.cells #[(vb false), (vi 0), (vi 0)] 43)) (x_alloc (Try.zeroValue43 _) rfl) ?_
 intro p2 w2 hn2
 obtain ⟨H2, hs, hb⟩ := hs.alloc hb hn2
 refine wpL_nil (th_n (wpE_seq (wpE_seq (rg (q0 (vi 0) (wpL_nil (th_n (wpE_block ?_))))))))
 replace h := h H2 w2 hs
 replace hs := hs.here
 obtain ⟨I1, mu1, h0, hr⟩ := h
 refine wpE_loop (σ := Int × Bool × Int × Int × (Nat → Prop) × World) (fun s ρ w => w = s.2.2.2.2.2 ∧ Has ρ [(0, l1.v), (3, (vp (some p1))), (4, (vp (some p2))), (5, (vi s.1))] ∧ Hst w0 s.2.2.2.2.1 w s.2.2.2.2.1 w ∧ HB s.2.2.2.2.1 w [(p2, [(vb s.2.1), (vi s.2.2.1), (vi s.2.2.2.1)], 43), (p1, [(vi aO), (vu aP), (vs aQ)], 40)] ∧ I1 s.1 s.2.1 s.2.2.1 s.2.2.2.1 s.2.2.2.2.1 s.2.2.2.2.2) (fun s => mu1 s.1 s.2.1 s.2.2.1 s.2.2.2.1 s.2.2.2.2.2) (0, false, 0, 0, H2, w2) ⟨rfl, Has.mk (by kernel_rfl), hs, hb, h0⟩ ?_
 clear hs hb
 rintro ⟨i1, bG, bH, bI, Hl1, wl1⟩ ρ w ⟨hw, hH, hs, hb, hI⟩
 obtain rfl : wl1 = w := (show w = wl1 from hw).symm
 replace hH : Has ρ [(0, l1.v), (3, (vp (some p1))), (4, (vp (some p2))), (5, (vi i1))] := hH
 replace hs : Hst w0 Hl1 wl1 Hl1 wl1 := hs
 replace hb : HB Hl1 wl1 [(p2, [(vb bG), (vi bH), (vi bI)], 43), (p1, [(vi aO), (vu aP), (vs aQ)], 40)] := hb
 have h := hr i1 bG bH bI Hl1 wl1 hs hI
 clear hr h0
 unfold m_ref13_Judge_l1 at h
 refine wpE_has hH ?_
 clear hH hI
 refine wpE_seq (wpE_seq (rg (q0 (vi i1) (q0 l1.v (q0 (vi (l1.len : Int)) (q0 (vb (decide (i1 < (l1.len : Int)))) (wpL_nil (th_n ?_))))))))
 refine wpE_cond (t := (decide (i1 < (l1.len : Int)))) (by kernel_rfl) (fun hc1 => ?_) (fun hc1 => ?_)
 ·replace h := h.1 hc1
  refine wpE_skip (th_n (wpE_seq (wpE_block (wpE_seq (wpE_drawnC (fun x => ∃ H', Hst w0 Hl1 wl1 H' x ∧ HB H' x [(p2, [(vb bG), (vi bH), (vi bI)], 43), (p1, [(vi aO), (vu aP), (vs aQ)], 40)]) [10] [] (by kernel_rfl) (by kernel_rfl) (by kernel_rfl) (by kernel_rfl) ⟨_, hs.drew, hb.drew⟩ ?_)))))
  intro w3 hw3
  replace hs : Hst w0 Hl1 wl1 Hl1 w3 := by rw [hw3]; exact hs.drew
  replace hb : HB Hl1 w3 [(p2, [(vb bG), (vi bH), (vi bI)], 43), (p1, [(vi aO), (vu aP), (vs aQ)], 40)] := by rw [hw3]; exact hb.drew
  clear hw3
  refine qx 0 l1.v Kp0 (qx 1 (vi i1) Kp1 (qgo (k := 2) (by kernel_rfl) ?_))
  obtain ⟨a1, hv2, h⟩ := h
  refine sx (v := (vp (some a1))) Kp2 (want0 rfl) (by kernel_rfl) (fun w' hw' => (x_indexAddr (s := l1) (k := .i64) (i := i1) (by kernel_rfl) (by kernel_rfl) (Try.runUnderlying27 _) (Try.sizeOf132 _) hv2)) (qgo (k := 3) (by kernel_rfl) ?_)
  obtain ⟨aB, aD, aA, aC, aE, hv1, hnh, h⟩ := h
  refine sx (v := (.agg #[(vi aB), (vi aD), (vu aA), (vs aC), (vb aE)])) Kp3 (want0 rfl) (by kernel_rfl) (fun w' hw' => by obtain ⟨H', hs', hb'⟩ := hw'; exact (x_loadA (a := a1) (vs := [(vi aB), (vi aD), (vu aA), (vs aC), (vb aE)]) (by kernel_rfl) (Try.isAgg132 _) (Try.sizeOf132 _) rfl (row_hst hv1 hnh hs'))) ?_
  clear hnh
  refine qx 4 (vp (some p1)) Kp4 (qz 5 (vi aO) Kp5 (fun w' hw' => (by obtain ⟨H', hs', hb'⟩ := hw'; exact (xl (Try.isAgg3 _) (hb'.cell0 1 (gS gZ) (by kernel_rfl))))) (qx 6 (vp (some (p1.add 1))) Kp6 (qz 7 (vu aP) Kp7 (fun w' hw' => (by obtain ⟨H', hs', hb'⟩ := hw'; exact (xl (Try.isAgg38 _) (hb'.cell 1 1 (gS gZ) (by kernel_rfl))))) (qx 8 (vp (some (p1.add 2))) Kp8 (qz 9 (vs aQ) Kp9 (fun w' hw' => (by obtain ⟨H', hs', hb'⟩ := hw'; exact (xl (Try.isAgg9 _) (hb'.cell 1 2 (gS gZ) (by kernel_rfl))))) ?_)))))
  refine wpX_via (fun ρ wJ => ∃ HJ : Nat → Prop, Hst w0 Hl1 wl1 HJ wJ ∧ HB HJ wJ [(p2, [(vb bG), (vi bH), (vi bI)], 43), (p1, [(vi aO), (vu aP), (vs aQ)], 40)] ∧ Has ρ [(0, l1.v), (3, (vp (some p1))), (4, (vp (some p2))), (5, (vi i1)), (6, (vi (s_ref13_binds aB aD aA aC aE aO aP aQ)))]) ?_ ?_
  ·skip
   refine lgo (k := 10) (by kernel_rfl) ?_
   refine sl_call (pickA (S8 (pickS (pickS pickZ)))) (want0 rfl) (by kernel_rfl) (xc Try.call81) ((p_ref13_binds aB aD aA aC aE aO aP aQ w3).mono ?_)
   rintro e w6 ⟨he, hE⟩
   replace hs := hs.pure hE
   replace hb := hb.pure hE
   refine ⟨(vi (s_ref13_binds aB aD aA aC aE aO aP aQ)), he.trans (by kernel_rfl), .inr ⟨_, hs, hb⟩, ?_⟩
   clear hE he
   refine qx 11 (vi (s_ref13_binds aB aD aA aC aE aO aP aQ)) (pickA (S8 (pickS (pickS (pickS pickZ))))) (wpX_nil (by kernel_rfl) ?_)
   exact ⟨_, hs, hb, Has.mk (by kernel_rfl)⟩
  ·clear hs hb
   rintro ρ w5 ⟨H3, hs, hb, hH⟩
   refine q_has hH ?_
   clear hH
   refine th_n (wpE_seq (rg (q0 (vi (s_ref13_binds aB aD aA aC aE aO aP aQ)) (q0 (vb (((s_ref13_binds aB aD aA aC aE aO aP aQ) : Int) != 0)) (wpL_nil (th_n ?_))))))
   refine wpE_cond (t := (((s_ref13_binds aB aD aA aC aE aO aP aQ) : Int) != 0)) (by kernel_rfl) (fun hc2 => ?_) (fun hc2 => ?_)
   ·replace h := h.1 hc2
    refine wpE_seq (rg (q0 (vi (s_ref13_binds aB aD aA aC aE aO aP aQ)) (q0 (vi i1) (q0 (.agg #[(vb true), (vi (s_ref13_binds aB aD aA aC aE aO aP aQ)), (vi i1)]) (st_set (want0 rfl) (x_storeA (a := p2) (vs := [(vb true), (vi (s_ref13_binds aB aD aA aC aE aO aP aQ)), (vi i1)]) (by kernel_rfl) (by kernel_rfl) rfl (Try.sizeOf43 _) rfl (hb.canWs0 0 3 gZ (by kernel_rfl))) ?_)))))
    intro w7 hn3
    have hsb : Hst w0 Hl1 wl1 H3 w7 ∧ HB H3 w7 [(p2, [(vb true), (vi (s_ref13_binds aB aD aA aC aE aO aP aQ)), (vi i1)], 43), (p1, [(vi aO), (vu aP), (vs aQ)], 40)] := by
     rw [hn3]
     exact hb.store0 (i := 0) (vs := [(vb true), (vi (s_ref13_binds aB aD aA aC aE aO aP aQ)), (vi i1)]) hs gZ (by kernel_rfl) (by kernel_rfl)
    clear hs hb hn3
    obtain ⟨hs, hb⟩ := hsb
    refine wpL_nil (th_n (wpE_ret (bl_r (th_r (th_r (bl_r (th_r ?_)))))))
    replace h := h H3 w7 hs
    replace hs := hs.here
    refine resG (.inl rfl) (vs := [(.agg #[(vb true), (vi (s_ref13_binds aB aD aA aC aE aO aP aQ)), (vi i1)])]) (v := (.agg #[(vb true), (vi (s_ref13_binds aB aD aA aC aE aO aP aQ)), (vi i1)])) Try.results25 ⟨(RV.cellA (by kernel_rfl) (Try.isAgg43 _) (Try.sizeOf43 _) rfl (hb.row0 0 3 gZ (by kernel_rfl))), trivial⟩ (by kernel_rfl) ?_
    exact ⟨true, (s_ref13_binds aB aD aA aC aE aO aP aQ), i1, rfl, h⟩
   ·replace h := h.2 hc2
    refine wpE_skip (bl_n (th_n (rg (q0 (vi i1) (q0 (vi (IntKind.i64.wrap (i1 + 1))) (q0 (vi (IntKind.i64.wrap (i1 + 1))) (wpL_nil ?_)))))))
    replace h := h H3 w5 hs
    replace hs := hs.here
    refine th_n ?_
    exact ⟨((IntKind.i64.wrap (i1 + 1)), bG, bH, bI, H3, w5), ⟨rfl, Has.mk (by kernel_rfl), hs, hb, h.1⟩, h.2⟩
 ·replace h := h.2 hc1
  refine wpE_exit (th_x (th_x (bl_eq (th_n (wpE_seq (rg (q0 (.agg #[(vb false), (vi 0), (vi (-1))]) (st_set (want0 rfl) (x_storeA (a := p2) (vs := [(vb false), (vi 0), (vi (-1))]) (by kernel_rfl) (by kernel_rfl) rfl (Try.sizeOf43 _) rfl (hb.canWs0 0 3 gZ (by kernel_rfl))) ?_))))))))
  intro w8 hn4
  have hsb : Hst w0 Hl1 wl1 Hl1 w8 ∧ HB Hl1 w8 [(p2, [(vb false), (vi 0), (vi (-1))], 43), (p1, [(vi aO), (vu aP), (vs aQ)], 40)] := by
   rw [hn4]
   exact hb.store0 (i := 0) (vs := [(vb false), (vi 0), (vi (-1))]) hs gZ (by kernel_rfl) (by kernel_rfl)
  clear hs hb hn4
  obtain ⟨hs, hb⟩ := hsb
  refine wpL_nil (th_n (wpE_ret ?_))
  replace h := h w8 hs
  replace hs := hs.here
  refine resG (.inl rfl) (vs := [(.agg #[(vb false), (vi 0), (vi (-1))])]) (v := (.agg #[(vb false), (vi 0), (vi (-1))])) Try.results25 ⟨(RV.cellA (by kernel_rfl) (Try.isAgg43 _) (Try.sizeOf43 _) rfl (hb.row0 0 3 gZ (by kernel_rfl))), trivial⟩ (by kernel_rfl) ?_
  exact ⟨false, 0, (-1), rfl, h⟩
def m_ref13_Bonds_j3 (l1 : Sl) (i1 : Int) (out2 : Sl) (who1 aB : Int) (aD aA : Int) (aC : ByteArray) (aE : Bool) (v1 : Int) (v2 : ByteArray) (x1 : Bool) (H : Nat → Prop) (w : World) (Kc2 : Sl → Int → (Nat → Prop) → World → Prop) (_K : Sl → World → Prop) : Prop :=
 Br x1
  (∃ C2 : World → Prop, C2 w.drew ∧ ∀ w5, w5 = w.drew →
  ∃ a4 : Addr, At l1 i1 5 a4 ∧
  ∃ v3 : Int, (∀ w', C2 w' → w'.cell? (a4.add 2) = some (vu v3)) ∧
  ∃ a5 : Addr, At l1 i1 5 a5 ∧
  ∃ v4 : ByteArray, (∀ w', C2 w' → w'.cell? (a5.add 3) = some (vs v4)) ∧
  ∀ (p1 : Addr) (w6 : World), New w5 (.cells #[(vi who1), (vu v3), (vs v4), (vi (s_ref13_binds aB aD aA aC aE who1 v1 v2)), (vi i1)] 46) p1 w6 → C2 w6 ∧
  ∃ s1 : Sl, ∃ w7 : World, (Builtin.append_ #[31, 31] 31 #[out2.v, (Sl.mk (some p1) 1 1).v]).run Try.prog w6 = .ok s1.v w7 ∧ C2 w7 ∧
  Kept H w6 w7 ∧
  Kc2 s1 (IntKind.i64.wrap (who1 + 1)) H w7)
  (Kc2 out2 (IntKind.i64.wrap (who1 + 1)) H w)
def m_ref13_Bonds_l2 (l1 : Sl) (i1 : Int) (out2 : Sl) (who1 : Int) (w0 : World) (Hl2 : Nat → Prop) (wl2 : World) (Kc1 : Sl → Int → (Nat → Prop) → World → Prop) (Kc2 : Sl → Int → (Nat → Prop) → World → Prop) (K : Sl → World → Prop) : Prop :=
 Br (decide (who1 < 2))
  (∃ a1 : Addr, At l1 i1 5 a1 ∧
  ∃ aB aD aA : Int, ∃ aC : ByteArray, ∃ aE : Bool, Row wl2 a1 [(vi aB), (vi aD), (vu aA), (vs aC), (vb aE)] ∧ ¬ Hl2 a1.block ∧
  ∃ a2 : Addr, At l1 i1 5 a2 ∧
  ∃ v1 : Int, wl2.cell? (a2.add 2) = some (vu v1) ∧ ¬ Hl2 (a2.add 2).block ∧
  ∃ a3 : Addr, At l1 i1 5 a3 ∧
  ∃ v2 : ByteArray, wl2.cell? (a3.add 3) = some (vs v2) ∧ ¬ Hl2 (a3.add 3).block ∧
  ∀ (H1 : Nat → Prop) (w3 : World), Hst w0 Hl2 wl2 H1 w3 →
  ∃ C3 : World → Prop, C3 w3.drew ∧ ∀ w8, w8 = w3.drew →
  Br (((s_ref13_binds aB aD aA aC aE who1 v1 v2) : Int) != 0)
   (∃ s2 : Sl, (∀ w', C3 w' → (Instr.sliceAt 27 l1.v none (some (vi i1)) none).run Try.prog w' = .ok s2.v w') ∧
   ∃ a6 : Addr, At l1 i1 5 a6 ∧
   ∃ v5 : Int, (∀ w', C3 w' → w'.cell? (a6.add 2) = some (vu v5)) ∧
   ∃ a7 : Addr, At l1 i1 5 a7 ∧
   ∃ v6 : ByteArray, (∀ w', C3 w' → w'.cell? (a7.add 3) = some (vs v6)) ∧
   Calls Try.prog 25 #[s2.v, (.agg #[(vi who1), (vu v5), (vs v6)])] w8 (fun e w9 => ∃ aY : Bool, ∃ bK bL : Int, e = .returned (.agg #[(vb aY), (vi bK), (vi bL)]) ∧ C3 w9 ∧ 
    Kept H1 w8 w9 ∧
    m_ref13_Bonds_j3 l1 i1 out2 who1 aB aD aA aC aE v1 v2 (!aY) H1 w9 Kc2 K))
   (m_ref13_Bonds_j3 l1 i1 out2 who1 aB aD aA aC aE v1 v2 false H1 w8 Kc2 K))
  (Kc1 out2 (IntKind.i64.wrap (i1 + 1)) Hl2 wl2)
def m_ref13_Bonds_l1 (l1 out1 : Sl) (i1 : Int) (w0 : World) (Hl1 : Nat → Prop) (wl1 : World) (Kc1 : Sl → Int → (Nat → Prop) → World → Prop) (K : Sl → World → Prop) : Prop :=
 Br (decide (i1 < (l1.len : Int)))
  (∃ (I2 : Sl → Int → (Nat → Prop) → World → Prop) (mu2 : Sl → Int → World → Nat), I2 out1 0 Hl1 wl1 ∧
   ∀ (out2 : Sl) (who1 : Int) (Hl2 : Nat → Prop) (wl2 : World), Hst w0 Hl2 wl2 Hl2 wl2 → I2 out2 who1 Hl2 wl2 → m_ref13_Bonds_l2 l1 i1 out2 who1 w0 Hl2 wl2 Kc1 (fun y'0 y'1 H' w' => I2 y'0 y'1 H' w' ∧ mu2 y'0 y'1 w' < mu2 out2 who1 wl2) K)
  (K out1 wl1)
def m_ref13_Bonds (l1 : Sl) (w0 : World) (K : Sl → World → Prop) : Prop :=
 ∃ (I1 : Sl → Int → (Nat → Prop) → World → Prop) (mu1 : Sl → Int → World → Nat), I1 Sl.nil 0 None w0 ∧
  ∀ (out1 : Sl) (i1 : Int) (Hl1 : Nat → Prop) (wl1 : World), Hst w0 Hl1 wl1 Hl1 wl1 → I1 out1 i1 Hl1 wl1 → m_ref13_Bonds_l1 l1 out1 i1 w0 Hl1 wl1 (fun y'0 y'1 H' w' => I1 y'0 y'1 H' w' ∧ mu1 y'0 y'1 w' < mu1 out1 i1 wl1) K
theorem w_ref13_Bonds (l1 : Sl) (w0 : World) (K : Sl → World → Prop) (h : m_ref13_Bonds l1 w0 K) :
  Calls Try.prog 20 #[l1.v] w0 (fun e w' => ∃ r1 : Sl, e = .returned r1.v ∧ K r1 w') := by
 unfold m_ref13_Bonds at h
 refine calls_of_wpE (args := [l1.v]) Try.func20 rfl Try.ntmps20 (Nat.le_of_ble_eq_true rfl) ?_
 have hs := Hst.start w0
 have hb := HB.nil None w0
 refine wpE_seq (rg (q0 Sl.nil.v (wpL_nil (th_n (wpE_seq (rg (q0 Sl.nil.v (wpL_nil (th_n (wpE_seq (wpE_seq ?_)))))))))))
 refine rg (q0 (vi 0) (wpL_nil (th_n (wpE_block ?_))))
 obtain ⟨I1, mu1, h0, hr⟩ := h
 refine wpE_loop (σ := Sl × Int × (Nat → Prop) × World) (fun s ρ w => w = s.2.2.2 ∧ Has ρ [(0, l1.v), (3, s.1.v), (4, (vi s.2.1))] ∧ Hst w0 s.2.2.1 w s.2.2.1 w ∧ HB s.2.2.1 w [] ∧ I1 s.1 s.2.1 s.2.2.1 s.2.2.2) (fun s => mu1 s.1 s.2.1 s.2.2.2) (Sl.nil, 0, None, w0) ⟨rfl, Has.mk (by kernel_rfl), hs, hb, h0⟩ ?_
 clear hs hb
 rintro ⟨out1, i1, Hl1, wl1⟩ ρ w ⟨hw, hH, hs, hb, hI⟩
 obtain rfl : wl1 = w := (show w = wl1 from hw).symm
 replace hH : Has ρ [(0, l1.v), (3, out1.v), (4, (vi i1))] := hH
 replace hs : Hst w0 Hl1 wl1 Hl1 wl1 := hs
 replace hb : HB Hl1 wl1 [] := hb
 have h := hr out1 i1 Hl1 wl1 hs hI
 clear hr h0
 unfold m_ref13_Bonds_l1 at h
 refine wpE_has hH ?_
 clear hH hI
 refine wpE_seq (wpE_seq (rg (q0 (vi i1) (q0 l1.v (q0 (vi (l1.len : Int)) (q0 (vb (decide (i1 < (l1.len : Int)))) (wpL_nil (th_n ?_))))))))
 refine wpE_cond (t := (decide (i1 < (l1.len : Int)))) (by kernel_rfl) (fun hc1 => ?_) (fun hc1 => ?_)
 ·replace h := h.1 hc1
  refine wpE_skip (th_n (wpE_seq (wpE_block (wpE_seq (rg (q0 (vi 0) (wpL_nil (th_n (wpE_block ?_)))))))))
  obtain ⟨I2, mu2, h0, hr⟩ := h
  refine wpE_loop (σ := Sl × Int × (Nat → Prop) × World) (fun s ρ w => w = s.2.2.2 ∧ Has ρ [(0, l1.v), (3, s.1.v), (4, (vi i1)), (5, (vi s.2.1))] ∧ Hst w0 s.2.2.1 w s.2.2.1 w ∧ HB s.2.2.1 w [] ∧ I2 s.1 s.2.1 s.2.2.1 s.2.2.2) (fun s => mu2 s.1 s.2.1 s.2.2.2) (out1, 0, Hl1, wl1) ⟨rfl, Has.mk (by kernel_rfl), hs, hb, h0⟩ ?_
  clear hs hb
  rintro ⟨out2, who1, Hl2, wl2⟩ ρ w ⟨hw, hH, hs, hb, hI⟩
  obtain rfl : wl2 = w := (show w = wl2 from hw).symm
  replace hH : Has ρ [(0, l1.v), (3, out2.v), (4, (vi i1)), (5, (vi who1))] := hH
  replace hs : Hst w0 Hl2 wl2 Hl2 wl2 := hs
  replace hb : HB Hl2 wl2 [] := hb
  have h := hr out2 who1 Hl2 wl2 hs hI
  clear hr h0
  unfold m_ref13_Bonds_l2 at h
  refine wpE_has hH ?_
  clear hH hI
  refine wpE_seq (wpE_seq (rg (q0 (vi who1) (q0 (vb (decide (who1 < 2))) (wpL_nil (th_n ?_))))))
  refine wpE_cond (t := (decide (who1 < 2))) (by kernel_rfl) (fun hc2 => ?_) (fun hc2 => ?_)
  ·replace h := h.1 hc2
   refine wpE_skip (th_n (wpE_seq (wpE_block (wpE_seq (wpE_drawnC (fun x => ∃ H', Hst w0 Hl2 wl2 H' x ∧ HB H' x []) [15] [] (by kernel_rfl) (by kernel_rfl) (by kernel_rfl) (by kernel_rfl) ⟨_, hs.drew, hb.drew⟩ ?_)))))
   intro w1 hw1
   replace hs : Hst w0 Hl2 wl2 Hl2 w1 := by rw [hw1]; exact hs.drew
   replace hb : HB Hl2 w1 [] := by rw [hw1]; exact hb.drew
   clear hw1
   refine qx 0 l1.v Kp0 (qx 1 (vi i1) Kp1 (qgo (k := 2) (by kernel_rfl) ?_))
   obtain ⟨a1, hv16, h⟩ := h
   refine sx (v := (vp (some a1))) Kp2 (want0 rfl) (by kernel_rfl) (fun w' hw' => (x_indexAddr (s := l1) (k := .i64) (i := i1) (by kernel_rfl) (by kernel_rfl) (Try.runUnderlying27 _) (Try.sizeOf132 _) hv16)) (qgo (k := 3) (by kernel_rfl) ?_)
   obtain ⟨aB, aD, aA, aC, aE, hv15, hnh, h⟩ := h
   refine sx (v := (.agg #[(vi aB), (vi aD), (vu aA), (vs aC), (vb aE)])) Kp3 (want0 rfl) (by kernel_rfl) (fun w' hw' => by obtain ⟨H', hs', hb'⟩ := hw'; exact (x_loadA (a := a1) (vs := [(vi aB), (vi aD), (vu aA), (vs aC), (vb aE)]) (by kernel_rfl) (Try.isAgg132 _) (Try.sizeOf132 _) rfl (row_hst hv15 hnh hs'))) ?_
   clear hnh
   refine qx 4 (vi who1) Kp4 (qx 5 l1.v Kp5 (qx 6 (vi i1) Kp6 (qgo (k := 7) (by kernel_rfl) ?_)))
   obtain ⟨a2, hv14, h⟩ := h
   refine sx (v := (vp (some a2))) Kp7 (want0 rfl) (by kernel_rfl) (fun w' hw' => (x_indexAddr (s := l1) (k := .i64) (i := i1) (by kernel_rfl) (by kernel_rfl) (Try.runUnderlying27 _) (Try.sizeOf132 _) hv14)) (qx 8 (vp (some (a2.add 2))) Kp8 (qgo (k := 9) (by kernel_rfl) ?_))
   obtain ⟨v1, hv13, hnh, h⟩ := h
   refine sx (v := (vu v1)) Kp9 (want0 rfl) (by kernel_rfl) (fun w' hw' => by obtain ⟨H', hs', hb'⟩ := hw'; exact (xl (Try.isAgg38 _) (cell_hst hv13 hnh hs'))) ?_
   clear hnh
   refine qx 10 l1.v (pickA (S8 (pickS (pickS pickZ)))) (qx 11 (vi i1) (pickA (S8 (pickS (pickS (pickS pickZ))))) (qgo (k := 12) (by kernel_rfl) ?_))
   obtain ⟨a3, hv12, h⟩ := h
   refine sx (v := (vp (some a3))) (pickA (S8 (S4 pickZ))) (want0 rfl) (by kernel_rfl) (fun w' hw' => (x_indexAddr (s := l1) (k := .i64) (i := i1) (by kernel_rfl) (by kernel_rfl) (Try.runUnderlying27 _) (Try.sizeOf132 _) hv12)) (qx 13 (vp (some (a3.add 3))) (pickA (S8 (S4 (pickS pickZ)))) (qgo (k := 14) (by kernel_rfl) ?_))
   obtain ⟨v2, hv11, hnh, h⟩ := h
   refine sx (v := (vs v2)) (pickA (S8 (S4 (pickS (pickS pickZ))))) (want0 rfl) (by kernel_rfl) (fun w' hw' => by obtain ⟨H', hs', hb'⟩ := hw'; exact (xl (Try.isAgg9 _) (cell_hst hv11 hnh hs'))) ?_
   clear hnh
   refine wpX_via (fun ρ wJ => ∃ HJ : Nat → Prop, Hst w0 Hl2 wl2 HJ wJ ∧ HB HJ wJ [] ∧ Has ρ [(0, l1.v), (3, out2.v), (4, (vi i1)), (5, (vi who1)), (6, (vi (s_ref13_binds aB aD aA aC aE who1 v1 v2)))]) ?_ ?_
   ·skip
    refine lgo (k := 15) (by kernel_rfl) ?_
    refine sl_call (pickA (S8 (S4 (pickS (pickS (pickS pickZ)))))) (want0 rfl) (by kernel_rfl) (xc Try.call81) ((p_ref13_binds aB aD aA aC aE who1 v1 v2 w1).mono ?_)
    rintro e w4 ⟨he, hE⟩
    replace hs := hs.pure hE
    replace hb := hb.pure hE
    refine ⟨(vi (s_ref13_binds aB aD aA aC aE who1 v1 v2)), he.trans (by kernel_rfl), .inr ⟨_, hs, hb⟩, ?_⟩
    clear hE he
    refine qx 16 (vi (s_ref13_binds aB aD aA aC aE who1 v1 v2)) (pickA (S8 (S8 pickZ))) (wpX_nil (by kernel_rfl) ?_)
    exact ⟨_, hs, hb, Has.mk (by kernel_rfl)⟩
   ·clear hs hb
    rintro ρ w3 ⟨H1, hs, hb, hH⟩
    refine q_has hH ?_
    clear hH
    refine th_n (wpE_seq ?_)
    refine wpE_joinT (fun ρ w => ∃ x1 : Bool, ∃ H : Nat → Prop, Has ρ [(0, l1.v), (3, out2.v), (4, (vi i1)), (5, (vi who1)), (6, (vi (s_ref13_binds aB aD aA aC aE who1 v1 v2))), (54, (vb x1))] ∧ Hst w0 H w H w ∧ HB H w [] ∧ m_ref13_Bonds_j3 l1 i1 out2 who1 aB aD aA aC aE v1 v2 x1 H w (fun y'0 y'1 H' w' => I2 y'0 y'1 H' w' ∧ mu2 y'0 y'1 w' < mu2 out2 who1 wl2) K) ?_ ?_
    ·clear h hs hb
     rintro ρ w ⟨x1, H, hH, hs, hb, h⟩
     unfold m_ref13_Bonds_j3 at h
     refine wpE_has hH ?_
     clear hH
     refine wpE_cond (t := x1) (by kernel_rfl) (fun hc3 => ?_) (fun hc3 => ?_)
     ·replace h := h.1 hc3
      obtain ⟨C2, hC, h⟩ := h
      refine wpE_drawnC C2 [15, 16] [] (by kernel_rfl) (by kernel_rfl) (by kernel_rfl) (by kernel_rfl) hC ?_
      clear hC
      intro w5 hw5
      replace h := h w5 hw5
      replace hs : Hst w0 H w H w5 := by rw [hw5]; exact hs.drew
      replace hb : HB H w5 [] := by rw [hw5]; exact hb.drew
      replace hs := hs.here
      refine qx 0 out2.v Kp0 (qx 1 (vi who1) Kp1 (qx 2 l1.v Kp2 (qx 3 (vi i1) Kp3 (qgo (k := 4) (by kernel_rfl) ?_))))
      obtain ⟨a4, hv5, h⟩ := h
      refine sx (v := (vp (some a4))) Kp4 (want0 rfl) (by kernel_rfl) (fun w' hw' => (x_indexAddr (s := l1) (k := .i64) (i := i1) (by kernel_rfl) (by kernel_rfl) (Try.runUnderlying27 _) (Try.sizeOf132 _) hv5)) (qx 5 (vp (some (a4.add 2))) Kp5 (qgo (k := 6) (by kernel_rfl) ?_))
      obtain ⟨v3, hv4, h⟩ := h
      refine sx (v := (vu v3)) Kp6 (want0 rfl) (by kernel_rfl) (fun w' hw' => (xl (Try.isAgg38 _) (hv4 w' hw'))) (qx 7 l1.v Kp7 (qx 8 (vi i1) Kp8 (qgo (k := 9) (by kernel_rfl) ?_)))
      obtain ⟨a5, hv3, h⟩ := h
      refine sx (v := (vp (some a5))) Kp9 (want0 rfl) (by kernel_rfl) (fun w' hw' => (x_indexAddr (s := l1) (k := .i64) (i := i1) (by kernel_rfl) (by kernel_rfl) (Try.runUnderlying27 _) (Try.sizeOf132 _) hv3)) (qx 10 (vp (some (a5.add 3))) (pickA (S8 (pickS (pickS pickZ)))) (qgo (k := 11) (by kernel_rfl) ?_))
      obtain ⟨v4, hv2, h⟩ := h
      refine sx (v := (vs v4)) (pickA (S8 (pickS (pickS (pickS pickZ))))) (want0 rfl) (by kernel_rfl) (fun w' hw' => (xl (Try.isAgg9 _) (hv2 w' hw'))) (qx 12 (vi (s_ref13_binds aB aD aA aC aE who1 v1 v2)) (pickA (S8 (S4 pickZ))) (qx 13 (vi i1) (pickA (S8 (S4 (pickS pickZ)))) (qx 14 (.agg #[(vi who1), (vu v3), (vs v4), (vi (s_ref13_binds aB aD aA aC aE who1 v1 v2)), (vi i1)]) (pickA (S8 (S4 (pickS (pickS pickZ))))) (lgo (k := 15) (by kernel_rfl) (sl_new (O := (.cells #[(vi who1), (vu v3), (vs v4), (vi (s_ref13_binds aB aD aA aC aE who1 v1 v2)), (vi i1)] 46)) (fun p => (Sl.mk (some p) 1 1).v) (pickA (S8 (S4 (pickS (pickS (pickS pickZ)))))) (want0 rfl) (by kernel_rfl) (x_buildSlice (vs := #[(0, (.agg #[(vi who1), (vu v3), (vs v4), (vi (s_ref13_binds aB aD aA aC aE who1 v1 v2)), (vi i1)]))]) (by kernel_rfl) (by kernel_rfl)) ?_)))))
      intro p1 w6 hn1
      replace h := h p1 w6 hn1
      refine ⟨.inr h.1, ?_⟩
      replace h := h.2
      replace hs := hs.again (Ext.new (F := None) hn1).keptP
      replace hb := hb.kept (Ext.new (F := None) hn1).keptP
      refine lgo (k := 16) (by kernel_rfl) ?_
      obtain ⟨s1, w7, hv1, hC, hk, h⟩ := h
      refine sl (v := s1.v) (pickA (S8 (S8 pickZ))) (want0 rfl) (by kernel_rfl) (x_builtin (args := #[out2.v, (Sl.mk (some p1) 1 1).v]) (by kernel_rfl) (fun _ => rfl) hv1) (.inr hC) ?_
      clear hC
      obtain ⟨hs, hb⟩ := hk.hh hs hb
      refine qx 17 s1.v (pickA (S8 (S8 (pickS pickZ)))) (wpX_nil (by kernel_rfl) (bl_n (th_n (rg (q0 (vi who1) (q0 (vi (IntKind.i64.wrap (who1 + 1))) (q0 (vi (IntKind.i64.wrap (who1 + 1))) (wpL_nil (th_n ?_)))))))))
      exact ⟨(s1, (IntKind.i64.wrap (who1 + 1)), H, w7), ⟨rfl, Has.mk (by kernel_rfl), hs, hb, h.1⟩, h.2⟩
     ·replace h := h.2 hc3
      refine wpE_skip (bl_n (th_n (rg (q0 (vi who1) (q0 (vi (IntKind.i64.wrap (who1 + 1))) (q0 (vi (IntKind.i64.wrap (who1 + 1))) (wpL_nil (th_n ?_))))))))
      exact ⟨(out2, (IntKind.i64.wrap (who1 + 1)), H, w), ⟨rfl, Has.mk (by kernel_rfl), hs, hb, h.1⟩, h.2⟩
    ·skip
     replace h := h H1 w3 hs
     replace hs := hs.here
     obtain ⟨C3, hC, h⟩ := h
     refine wpE_drawnC C3 [18] [] (by kernel_rfl) (by kernel_rfl) (by kernel_rfl) (by kernel_rfl) hC ?_
     clear hC
     intro w8 hw8
     replace h := h w8 hw8
     replace hs : Hst w0 H1 w3 H1 w8 := by rw [hw8]; exact hs.drew
     replace hb : HB H1 w8 [] := by rw [hw8]; exact hb.drew
     replace hs := hs.here
     refine qx 0 (vi (s_ref13_binds aB aD aA aC aE who1 v1 v2)) Kp0 (qx 1 (vb (((s_ref13_binds aB aD aA aC aE who1 v1 v2) : Int) != 0)) Kp1 (qx 2 (vb (((s_ref13_binds aB aD aA aC aE who1 v1 v2) : Int) != 0)) Kp2 (qgo (k := 3) (by kernel_rfl) ?_)))
     rcases Bool.eq_false_or_eq_true (((s_ref13_binds aB aD aA aC aE who1 v1 v2) : Int) != 0) with hg1 | hg1
     ·replace h := h.1 hg1
      refine sx (v := l1.v) Kp3 (want1 rfl (yD 35 hg1)) (by kernel_rfl) (fun w' hw' => (by kernel_rfl)) (qw 4 (vi i1) Kp4 (want1 rfl (yD 35 hg1)) (qgo (k := 5) (by kernel_rfl) ?_))
      obtain ⟨s2, hv10, h⟩ := h
      refine sx (v := s2.v) Kp5 (want1 rfl (yD 35 hg1)) (by kernel_rfl) (fun w' hw' => (x_slice (by kernel_rfl) (by kernel_rfl) (by kernel_rfl) (by kernel_rfl) (hv10 w' hw'))) (qw 6 (vi who1) Kp6 (want1 rfl (yD 35 hg1)) (qw 7 l1.v Kp7 (want1 rfl (yD 35 hg1)) (qw 8 (vi i1) Kp8 (want1 rfl (yD 35 hg1)) (qgo (k := 9) (by kernel_rfl) ?_))))
      obtain ⟨a6, hv9, h⟩ := h
      refine sx (v := (vp (some a6))) Kp9 (want1 rfl (yD 35 hg1)) (by kernel_rfl) (fun w' hw' => (x_indexAddr (s := l1) (k := .i64) (i := i1) (by kernel_rfl) (by kernel_rfl) (Try.runUnderlying27 _) (Try.sizeOf132 _) hv9)) (qw 10 (vp (some (a6.add 2))) (pickA (S8 (pickS (pickS pickZ)))) (want1 rfl (yD 35 hg1)) (qgo (k := 11) (by kernel_rfl) ?_))
      obtain ⟨v5, hv8, h⟩ := h
      refine sx (v := (vu v5)) (pickA (S8 (pickS (pickS (pickS pickZ))))) (want1 rfl (yD 35 hg1)) (by kernel_rfl) (fun w' hw' => (xl (Try.isAgg38 _) (hv8 w' hw'))) (qw 12 l1.v (pickA (S8 (S4 pickZ))) (want1 rfl (yD 35 hg1)) (qw 13 (vi i1) (pickA (S8 (S4 (pickS pickZ)))) (want1 rfl (yD 35 hg1)) (qgo (k := 14) (by kernel_rfl) ?_)))
      obtain ⟨a7, hv7, h⟩ := h
      refine sx (v := (vp (some a7))) (pickA (S8 (S4 (pickS (pickS pickZ))))) (want1 rfl (yD 35 hg1)) (by kernel_rfl) (fun w' hw' => (x_indexAddr (s := l1) (k := .i64) (i := i1) (by kernel_rfl) (by kernel_rfl) (Try.runUnderlying27 _) (Try.sizeOf132 _) hv7)) (qw 15 (vp (some (a7.add 3))) (pickA (S8 (S4 (pickS (pickS (pickS pickZ)))))) (want1 rfl (yD 35 hg1)) (qgo (k := 16) (by kernel_rfl) ?_))
      obtain ⟨v6, hv6, h⟩ := h
      refine sx (v := (vs v6)) (pickA (S8 (S8 pickZ))) (want1 rfl (yD 35 hg1)) (by kernel_rfl) (fun w' hw' => (xl (Try.isAgg9 _) (hv6 w' hw'))) (qw 17 (.agg #[(vi who1), (vu v5), (vs v6)]) (pickA (S8 (S8 (pickS pickZ)))) (want1 rfl (yD 35 hg1)) (lgo (k := 18) (by kernel_rfl) ?_))
      refine sl_call (pickA (S8 (S8 (pickS (pickS pickZ))))) (want1 rfl (yD 35 hg1)) (by kernel_rfl) (xc Try.call25) (h.mono ?_)
      rintro e w9 ⟨aY, bK, bL, rfl, hC, hk, h⟩
      refine ⟨_, rfl, .inr hC, ?_⟩
      obtain ⟨hs, hb⟩ := hk.hh hs hb
      refine qw 19 (vb aY) (pickA (S8 (S8 (pickS (pickS (pickS pickZ)))))) (want1 rfl (yD 35 hg1)) (qw 20 (vb (!aY)) (pickA (S8 (S8 (S4 pickZ)))) (want1 rfl (yD 35 hg1)) (qz 21 (vb (!aY)) (pickA (S8 (S8 (S4 (pickS pickZ))))) (fun w' hw' => (xT hg1)) (wpX_nil (by kernel_rfl) (th_n ?_))))
      exact ⟨(!aY), H1, Has.mk (by kernel_rfl), hs, hb, h⟩
     ·replace h := h.2 hg1
      refine sx_not Kp3 (unwant rfl (yD 35 hg1) rfl) (qn 4 Kp4 (unwant rfl (yD 35 hg1) rfl) (qn 5 Kp5 (unwant rfl (yD 35 hg1) rfl) (qn 6 Kp6 (unwant rfl (yD 35 hg1) rfl) (qn 7 Kp7 (unwant rfl (yD 35 hg1) rfl) (qn 8 Kp8 (unwant rfl (yD 35 hg1) rfl) (qn 9 Kp9 (unwant rfl (yD 35 hg1) rfl) (qn 10 (pickA (S8 (pickS (pickS pickZ)))) (unwant rfl (yD 35 hg1) rfl) (qn 11 (pickA (S8 (pickS (pickS (pickS pickZ))))) (unwant rfl (yD 35 hg1) rfl) (qn 12 (pickA (S8 (S4 pickZ))) (unwant rfl (yD 35 hg1) rfl) (qn 13 (pickA (S8 (S4 (pickS pickZ)))) (unwant rfl (yD 35 hg1) rfl) (qn 14 (pickA (S8 (S4 (pickS (pickS pickZ))))) (unwant rfl (yD 35 hg1) rfl) ?_)))))))))))
      refine qn 15 (pickA (S8 (S4 (pickS (pickS (pickS pickZ)))))) (unwant rfl (yD 35 hg1) rfl) (qn 16 (pickA (S8 (S8 pickZ))) (unwant rfl (yD 35 hg1) rfl) (qn 17 (pickA (S8 (S8 (pickS pickZ)))) (unwant rfl (yD 35 hg1) rfl) (lgo (k := 18) (by kernel_rfl) (sx_not (pickA (S8 (S8 (pickS (pickS pickZ))))) (unwant rfl (yD 35 hg1) rfl) (qn 19 (pickA (S8 (S8 (pickS (pickS (pickS pickZ)))))) (unwant rfl (yD 35 hg1) rfl) (qn 20 (pickA (S8 (S8 (S4 pickZ)))) (unwant rfl (yD 35 hg1) rfl) (qz 21 (vb false) (pickA (S8 (S8 (S4 (pickS pickZ))))) (fun w' hw' => (xF hg1)) (wpX_nil (by kernel_rfl) (th_n ?_)))))))))
      exact ⟨false, H1, Has.mk (by kernel_rfl), hs, hb, h⟩
  ·replace h := h.2 hc2
   refine wpE_exit (th_x (th_x (bl_eq (bl_n (th_n (rg (q0 (vi i1) (q0 (vi (IntKind.i64.wrap (i1 + 1))) (q0 (vi (IntKind.i64.wrap (i1 + 1))) (wpL_nil (th_n ?_)))))))))))
   exact ⟨(out2, (IntKind.i64.wrap (i1 + 1)), Hl2, wl2), ⟨rfl, Has.mk (by kernel_rfl), hs, hb, h.1⟩, h.2⟩
 ·replace h := h.2 hc1
  refine wpE_exit (th_x (th_x (bl_eq (th_n (wpE_seq (rg (q0 out1.v (q0 out1.v (wpL_nil (th_n (wpE_ret ?_)))))))))))
  refine res1 (.inl rfl) Try.results20 (v := out1.v) (by kernel_rfl) ?_
  exact ⟨out1, rfl, h⟩
def m_arbiter_Faults_j3 (p2 : Addr) (x1 : Int) (out2 : Sl) (k1 aB : Int) (aD aA : Int) (aC : ByteArray) (aE : Bool) (aH aI aF : Int) (aG : ByteArray) (aJ x2 : Bool) (w0 : World) (H : Nat → Prop) (w : World) (Kc2 : Sl → Int → (Nat → Prop) → World → Prop) (_K : Sl → World → Prop) : Prop :=
 Br x2
  (Kc2 out2 (IntKind.i64.wrap (k1 + 1)) H w)
  (∃ C2 : World → Prop, C2 w.drew ∧ ∀ w17, w17 = w.drew →
  ∃ v1 : Int, (∀ w', C2 w' → (Instr.lookup 145 (.map (some p2.block)) (.agg #[(vi (s_arbiter_fault aB aD aA aC aE aH aI aF aG aJ).1), (vu (s_arbiter_fault aB aD aA aC aE aH aI aF aG aJ).2.1), (vi (s_arbiter_fault aB aD aA aC aE aH aI aF aG aJ).2.2.1), (vi (s_arbiter_fault aB aD aA aC aE aH aI aF aG aJ).2.2.2.1), (vi (s_arbiter_fault aB aD aA aC aE aH aI aF aG aJ).2.2.2.2)]) false).run Try.prog w' = .ok (vi v1) w') ∧
  ∃ v2 z1 : Int, ∃ w18 : World, (Instr.mapEntry 145 (.map (some p2.block)) (.agg #[(vi (s_arbiter_fault aB aD aA aC aE aH aI aF aG aJ).1), (vu (s_arbiter_fault aB aD aA aC aE aH aI aF aG aJ).2.1), (vi (s_arbiter_fault aB aD aA aC aE aH aI aF aG aJ).2.2.1), (vi (s_arbiter_fault aB aD aA aC aE aH aI aF aG aJ).2.2.2.1), (vi (s_arbiter_fault aB aD aA aC aE aH aI aF aG aJ).2.2.2.2)])).run Try.prog w17 = .ok (.tuple #[(vi v2), (vi z1)]) w18 ∧ C2 w18 ∧
  Kept H w17 w18 ∧
  ∃ w19 : World, (Instr.entryStore 145 (.map (some p2.block)) (vi z1) (vi (IntKind.i64.wrap (v1 + 1)))).run Try.prog w18 = .ok () w19 ∧
  Kept H w18 w19 ∧
  ∀ (w21 : World), Hst w0 H w19 H w21 →
  ∀ (p8 : Addr) (w22 : World), New w21 (.cells #[(vi (s_arbiter_fault aB aD aA aC aE aH aI aF aG aJ).1), (vu (s_arbiter_fault aB aD aA aC aE aH aI aF aG aJ).2.1), (vi (s_arbiter_fault aB aD aA aC aE aH aI aF aG aJ).2.2.1), (vi x1), (vi k1)] 134) p8 w22 →
  ∃ s1 : Sl, ∃ w23 : World, (Builtin.append_ #[35, 35] 35 #[out2.v, (Sl.mk (some p8) 1 1).v]).run Try.prog w22 = .ok s1.v w23 ∧
  Kept H w22 w23 ∧
  Kc2 s1 (IntKind.i64.wrap (k1 + 1)) H w23)
def m_arbiter_Faults_l2 (p2 : Addr) (r1 : Sl) (x1 : Int) (out2 : Sl) (k1 : Int) (w0 : World) (Hl2 : Nat → Prop) (wl2 : World) (Kc1 : Sl → Int → (Nat → Prop) → World → Prop) (Kc2 : Sl → Int → (Nat → Prop) → World → Prop) (K : Sl → World → Prop) : Prop :=
 Br (decide (k1 < (r1.len : Int)))
  (∃ a1 : Addr, At r1 x1 5 a1 ∧
  ∃ aB aD aA : Int, ∃ aC : ByteArray, ∃ aE : Bool, Row wl2 a1 [(vi aB), (vi aD), (vu aA), (vs aC), (vb aE)] ∧ ¬ Hl2 a1.block ∧
  ∃ a2 : Addr, At r1 k1 5 a2 ∧
  ∃ aH aI aF : Int, ∃ aG : ByteArray, ∃ aJ : Bool, Row wl2 a2 [(vi aH), (vi aI), (vu aF), (vs aG), (vb aJ)] ∧ ¬ Hl2 a2.block ∧
  Br (((s_arbiter_fault aB aD aA aC aE aH aI aF aG aJ).2.2.1 : Int) == 0)
   (∀ (H3 : Nat → Prop) (w10 : World), Hst w0 Hl2 wl2 H3 w10 →
   m_arbiter_Faults_j3 p2 x1 out2 k1 aB aD aA aC aE aH aI aF aG aJ true w0 H3 w10 Kc2 K)
   (∀ (H3 : Nat → Prop) (w10 : World), Hst w0 Hl2 wl2 H3 w10 →
   ∃ v3 : Int, (Instr.lookup 145 (.map (some p2.block)) (.agg #[(vi (s_arbiter_fault aB aD aA aC aE aH aI aF aG aJ).1), (vu (s_arbiter_fault aB aD aA aC aE aH aI aF aG aJ).2.1), (vi (s_arbiter_fault aB aD aA aC aE aH aI aF aG aJ).2.2.1), (vi (s_arbiter_fault aB aD aA aC aE aH aI aF aG aJ).2.2.2.1), (vi (s_arbiter_fault aB aD aA aC aE aH aI aF aG aJ).2.2.2.2)]) false).run Try.prog w10 = .ok (vi v3) w10 ∧
   m_arbiter_Faults_j3 p2 x1 out2 k1 aB aD aA aC aE aH aI aF aG aJ (decide (v3 > 0)) w0 H3 w10 Kc2 K))
  (Kc1 out2 (IntKind.i64.wrap (x1 + 1)) Hl2 wl2)
def m_arbiter_Faults_l1 (p2 : Addr) (r1 out1 : Sl) (x1 : Int) (w0 : World) (Hl1 : Nat → Prop) (wl1 : World) (Kc1 : Sl → Int → (Nat → Prop) → World → Prop) (K : Sl → World → Prop) : Prop :=
 Br (decide (x1 < (r1.len : Int)))
  (∃ (I2 : Sl → Int → (Nat → Prop) → World → Prop) (mu2 : Sl → Int → World → Nat), I2 out1 (IntKind.i64.wrap (x1 + 1)) Hl1 wl1 ∧
   ∀ (out2 : Sl) (k1 : Int) (Hl2 : Nat → Prop) (wl2 : World), Hst w0 Hl2 wl2 Hl2 wl2 → I2 out2 k1 Hl2 wl2 → m_arbiter_Faults_l2 p2 r1 x1 out2 k1 w0 Hl2 wl2 Kc1 (fun y'0 y'1 H' w' => I2 y'0 y'1 H' w' ∧ mu2 y'0 y'1 w' < mu2 out2 k1 wl2) K)
  (K out1 wl1)
def m_arbiter_Faults (p1 : Option Addr) (shown1 : Sl) (w0 : World) (K : Sl → World → Prop) : Prop :=
 ∀ (p2 : Addr) (w1 : World), New w0 (.map #[] 0) p2 w1 →
 Calls Try.prog 79 #[(vp p1), shown1.v] w1 (fun e w2 => ∃ r1 : Sl, e = .returned r1.v ∧ 
  Kept None w1 w2 ∧
  ∃ (I1 : Sl → Int → (Nat → Prop) → World → Prop) (mu1 : Sl → Int → World → Nat), I1 Sl.nil 0 None w2 ∧
   ∀ (out1 : Sl) (x1 : Int) (Hl1 : Nat → Prop) (wl1 : World), Hst w0 Hl1 wl1 Hl1 wl1 → I1 out1 x1 Hl1 wl1 → m_arbiter_Faults_l1 p2 r1 out1 x1 w0 Hl1 wl1 (fun y'0 y'1 H' w' => I1 y'0 y'1 H' w' ∧ mu1 y'0 y'1 w' < mu1 out1 x1 wl1) K)
theorem w_arbiter_Faults (p1 : Option Addr) (shown1 : Sl) (w0 : World) (K : Sl → World → Prop) (h : m_arbiter_Faults p1 shown1 w0 K) :
  Calls Try.prog 22 #[(vp p1), shown1.v] w0 (fun e w' => ∃ r2 : Sl, e = .returned r2.v ∧ K r2 w') := by
 unfold m_arbiter_Faults at h
 refine calls_of_wpE (args := [(vp p1), shown1.v]) Try.func22 rfl Try.ntmps22 (Nat.le_of_ble_eq_true rfl) ?_
 have hs := Hst.start w0
 have hb := HB.nil None w0
 refine wpE_seq (rg (q0 Sl.nil.v (wpL_nil (th_n (wpE_seq (rg (q0 Sl.nil.v (wpL_nil (th_n (wpE_seq (rg ?_)))))))))))
 refine st_new (O := (.map #[] 0)) (fun p => .map (some p.block)) (want0 rfl) (by kernel_rfl) ?_
 intro p2 w1 hn12
 replace h := h p2 w1 hn12
 replace hs := hs.again (Ext.new (F := None) hn12).keptP
 replace hb := hb.kept (Ext.new (F := None) hn12).keptP
 refine q0 (.map (some p2.block)) (wpL_nil (th_n (wpE_seq (rg (q0 (vp p1) (q0 shown1.v ?_))))))
 refine st_call (want0 rfl) (xc Try.call79) (h.mono ?_)
 rintro e w2 ⟨r1, rfl, hk, h⟩
 refine ⟨_, rfl, ?_⟩
 obtain ⟨hs, hb⟩ := hk.hh hs hb
 refine q0 r1.v (wpL_nil (th_n (wpE_seq (wpE_seq (rg (q0 r1.v (q0 (vi (r1.len : Int)) (q0 (vi 0) (wpL_nil (th_n (wpE_block ?_)))))))))))
 obtain ⟨I1, mu1, h0, hr⟩ := h
 refine wpE_loop (σ := Sl × Int × (Nat → Prop) × World) (fun s ρ w => w = s.2.2.2 ∧ Has ρ [(5, s.1.v), (6, (.map (some p2.block))), (7, r1.v), (16, (vi (r1.len : Int))), (17, (vi s.2.1))] ∧ Hst w0 s.2.2.1 w s.2.2.1 w ∧ HB s.2.2.1 w [] ∧ I1 s.1 s.2.1 s.2.2.1 s.2.2.2) (fun s => mu1 s.1 s.2.1 s.2.2.2) (Sl.nil, 0, None, w2) ⟨rfl, Has.mk (by kernel_rfl), hs, hb, h0⟩ ?_
 clear hs hb
 rintro ⟨out1, x1, Hl1, wl1⟩ ρ w ⟨hw, hH, hs, hb, hI⟩
 obtain rfl : wl1 = w := (show w = wl1 from hw).symm
 replace hH : Has ρ [(5, out1.v), (6, (.map (some p2.block))), (7, r1.v), (16, (vi (r1.len : Int))), (17, (vi x1))] := hH
 replace hs : Hst w0 Hl1 wl1 Hl1 wl1 := hs
 replace hb : HB Hl1 wl1 [] := hb
 have h := hr out1 x1 Hl1 wl1 hs hI
 clear hr h0
 unfold m_arbiter_Faults_l1 at h
 refine wpE_has hH ?_
 clear hH hI
 refine wpE_seq (rg (q0 (vb (decide (x1 < (r1.len : Int)))) (wpL_nil (th_n (wpE_seq ?_)))))
 refine wpE_cond (t := (decide (x1 < (r1.len : Int)))) (by kernel_rfl) (fun hc1 => ?_) (fun hc1 => ?_)
 ·replace h := h.1 hc1
  refine wpE_skip (th_n (wpE_seq (wpE_block (wpE_seq (rg (q0 (vi x1) (q0 (vi x1) (wpL_nil (th_n (wpE_scope (fun _ _ _ h => h) (wpE_seq ?_)))))))))))
  refine wpE_label (th_n (wpE_seq (rg (q0 (vi x1) (q0 (vi (IntKind.i64.wrap (x1 + 1))) (q0 (vi (IntKind.i64.wrap (x1 + 1))) (wpL_nil (th_n (wpE_block ?_)))))))))
  obtain ⟨I2, mu2, h0, hr⟩ := h
  refine wpE_loop (σ := Sl × Int × (Nat → Prop) × World) (fun s ρ w => w = s.2.2.2 ∧ Has ρ [(5, s.1.v), (6, (.map (some p2.block))), (7, r1.v), (8, (vi x1)), (9, (vi s.2.1)), (16, (vi (r1.len : Int))), (17, (vi x1))] ∧ Hst w0 s.2.2.1 w s.2.2.1 w ∧ HB s.2.2.1 w [] ∧ I2 s.1 s.2.1 s.2.2.1 s.2.2.2) (fun s => mu2 s.1 s.2.1 s.2.2.2) (out1, (IntKind.i64.wrap (x1 + 1)), Hl1, wl1) ⟨rfl, Has.mk (by kernel_rfl), hs, hb, h0⟩ ?_
  clear hs hb
  rintro ⟨out2, k1, Hl2, wl2⟩ ρ w ⟨hw, hH, hs, hb, hI⟩
  obtain rfl : wl2 = w := (show w = wl2 from hw).symm
  replace hH : Has ρ [(5, out2.v), (6, (.map (some p2.block))), (7, r1.v), (8, (vi x1)), (9, (vi k1)), (16, (vi (r1.len : Int))), (17, (vi x1))] := hH
  replace hs : Hst w0 Hl2 wl2 Hl2 wl2 := hs
  replace hb : HB Hl2 wl2 [] := hb
  have h := hr out2 k1 Hl2 wl2 hs hI
  clear hr h0
  unfold m_arbiter_Faults_l2 at h
  refine wpE_has hH ?_
  clear hH hI
  refine wpE_seq (wpE_seq (rg (q0 (vi k1) (q0 r1.v (q0 (vi (r1.len : Int)) (q0 (vb (decide (k1 < (r1.len : Int)))) (wpL_nil (th_n ?_))))))))
  refine wpE_cond (t := (decide (k1 < (r1.len : Int)))) (by kernel_rfl) (fun hc2 => ?_) (fun hc2 => ?_)
  ·replace h := h.1 hc2
   refine wpE_skip (th_n (wpE_seq (wpE_block (wpE_seq (wpE_drawnC (fun x => ∃ H', Hst w0 Hl2 wl2 H' x ∧ HB H' x []) [8, 9, 10] [8, 10] (by kernel_rfl) (by kernel_rfl) (by kernel_rfl) (by kernel_rfl) ⟨_, hs.drew, hb.drew⟩ ?_)))))
   intro w3 hw3
   replace hs : Hst w0 Hl2 wl2 Hl2 w3 := by rw [hw3]; exact hs.drew
   replace hb : HB Hl2 w3 [] := by rw [hw3]; exact hb.drew
   clear hw3
   refine qx 0 r1.v Kp0 (qx 1 (vi x1) Kp1 (qgo (k := 2) (by kernel_rfl) ?_))
   obtain ⟨a1, hv9, h⟩ := h
   refine sx (v := (vp (some a1))) Kp2 (want0 rfl) (by kernel_rfl) (fun w' hw' => (x_indexAddr (s := r1) (k := .i64) (i := x1) (by kernel_rfl) (by kernel_rfl) (Try.runUnderlying27 _) (Try.sizeOf132 _) hv9)) (qgo (k := 3) (by kernel_rfl) ?_)
   obtain ⟨aB, aD, aA, aC, aE, hv8, hnh, h⟩ := h
   refine sx (v := (.agg #[(vi aB), (vi aD), (vu aA), (vs aC), (vb aE)])) Kp3 (want0 rfl) (by kernel_rfl) (fun w' hw' => by obtain ⟨H', hs', hb'⟩ := hw'; exact (x_loadA (a := a1) (vs := [(vi aB), (vi aD), (vu aA), (vs aC), (vb aE)]) (by kernel_rfl) (Try.isAgg132 _) (Try.sizeOf132 _) rfl (row_hst hv8 hnh hs'))) ?_
   clear hnh
   refine qx 4 r1.v Kp4 (qx 5 (vi k1) Kp5 (qgo (k := 6) (by kernel_rfl) ?_))
   obtain ⟨a2, hv7, h⟩ := h
   refine sx (v := (vp (some a2))) Kp6 (want0 rfl) (by kernel_rfl) (fun w' hw' => (x_indexAddr (s := r1) (k := .i64) (i := k1) (by kernel_rfl) (by kernel_rfl) (Try.runUnderlying27 _) (Try.sizeOf132 _) hv7)) (qgo (k := 7) (by kernel_rfl) ?_)
   obtain ⟨aH, aI, aF, aG, aJ, hv6, hnh, h⟩ := h
   refine sx (v := (.agg #[(vi aH), (vi aI), (vu aF), (vs aG), (vb aJ)])) Kp7 (want0 rfl) (by kernel_rfl) (fun w' hw' => by obtain ⟨H', hs', hb'⟩ := hw'; exact (x_loadA (a := a2) (vs := [(vi aH), (vi aI), (vu aF), (vs aG), (vb aJ)]) (by kernel_rfl) (Try.isAgg132 _) (Try.sizeOf132 _) rfl (row_hst hv6 hnh hs'))) ?_
   clear hnh
   refine wpX_via (fun ρ wJ => ∃ p5 : Addr, ∃ HJ : Nat → Prop, Hst w0 Hl2 wl2 HJ wJ ∧ HB HJ wJ [(p5, [(vi (s_arbiter_fault aB aD aA aC aE aH aI aF aG aJ).1), (vu (s_arbiter_fault aB aD aA aC aE aH aI aF aG aJ).2.1), (vi (s_arbiter_fault aB aD aA aC aE aH aI aF aG aJ).2.2.1), (vi (s_arbiter_fault aB aD aA aC aE aH aI aF aG aJ).2.2.2.1), (vi (s_arbiter_fault aB aD aA aC aE aH aI aF aG aJ).2.2.2.2)], 134)] ∧ Has ρ [(5, out2.v), (6, (.map (some p2.block))), (7, r1.v), (8, (vi x1)), (9, (vi k1)), (10, (vp (some p5))), (16, (vi (r1.len : Int))), (17, (vi x1))]) ?_ ?_
   ·skip
    refine lgo2 (k := 8) (k' := 9) (by kernel_rfl) ?_ ?_
    ·skip
     refine sl_call Kp8 (want0 rfl) (by kernel_rfl) (xc Try.call82) ((p_arbiter_fault aB aD aA aC aE aH aI aF aG aJ w3).mono ?_)
     rintro e w11 ⟨he, hE⟩
     replace hs := hs.pure hE
     replace hb := hb.pure hE
     refine ⟨(.agg #[(vi (s_arbiter_fault aB aD aA aC aE aH aI aF aG aJ).1), (vu (s_arbiter_fault aB aD aA aC aE aH aI aF aG aJ).2.1), (vi (s_arbiter_fault aB aD aA aC aE aH aI aF aG aJ).2.2.1), (vi (s_arbiter_fault aB aD aA aC aE aH aI aF aG aJ).2.2.2.1), (vi (s_arbiter_fault aB aD aA aC aE aH aI aF aG aJ).2.2.2.2)]), he.trans (by kernel_rfl), .inl (by kernel_rfl), ?_⟩
     clear hE he
     refine lgo (k := 9) (by kernel_rfl) (sl_new (O := (.cells #[(vi 0), (vu 0), (vi 0), (vi 0), (vi 0)] 134)) (fun p => .pointer (some p)) Kp9 (want0 rfl) (by kernel_rfl) (x_alloc (Try.zeroValue134 _) rfl) ?_)
     intro p6 w12 hn5
     obtain ⟨H4, hs, hb⟩ := hs.alloc hb hn5
     refine ⟨.inr ⟨_, hs, hb.drop 1⟩, ?_⟩
     refine lgo (k := 10) (by kernel_rfl) (sl_set (pickA (S8 (pickS (pickS pickZ)))) (want0 rfl) (by kernel_rfl) (x_storeA (a := p6) (vs := [(vi (s_arbiter_fault aB aD aA aC aE aH aI aF aG aJ).1), (vu (s_arbiter_fault aB aD aA aC aE aH aI aF aG aJ).2.1), (vi (s_arbiter_fault aB aD aA aC aE aH aI aF aG aJ).2.2.1), (vi (s_arbiter_fault aB aD aA aC aE aH aI aF aG aJ).2.2.2.1), (vi (s_arbiter_fault aB aD aA aC aE aH aI aF aG aJ).2.2.2.2)]) (by kernel_rfl) (by kernel_rfl) rfl (Try.sizeOf134 _) rfl (hb.canWs0 0 5 gZ (by kernel_rfl))) ?_)
     intro w13 hn6
     have hsb : Hst w0 Hl2 wl2 H4 w13 ∧ HB H4 w13 [(p6, [(vi (s_arbiter_fault aB aD aA aC aE aH aI aF aG aJ).1), (vu (s_arbiter_fault aB aD aA aC aE aH aI aF aG aJ).2.1), (vi (s_arbiter_fault aB aD aA aC aE aH aI aF aG aJ).2.2.1), (vi (s_arbiter_fault aB aD aA aC aE aH aI aF aG aJ).2.2.2.1), (vi (s_arbiter_fault aB aD aA aC aE aH aI aF aG aJ).2.2.2.2)], 134)] := by
      rw [hn6]
      exact hb.store0 (i := 0) (vs := [(vi (s_arbiter_fault aB aD aA aC aE aH aI aF aG aJ).1), (vu (s_arbiter_fault aB aD aA aC aE aH aI aF aG aJ).2.1), (vi (s_arbiter_fault aB aD aA aC aE aH aI aF aG aJ).2.2.1), (vi (s_arbiter_fault aB aD aA aC aE aH aI aF aG aJ).2.2.2.1), (vi (s_arbiter_fault aB aD aA aC aE aH aI aF aG aJ).2.2.2.2)]) hs gZ (by kernel_rfl) (by kernel_rfl)
     clear hs hb hn6
     obtain ⟨hs, hb⟩ := hsb
     refine ⟨.inl (by kernel_rfl), ?_⟩
     refine wpX_nil (by kernel_rfl) ?_
     exact ⟨p6, _, hs, hb, Has.mk (by kernel_rfl)⟩
    ·skip
     refine sl_new (O := (.cells #[(vi 0), (vu 0), (vi 0), (vi 0), (vi 0)] 134)) (fun p => .pointer (some p)) Kp9 (want0 rfl) (by kernel_rfl) (x_alloc (Try.zeroValue134 _) rfl) ?_
     intro p7 w14 hn7
     obtain ⟨H5, hs, hb⟩ := hs.alloc hb hn7
     refine ⟨.inr ⟨_, hs, hb.drop 1⟩, ?_⟩
     refine lgo (k := 8) (by kernel_rfl) ?_
     refine sl_call Kp8 (want0 rfl) (by kernel_rfl) (xc Try.call82) ((p_arbiter_fault aB aD aA aC aE aH aI aF aG aJ w14).mono ?_)
     rintro e w15 ⟨he, hE⟩
     replace hs := hs.pure hE
     replace hb := hb.pure hE
     refine ⟨(.agg #[(vi (s_arbiter_fault aB aD aA aC aE aH aI aF aG aJ).1), (vu (s_arbiter_fault aB aD aA aC aE aH aI aF aG aJ).2.1), (vi (s_arbiter_fault aB aD aA aC aE aH aI aF aG aJ).2.2.1), (vi (s_arbiter_fault aB aD aA aC aE aH aI aF aG aJ).2.2.2.1), (vi (s_arbiter_fault aB aD aA aC aE aH aI aF aG aJ).2.2.2.2)]), he.trans (by kernel_rfl), .inl (by kernel_rfl), ?_⟩
     clear hE he
     refine lgo (k := 10) (by kernel_rfl) (sl_set (pickA (S8 (pickS (pickS pickZ)))) (want0 rfl) (by kernel_rfl) (x_storeA (a := p7) (vs := [(vi (s_arbiter_fault aB aD aA aC aE aH aI aF aG aJ).1), (vu (s_arbiter_fault aB aD aA aC aE aH aI aF aG aJ).2.1), (vi (s_arbiter_fault aB aD aA aC aE aH aI aF aG aJ).2.2.1), (vi (s_arbiter_fault aB aD aA aC aE aH aI aF aG aJ).2.2.2.1), (vi (s_arbiter_fault aB aD aA aC aE aH aI aF aG aJ).2.2.2.2)]) (by kernel_rfl) (by kernel_rfl) rfl (Try.sizeOf134 _) rfl (hb.canWs0 0 5 gZ (by kernel_rfl))) ?_)
     intro w16 hn8
     have hsb : Hst w0 Hl2 wl2 H5 w16 ∧ HB H5 w16 [(p7, [(vi (s_arbiter_fault aB aD aA aC aE aH aI aF aG aJ).1), (vu (s_arbiter_fault aB aD aA aC aE aH aI aF aG aJ).2.1), (vi (s_arbiter_fault aB aD aA aC aE aH aI aF aG aJ).2.2.1), (vi (s_arbiter_fault aB aD aA aC aE aH aI aF aG aJ).2.2.2.1), (vi (s_arbiter_fault aB aD aA aC aE aH aI aF aG aJ).2.2.2.2)], 134)] := by
      rw [hn8]
      exact hb.store0 (i := 0) (vs := [(vi (s_arbiter_fault aB aD aA aC aE aH aI aF aG aJ).1), (vu (s_arbiter_fault aB aD aA aC aE aH aI aF aG aJ).2.1), (vi (s_arbiter_fault aB aD aA aC aE aH aI aF aG aJ).2.2.1), (vi (s_arbiter_fault aB aD aA aC aE aH aI aF aG aJ).2.2.2.1), (vi (s_arbiter_fault aB aD aA aC aE aH aI aF aG aJ).2.2.2.2)]) hs gZ (by kernel_rfl) (by kernel_rfl)
     clear hs hb hn8
     obtain ⟨hs, hb⟩ := hsb
     refine ⟨.inl (by kernel_rfl), ?_⟩
     refine wpX_nil (by kernel_rfl) ?_
     exact ⟨p7, _, hs, hb, Has.mk (by kernel_rfl)⟩
   ·clear hs hb
    rintro ρ w10 ⟨p5, H3, hs, hb, hH⟩
    refine q_has hH ?_
    clear hH
    refine th_n (wpE_seq (wpE_seq ?_))
    refine wpE_joinT (fun ρ w => ∃ x2 : Bool, ∃ H : Nat → Prop, Has ρ [(5, out2.v), (6, (.map (some p2.block))), (7, r1.v), (8, (vi x1)), (9, (vi k1)), (10, (vp (some p5))), (16, (vi (r1.len : Int))), (17, (vi x1)), (45, (vb x2))] ∧ Hst w0 H w H w ∧ HB H w [(p5, [(vi (s_arbiter_fault aB aD aA aC aE aH aI aF aG aJ).1), (vu (s_arbiter_fault aB aD aA aC aE aH aI aF aG aJ).2.1), (vi (s_arbiter_fault aB aD aA aC aE aH aI aF aG aJ).2.2.1), (vi (s_arbiter_fault aB aD aA aC aE aH aI aF aG aJ).2.2.2.1), (vi (s_arbiter_fault aB aD aA aC aE aH aI aF aG aJ).2.2.2.2)], 134)] ∧ m_arbiter_Faults_j3 p2 x1 out2 k1 aB aD aA aC aE aH aI aF aG aJ x2 w0 H w (fun y'0 y'1 H' w' => I2 y'0 y'1 H' w' ∧ mu2 y'0 y'1 w' < mu2 out2 k1 wl2) K) ?_ ?_
    ·clear h hs hb
     rintro ρ w ⟨x2, H, hH, hs, hb, h⟩
     unfold m_arbiter_Faults_j3 at h
     refine wpE_has hH ?_
     clear hH
     refine wpE_cond (t := x2) (by kernel_rfl) (fun hc3 => ?_) (fun hc3 => ?_)
     ·replace h := h.1 hc3
      refine wpE_exit (th_x (bl_eq (th_n (rg (q0 (vi k1) (q0 (vi (IntKind.i64.wrap (k1 + 1))) (q0 (vi (IntKind.i64.wrap (k1 + 1))) (wpL_nil (th_n ?_)))))))))
      exact ⟨(out2, (IntKind.i64.wrap (k1 + 1)), H, w), ⟨rfl, Has.mk (by kernel_rfl), hs, hb.drop 1, h.1⟩, h.2⟩
     ·replace h := h.2 hc3
      refine wpE_skip (th_n (wpE_seq ?_))
      obtain ⟨C2, hC, h⟩ := h
      refine wpE_drawnC (fun x => C2 x ∧ HB H x [(p5, [(vi (s_arbiter_fault aB aD aA aC aE aH aI aF aG aJ).1), (vu (s_arbiter_fault aB aD aA aC aE aH aI aF aG aJ).2.1), (vi (s_arbiter_fault aB aD aA aC aE aH aI aF aG aJ).2.2.1), (vi (s_arbiter_fault aB aD aA aC aE aH aI aF aG aJ).2.2.2.1), (vi (s_arbiter_fault aB aD aA aC aE aH aI aF aG aJ).2.2.2.2)], 134)]) [4, 6] [6] (by kernel_rfl) (by kernel_rfl) (by kernel_rfl) (by kernel_rfl) ⟨hC, hb.drew⟩ ?_
      clear hC
      intro w17 hw17
      replace h := h w17 hw17
      replace hs : Hst w0 H w H w17 := by rw [hw17]; exact hs.drew
      replace hb : HB H w17 [(p5, [(vi (s_arbiter_fault aB aD aA aC aE aH aI aF aG aJ).1), (vu (s_arbiter_fault aB aD aA aC aE aH aI aF aG aJ).2.1), (vi (s_arbiter_fault aB aD aA aC aE aH aI aF aG aJ).2.2.1), (vi (s_arbiter_fault aB aD aA aC aE aH aI aF aG aJ).2.2.2.1), (vi (s_arbiter_fault aB aD aA aC aE aH aI aF aG aJ).2.2.2.2)], 134)] := by rw [hw17]; exact hb.drew
      replace hs := hs.here
      refine qx 0 (.map (some p2.block)) Kp0 (qz 1 (.agg #[(vi (s_arbiter_fault aB aD aA aC aE aH aI aF aG aJ).1), (vu (s_arbiter_fault aB aD aA aC aE aH aI aF aG aJ).2.1), (vi (s_arbiter_fault aB aD aA aC aE aH aI aF aG aJ).2.2.1), (vi (s_arbiter_fault aB aD aA aC aE aH aI aF aG aJ).2.2.2.1), (vi (s_arbiter_fault aB aD aA aC aE aH aI aF aG aJ).2.2.2.2)]) Kp1 (fun w' hw' => (x_loadA (a := p5) (vs := [(vi (s_arbiter_fault aB aD aA aC aE aH aI aF aG aJ).1), (vu (s_arbiter_fault aB aD aA aC aE aH aI aF aG aJ).2.1), (vi (s_arbiter_fault aB aD aA aC aE aH aI aF aG aJ).2.2.1), (vi (s_arbiter_fault aB aD aA aC aE aH aI aF aG aJ).2.2.2.1), (vi (s_arbiter_fault aB aD aA aC aE aH aI aF aG aJ).2.2.2.2)]) (by kernel_rfl) (Try.isAgg134 _) (Try.sizeOf134 _) rfl (hw'.2.row0 0 5 gZ (by kernel_rfl)))) (qgo (k := 2) (by kernel_rfl) ?_))
      obtain ⟨v1, hv4, h⟩ := h
      refine sx (v := (vi v1)) Kp2 (want0 rfl) (by kernel_rfl) (fun w' hw' => (x_lookup (by kernel_rfl) (by kernel_rfl) (hv4 w' hw'.1))) (qx 3 (vi (IntKind.i64.wrap (v1 + 1))) Kp3 (lgo (k := 4) (by kernel_rfl) ?_))
      obtain ⟨v2, z1, w18, hv3, hC, hk, h⟩ := h
      refine sl (v := (.tuple #[(vi v2), (vi z1)])) Kp4 (want0 rfl) (by kernel_rfl) (x_mapEntry (by kernel_rfl) (by kernel_rfl) hv3) (.inr ⟨hC, hb.kept hk⟩) ?_
      clear hC
      obtain ⟨hs, hb⟩ := hk.hh hs hb
      refine qx 5 (vi z1) Kp5 (lgo (k := 6) (by kernel_rfl) ?_)
      obtain ⟨w19, hv2, hk, h⟩ := h
      refine sl_skip Kp6 (want0 rfl) (by kernel_rfl) (x_entryStore (by kernel_rfl) (by kernel_rfl) (by kernel_rfl) hv2) (.inl (by kernel_rfl)) ?_
      obtain ⟨hs, hb⟩ := hk.hh hs hb
      refine wpX_nil (by kernel_rfl) (th_n (wpE_seq (rg (q0 (vi x1) (q0 (vi k1) (q0 (vp (some (p5.add 3))) (st_set (want0 rfl) (x_store (a := (p5.add 3)) (v := (vi x1)) (by kernel_rfl) (by kernel_rfl) rfl (Try.sizeOf3 _) (hb.canW 0 3 gZ (by kernel_rfl))) ?_)))))))
      intro w20 hn9
      have hsb : Hst w0 H w19 H w20 ∧ HB H w20 [(p5, [(vi (s_arbiter_fault aB aD aA aC aE aH aI aF aG aJ).1), (vu (s_arbiter_fault aB aD aA aC aE aH aI aF aG aJ).2.1), (vi (s_arbiter_fault aB aD aA aC aE aH aI aF aG aJ).2.2.1), (vi x1), (vi (s_arbiter_fault aB aD aA aC aE aH aI aF aG aJ).2.2.2.2)], 134)] := by
       rw [hn9]
       exact hb.set (i := 0) 3 (v := (vi x1)) hs gZ (by kernel_rfl)
      clear hs hb hn9
      obtain ⟨hs, hb⟩ := hsb
      refine q0 (vp (some (p5.add 4))) (st_set (want0 rfl) (x_store (a := (p5.add 4)) (v := (vi k1)) (by kernel_rfl) (by kernel_rfl) rfl (Try.sizeOf3 _) (hb.canW 0 4 gZ (by kernel_rfl))) ?_)
      intro w21 hn10
      have hsb : Hst w0 H w19 H w21 ∧ HB H w21 [(p5, [(vi (s_arbiter_fault aB aD aA aC aE aH aI aF aG aJ).1), (vu (s_arbiter_fault aB aD aA aC aE aH aI aF aG aJ).2.1), (vi (s_arbiter_fault aB aD aA aC aE aH aI aF aG aJ).2.2.1), (vi x1), (vi k1)], 134)] := by
       rw [hn10]
       exact hb.set (i := 0) 4 (v := (vi k1)) hs gZ (by kernel_rfl)
      clear hs hb hn10
      obtain ⟨hs, hb⟩ := hsb
      refine wpL_nil (th_n (rg (q0 out2.v (q2 (.agg #[(vi (s_arbiter_fault aB aD aA aC aE aH aI aF aG aJ).1), (vu (s_arbiter_fault aB aD aA aC aE aH aI aF aG aJ).2.1), (vi (s_arbiter_fault aB aD aA aC aE aH aI aF aG aJ).2.2.1), (vi x1), (vi k1)]) (x_loadA (a := p5) (vs := [(vi (s_arbiter_fault aB aD aA aC aE aH aI aF aG aJ).1), (vu (s_arbiter_fault aB aD aA aC aE aH aI aF aG aJ).2.1), (vi (s_arbiter_fault aB aD aA aC aE aH aI aF aG aJ).2.2.1), (vi x1), (vi k1)]) (by kernel_rfl) (Try.isAgg134 _) (Try.sizeOf134 _) rfl (hb.row0 0 5 gZ (by kernel_rfl))) ?_))))
      replace h := h w21 hs
      replace hs := hs.here
      refine st_new (O := (.cells #[(vi (s_arbiter_fault aB aD aA aC aE aH aI aF aG aJ).1), (vu (s_arbiter_fault aB aD aA aC aE aH aI aF aG aJ).2.1), (vi (s_arbiter_fault aB aD aA aC aE aH aI aF aG aJ).2.2.1), (vi x1), (vi k1)] 134)) (fun p => (Sl.mk (some p) 1 1).v) (want0 rfl) (x_buildSlice (vs := #[(0, (.agg #[(vi (s_arbiter_fault aB aD aA aC aE aH aI aF aG aJ).1), (vu (s_arbiter_fault aB aD aA aC aE aH aI aF aG aJ).2.1), (vi (s_arbiter_fault aB aD aA aC aE aH aI aF aG aJ).2.2.1), (vi x1), (vi k1)]))]) (by kernel_rfl) (by kernel_rfl)) ?_
      intro p8 w22 hn11
      replace h := h p8 w22 hn11
      replace hs := hs.again (Ext.new (F := None) hn11).keptP
      replace hb := hb.kept (Ext.new (F := None) hn11).keptP
      obtain ⟨s1, w23, hv1, hk, h⟩ := h
      refine st (v := s1.v) (want0 rfl) (x_builtin (args := #[out2.v, (Sl.mk (some p8) 1 1).v]) (by kernel_rfl) (fun _ => rfl) hv1) ?_
      obtain ⟨hs, hb⟩ := hk.hh hs hb
      refine q0 s1.v (wpL_nil (bl_n (th_n (rg (q0 (vi k1) (q0 (vi (IntKind.i64.wrap (k1 + 1))) (q0 (vi (IntKind.i64.wrap (k1 + 1))) (wpL_nil (th_n ?_)))))))))
      exact ⟨(s1, (IntKind.i64.wrap (k1 + 1)), H, w23), ⟨rfl, Has.mk (by kernel_rfl), hs, hb.drop 1, h.1⟩, h.2⟩
    ·skip
     refine rg (q0 (vp (some (p5.add 2))) (q2 (vi (s_arbiter_fault aB aD aA aC aE aH aI aF aG aJ).2.2.1) (xl (Try.isAgg3 _) (hb.c 0 2 gZ)) (q0 (vb (((s_arbiter_fault aB aD aA aC aE aH aI aF aG aJ).2.2.1 : Int) == 0)) (q0 (vb (((s_arbiter_fault aB aD aA aC aE aH aI aF aG aJ).2.2.1 : Int) == 0)) ?_))))
     rcases Bool.eq_false_or_eq_true (((s_arbiter_fault aB aD aA aC aE aH aI aF aG aJ).2.2.1 : Int) == 0) with hg1 | hg1
     ·replace h := h.1 hg1
      refine sk (yD 40 hg1) (sk (yD 40 hg1) (sk (yD 40 hg1) (sk (yD 40 hg1) (q2 (vb true) (xT hg1) (wpL_nil ?_)))))
      replace h := h H3 w10 hs
      replace hs := hs.here
      refine th_n ?_
      exact ⟨true, H3, Has.mk (by kernel_rfl), hs, hb, h⟩
     ·replace h := h.2 hg1
      refine q1 (.map (some p2.block)) (want1 rfl (yD 40 hg1)) (stp (v := (.agg #[(vi (s_arbiter_fault aB aD aA aC aE aH aI aF aG aJ).1), (vu (s_arbiter_fault aB aD aA aC aE aH aI aF aG aJ).2.1), (vi (s_arbiter_fault aB aD aA aC aE aH aI aF aG aJ).2.2.1), (vi (s_arbiter_fault aB aD aA aC aE aH aI aF aG aJ).2.2.2.1), (vi (s_arbiter_fault aB aD aA aC aE aH aI aF aG aJ).2.2.2.2)])) (want1 rfl (yD 40 hg1)) (x_loadA (a := p5) (vs := [(vi (s_arbiter_fault aB aD aA aC aE aH aI aF aG aJ).1), (vu (s_arbiter_fault aB aD aA aC aE aH aI aF aG aJ).2.1), (vi (s_arbiter_fault aB aD aA aC aE aH aI aF aG aJ).2.2.1), (vi (s_arbiter_fault aB aD aA aC aE aH aI aF aG aJ).2.2.2.1), (vi (s_arbiter_fault aB aD aA aC aE aH aI aF aG aJ).2.2.2.2)]) (by kernel_rfl) (Try.isAgg134 _) (Try.sizeOf134 _) rfl (hb.row0 0 5 gZ (by kernel_rfl))) ?_)
      replace h := h H3 w10 hs
      replace hs := hs.here
      obtain ⟨v3, hv5, h⟩ := h
      refine stp (v := (vi v3)) (want1 rfl (yD 40 hg1)) (x_lookup (by kernel_rfl) (by kernel_rfl) hv5) (q1 (vb (decide (v3 > 0))) (want1 rfl (yD 40 hg1)) (q2 (vb (decide (v3 > 0))) (xF hg1) (wpL_nil (th_n ?_))))
      exact ⟨(decide (v3 > 0)), H3, Has.mk (by kernel_rfl), hs, hb, h⟩
  ·replace h := h.2 hc2
   refine wpE_exit (th_x (th_x (bl_eq (bl_n (th_n (rg (q0 (vi (IntKind.i64.wrap (x1 + 1))) (q0 (vi (IntKind.i64.wrap (x1 + 1))) (wpL_nil (th_n ?_))))))))))
   exact ⟨(out2, (IntKind.i64.wrap (x1 + 1)), Hl2, wl2), ⟨rfl, Has.mk (by kernel_rfl), hs, hb, h.1⟩, h.2⟩
 ·replace h := h.2 hc1
  refine wpE_exit (th_x (th_x (bl_eq (th_n (wpE_seq (rg (q0 out1.v (q0 out1.v (wpL_nil (th_n (wpE_ret ?_)))))))))))
  refine res1 (.inl rfl) Try.results22 (v := out1.v) (by kernel_rfl) ?_
  exact ⟨out1, rfl, h⟩
def s_ref13_verdict (aR bD bA : Int) (bE : ByteArray) (bF : Bool) : Bool :=
 ((aR == 5) || (aR == 6))
theorem pw_ref13_verdict (aR bD bA : Int) (bE : ByteArray) (bF : Bool) (w0 : World) :
  Calls Try.prog 133 #[(.agg #[(vi aR), (vi bD), (vu bA), (vs bE), (vb bF)])] w0 (fun e w' => (e = .returned (vb ((aR == 5) || (aR == 6)))) ∧ Pure w0 w') := by
 refine calls_of_wpE (args := [(.agg #[(vi aR), (vi bD), (vu bA), (vs bE), (vb bF)])]) Try.func133 rfl Try.ntmps133 (Nat.le_of_ble_eq_true rfl) ?_
 have hs := Hst.start w0
 have hb := HB.nil None w0
 refine wpE_seq (rg (sn (O := (.cells #[(vi aR), (vi bD), (vu bA), (vs bE), (vb bF)] 132)) xb ?_))
 intro p1 w1 hn1
 obtain ⟨H1, hs, hb⟩ := hs.alloc hb hn1
 refine q0 (vb false) (wpL_nil (th_n (wpE_seq ?_)))
 refine wpE_via (fun ρ wJ => ∃ HJ : Nat → Prop, Hst w0 None w0 HJ wJ ∧ HB HJ wJ [(p1, [(vi aR), (vi bD), (vu bA), (vs bE), (vb bF)], 132)] ∧ Has ρ [(2, (vb ((aR == 5) || (aR == 6))))]) ?_ ?_
 ·skip
  refine rg (q0 (vp (some p1)) (q2 (vi aR) (xl (Try.isAgg3 _) (hb.c0 0 gZ)) (q0 (vb (aR == 5)) (q0 (vb (aR == 5)) ?_))))
  refine wpL_join 4 (fun ρ wJ => ∃ b3'0 : Bool, ∃ HJ : Nat → Prop, ((aR == 5) = b3'0) ∧ Hst w0 None w0 HJ wJ ∧ HB HJ wJ [(p1, [(vi aR), (vi bD), (vu bA), (vs bE), (vb bF)], 132)] ∧ Has ρ [(10, (vb (b3'0 || (aR == 6))))]) ?_ ?_
  ·clear hs hb
   rintro ρ w4 ⟨b3'0, H4, he0, hs, hb, hH⟩
   subst he0
   refine wpL_has hH ?_
   clear hH
   refine q0 (vb ((aR == 5) || (aR == 6))) (wpL_nil (th_n ?_))
   exact ⟨_, hs, hb, Has.mk (by kernel_rfl)⟩
  ·skip
   rcases Bool.eq_false_or_eq_true (aR == 5) with hg4 | hg4
   ·skip
    refine sk (yD 6 hg4) (sk (yD 6 hg4) (sk (yD 6 hg4) (q2 (vb true) (xT hg4) (wpL_nil ?_))))
    exact ⟨true, _, hg4, hs, hb, Has.mk (by kernel_rfl)⟩
   ·skip
    refine q1 (vp (some p1)) (want1 rfl (yD 6 hg4)) (stp (v := (vi aR)) (want1 rfl (yD 6 hg4)) (xl (Try.isAgg3 _) (hb.c0 0 gZ)) (q1 (vb (aR == 6)) (want1 rfl (yD 6 hg4)) (q2 (vb (aR == 6)) (xF hg4) (wpL_nil ?_))))
    exact ⟨false, _, hg4, hs, hb, Has.mk (by kernel_rfl)⟩
 ·clear hs hb
  rintro ρ w3 ⟨H3, hs, hb, hH⟩
  refine norm_has hH ?_
  clear hH
  refine th_n (wpE_ret (res1 (.inl rfl) Try.results133 (v := (vb ((aR == 5) || (aR == 6)))) (by kernel_rfl) ?_))
  exact ⟨by kernel_rfl, (Ext.refl (F := None) _).hst hs⟩
theorem p_ref13_verdict (aR bD bA : Int) (bE : ByteArray) (bF : Bool) (w0 : World) : Calls Try.prog 133 #[(.agg #[(.int .i64 aR), (.int .i64 bD), (.int .u64 bA), (.string bE), (.bool bF)])] w0 (fun e w' => e = .returned (.bool (s_ref13_verdict aR bD bA bE bF)) ∧ Pure w0 w') := pw_ref13_verdict aR bD bA bE bF w0
theorem eqt_ref13_against_neq_132 (a0 a1 a2 : Int) (a3 : ByteArray) (a4 : Bool) (b0 b1 b2 : Int) (b3 : ByteArray) (b4 : Bool) (w : World) : (Go.binOp .neq 132 (.agg #[(.int .i64 a0), (.int .i64 a1), (.int .u64 a2), (.string a3), (.bool a4)]) (.agg #[(.int .i64 b0), (.int .i64 b1), (.int .u64 b2), (.string b3), (.bool b4)])).run Try.prog w = .ok (.bool (!((a0 == b0) && ((a1 == b1) && ((a2 == b2) && ((decide (a3 = b3)) && (a4 == b4))))))) w := by
 simp [Go.binOp, Op.equal, Op.maxDepth, go_sem, streq, bne]
 repeat' split
 all_goals simp_all
def s_ref13_against (aK aN aW : Int) (aU : ByteArray) (bB : Bool) (aL aS aX : Int) (aV : ByteArray) (bC : Bool) : Int × Int :=
 ((cond (aW != aX) 0 (cond ((((aK == 2) && (aL == 2)) && (aN == aS)) && (!(decide (aU = aV)))) aN (cond ((((aK == 5) || (aK == 6)) && ((aL == 5) || (aL == 6))) && (!((aK == aL) && ((aN == aS) && ((aW == aX) && ((decide (aU = aV)) && (bB == bC))))))) 2 0))), (cond (aW != aX) 0 (cond ((((aK == 2) && (aL == 2)) && (aN == aS)) && (!(decide (aU = aV)))) 1 (cond ((((aK == 5) || (aK == 6)) && ((aL == 5) || (aL == 6))) && (!((aK == aL) && ((aN == aS) && ((aW == aX) && ((decide (aU = aV)) && (bB == bC))))))) 2 (cond ((((aK == 2) && (aN == 0)) && (aL == 3)) || (((aL == 2) && (aS == 0)) && (aK == 3))) 3 0)))))
theorem pw_ref13_against (aK aN aW : Int) (aU : ByteArray) (bB : Bool) (aL aS aX : Int) (aV : ByteArray) (bC : Bool) (w0 : World) :
  Calls Try.prog 83 #[(.agg #[(vi aK), (vi aN), (vu aW), (vs aU), (vb bB)]), (.agg #[(vi aL), (vi aS), (vu aX), (vs aV), (vb bC)])] w0 (fun e w' => ∃ b'0 b'1 b'2 b'3 : Bool, ((aW != aX) = b'0 ∧ ((((aK == 2) && (aL == 2)) && (aN == aS)) && (!(decide (aU = aV)))) = b'1 ∧ ((((aK == 5) || (aK == 6)) && ((aL == 5) || (aL == 6))) && (!((aK == aL) && ((aN == aS) && ((aW == aX) && ((decide (aU = aV)) && (bB == bC))))))) = b'2 ∧ ((((aK == 2) && (aN == 0)) && (aL == 3)) || (((aL == 2) && (aS == 0)) && (aK == 3))) = b'3) ∧ (e = .returned (.tuple #[(vi (cond b'0 0 (cond b'1 aN (cond b'2 2 0)))), (vi (cond b'0 0 (cond b'1 1 (cond b'2 2 (cond b'3 3 0)))))])) ∧ Pure w0 w') := by
 refine calls_of_wpE (args := [(.agg #[(vi aK), (vi aN), (vu aW), (vs aU), (vb bB)]), (.agg #[(vi aL), (vi aS), (vu aX), (vs aV), (vb bC)])]) Try.func83 rfl Try.ntmps83 (Nat.le_of_ble_eq_true rfl) ?_
 have hs := Hst.start w0
 have hb := HB.nil None w0
 refine wpE_seq (rg (sn (O := (.cells #[(vi aK), (vi aN), (vu aW), (vs aU), (vb bB)] 132)) xb ?_))
 intro p1 w1 hn1
 obtain ⟨H1, hs, hb⟩ := hs.alloc hb hn1
 refine sn (O := (.cells #[(vi aL), (vi aS), (vu aX), (vs aV), (vb bC)] 132)) xb ?_
 intro p2 w2 hn2
 obtain ⟨H2, hs, hb⟩ := hs.alloc hb hn2
 refine q0 (vi 0) (q0 (vi 0) (wpL_nil (th_n (wpE_seq (wpE_seq (rg (q0 (vp (some (p1.add 2))) (q2 (vu aW) (xl (Try.isAgg38 _) (hb.c 1 2 (gS gZ))) (q0 (vp (some (p2.add 2))) (q2 (vu aX) (xl (Try.isAgg38 _) (hb.c 0 2 gZ)) (q0 (vb (aW != aX)) ?_)))))))))))
 refine wpL_nil (th_n ?_)
 refine wpE_cond (t := (aW != aX)) (by kernel_rfl) (fun hc1 => ?_) (fun hc1 => ?_)
 ·skip
  refine wpE_seq (rg (q0 (vi 0) (q0 (vi 0) (wpL_nil (th_n (wpE_ret (th_r (res2 (.inl rfl) Try.results83 (v := (vi 0)) (by kernel_rfl) (v' := (vi 0)) (by kernel_rfl) ?_))))))))
  exact ⟨true, _, _, _, ⟨hc1, rfl, rfl, rfl⟩, by kernel_rfl, (Ext.refl (F := None) _).hst hs⟩
 ·skip
  refine wpE_skip (th_n (wpE_seq (wpE_seq ?_)))
  refine wpE_via (fun ρ wJ => ∃ b3'0 : Bool, ∃ HJ : Nat → Prop, ((((aK == 2) && (aL == 2)) && (aN == aS)) = b3'0) ∧ Hst w0 None w0 HJ wJ ∧ HB HJ wJ [(p2, [(vi aL), (vi aS), (vu aX), (vs aV), (vb bC)], 132), (p1, [(vi aK), (vi aN), (vu aW), (vs aU), (vb bB)], 132)] ∧ Has ρ [(2, (vp (some p1))), (3, (vp (some p2))), (32, (vb (b3'0 && (!(decide (aU = aV))))))]) ?_ ?_
  ·skip
   refine rg (q0 (vp (some p1)) (q2 (vi aK) (xl (Try.isAgg3 _) (hb.c0 1 (gS gZ))) (q0 (vb (aK == 2)) (q0 (vb (aK == 2)) ?_))))
   refine wpL_join 4 (fun ρ wJ => ∃ b4'0 : Bool, ∃ HJ : Nat → Prop, ((aK == 2) = b4'0) ∧ Hst w0 None w0 HJ wJ ∧ HB HJ wJ [(p2, [(vi aL), (vi aS), (vu aX), (vs aV), (vb bC)], 132), (p1, [(vi aK), (vi aN), (vu aW), (vs aU), (vb bB)], 132)] ∧ Has ρ [(2, (vp (some p1))), (3, (vp (some p2))), (18, (vb (b4'0 && (aL == 2))))]) ?_ ?_
   ·clear hs hb
    rintro ρ w6 ⟨b4'0, H6, he0, hs, hb, hH⟩
    subst he0
    refine wpL_has hH ?_
    clear hH
    refine q0 (vb ((aK == 2) && (aL == 2))) ?_
    refine wpL_join 6 (fun ρ wJ => ∃ b5'0 : Bool, ∃ HJ : Nat → Prop, (((aK == 2) && (aL == 2)) = b5'0) ∧ Hst w0 None w0 HJ wJ ∧ HB HJ wJ [(p2, [(vi aL), (vi aS), (vu aX), (vs aV), (vb bC)], 132), (p1, [(vi aK), (vi aN), (vu aW), (vs aU), (vb bB)], 132)] ∧ Has ρ [(2, (vp (some p1))), (3, (vp (some p2))), (25, (vb (b5'0 && (aN == aS))))]) ?_ ?_
    ·clear hs hb
     rintro ρ w7 ⟨b5'0, H7, he0, hs, hb, hH⟩
     subst he0
     refine wpL_has hH ?_
     clear hH
     refine q0 (vb (((aK == 2) && (aL == 2)) && (aN == aS))) ?_
     rcases Bool.eq_false_or_eq_true (((aK == 2) && (aL == 2)) && (aN == aS)) with hg10 | hg10
     ·skip
      refine q1 (vp (some (p1.add 3))) (want1 rfl (yD 26 hg10)) (stp (v := (vs aU)) (want1 rfl (yD 26 hg10)) (xl (Try.isAgg9 _) (hb.c 1 3 (gS gZ))) (q1 (vp (some (p2.add 3))) (want1 rfl (yD 26 hg10)) (stp (v := (vs aV)) (want1 rfl (yD 26 hg10)) (xl (Try.isAgg9 _) (hb.c 0 3 gZ)) (stp (v := (vb (!(decide (aU = aV))))) (want1 rfl (yD 26 hg10)) (x_strneq (by kernel_rfl) (by kernel_rfl)) (q2 (vb (!(decide (aU = aV)))) (xT hg10) (wpL_nil (th_n ?_)))))))
      exact ⟨true, _, hg10, hs, hb, Has.mk (by kernel_rfl)⟩
     ·skip
      refine sk (yD 26 hg10) (sk (yD 26 hg10) (sk (yD 26 hg10) (sk (yD 26 hg10) (sk (yD 26 hg10) (q2 (vb false) (xF hg10) (wpL_nil (th_n ?_)))))))
      exact ⟨false, _, hg10, hs, hb, Has.mk (by kernel_rfl)⟩
    ·skip
     rcases Bool.eq_false_or_eq_true ((aK == 2) && (aL == 2)) with hg9 | hg9
     ·skip
      refine q1 (vp (some (p1.add 1))) (want1 rfl (yD 19 hg9)) (stp (v := (vi aN)) (want1 rfl (yD 19 hg9)) (xl (Try.isAgg3 _) (hb.c 1 1 (gS gZ))) (q1 (vp (some (p2.add 1))) (want1 rfl (yD 19 hg9)) (stp (v := (vi aS)) (want1 rfl (yD 19 hg9)) (xl (Try.isAgg3 _) (hb.c 0 1 gZ)) (q1 (vb (aN == aS)) (want1 rfl (yD 19 hg9)) (q2 (vb (aN == aS)) (xT hg9) (wpL_nil ?_))))))
      exact ⟨true, _, hg9, hs, hb, Has.mk (by kernel_rfl)⟩
     ·skip
      refine sk (yD 19 hg9) (sk (yD 19 hg9) (sk (yD 19 hg9) (sk (yD 19 hg9) (sk (yD 19 hg9) (q2 (vb false) (xF hg9) (wpL_nil ?_))))))
      exact ⟨false, _, hg9, hs, hb, Has.mk (by kernel_rfl)⟩
   ·skip
    rcases Bool.eq_false_or_eq_true (aK == 2) with hg7 | hg7
    ·skip
     refine q1 (vp (some p2)) (want1 rfl (yD 14 hg7)) (stp (v := (vi aL)) (want1 rfl (yD 14 hg7)) (xl (Try.isAgg3 _) (hb.c0 0 gZ)) (q1 (vb (aL == 2)) (want1 rfl (yD 14 hg7)) (q2 (vb (aL == 2)) (xT hg7) (wpL_nil ?_))))
     exact ⟨true, _, hg7, hs, hb, Has.mk (by kernel_rfl)⟩
    ·skip
     refine sk (yD 14 hg7) (sk (yD 14 hg7) (sk (yD 14 hg7) (q2 (vb false) (xF hg7) (wpL_nil ?_))))
     exact ⟨false, _, hg7, hs, hb, Has.mk (by kernel_rfl)⟩
  ·clear hs hb
   rintro ρ w5 ⟨b3'0, H5, he0, hs, hb, hH⟩
   subst he0
   refine norm_has hH ?_
   clear hH
   refine th_n ?_
   refine wpE_cond (t := ((((aK == 2) && (aL == 2)) && (aN == aS)) && (!(decide (aU = aV))))) (by kernel_rfl) (fun hc2 => ?_) (fun hc2 => ?_)
   ·skip
    refine wpE_seq (rg (q0 (vp (some (p1.add 1))) (q2 (vi aN) (xl (Try.isAgg3 _) (hb.c 1 1 (gS gZ))) (q0 (vi aN) (q0 (vi 1) (wpL_nil (th_n (wpE_ret (th_r (res2 (.inl rfl) Try.results83 (v := (vi aN)) (by kernel_rfl) (v' := (vi 1)) (by kernel_rfl) ?_))))))))))
    exact ⟨false, true, _, _, ⟨hc1, hc2, rfl, rfl⟩, by kernel_rfl, (Ext.refl (F := None) _).hst hs⟩
   ·skip
    refine wpE_skip (th_n (wpE_seq (wpE_seq ?_)))
    refine wpE_via (fun ρ wJ => ∃ b7'0 : Bool, ∃ HJ : Nat → Prop, ((((aK == 5) || (aK == 6)) && ((aL == 5) || (aL == 6))) = b7'0) ∧ Hst w0 None w0 HJ wJ ∧ HB HJ wJ [(p2, [(vi aL), (vi aS), (vu aX), (vs aV), (vb bC)], 132), (p1, [(vi aK), (vi aN), (vu aW), (vs aU), (vb bB)], 132)] ∧ Has ρ [(2, (vp (some p1))), (3, (vp (some p2))), (45, (vb (b7'0 && (!((aK == aL) && ((aN == aS) && ((aW == aX) && ((decide (aU = aV)) && (bB == bC)))))))))]) ?_ ?_
    ·skip
     refine rg (q2 (.agg #[(vi aK), (vi aN), (vu aW), (vs aU), (vb bB)]) (x_loadA (a := p1) (vs := [(vi aK), (vi aN), (vu aW), (vs aU), (vb bB)]) (by kernel_rfl) (Try.isAgg132 _) (Try.sizeOf132 _) rfl (hb.row0 1 5 (gS gZ) (by kernel_rfl))) ?_)
     refine st_call (want0 rfl) (xc Try.call133) ((p_ref13_verdict aK aN aW aU bB w5).mono ?_)
     rintro e w13 ⟨he, hE⟩
     refine ⟨(vb ((aK == 5) || (aK == 6))), he.trans (by kernel_rfl), ?_⟩
     replace hs := hs.pure hE
     replace hb := hb.pure hE
     clear hE he
     refine q0 (vb ((aK == 5) || (aK == 6))) ?_
     refine wpL_join 3 (fun ρ wJ => ∃ b8'0 : Bool, ∃ HJ : Nat → Prop, (((aK == 5) || (aK == 6)) = b8'0) ∧ Hst w0 None w0 HJ wJ ∧ HB HJ wJ [(p2, [(vi aL), (vi aS), (vu aX), (vs aV), (vb bC)], 132), (p1, [(vi aK), (vi aN), (vu aW), (vs aU), (vb bB)], 132)] ∧ Has ρ [(2, (vp (some p1))), (3, (vp (some p2))), (40, (vb (b8'0 && ((aL == 5) || (aL == 6)))))]) ?_ ?_
     ·clear hs hb
      rintro ρ w15 ⟨b8'0, H10, he0, hs, hb, hH⟩
      subst he0
      refine wpL_has hH ?_
      clear hH
      refine q0 (vb (((aK == 5) || (aK == 6)) && ((aL == 5) || (aL == 6)))) ?_
      rcases Bool.eq_false_or_eq_true (((aK == 5) || (aK == 6)) && ((aL == 5) || (aL == 6))) with hg16 | hg16
      ·skip
       refine stp (v := (.agg #[(vi aK), (vi aN), (vu aW), (vs aU), (vb bB)])) (want1 rfl (yD 41 hg16)) (x_loadA (a := p1) (vs := [(vi aK), (vi aN), (vu aW), (vs aU), (vb bB)]) (by kernel_rfl) (Try.isAgg132 _) (Try.sizeOf132 _) rfl (hb.row0 1 5 (gS gZ) (by kernel_rfl))) (stp (v := (.agg #[(vi aL), (vi aS), (vu aX), (vs aV), (vb bC)])) (want1 rfl (yD 41 hg16)) (x_loadA (a := p2) (vs := [(vi aL), (vi aS), (vu aX), (vs aV), (vb bC)]) (by kernel_rfl) (Try.isAgg132 _) (Try.sizeOf132 _) rfl (hb.row0 0 5 gZ (by kernel_rfl))) (stp (v := (vb (!((aK == aL) && ((aN == aS) && ((aW == aX) && ((decide (aU = aV)) && (bB == bC)))))))) (want1 rfl (yD 41 hg16)) (x_aggeq (by kernel_rfl) (by kernel_rfl) (by kernel_rfl) (eqt_ref13_against_neq_132 aK aN aW aU bB aL aS aX aV bC _)) (q2 (vb (!((aK == aL) && ((aN == aS) && ((aW == aX) && ((decide (aU = aV)) && (bB == bC))))))) (xT hg16) (wpL_nil (th_n ?_)))))
       exact ⟨true, _, hg16, hs, hb, Has.mk (by kernel_rfl)⟩
      ·skip
       refine sk (yD 41 hg16) (sk (yD 41 hg16) (sk (yD 41 hg16) (q2 (vb false) (xF hg16) (wpL_nil (th_n ?_)))))
       exact ⟨false, _, hg16, hs, hb, Has.mk (by kernel_rfl)⟩
     ·skip
      rcases Bool.eq_false_or_eq_true ((aK == 5) || (aK == 6)) with hg15 | hg15
      ·skip
       refine stp (v := (.agg #[(vi aL), (vi aS), (vu aX), (vs aV), (vb bC)])) (want1 rfl (yD 37 hg15)) (x_loadA (a := p2) (vs := [(vi aL), (vi aS), (vu aX), (vs aV), (vb bC)]) (by kernel_rfl) (Try.isAgg132 _) (Try.sizeOf132 _) rfl (hb.row0 0 5 gZ (by kernel_rfl))) ?_
       refine st_call (want1 rfl (yD 37 hg15)) (xc Try.call133) ((p_ref13_verdict aL aS aX aV bC w13).mono ?_)
       rintro e w16 ⟨he, hE⟩
       refine ⟨(vb ((aL == 5) || (aL == 6))), he.trans (by kernel_rfl), ?_⟩
       replace hs := hs.pure hE
       replace hb := hb.pure hE
       clear hE he
       refine q2 (vb ((aL == 5) || (aL == 6))) (xT hg15) (wpL_nil ?_)
       exact ⟨true, _, hg15, hs, hb, Has.mk (by kernel_rfl)⟩
      ·skip
       refine sk (yD 37 hg15) (sk (yD 37 hg15) (q2 (vb false) (xF hg15) (wpL_nil ?_)))
       exact ⟨false, _, hg15, hs, hb, Has.mk (by kernel_rfl)⟩
    ·clear hs hb
     rintro ρ w12 ⟨b7'0, H9, he0, hs, hb, hH⟩
     subst he0
     refine norm_has hH ?_
     clear hH
     refine th_n ?_
     refine wpE_cond (t := ((((aK == 5) || (aK == 6)) && ((aL == 5) || (aL == 6))) && (!((aK == aL) && ((aN == aS) && ((aW == aX) && ((decide (aU = aV)) && (bB == bC)))))))) (by kernel_rfl) (fun hc3 => ?_) (fun hc3 => ?_)
     ·skip
      refine wpE_seq (rg (q0 (vi 2) (q0 (vi 2) (wpL_nil (th_n (wpE_ret (th_r (res2 (.inl rfl) Try.results83 (v := (vi 2)) (by kernel_rfl) (v' := (vi 2)) (by kernel_rfl) ?_))))))))
      exact ⟨false, false, true, _, ⟨hc1, hc2, hc3, rfl⟩, by kernel_rfl, (Ext.refl (F := None) _).hst hs⟩
     ·skip
      refine wpE_skip (th_n (wpE_seq (wpE_seq ?_)))
      refine wpE_via (fun ρ wJ => ∃ b13'0 : Bool, ∃ HJ : Nat → Prop, ((((aK == 2) && (aN == 0)) && (aL == 3)) = b13'0) ∧ Hst w0 None w0 HJ wJ ∧ HB HJ wJ [(p2, [(vi aL), (vi aS), (vu aX), (vs aV), (vb bC)], 132), (p1, [(vi aK), (vi aN), (vu aW), (vs aU), (vb bB)], 132)] ∧ Has ρ [(73, (vb (b13'0 || (((aL == 2) && (aS == 0)) && (aK == 3)))))]) ?_ ?_
      ·skip
       refine rg (q0 (vp (some p1)) (q2 (vi aK) (xl (Try.isAgg3 _) (hb.c0 1 (gS gZ))) (q0 (vb (aK == 2)) (q0 (vb (aK == 2)) ?_))))
       refine wpL_join 4 (fun ρ wJ => ∃ b14'0 : Bool, ∃ HJ : Nat → Prop, ((aK == 2) = b14'0) ∧ Hst w0 None w0 HJ wJ ∧ HB HJ wJ [(p2, [(vi aL), (vi aS), (vu aX), (vs aV), (vb bC)], 132), (p1, [(vi aK), (vi aN), (vu aW), (vs aU), (vb bB)], 132)] ∧ Has ρ [(2, (vp (some p1))), (3, (vp (some p2))), (53, (vb (b14'0 && (aN == 0))))]) ?_ ?_
       ·clear hs hb
        rintro ρ w22 ⟨b14'0, H16, he0, hs, hb, hH⟩
        subst he0
        refine wpL_has hH ?_
        clear hH
        refine q0 (vb ((aK == 2) && (aN == 0))) ?_
        refine wpL_join 4 (fun ρ wJ => ∃ b15'0 : Bool, ∃ HJ : Nat → Prop, (((aK == 2) && (aN == 0)) = b15'0) ∧ Hst w0 None w0 HJ wJ ∧ HB HJ wJ [(p2, [(vi aL), (vi aS), (vu aX), (vs aV), (vb bC)], 132), (p1, [(vi aK), (vi aN), (vu aW), (vs aU), (vb bB)], 132)] ∧ Has ρ [(2, (vp (some p1))), (3, (vp (some p2))), (58, (vb (b15'0 && (aL == 3))))]) ?_ ?_
        ·clear hs hb
         rintro ρ w23 ⟨b15'0, H17, he0, hs, hb, hH⟩
         subst he0
         refine wpL_has hH ?_
         clear hH
         refine q0 (vb (((aK == 2) && (aN == 0)) && (aL == 3))) ?_
         rcases Bool.eq_false_or_eq_true (((aK == 2) && (aN == 0)) && (aL == 3)) with hg30 | hg30
         ·skip
          refine sk (yD 59 hg30) (sk (yD 59 hg30) (sk (yD 59 hg30) (sk (yD 59 hg30) (st_not (by kernel_rfl) (st_not (by kernel_rfl) (st_not (by kernel_rfl) (sk (yD 59 hg30) (sk (yD 59 hg30) (st_not (by kernel_rfl) (st_not (by kernel_rfl) (st_not (by kernel_rfl) ?_)))))))))))
          refine sk (yD 59 hg30) (q2 (vb true) (xT hg30) (wpL_nil (th_n ?_)))
          exact ⟨true, _, hg30, hs, hb, Has.mk (by kernel_rfl)⟩
         ·skip
          refine q1 (vp (some p2)) (want1 rfl (yD 59 hg30)) (stp (v := (vi aL)) (want1 rfl (yD 59 hg30)) (xl (Try.isAgg3 _) (hb.c0 0 gZ)) (q1 (vb (aL == 2)) (want1 rfl (yD 59 hg30)) (q1 (vb (aL == 2)) (want1 rfl (yD 59 hg30)) ?_)))
          refine wpL_join 4 (fun ρ wJ => ∃ b16'0 : Bool, ∃ HJ : Nat → Prop, ((aL == 2) = b16'0) ∧ Hst w0 None w0 HJ wJ ∧ HB HJ wJ [(p2, [(vi aL), (vi aS), (vu aX), (vs aV), (vb bC)], 132), (p1, [(vi aK), (vi aN), (vu aW), (vs aU), (vb bB)], 132)] ∧ Has ρ [(2, (vp (some p1))), (59, (vb (((aK == 2) && (aN == 0)) && (aL == 3)))), (67, (vb (b16'0 && (aS == 0))))]) ?_ ?_
          ·clear hs hb
           rintro ρ w24 ⟨b16'0, H18, he0, hs, hb, hH⟩
           subst he0
           refine wpL_has hH ?_
           clear hH
           refine q1 (vb ((aL == 2) && (aS == 0))) (want1 rfl (yD 59 hg30)) ?_
           refine wpL_join 4 (fun ρ wJ => ∃ b17'0 : Bool, ∃ HJ : Nat → Prop, (((aL == 2) && (aS == 0)) = b17'0) ∧ Hst w0 None w0 HJ wJ ∧ HB HJ wJ [(p2, [(vi aL), (vi aS), (vu aX), (vs aV), (vb bC)], 132), (p1, [(vi aK), (vi aN), (vu aW), (vs aU), (vb bB)], 132)] ∧ Has ρ [(59, (vb (((aK == 2) && (aN == 0)) && (aL == 3)))), (72, (vb (b17'0 && (aK == 3))))]) ?_ ?_
           ·clear hs hb
            rintro ρ w25 ⟨b17'0, H19, he0, hs, hb, hH⟩
            subst he0
            refine wpL_has hH ?_
            clear hH
            refine q2 (vb (((aL == 2) && (aS == 0)) && (aK == 3))) (xF hg30) (wpL_nil (th_n ?_))
            exact ⟨false, _, hg30, hs, hb, Has.mk (by kernel_rfl)⟩
           ·skip
            rcases Bool.eq_false_or_eq_true ((aL == 2) && (aS == 0)) with hg34 | hg34
            ·skip
             refine q1 (vp (some p1)) (want1 rfl (yD 68 hg34)) (stp (v := (vi aK)) (want1 rfl (yD 68 hg34)) (xl (Try.isAgg3 _) (hb.c0 1 (gS gZ))) (q1 (vb (aK == 3)) (want1 rfl (yD 68 hg34)) (stp (v := (vb (aK == 3))) (want1 rfl (yD 59 hg30)) (xT hg34) (wpL_nil ?_))))
             exact ⟨true, _, hg34, hs, hb, Has.mk (by kernel_rfl)⟩
            ·skip
             refine sk (yD 68 hg34) (sk (yD 68 hg34) (sk (yD 68 hg34) (stp (v := (vb false)) (want1 rfl (yD 59 hg30)) (xF hg34) (wpL_nil ?_))))
             exact ⟨false, _, hg34, hs, hb, Has.mk (by kernel_rfl)⟩
          ·skip
           rcases Bool.eq_false_or_eq_true (aL == 2) with hg32 | hg32
           ·skip
            refine q1 (vp (some (p2.add 1))) (want1 rfl (yD 63 hg32)) (stp (v := (vi aS)) (want1 rfl (yD 63 hg32)) (xl (Try.isAgg3 _) (hb.c 0 1 gZ)) (q1 (vb (aS == 0)) (want1 rfl (yD 63 hg32)) (stp (v := (vb (aS == 0))) (want1 rfl (yD 59 hg30)) (xT hg32) (wpL_nil ?_))))
            exact ⟨true, _, hg32, hs, hb, Has.mk (by kernel_rfl)⟩
           ·skip
            refine sk (yD 63 hg32) (sk (yD 63 hg32) (sk (yD 63 hg32) (stp (v := (vb false)) (want1 rfl (yD 59 hg30)) (xF hg32) (wpL_nil ?_))))
            exact ⟨false, _, hg32, hs, hb, Has.mk (by kernel_rfl)⟩
        ·skip
         rcases Bool.eq_false_or_eq_true ((aK == 2) && (aN == 0)) with hg29 | hg29
         ·skip
          refine q1 (vp (some p2)) (want1 rfl (yD 54 hg29)) (stp (v := (vi aL)) (want1 rfl (yD 54 hg29)) (xl (Try.isAgg3 _) (hb.c0 0 gZ)) (q1 (vb (aL == 3)) (want1 rfl (yD 54 hg29)) (q2 (vb (aL == 3)) (xT hg29) (wpL_nil ?_))))
          exact ⟨true, _, hg29, hs, hb, Has.mk (by kernel_rfl)⟩
         ·skip
          refine sk (yD 54 hg29) (sk (yD 54 hg29) (sk (yD 54 hg29) (q2 (vb false) (xF hg29) (wpL_nil ?_))))
          exact ⟨false, _, hg29, hs, hb, Has.mk (by kernel_rfl)⟩
       ·skip
        rcases Bool.eq_false_or_eq_true (aK == 2) with hg27 | hg27
        ·skip
         refine q1 (vp (some (p1.add 1))) (want1 rfl (yD 49 hg27)) (stp (v := (vi aN)) (want1 rfl (yD 49 hg27)) (xl (Try.isAgg3 _) (hb.c 1 1 (gS gZ))) (q1 (vb (aN == 0)) (want1 rfl (yD 49 hg27)) (q2 (vb (aN == 0)) (xT hg27) (wpL_nil ?_))))
         exact ⟨true, _, hg27, hs, hb, Has.mk (by kernel_rfl)⟩
        ·skip
         refine sk (yD 49 hg27) (sk (yD 49 hg27) (sk (yD 49 hg27) (q2 (vb false) (xF hg27) (wpL_nil ?_))))
         exact ⟨false, _, hg27, hs, hb, Has.mk (by kernel_rfl)⟩
      ·clear hs hb
       rintro ρ w21 ⟨b13'0, H15, he0, hs, hb, hH⟩
       subst he0
       refine norm_has hH ?_
       clear hH
       refine th_n ?_
       refine wpE_cond (t := ((((aK == 2) && (aN == 0)) && (aL == 3)) || (((aL == 2) && (aS == 0)) && (aK == 3)))) (by kernel_rfl) (fun hc4 => ?_) (fun hc4 => ?_)
       ·skip
        refine wpE_seq (rg (q0 (vi 0) (q0 (vi 3) (wpL_nil (th_n (wpE_ret (th_r (res2 (.inl rfl) Try.results83 (v := (vi 0)) (by kernel_rfl) (v' := (vi 3)) (by kernel_rfl) ?_))))))))
        exact ⟨false, false, false, true, ⟨hc1, hc2, hc3, hc4⟩, by kernel_rfl, (Ext.refl (F := None) _).hst hs⟩
       ·skip
        refine wpE_skip (th_n (wpE_seq (rg (q0 (vi 0) (q0 (vi 0) (wpL_nil (th_n (wpE_ret (res2 (.inl rfl) Try.results83 (v := (vi 0)) (by kernel_rfl) (v' := (vi 0)) (by kernel_rfl) ?_)))))))))
        exact ⟨false, false, false, false, ⟨hc1, hc2, hc3, hc4⟩, by kernel_rfl, (Ext.refl (F := None) _).hst hs⟩
theorem p_ref13_against (aK aN aW : Int) (aU : ByteArray) (bB : Bool) (aL aS aX : Int) (aV : ByteArray) (bC : Bool) (w0 : World) : Calls Try.prog 83 #[(.agg #[(.int .i64 aK), (.int .i64 aN), (.int .u64 aW), (.string aU), (.bool bB)]), (.agg #[(.int .i64 aL), (.int .i64 aS), (.int .u64 aX), (.string aV), (.bool bC)])] w0 (fun e w' => e = .returned (.tuple #[(.int .i64 (s_ref13_against aK aN aW aU bB aL aS aX aV bC).1), (.int .i64 (s_ref13_against aK aN aW aU bB aL aS aX aV bC).2)]) ∧ Pure w0 w') := by
 refine (pw_ref13_against aK aN aW aU bB aL aS aX aV bC w0).mono ?_
 rintro e w' ⟨b'0, b'1, b'2, b'3, ⟨e0, e1, e2, e3⟩, h, E⟩
 subst e0
 subst e1
 subst e2
 subst e3
 exact ⟨h, E⟩
def m_ref13_Faults_l3 (a1 : Int) (out2 : Sl) (b1 aB : Int) (aD aA : Int) (aC : ByteArray) (aE : Bool) (aH aI aF : Int) (aG : ByteArray) (aJ : Bool) (v1 : Int) (there1 : Bool) (i1 : Int) (w0 : World) (Hl3 : Nat → Prop) (wl3 : World) (Kc2 : Sl → Int → (Nat → Prop) → World → Prop) (Kc3 : Bool → Int → (Nat → Prop) → World → Prop) (_K : Sl → World → Prop) : Prop :=
 Br (decide (i1 < (out2.len : Int)))
  (Br there1
   (∀ (w7 : World), Hst w0 Hl3 wl3 Hl3 w7 →
   Kc3 true (IntKind.i64.wrap (i1 + 1)) Hl3 w7)
   (∃ a5 : Addr, At out2 i1 5 a5 ∧
   ∀ (w7 : World), Hst w0 Hl3 wl3 Hl3 w7 →
   ∃ v2 : Int, w7.cell? a5 = some (vi v2) ∧
   Br (v2 == (s_ref13_against aB aD aA aC aE aH aI aF aG aJ).1)
    (∃ a6 : Addr, At out2 i1 5 a6 ∧
    ∃ v3 : Int, w7.cell? (a6.add 1) = some (vu v3) ∧
    Br (v3 == v1)
     (∃ a7 : Addr, At out2 i1 5 a7 ∧
     ∃ v4 : Int, w7.cell? (a7.add 2) = some (vi v4) ∧
     Kc3 (v4 == (s_ref13_against aB aD aA aC aE aH aI aF aG aJ).2) (IntKind.i64.wrap (i1 + 1)) Hl3 w7)
     (Kc3 false (IntKind.i64.wrap (i1 + 1)) Hl3 w7))
    (Kc3 false (IntKind.i64.wrap (i1 + 1)) Hl3 w7)))
  (Br (!there1)
   (∀ (p2 : Addr) (w8 : World), New wl3 (.cells #[(vi (s_ref13_against aB aD aA aC aE aH aI aF aG aJ).1), (vu v1), (vi (s_ref13_against aB aD aA aC aE aH aI aF aG aJ).2), (vi a1), (vi b1)] 134) p2 w8 →
   ∃ s1 : Sl, ∃ w9 : World, (Builtin.append_ #[35, 35] 35 #[out2.v, (Sl.mk (some p2) 1 1).v]).run Try.prog w8 = .ok s1.v w9 ∧
   Kept Hl3 w8 w9 ∧
   Kc2 s1 (IntKind.i64.wrap (b1 + 1)) Hl3 w9)
   (Kc2 out2 (IntKind.i64.wrap (b1 + 1)) Hl3 wl3))
def m_ref13_Faults_l2 (l1 : Sl) (a1 : Int) (out2 : Sl) (b1 : Int) (w0 : World) (Hl2 : Nat → Prop) (wl2 : World) (Kc1 : Sl → Int → (Nat → Prop) → World → Prop) (Kc2 : Sl → Int → (Nat → Prop) → World → Prop) (K : Sl → World → Prop) : Prop :=
 Br (decide (b1 < (l1.len : Int)))
  (∃ a2 : Addr, At l1 a1 5 a2 ∧
  ∃ aB aD aA : Int, ∃ aC : ByteArray, ∃ aE : Bool, Row wl2 a2 [(vi aB), (vi aD), (vu aA), (vs aC), (vb aE)] ∧ ¬ Hl2 a2.block ∧
  ∃ a3 : Addr, At l1 b1 5 a3 ∧
  ∃ aH aI aF : Int, ∃ aG : ByteArray, ∃ aJ : Bool, Row wl2 a3 [(vi aH), (vi aI), (vu aF), (vs aG), (vb aJ)] ∧ ¬ Hl2 a3.block ∧
  ∃ a4 : Addr, At l1 a1 5 a4 ∧
  ∀ (H1 : Nat → Prop) (w3 : World), Hst w0 Hl2 wl2 H1 w3 →
  ∃ v1 : Int, w3.cell? (a4.add 2) = some (vu v1) ∧
  ∀ (H2 : Nat → Prop) (w6 : World), Hst w0 H1 w3 H2 w6 →
  ∃ (I3 : Bool → Int → (Nat → Prop) → World → Prop) (mu3 : Bool → Int → World → Nat), I3 (((s_ref13_against aB aD aA aC aE aH aI aF aG aJ).2 : Int) == 0) 0 H2 w6 ∧
   ∀ (there1 : Bool) (i1 : Int) (Hl3 : Nat → Prop) (wl3 : World), Hst w0 Hl3 wl3 Hl3 wl3 → I3 there1 i1 Hl3 wl3 → m_ref13_Faults_l3 a1 out2 b1 aB aD aA aC aE aH aI aF aG aJ v1 there1 i1 w0 Hl3 wl3 Kc2 (fun y'0 y'1 H' w' => I3 y'0 y'1 H' w' ∧ mu3 y'0 y'1 w' < mu3 there1 i1 wl3) K)
  (Kc1 out2 (IntKind.i64.wrap (a1 + 1)) Hl2 wl2)
def m_ref13_Faults_l1 (l1 out1 : Sl) (a1 : Int) (w0 : World) (Hl1 : Nat → Prop) (wl1 : World) (Kc1 : Sl → Int → (Nat → Prop) → World → Prop) (K : Sl → World → Prop) : Prop :=
 Br (decide (a1 < (l1.len : Int)))
  (∃ (I2 : Sl → Int → (Nat → Prop) → World → Prop) (mu2 : Sl → Int → World → Nat), I2 out1 (IntKind.i64.wrap (a1 + 1)) Hl1 wl1 ∧
   ∀ (out2 : Sl) (b1 : Int) (Hl2 : Nat → Prop) (wl2 : World), Hst w0 Hl2 wl2 Hl2 wl2 → I2 out2 b1 Hl2 wl2 → m_ref13_Faults_l2 l1 a1 out2 b1 w0 Hl2 wl2 Kc1 (fun y'0 y'1 H' w' => I2 y'0 y'1 H' w' ∧ mu2 y'0 y'1 w' < mu2 out2 b1 wl2) K)
  (K out1 wl1)
def m_ref13_Faults (l1 : Sl) (w0 : World) (K : Sl → World → Prop) : Prop :=
 ∃ (I1 : Sl → Int → (Nat → Prop) → World → Prop) (mu1 : Sl → Int → World → Nat), I1 Sl.nil 0 None w0 ∧
  ∀ (out1 : Sl) (a1 : Int) (Hl1 : Nat → Prop) (wl1 : World), Hst w0 Hl1 wl1 Hl1 wl1 → I1 out1 a1 Hl1 wl1 → m_ref13_Faults_l1 l1 out1 a1 w0 Hl1 wl1 (fun y'0 y'1 H' w' => I1 y'0 y'1 H' w' ∧ mu1 y'0 y'1 w' < mu1 out1 a1 wl1) K
theorem w_ref13_Faults (l1 : Sl) (w0 : World) (K : Sl → World → Prop) (h : m_ref13_Faults l1 w0 K) :
  Calls Try.prog 23 #[l1.v] w0 (fun e w' => ∃ r1 : Sl, e = .returned r1.v ∧ K r1 w') := by
 unfold m_ref13_Faults at h
 refine calls_of_wpE (args := [l1.v]) Try.func23 rfl Try.ntmps23 (Nat.le_of_ble_eq_true rfl) ?_
 have hs := Hst.start w0
 have hb := HB.nil None w0
 refine wpE_seq (rg (q0 Sl.nil.v (wpL_nil (th_n (wpE_seq (rg (q0 Sl.nil.v (wpL_nil (th_n (wpE_seq (wpE_seq ?_)))))))))))
 refine rg (q0 (vi 0) (wpL_nil (th_n (wpE_block ?_))))
 obtain ⟨I1, mu1, h0, hr⟩ := h
 refine wpE_loop (σ := Sl × Int × (Nat → Prop) × World) (fun s ρ w => w = s.2.2.2 ∧ Has ρ [(0, l1.v), (3, s.1.v), (4, (vi s.2.1))] ∧ Hst w0 s.2.2.1 w s.2.2.1 w ∧ HB s.2.2.1 w [] ∧ I1 s.1 s.2.1 s.2.2.1 s.2.2.2) (fun s => mu1 s.1 s.2.1 s.2.2.2) (Sl.nil, 0, None, w0) ⟨rfl, Has.mk (by kernel_rfl), hs, hb, h0⟩ ?_
 clear hs hb
 rintro ⟨out1, a1, Hl1, wl1⟩ ρ w ⟨hw, hH, hs, hb, hI⟩
 obtain rfl : wl1 = w := (show w = wl1 from hw).symm
 replace hH : Has ρ [(0, l1.v), (3, out1.v), (4, (vi a1))] := hH
 replace hs : Hst w0 Hl1 wl1 Hl1 wl1 := hs
 replace hb : HB Hl1 wl1 [] := hb
 have h := hr out1 a1 Hl1 wl1 hs hI
 clear hr h0
 unfold m_ref13_Faults_l1 at h
 refine wpE_has hH ?_
 clear hH hI
 refine wpE_seq (wpE_seq (rg (q0 (vi a1) (q0 l1.v (q0 (vi (l1.len : Int)) (q0 (vb (decide (a1 < (l1.len : Int)))) (wpL_nil (th_n ?_))))))))
 refine wpE_cond (t := (decide (a1 < (l1.len : Int)))) (by kernel_rfl) (fun hc1 => ?_) (fun hc1 => ?_)
 ·replace h := h.1 hc1
  refine wpE_skip (th_n (wpE_seq (wpE_block (wpE_seq (rg (q0 (vi a1) (q0 (vi (IntKind.i64.wrap (a1 + 1))) (q0 (vi (IntKind.i64.wrap (a1 + 1))) (wpL_nil (th_n (wpE_block ?_)))))))))))
  obtain ⟨I2, mu2, h0, hr⟩ := h
  refine wpE_loop (σ := Sl × Int × (Nat → Prop) × World) (fun s ρ w => w = s.2.2.2 ∧ Has ρ [(0, l1.v), (3, s.1.v), (4, (vi a1)), (5, (vi s.2.1))] ∧ Hst w0 s.2.2.1 w s.2.2.1 w ∧ HB s.2.2.1 w [] ∧ I2 s.1 s.2.1 s.2.2.1 s.2.2.2) (fun s => mu2 s.1 s.2.1 s.2.2.2) (out1, (IntKind.i64.wrap (a1 + 1)), Hl1, wl1) ⟨rfl, Has.mk (by kernel_rfl), hs, hb, h0⟩ ?_
  clear hs hb
  rintro ⟨out2, b1, Hl2, wl2⟩ ρ w ⟨hw, hH, hs, hb, hI⟩
  obtain rfl : wl2 = w := (show w = wl2 from hw).symm
  replace hH : Has ρ [(0, l1.v), (3, out2.v), (4, (vi a1)), (5, (vi b1))] := hH
  replace hs : Hst w0 Hl2 wl2 Hl2 wl2 := hs
  replace hb : HB Hl2 wl2 [] := hb
  have h := hr out2 b1 Hl2 wl2 hs hI
  clear hr h0
  unfold m_ref13_Faults_l2 at h
  refine wpE_has hH ?_
  clear hH hI
  refine wpE_seq (wpE_seq (rg (q0 (vi b1) (q0 l1.v (q0 (vi (l1.len : Int)) (q0 (vb (decide (b1 < (l1.len : Int)))) (wpL_nil (th_n ?_))))))))
  refine wpE_cond (t := (decide (b1 < (l1.len : Int)))) (by kernel_rfl) (fun hc2 => ?_) (fun hc2 => ?_)
  ·replace h := h.1 hc2
   refine wpE_skip (th_n (wpE_seq (wpE_block (wpE_seq (wpE_drawnC (fun x => ∃ H', Hst w0 Hl2 wl2 H' x ∧ HB H' x []) [8] [] (by kernel_rfl) (by kernel_rfl) (by kernel_rfl) (by kernel_rfl) ⟨_, hs.drew, hb.drew⟩ ?_)))))
   intro w1 hw1
   replace hs : Hst w0 Hl2 wl2 Hl2 w1 := by rw [hw1]; exact hs.drew
   replace hb : HB Hl2 w1 [] := by rw [hw1]; exact hb.drew
   clear hw1
   refine qx 0 l1.v Kp0 (qx 1 (vi a1) Kp1 (qgo (k := 2) (by kernel_rfl) ?_))
   obtain ⟨a2, hv13, h⟩ := h
   refine sx (v := (vp (some a2))) Kp2 (want0 rfl) (by kernel_rfl) (fun w' hw' => (x_indexAddr (s := l1) (k := .i64) (i := a1) (by kernel_rfl) (by kernel_rfl) (Try.runUnderlying27 _) (Try.sizeOf132 _) hv13)) (qgo (k := 3) (by kernel_rfl) ?_)
   obtain ⟨aB, aD, aA, aC, aE, hv12, hnh, h⟩ := h
   refine sx (v := (.agg #[(vi aB), (vi aD), (vu aA), (vs aC), (vb aE)])) Kp3 (want0 rfl) (by kernel_rfl) (fun w' hw' => by obtain ⟨H', hs', hb'⟩ := hw'; exact (x_loadA (a := a2) (vs := [(vi aB), (vi aD), (vu aA), (vs aC), (vb aE)]) (by kernel_rfl) (Try.isAgg132 _) (Try.sizeOf132 _) rfl (row_hst hv12 hnh hs'))) ?_
   clear hnh
   refine qx 4 l1.v Kp4 (qx 5 (vi b1) Kp5 (qgo (k := 6) (by kernel_rfl) ?_))
   obtain ⟨a3, hv11, h⟩ := h
   refine sx (v := (vp (some a3))) Kp6 (want0 rfl) (by kernel_rfl) (fun w' hw' => (x_indexAddr (s := l1) (k := .i64) (i := b1) (by kernel_rfl) (by kernel_rfl) (Try.runUnderlying27 _) (Try.sizeOf132 _) hv11)) (qgo (k := 7) (by kernel_rfl) ?_)
   obtain ⟨aH, aI, aF, aG, aJ, hv10, hnh, h⟩ := h
   refine sx (v := (.agg #[(vi aH), (vi aI), (vu aF), (vs aG), (vb aJ)])) Kp7 (want0 rfl) (by kernel_rfl) (fun w' hw' => by obtain ⟨H', hs', hb'⟩ := hw'; exact (x_loadA (a := a3) (vs := [(vi aH), (vi aI), (vu aF), (vs aG), (vb aJ)]) (by kernel_rfl) (Try.isAgg132 _) (Try.sizeOf132 _) rfl (row_hst hv10 hnh hs'))) ?_
   clear hnh
   refine wpX_via (fun ρ wJ => ∃ HJ : Nat → Prop, Hst w0 Hl2 wl2 HJ wJ ∧ HB HJ wJ [] ∧ Has ρ [(0, l1.v), (3, out2.v), (4, (vi a1)), (5, (vi b1)), (6, (vi (s_ref13_against aB aD aA aC aE aH aI aF aG aJ).1)), (7, (vi (s_ref13_against aB aD aA aC aE aH aI aF aG aJ).2))]) ?_ ?_
   ·skip
    refine lgo (k := 8) (by kernel_rfl) ?_
    refine sl_call Kp8 (want0 rfl) (by kernel_rfl) (xc Try.call83) ((p_ref13_against aB aD aA aC aE aH aI aF aG aJ w1).mono ?_)
    rintro e w4 ⟨he, hE⟩
    replace hs := hs.pure hE
    replace hb := hb.pure hE
    refine ⟨(.tuple #[(vi (s_ref13_against aB aD aA aC aE aH aI aF aG aJ).1), (vi (s_ref13_against aB aD aA aC aE aH aI aF aG aJ).2)]), he.trans (by kernel_rfl), .inr ⟨_, hs, hb⟩, ?_⟩
    clear hE he
    refine qx 9 (.tuple #[(vi (s_ref13_against aB aD aA aC aE aH aI aF aG aJ).1), (vi (s_ref13_against aB aD aA aC aE aH aI aF aG aJ).2)]) Kp9 (qx 10 (vi (s_ref13_against aB aD aA aC aE aH aI aF aG aJ).1) (pickA (S8 (pickS (pickS pickZ)))) (qx 11 (vi (s_ref13_against aB aD aA aC aE aH aI aF aG aJ).2) (pickA (S8 (pickS (pickS (pickS pickZ))))) (qx 12 (vi (s_ref13_against aB aD aA aC aE aH aI aF aG aJ).1) (pickA (S8 (S4 pickZ))) (qx 13 (vi (s_ref13_against aB aD aA aC aE aH aI aF aG aJ).2) (pickA (S8 (S4 (pickS pickZ)))) (wpX_nil (by kernel_rfl) ?_)))))
    exact ⟨_, hs, hb, Has.mk (by kernel_rfl)⟩
   ·clear hs hb
    rintro ρ w3 ⟨H1, hs, hb, hH⟩
    refine q_has hH ?_
    clear hH
    refine th_n (wpE_seq (rg (q0 (vi (s_ref13_against aB aD aA aC aE aH aI aF aG aJ).1) (q0 l1.v (q0 (vi a1) ?_)))))
    obtain ⟨a4, hv9, h⟩ := h
    refine q2 (vp (some a4)) (x_indexAddr (s := l1) (k := .i64) (i := a1) (by kernel_rfl) (by kernel_rfl) (Try.runUnderlying27 _) (Try.sizeOf132 _) hv9) (q0 (vp (some (a4.add 2))) ?_)
    replace h := h H1 w3 hs
    replace hs := hs.here
    obtain ⟨v1, hv8, h⟩ := h
    refine q2 (vu v1) (xl (Try.isAgg38 _) hv8) (q0 (vi (s_ref13_against aB aD aA aC aE aH aI aF aG aJ).2) (q0 (vi a1) (q0 (vi b1) (q0 (.agg #[(vi (s_ref13_against aB aD aA aC aE aH aI aF aG aJ).1), (vu v1), (vi (s_ref13_against aB aD aA aC aE aH aI aF aG aJ).2), (vi a1), (vi b1)]) (sn (O := (.cells #[(vi 0), (vu 0), (vi 0), (vi 0), (vi 0)] 134)) (x_alloc (Try.zeroValue134 _) rfl) ?_)))))
    intro p1 w5 hn1
    obtain ⟨H2, hs, hb⟩ := hs.alloc hb hn1
    refine st_set (want0 rfl) (x_storeA (a := p1) (vs := [(vi (s_ref13_against aB aD aA aC aE aH aI aF aG aJ).1), (vu v1), (vi (s_ref13_against aB aD aA aC aE aH aI aF aG aJ).2), (vi a1), (vi b1)]) (by kernel_rfl) (by kernel_rfl) rfl (Try.sizeOf134 _) rfl (hb.canWs0 0 5 gZ (by kernel_rfl))) ?_
    intro w6 hn2
    have hsb : Hst w0 H1 w3 H2 w6 ∧ HB H2 w6 [(p1, [(vi (s_ref13_against aB aD aA aC aE aH aI aF aG aJ).1), (vu v1), (vi (s_ref13_against aB aD aA aC aE aH aI aF aG aJ).2), (vi a1), (vi b1)], 134)] := by
     rw [hn2]
     exact hb.store0 (i := 0) (vs := [(vi (s_ref13_against aB aD aA aC aE aH aI aF aG aJ).1), (vu v1), (vi (s_ref13_against aB aD aA aC aE aH aI aF aG aJ).2), (vi a1), (vi b1)]) hs gZ (by kernel_rfl) (by kernel_rfl)
    clear hs hb hn2
    obtain ⟨hs, hb⟩ := hsb
    refine wpL_nil (th_n (wpE_seq (rg (q0 (vi (s_ref13_against aB aD aA aC aE aH aI aF aG aJ).2) (q0 (vb (((s_ref13_against aB aD aA aC aE aH aI aF aG aJ).2 : Int) == 0)) (q0 (vb (((s_ref13_against aB aD aA aC aE aH aI aF aG aJ).2 : Int) == 0)) (wpL_nil (th_n (wpE_seq (wpE_seq (rg ?_)))))))))))
    refine q0 (vi 0) (wpL_nil (th_n (wpE_block ?_)))
    replace h := h H2 w6 hs
    replace hs := hs.here
    obtain ⟨I3, mu3, h0, hr⟩ := h
    refine wpE_loop (σ := Bool × Int × (Nat → Prop) × World) (fun s ρ w => w = s.2.2.2 ∧ Has ρ [(0, l1.v), (3, out2.v), (4, (vi a1)), (5, (vi b1)), (8, (vp (some p1))), (9, (vb s.1)), (10, (vi s.2.1))] ∧ Hst w0 s.2.2.1 w s.2.2.1 w ∧ HB s.2.2.1 w [(p1, [(vi (s_ref13_against aB aD aA aC aE aH aI aF aG aJ).1), (vu v1), (vi (s_ref13_against aB aD aA aC aE aH aI aF aG aJ).2), (vi a1), (vi b1)], 134)] ∧ I3 s.1 s.2.1 s.2.2.1 s.2.2.2) (fun s => mu3 s.1 s.2.1 s.2.2.2) ((((s_ref13_against aB aD aA aC aE aH aI aF aG aJ).2 : Int) == 0), 0, H2, w6) ⟨rfl, Has.mk (by kernel_rfl), hs, hb, h0⟩ ?_
    clear hs hb
    rintro ⟨there1, i1, Hl3, wl3⟩ ρ w ⟨hw, hH, hs, hb, hI⟩
    obtain rfl : wl3 = w := (show w = wl3 from hw).symm
    replace hH : Has ρ [(0, l1.v), (3, out2.v), (4, (vi a1)), (5, (vi b1)), (8, (vp (some p1))), (9, (vb there1)), (10, (vi i1))] := hH
    replace hs : Hst w0 Hl3 wl3 Hl3 wl3 := hs
    replace hb : HB Hl3 wl3 [(p1, [(vi (s_ref13_against aB aD aA aC aE aH aI aF aG aJ).1), (vu v1), (vi (s_ref13_against aB aD aA aC aE aH aI aF aG aJ).2), (vi a1), (vi b1)], 134)] := hb
    have h := hr there1 i1 Hl3 wl3 hs hI
    clear hr h0
    unfold m_ref13_Faults_l3 at h
    refine wpE_has hH ?_
    clear hH hI
    refine wpE_seq (wpE_seq (rg (q0 (vi i1) (q0 out2.v (q0 (vi (out2.len : Int)) (q0 (vb (decide (i1 < (out2.len : Int)))) (wpL_nil (th_n ?_))))))))
    refine wpE_cond (t := (decide (i1 < (out2.len : Int)))) (by kernel_rfl) (fun hc3 => ?_) (fun hc3 => ?_)
    ·replace h := h.1 hc3
     refine wpE_skip (th_n (wpE_seq (wpE_block (wpE_drawnQ (by kernel_rfl) (by kernel_rfl) (by kernel_rfl) (by kernel_rfl) ?_))))
     intro w7 hw7
     replace hs : Hst w0 Hl3 wl3 Hl3 w7 := by rw [hw7]; exact hs.drew
     replace hb : HB Hl3 w7 [(p1, [(vi (s_ref13_against aB aD aA aC aE aH aI aF aG aJ).1), (vu v1), (vi (s_ref13_against aB aD aA aC aE aH aI aF aG aJ).2), (vi a1), (vi b1)], 134)] := by rw [hw7]; exact hb.drew
     clear hw7
     refine qq 0 (vb there1) Kp0 (qq 1 (vb there1) Kp1 (qgo (k := 2) (by kernel_rfl) ?_))
     rcases Bool.eq_false_or_eq_true there1 with hg1 | hg1
     ·replace h := h.1 hg1
      refine sx_not Kp2 (unwant rfl (yD 56 hg1) rfl) (qn 3 Kp3 (unwant rfl (yD 56 hg1) rfl) (qn 4 Kp4 (unwant rfl (yD 56 hg1) rfl) (qn 5 Kp5 (unwant rfl (yD 56 hg1) rfl) (qn 6 Kp6 (unwant rfl (yD 56 hg1) rfl) (qn 7 Kp7 (unwant rfl (yD 56 hg1) rfl) (qn 8 Kp8 (unwant rfl (yD 56 hg1) rfl) (qn 9 Kp9 (unwant rfl (yD 56 hg1) rfl) (qn 10 (pickA (S8 (pickS (pickS pickZ)))) (unwant rfl (yD 56 hg1) rfl) (qn 11 (pickA (S8 (pickS (pickS (pickS pickZ))))) (by kernel_rfl) (qn 12 (pickA (S8 (S4 pickZ))) (by kernel_rfl) (qn 13 (pickA (S8 (S4 (pickS pickZ)))) (by kernel_rfl) ?_)))))))))))
      refine qn 14 (pickA (S8 (S4 (pickS (pickS pickZ))))) (by kernel_rfl) (qn 15 (pickA (S8 (S4 (pickS (pickS (pickS pickZ)))))) (by kernel_rfl) (qn 16 (pickA (S8 (S8 pickZ))) (by kernel_rfl) (qn 17 (pickA (S8 (S8 (pickS pickZ)))) (by kernel_rfl) (qn 18 (pickA (S8 (S8 (pickS (pickS pickZ))))) (by kernel_rfl) (qn 19 (pickA (S8 (S8 (pickS (pickS (pickS pickZ)))))) (unwant rfl (yD 56 hg1) rfl) (qn 20 (pickA (S8 (S8 (S4 pickZ)))) (unwant rfl (yD 56 hg1) rfl) (qn 21 (pickA (S8 (S8 (S4 (pickS pickZ))))) (by kernel_rfl) (qn 22 (pickA (S8 (S8 (S4 (pickS (pickS pickZ)))))) (by kernel_rfl) (qn 23 (pickA (S8 (S8 (S4 (pickS (pickS (pickS pickZ))))))) (by kernel_rfl) (qn 24 (pickA (S8 (S8 (S8 pickZ)))) (by kernel_rfl) (qn 25 (pickA (S8 (S8 (S8 (pickS pickZ))))) (by kernel_rfl) ?_)))))))))))
      refine qn 26 (pickA (S8 (S8 (S8 (pickS (pickS pickZ)))))) (by kernel_rfl) (qn 27 (pickA (S8 (S8 (S8 (pickS (pickS (pickS pickZ))))))) (by kernel_rfl) (qn 28 (pickA (S8 (S8 (S8 (S4 pickZ))))) (by kernel_rfl) (qn 29 (pickA (S8 (S8 (S8 (S4 (pickS pickZ)))))) (unwant rfl (yD 56 hg1) rfl) (qr 30 (vb true) (pickA (S8 (S8 (S8 (S4 (pickS (pickS pickZ))))))) (xT hg1) (qq 31 (vb true) (pickA (S8 (S8 (S8 (S4 (pickS (pickS (pickS pickZ)))))))) (wpX_nil (by kernel_rfl) (bl_n (th_n (rg (q0 (vi i1) (q0 (vi (IntKind.i64.wrap (i1 + 1))) ?_)))))))))))
      refine q0 (vi (IntKind.i64.wrap (i1 + 1))) (wpL_nil ?_)
      replace h := h w7 hs
      replace hs := hs.here
      refine th_n ?_
      exact ⟨(true, (IntKind.i64.wrap (i1 + 1)), Hl3, w7), ⟨rfl, Has.mk (by kernel_rfl), hs, hb, h.1⟩, h.2⟩
     ·replace h := h.2 hg1
      refine sxQ (v := out2.v) Kp2 (want1 rfl (yD 56 hg1)) rfl (by kernel_rfl) (qgo (k := 3) (by kernel_rfl) (sxQ (v := (vi i1)) Kp3 (want1 rfl (yD 56 hg1)) rfl (by kernel_rfl) (qgo (k := 4) (by kernel_rfl) ?_)))
      obtain ⟨a5, hv6, h⟩ := h
      refine sxQ (v := (vp (some a5))) Kp4 (want1 rfl (yD 56 hg1)) rfl (x_indexAddr (s := out2) (k := .i64) (i := i1) (by kernel_rfl) (by kernel_rfl) (Try.runUnderlying35 _) (Try.sizeOf134 _) hv6) (qgo (k := 5) (by kernel_rfl) (sxQ (v := (vp (some a5))) Kp5 (want1 rfl (yD 56 hg1)) rfl (by kernel_rfl) (qgo (k := 6) (by kernel_rfl) ?_)))
      replace h := h w7 hs
      replace hs := hs.here
      obtain ⟨v2, hv5, h⟩ := h
      refine sxQ (v := (vi v2)) Kp6 (want1 rfl (yD 56 hg1)) rfl (xl (Try.isAgg3 _) hv5) (qgo (k := 7) (by kernel_rfl) (sxQ (v := (vp (some p1))) Kp7 (want1 rfl (yD 56 hg1)) rfl (by kernel_rfl) (qgo (k := 8) (by kernel_rfl) (sxQ (v := (vi (s_ref13_against aB aD aA aC aE aH aI aF aG aJ).1)) Kp8 (want1 rfl (yD 56 hg1)) rfl (xl (Try.isAgg3 _) (hb.c0 0 gZ)) (qgo (k := 9) (by kernel_rfl) (sxQ (v := (vb (v2 == (s_ref13_against aB aD aA aC aE aH aI aF aG aJ).1))) Kp9 (want1 rfl (yD 56 hg1)) rfl (by kernel_rfl) (qgo (k := 10) (by kernel_rfl) (sxQ (v := (vb (v2 == (s_ref13_against aB aD aA aC aE aH aI aF aG aJ).1))) (pickA (S8 (pickS (pickS pickZ)))) (want1 rfl (yD 56 hg1)) rfl (by kernel_rfl) (qgo (k := 11) (by kernel_rfl) ?_)))))))))
      rcases Bool.eq_false_or_eq_true (v2 == (s_ref13_against aB aD aA aC aE aH aI aF aG aJ).1) with hg2 | hg2
      ·replace h := h.1 hg2
       refine sxQ (v := out2.v) (pickA (S8 (pickS (pickS (pickS pickZ))))) (want1 rfl (yD 65 hg2)) rfl (by kernel_rfl) (qgo (k := 12) (by kernel_rfl) (sxQ (v := (vi i1)) (pickA (S8 (S4 pickZ))) (want1 rfl (yD 65 hg2)) rfl (by kernel_rfl) (qgo (k := 13) (by kernel_rfl) ?_)))
       obtain ⟨a6, hv4, h⟩ := h
       refine sxQ (v := (vp (some a6))) (pickA (S8 (S4 (pickS pickZ)))) (want1 rfl (yD 65 hg2)) rfl (x_indexAddr (s := out2) (k := .i64) (i := i1) (by kernel_rfl) (by kernel_rfl) (Try.runUnderlying35 _) (Try.sizeOf134 _) hv4) (qgo (k := 14) (by kernel_rfl) (sxQ (v := (vp (some (a6.add 1)))) (pickA (S8 (S4 (pickS (pickS pickZ))))) (want1 rfl (yD 65 hg2)) rfl (by kernel_rfl) (qgo (k := 15) (by kernel_rfl) ?_)))
       obtain ⟨v3, hv3, h⟩ := h
       refine sxQ (v := (vu v3)) (pickA (S8 (S4 (pickS (pickS (pickS pickZ)))))) (want1 rfl (yD 65 hg2)) rfl (xl (Try.isAgg38 _) hv3) (qgo (k := 16) (by kernel_rfl) (sxQ (v := (vp (some (p1.add 1)))) (pickA (S8 (S8 pickZ))) (want1 rfl (yD 65 hg2)) rfl (by kernel_rfl) (qgo (k := 17) (by kernel_rfl) (sxQ (v := (vu v1)) (pickA (S8 (S8 (pickS pickZ)))) (want1 rfl (yD 65 hg2)) rfl (xl (Try.isAgg38 _) (hb.c 0 1 gZ)) (qgo (k := 18) (by kernel_rfl) (sxQ (v := (vb (v3 == v1))) (pickA (S8 (S8 (pickS (pickS pickZ))))) (want1 rfl (yD 65 hg2)) rfl (by kernel_rfl) (qgo (k := 19) (by kernel_rfl) (sxQ (v := (vb (v3 == v1))) (pickA (S8 (S8 (pickS (pickS (pickS pickZ)))))) (want1 rfl (yD 56 hg1)) rfl (xT hg2) (qgo (k := 20) (by kernel_rfl) (sxQ (v := (vb (v3 == v1))) (pickA (S8 (S8 (S4 pickZ)))) (want1 rfl (yD 56 hg1)) rfl (by kernel_rfl) (qgo (k := 21) (by kernel_rfl) ?_)))))))))))
       rcases Bool.eq_false_or_eq_true (v3 == v1) with hg3 | hg3
       ·replace h := h.1 hg3
        refine sxQ (v := out2.v) (pickA (S8 (S8 (S4 (pickS pickZ))))) (want1 rfl (yD 75 hg3)) rfl (by kernel_rfl) (qgo (k := 22) (by kernel_rfl) (sxQ (v := (vi i1)) (pickA (S8 (S8 (S4 (pickS (pickS pickZ)))))) (want1 rfl (yD 75 hg3)) rfl (by kernel_rfl) (qgo (k := 23) (by kernel_rfl) ?_)))
        obtain ⟨a7, hv2, h⟩ := h
        refine sxQ (v := (vp (some a7))) (pickA (S8 (S8 (S4 (pickS (pickS (pickS pickZ))))))) (want1 rfl (yD 75 hg3)) rfl (x_indexAddr (s := out2) (k := .i64) (i := i1) (by kernel_rfl) (by kernel_rfl) (Try.runUnderlying35 _) (Try.sizeOf134 _) hv2) (qgo (k := 24) (by kernel_rfl) (sxQ (v := (vp (some (a7.add 2)))) (pickA (S8 (S8 (S8 pickZ)))) (want1 rfl (yD 75 hg3)) rfl (by kernel_rfl) (qgo (k := 25) (by kernel_rfl) ?_)))
        obtain ⟨v4, hv1, h⟩ := h
        refine sxQ (v := (vi v4)) (pickA (S8 (S8 (S8 (pickS pickZ))))) (want1 rfl (yD 75 hg3)) rfl (xl (Try.isAgg3 _) hv1) (qgo (k := 26) (by kernel_rfl) (sxQ (v := (vp (some (p1.add 2)))) (pickA (S8 (S8 (S8 (pickS (pickS pickZ)))))) (want1 rfl (yD 75 hg3)) rfl (by kernel_rfl) (qgo (k := 27) (by kernel_rfl) (sxQ (v := (vi (s_ref13_against aB aD aA aC aE aH aI aF aG aJ).2)) (pickA (S8 (S8 (S8 (pickS (pickS (pickS pickZ))))))) (want1 rfl (yD 75 hg3)) rfl (xl (Try.isAgg3 _) (hb.c 0 2 gZ)) (qgo (k := 28) (by kernel_rfl) (sxQ (v := (vb (v4 == (s_ref13_against aB aD aA aC aE aH aI aF aG aJ).2))) (pickA (S8 (S8 (S8 (S4 pickZ))))) (want1 rfl (yD 75 hg3)) rfl (by kernel_rfl) (qgo (k := 29) (by kernel_rfl) (sxQ (v := (vb (v4 == (s_ref13_against aB aD aA aC aE aH aI aF aG aJ).2))) (pickA (S8 (S8 (S8 (S4 (pickS pickZ)))))) (want1 rfl (yD 56 hg1)) rfl (xT hg3) (qr 30 (vb (v4 == (s_ref13_against aB aD aA aC aE aH aI aF aG aJ).2)) (pickA (S8 (S8 (S8 (S4 (pickS (pickS pickZ))))))) (xF hg1) (qq 31 (vb (v4 == (s_ref13_against aB aD aA aC aE aH aI aF aG aJ).2)) (pickA (S8 (S8 (S8 (S4 (pickS (pickS (pickS pickZ)))))))) (wpX_nil (by kernel_rfl) ?_)))))))))))
        refine bl_n (th_n (rg (q0 (vi i1) (q0 (vi (IntKind.i64.wrap (i1 + 1))) (q0 (vi (IntKind.i64.wrap (i1 + 1))) (wpL_nil (th_n ?_)))))))
        exact ⟨((v4 == (s_ref13_against aB aD aA aC aE aH aI aF aG aJ).2), (IntKind.i64.wrap (i1 + 1)), Hl3, w7), ⟨rfl, Has.mk (by kernel_rfl), hs, hb, h.1⟩, h.2⟩
       ·replace h := h.2 hg3
        refine sx_not (pickA (S8 (S8 (S4 (pickS pickZ))))) (unwant rfl (yD 75 hg3) rfl) (qn 22 (pickA (S8 (S8 (S4 (pickS (pickS pickZ)))))) (unwant rfl (yD 75 hg3) rfl) (qn 23 (pickA (S8 (S8 (S4 (pickS (pickS (pickS pickZ))))))) (unwant rfl (yD 75 hg3) rfl) (qn 24 (pickA (S8 (S8 (S8 pickZ)))) (unwant rfl (yD 75 hg3) rfl) (qn 25 (pickA (S8 (S8 (S8 (pickS pickZ))))) (unwant rfl (yD 75 hg3) rfl) (qn 26 (pickA (S8 (S8 (S8 (pickS (pickS pickZ)))))) (unwant rfl (yD 75 hg3) rfl) (qn 27 (pickA (S8 (S8 (S8 (pickS (pickS (pickS pickZ))))))) (unwant rfl (yD 75 hg3) rfl) (qn 28 (pickA (S8 (S8 (S8 (S4 pickZ))))) (unwant rfl (yD 75 hg3) rfl) (qgo (k := 29) (by kernel_rfl) (sxQ (v := (vb false)) (pickA (S8 (S8 (S8 (S4 (pickS pickZ)))))) (want1 rfl (yD 56 hg1)) rfl (xF hg3) (qr 30 (vb false) (pickA (S8 (S8 (S8 (S4 (pickS (pickS pickZ))))))) (xF hg1) (qq 31 (vb false) (pickA (S8 (S8 (S8 (S4 (pickS (pickS (pickS pickZ)))))))) ?_)))))))))))
        refine wpX_nil (by kernel_rfl) (bl_n (th_n (rg (q0 (vi i1) (q0 (vi (IntKind.i64.wrap (i1 + 1))) (q0 (vi (IntKind.i64.wrap (i1 + 1))) (wpL_nil (th_n ?_))))))))
        exact ⟨(false, (IntKind.i64.wrap (i1 + 1)), Hl3, w7), ⟨rfl, Has.mk (by kernel_rfl), hs, hb, h.1⟩, h.2⟩
      ·replace h := h.2 hg2
       refine sx_not (pickA (S8 (pickS (pickS (pickS pickZ))))) (unwant rfl (yD 65 hg2) rfl) (qn 12 (pickA (S8 (S4 pickZ))) (unwant rfl (yD 65 hg2) rfl) (qn 13 (pickA (S8 (S4 (pickS pickZ)))) (unwant rfl (yD 65 hg2) rfl) (qn 14 (pickA (S8 (S4 (pickS (pickS pickZ))))) (unwant rfl (yD 65 hg2) rfl) (qn 15 (pickA (S8 (S4 (pickS (pickS (pickS pickZ)))))) (unwant rfl (yD 65 hg2) rfl) (qn 16 (pickA (S8 (S8 pickZ))) (unwant rfl (yD 65 hg2) rfl) (qn 17 (pickA (S8 (S8 (pickS pickZ)))) (unwant rfl (yD 65 hg2) rfl) (qn 18 (pickA (S8 (S8 (pickS (pickS pickZ))))) (unwant rfl (yD 65 hg2) rfl) (qgo (k := 19) (by kernel_rfl) (sxQ (v := (vb false)) (pickA (S8 (S8 (pickS (pickS (pickS pickZ)))))) (want1 rfl (yD 56 hg1)) rfl (xF hg2) (qgo (k := 20) (by kernel_rfl) (sxQ (v := (vb false)) (pickA (S8 (S8 (S4 pickZ)))) (want1 rfl (yD 56 hg1)) rfl (by kernel_rfl) ?_)))))))))))
       refine qn 21 (pickA (S8 (S8 (S4 (pickS pickZ))))) (unwant rfl (yD (c := false) 75 rfl) rfl) (qn 22 (pickA (S8 (S8 (S4 (pickS (pickS pickZ)))))) (unwant rfl (yD (c := false) 75 rfl) rfl) (qn 23 (pickA (S8 (S8 (S4 (pickS (pickS (pickS pickZ))))))) (unwant rfl (yD (c := false) 75 rfl) rfl) (qn 24 (pickA (S8 (S8 (S8 pickZ)))) (unwant rfl (yD (c := false) 75 rfl) rfl) (qn 25 (pickA (S8 (S8 (S8 (pickS pickZ))))) (unwant rfl (yD (c := false) 75 rfl) rfl) (qn 26 (pickA (S8 (S8 (S8 (pickS (pickS pickZ)))))) (unwant rfl (yD (c := false) 75 rfl) rfl) (qn 27 (pickA (S8 (S8 (S8 (pickS (pickS (pickS pickZ))))))) (unwant rfl (yD (c := false) 75 rfl) rfl) (qn 28 (pickA (S8 (S8 (S8 (S4 pickZ))))) (unwant rfl (yD (c := false) 75 rfl) rfl) (qgo (k := 29) (by kernel_rfl) (sxQ (v := (vb false)) (pickA (S8 (S8 (S8 (S4 (pickS pickZ)))))) (want1 rfl (yD 56 hg1)) rfl (by kernel_rfl) (qr 30 (vb false) (pickA (S8 (S8 (S8 (S4 (pickS (pickS pickZ))))))) (xF hg1) (qq 31 (vb false) (pickA (S8 (S8 (S8 (S4 (pickS (pickS (pickS pickZ)))))))) ?_)))))))))))
       refine wpX_nil (by kernel_rfl) (bl_n (th_n (rg (q0 (vi i1) (q0 (vi (IntKind.i64.wrap (i1 + 1))) (q0 (vi (IntKind.i64.wrap (i1 + 1))) (wpL_nil (th_n ?_))))))))
       exact ⟨(false, (IntKind.i64.wrap (i1 + 1)), Hl3, w7), ⟨rfl, Has.mk (by kernel_rfl), hs, hb, h.1⟩, h.2⟩
    ·replace h := h.2 hc3
     refine wpE_exit (th_x (th_x (bl_eq (th_n (wpE_seq (rg (q0 (vb there1) (q0 (vb (!there1)) (wpL_nil (th_n ?_))))))))))
     refine wpE_cond (t := (!there1)) (by kernel_rfl) (fun hc4 => ?_) (fun hc4 => ?_)
     ·replace h := h.1 hc4
      refine rg (q0 out2.v (q2 (.agg #[(vi (s_ref13_against aB aD aA aC aE aH aI aF aG aJ).1), (vu v1), (vi (s_ref13_against aB aD aA aC aE aH aI aF aG aJ).2), (vi a1), (vi b1)]) (x_loadA (a := p1) (vs := [(vi (s_ref13_against aB aD aA aC aE aH aI aF aG aJ).1), (vu v1), (vi (s_ref13_against aB aD aA aC aE aH aI aF aG aJ).2), (vi a1), (vi b1)]) (by kernel_rfl) (Try.isAgg134 _) (Try.sizeOf134 _) rfl (hb.row0 0 5 gZ (by kernel_rfl))) (st_new (O := (.cells #[(vi (s_ref13_against aB aD aA aC aE aH aI aF aG aJ).1), (vu v1), (vi (s_ref13_against aB aD aA aC aE aH aI aF aG aJ).2), (vi a1), (vi b1)] 134)) (fun p => (Sl.mk (some p) 1 1).v) (want0 rfl) (x_buildSlice (vs := #[(0, (.agg #[(vi (s_ref13_against aB aD aA aC aE aH aI aF aG aJ).1), (vu v1), (vi (s_ref13_against aB aD aA aC aE aH aI aF aG aJ).2), (vi a1), (vi b1)]))]) (by kernel_rfl) (by kernel_rfl)) ?_)))
      intro p2 w8 hn3
      replace h := h p2 w8 hn3
      replace hs := hs.again (Ext.new (F := None) hn3).keptP
      replace hb := hb.kept (Ext.new (F := None) hn3).keptP
      obtain ⟨s1, w9, hv7, hk, h⟩ := h
      refine st (v := s1.v) (want0 rfl) (x_builtin (args := #[out2.v, (Sl.mk (some p2) 1 1).v]) (by kernel_rfl) (fun _ => rfl) hv7) ?_
      obtain ⟨hs, hb⟩ := hk.hh hs hb
      refine q0 s1.v (wpL_nil (bl_n (th_n (rg (q0 (vi b1) (q0 (vi (IntKind.i64.wrap (b1 + 1))) (q0 (vi (IntKind.i64.wrap (b1 + 1))) (wpL_nil (th_n ?_)))))))))
      exact ⟨(s1, (IntKind.i64.wrap (b1 + 1)), Hl3, w9), ⟨rfl, Has.mk (by kernel_rfl), hs, hb.drop 1, h.1⟩, h.2⟩
     ·replace h := h.2 hc4
      refine wpE_skip (bl_n (th_n (rg (q0 (vi b1) (q0 (vi (IntKind.i64.wrap (b1 + 1))) (q0 (vi (IntKind.i64.wrap (b1 + 1))) (wpL_nil (th_n ?_))))))))
      exact ⟨(out2, (IntKind.i64.wrap (b1 + 1)), Hl3, wl3), ⟨rfl, Has.mk (by kernel_rfl), hs, hb.drop 1, h.1⟩, h.2⟩
  ·replace h := h.2 hc2
   refine wpE_exit (th_x (th_x (bl_eq (bl_n (th_n (rg (q0 (vi a1) (q0 (vi (IntKind.i64.wrap (a1 + 1))) (q0 (vi (IntKind.i64.wrap (a1 + 1))) (wpL_nil (th_n ?_)))))))))))
   exact ⟨(out2, (IntKind.i64.wrap (a1 + 1)), Hl2, wl2), ⟨rfl, Has.mk (by kernel_rfl), hs, hb, h.1⟩, h.2⟩
 ·replace h := h.2 hc1
  refine wpE_exit (th_x (th_x (bl_eq (th_n (wpE_seq (rg (q0 out1.v (q0 out1.v (wpL_nil (th_n (wpE_ret ?_)))))))))))
  refine res1 (.inl rfl) Try.results23 (v := out1.v) (by kernel_rfl) ?_
  exact ⟨out1, rfl, h⟩
def m_arbiter_Judge_l2 (aO aP : Int) (aQ : ByteArray) (x1 : Int) (r2 : Sl) (x2 : Int) (bM : Bool) (bN bO : Int) (w0 : World) (Hl2 : Nat → Prop) (wl2 : World) (Kc1 : Int → Bool → Int → Int → (Nat → Prop) → World → Prop) (Kc2 : Int → Bool → Int → Int → (Nat → Prop) → World → Prop) (K : Bool → Int → Int → World → Prop) : Prop :=
 Br (decide (x2 < (r2.len : Int)))
  (∃ a2 : Addr, At r2 x2 5 a2 ∧
  ∃ aM aF : Int, ∃ aG : ByteArray, ∃ aT aZ : Int, Row wl2 a2 [(vi aM), (vu aF), (vs aG), (vi aT), (vi aZ)] ∧
  Br (((aM == aO) && (aF == aP)) && (decide (aG = aQ)))
   (∀ (H6 : Nat → Prop) (w12 : World), Hst w0 Hl2 wl2 H6 w12 →
   K true aT x1 w12)
   (∀ (H6 : Nat → Prop) (w10 : World), Hst w0 Hl2 wl2 H6 w10 →
   Kc2 (IntKind.i64.wrap (x2 + 1)) bM bN bO H6 w10))
  (Kc1 (IntKind.i64.wrap (x1 + 1)) bM bN bO Hl2 wl2)
def m_arbiter_Judge_l1 (aO aP : Int) (aQ : ByteArray) (r1 : Sl) (x1 : Int) (bG : Bool) (bH bI : Int) (w0 : World) (Hl1 : Nat → Prop) (wl1 : World) (Kc1 : Int → Bool → Int → Int → (Nat → Prop) → World → Prop) (K : Bool → Int → Int → World → Prop) : Prop :=
 Br (decide (x1 < (r1.len : Int)))
  (∃ a1 : Addr, At r1 x1 5 a1 ∧
  ∃ aB aD aA : Int, ∃ aC : ByteArray, ∃ aE : Bool, Row wl1 a1 [(vi aB), (vi aD), (vu aA), (vs aC), (vb aE)] ∧
  ∀ (H3 : Nat → Prop) (w5 : World), Hst w0 Hl1 wl1 H3 w5 →
  Calls Try.prog 80 #[(.agg #[(vi aB), (vi aD), (vu aA), (vs aC), (vb aE)]), (vi x1)] w5 (fun e w6 => ∃ r2 : Sl, e = .returned r2.v ∧ 
   Kept H3 w5 w6 ∧
   ∃ (I2 : Int → Bool → Int → Int → (Nat → Prop) → World → Prop) (mu2 : Int → Bool → Int → Int → World → Nat), I2 0 bG bH bI H3 w6 ∧
    ∀ (x2 : Int) (bM : Bool) (bN bO : Int) (Hl2 : Nat → Prop) (wl2 : World), Hst w0 Hl2 wl2 Hl2 wl2 → I2 x2 bM bN bO Hl2 wl2 → m_arbiter_Judge_l2 aO aP aQ x1 r2 x2 bM bN bO w0 Hl2 wl2 Kc1 (fun y'0 y'1 y'2 y'3 H' w' => I2 y'0 y'1 y'2 y'3 H' w' ∧ mu2 y'0 y'1 y'2 y'3 w' < mu2 x2 bM bN bO wl2) K))
  (∀ (w13 : World), Hst w0 Hl1 wl1 Hl1 w13 →
  K false 0 (-1) w13)
def m_arbiter_Judge (p1 : Option Addr) (shown1 : Sl) (aO aP : Int) (aQ : ByteArray) (w0 : World) (K : Bool → Int → Int → World → Prop) : Prop :=
 ∀ (H2 : Nat → Prop) (w2 : World), Hst w0 None w0 H2 w2 →
 Calls Try.prog 79 #[(vp p1), shown1.v] w2 (fun e w3 => ∃ r1 : Sl, e = .returned r1.v ∧ 
  Kept H2 w2 w3 ∧
  ∃ (I1 : Int → Bool → Int → Int → (Nat → Prop) → World → Prop) (mu1 : Int → Bool → Int → Int → World → Nat), I1 0 false 0 0 H2 w3 ∧
   ∀ (x1 : Int) (bG : Bool) (bH bI : Int) (Hl1 : Nat → Prop) (wl1 : World), Hst w0 Hl1 wl1 Hl1 wl1 → I1 x1 bG bH bI Hl1 wl1 → m_arbiter_Judge_l1 aO aP aQ r1 x1 bG bH bI w0 Hl1 wl1 (fun y'0 y'1 y'2 y'3 H' w' => I1 y'0 y'1 y'2 y'3 H' w' ∧ mu1 y'0 y'1 y'2 y'3 w' < mu1 x1 bG bH bI wl1) K)
theorem w_arbiter_Judge (p1 : Option Addr) (shown1 : Sl) (aO aP : Int) (aQ : ByteArray) (w0 : World) (K : Bool → Int → Int → World → Prop) (h : m_arbiter_Judge p1 shown1 aO aP aQ w0 K) :
  Calls Try.prog 24 #[(vp p1), shown1.v, (.agg #[(vi aO), (vu aP), (vs aQ)])] w0 (fun e w' => ∃ aY : Bool, ∃ bK bL : Int, e = .returned (.agg #[(vb aY), (vi bK), (vi bL)]) ∧ K aY bK bL w') := by
 unfold m_arbiter_Judge at h
 refine calls_of_wpE (args := [(vp p1), shown1.v, (.agg #[(vi aO), (vu aP), (vs aQ)])]) Try.func24 rfl Try.ntmps24 (Nat.le_of_ble_eq_true rfl) ?_
 have hs := Hst.start w0
 have hb := HB.nil None w0
 refine wpE_seq (rg (sn (O := (.cells #[(vi aO), (vu aP), (vs aQ)] 40)) xb ?_))
 intro p2 w1 hn1
 obtain ⟨H1, hs, hb⟩ := hs.alloc hb hn1
 refine sn (O := (.cells #[(vb false), (vi 0), (vi 0)] 43)) (x_alloc (Try.zeroValue43 _) rfl) ?_
 intro p3 w2 hn2
 obtain ⟨H2, hs, hb⟩ := hs.alloc hb hn2
 refine wpL_nil (th_n (wpE_seq (wpE_seq (rg (q0 (vp p1) (q0 shown1.v ?_))))))
 replace h := h H2 w2 hs
 replace hs := hs.here
 refine st_call (want0 rfl) (xc Try.call79) (h.mono ?_)
 rintro e w3 ⟨r1, rfl, hk, h⟩
 refine ⟨_, rfl, ?_⟩
 obtain ⟨hs, hb⟩ := hk.hh hs hb
 refine q0 (vi (r1.len : Int)) (q0 (vi 0) (wpL_nil (th_n (wpE_block ?_))))
 obtain ⟨I1, mu1, h0, hr⟩ := h
 refine wpE_loop (σ := Int × Bool × Int × Int × (Nat → Prop) × World) (fun s ρ w => w = s.2.2.2.2.2 ∧ Has ρ [(5, (vp (some p2))), (6, (vp (some p3))), (13, r1.v), (14, (vi (r1.len : Int))), (15, (vi s.1))] ∧ Hst w0 s.2.2.2.2.1 w s.2.2.2.2.1 w ∧ HB s.2.2.2.2.1 w [(p3, [(vb s.2.1), (vi s.2.2.1), (vi s.2.2.2.1)], 43), (p2, [(vi aO), (vu aP), (vs aQ)], 40)] ∧ I1 s.1 s.2.1 s.2.2.1 s.2.2.2.1 s.2.2.2.2.1 s.2.2.2.2.2) (fun s => mu1 s.1 s.2.1 s.2.2.1 s.2.2.2.1 s.2.2.2.2.2) (0, false, 0, 0, H2, w3) ⟨rfl, Has.mk (by kernel_rfl), hs, hb, h0⟩ ?_
 clear hs hb
 rintro ⟨x1, bG, bH, bI, Hl1, wl1⟩ ρ w ⟨hw, hH, hs, hb, hI⟩
 obtain rfl : wl1 = w := (show w = wl1 from hw).symm
 replace hH : Has ρ [(5, (vp (some p2))), (6, (vp (some p3))), (13, r1.v), (14, (vi (r1.len : Int))), (15, (vi x1))] := hH
 replace hs : Hst w0 Hl1 wl1 Hl1 wl1 := hs
 replace hb : HB Hl1 wl1 [(p3, [(vb bG), (vi bH), (vi bI)], 43), (p2, [(vi aO), (vu aP), (vs aQ)], 40)] := hb
 have h := hr x1 bG bH bI Hl1 wl1 hs hI
 clear hr h0
 unfold m_arbiter_Judge_l1 at h
 refine wpE_has hH ?_
 clear hH hI
 refine wpE_seq (rg (q0 (vb (decide (x1 < (r1.len : Int)))) (wpL_nil (th_n (wpE_seq ?_)))))
 refine wpE_cond (t := (decide (x1 < (r1.len : Int)))) (by kernel_rfl) (fun hc1 => ?_) (fun hc1 => ?_)
 ·replace h := h.1 hc1
  refine wpE_skip (th_n (wpE_seq (wpE_block (wpE_seq (rg (q0 (vi x1) ?_))))))
  obtain ⟨a1, hv4, h⟩ := h
  refine q2 (vp (some a1)) (x_indexAddr (s := r1) (k := .i64) (i := x1) (by kernel_rfl) (by kernel_rfl) (Try.runUnderlying27 _) (Try.sizeOf132 _) hv4) ?_
  obtain ⟨aB, aD, aA, aC, aE, hv3, h⟩ := h
  refine q2 (.agg #[(vi aB), (vi aD), (vu aA), (vs aC), (vb aE)]) (x_loadA (a := a1) (vs := [(vi aB), (vi aD), (vu aA), (vs aC), (vb aE)]) (by kernel_rfl) (Try.isAgg132 _) (Try.sizeOf132 _) rfl hv3) (sn (O := (.cells #[(vi 0), (vi 0), (vu 0), (vs ⟨#[]⟩), (vb false)] 132)) (x_alloc (Try.zeroValue132 _) rfl) ?_)
  intro p4 w4 hn3
  obtain ⟨H3, hs, hb⟩ := hs.alloc hb hn3
  refine q0 (vi x1) (st_set (want0 rfl) (x_storeA (a := p4) (vs := [(vi aB), (vi aD), (vu aA), (vs aC), (vb aE)]) (by kernel_rfl) (by kernel_rfl) rfl (Try.sizeOf132 _) rfl (hb.canWs0 0 5 gZ (by kernel_rfl))) ?_)
  intro w5 hn4
  have hsb : Hst w0 Hl1 wl1 H3 w5 ∧ HB H3 w5 [(p4, [(vi aB), (vi aD), (vu aA), (vs aC), (vb aE)], 132), (p3, [(vb bG), (vi bH), (vi bI)], 43), (p2, [(vi aO), (vu aP), (vs aQ)], 40)] := by
   rw [hn4]
   exact hb.store0 (i := 0) (vs := [(vi aB), (vi aD), (vu aA), (vs aC), (vb aE)]) hs gZ (by kernel_rfl) (by kernel_rfl)
  clear hs hb hn4
  obtain ⟨hs, hb⟩ := hsb
  refine wpL_nil (th_n (wpE_seq (rg (q2 (.agg #[(vi aB), (vi aD), (vu aA), (vs aC), (vb aE)]) (x_loadA (a := p4) (vs := [(vi aB), (vi aD), (vu aA), (vs aC), (vb aE)]) (by kernel_rfl) (Try.isAgg132 _) (Try.sizeOf132 _) rfl (hb.row0 0 5 gZ (by kernel_rfl))) (q0 (vi x1) ?_)))))
  replace h := h H3 w5 hs
  replace hs := hs.here
  refine st_call (want0 rfl) (xc Try.call80) (h.mono ?_)
  rintro e w6 ⟨r2, rfl, hk, h⟩
  refine ⟨_, rfl, ?_⟩
  obtain ⟨hs, hb⟩ := hk.hh hs hb
  refine q0 (vi (r2.len : Int)) (q0 (vi 0) (wpL_nil (th_n (wpE_block ?_))))
  obtain ⟨I2, mu2, h0, hr⟩ := h
  refine wpE_loop (σ := Int × Bool × Int × Int × (Nat → Prop) × World) (fun s ρ w => w = s.2.2.2.2.2 ∧ Has ρ [(5, (vp (some p2))), (6, (vp (some p3))), (7, (vi x1)), (13, r1.v), (14, (vi (r1.len : Int))), (15, (vi x1)), (22, r2.v), (23, (vi (r2.len : Int))), (24, (vi s.1))] ∧ Hst w0 s.2.2.2.2.1 w s.2.2.2.2.1 w ∧ HB s.2.2.2.2.1 w [(p4, [(vi aB), (vi aD), (vu aA), (vs aC), (vb aE)], 132), (p3, [(vb s.2.1), (vi s.2.2.1), (vi s.2.2.2.1)], 43), (p2, [(vi aO), (vu aP), (vs aQ)], 40)] ∧ I2 s.1 s.2.1 s.2.2.1 s.2.2.2.1 s.2.2.2.2.1 s.2.2.2.2.2) (fun s => mu2 s.1 s.2.1 s.2.2.1 s.2.2.2.1 s.2.2.2.2.2) (0, bG, bH, bI, H3, w6) ⟨rfl, Has.mk (by kernel_rfl), hs, hb, h0⟩ ?_
  clear hs hb
  rintro ⟨x2, bM, bN, bO, Hl2, wl2⟩ ρ w ⟨hw, hH, hs, hb, hI⟩
  obtain rfl : wl2 = w := (show w = wl2 from hw).symm
  replace hH : Has ρ [(5, (vp (some p2))), (6, (vp (some p3))), (7, (vi x1)), (13, r1.v), (14, (vi (r1.len : Int))), (15, (vi x1)), (22, r2.v), (23, (vi (r2.len : Int))), (24, (vi x2))] := hH
  replace hs : Hst w0 Hl2 wl2 Hl2 wl2 := hs
  replace hb : HB Hl2 wl2 [(p4, [(vi aB), (vi aD), (vu aA), (vs aC), (vb aE)], 132), (p3, [(vb bM), (vi bN), (vi bO)], 43), (p2, [(vi aO), (vu aP), (vs aQ)], 40)] := hb
  have h := hr x2 bM bN bO Hl2 wl2 hs hI
  clear hr h0
  unfold m_arbiter_Judge_l2 at h
  refine wpE_has hH ?_
  clear hH hI
  refine wpE_seq (rg (q0 (vb (decide (x2 < (r2.len : Int)))) (wpL_nil (th_n (wpE_seq ?_)))))
  refine wpE_cond (t := (decide (x2 < (r2.len : Int)))) (by kernel_rfl) (fun hc2 => ?_) (fun hc2 => ?_)
  ·replace h := h.1 hc2
   refine wpE_skip (th_n (wpE_seq (wpE_block (wpE_seq (rg ?_)))))
   obtain ⟨a2, hv2, h⟩ := h
   refine q2 (vp (some a2)) (x_indexAddr (s := r2) (k := .i64) (i := x2) (by kernel_rfl) (by kernel_rfl) (Try.runUnderlying31 _) (Try.sizeOf46 _) hv2) ?_
   obtain ⟨aM, aF, aG, aT, aZ, hv1, h⟩ := h
   refine q2 (.agg #[(vi aM), (vu aF), (vs aG), (vi aT), (vi aZ)]) (x_loadA (a := a2) (vs := [(vi aM), (vu aF), (vs aG), (vi aT), (vi aZ)]) (by kernel_rfl) (Try.isAgg46 _) (Try.sizeOf46 _) rfl hv1) (sn (O := (.cells #[(vi 0), (vu 0), (vs ⟨#[]⟩), (vi 0), (vi 0)] 46)) (x_alloc (Try.zeroValue46 _) rfl) ?_)
   intro p5 w7 hn5
   obtain ⟨H4, hs, hb⟩ := hs.alloc hb hn5
   refine st_set (want0 rfl) (x_storeA (a := p5) (vs := [(vi aM), (vu aF), (vs aG), (vi aT), (vi aZ)]) (by kernel_rfl) (by kernel_rfl) rfl (Try.sizeOf46 _) rfl (hb.canWs0 0 5 gZ (by kernel_rfl))) ?_
   intro w8 hn6
   have hsb : Hst w0 Hl2 wl2 H4 w8 ∧ HB H4 w8 [(p5, [(vi aM), (vu aF), (vs aG), (vi aT), (vi aZ)], 46), (p4, [(vi aB), (vi aD), (vu aA), (vs aC), (vb aE)], 132), (p3, [(vb bM), (vi bN), (vi bO)], 43), (p2, [(vi aO), (vu aP), (vs aQ)], 40)] := by
    rw [hn6]
    exact hb.store0 (i := 0) (vs := [(vi aM), (vu aF), (vs aG), (vi aT), (vi aZ)]) hs gZ (by kernel_rfl) (by kernel_rfl)
   clear hs hb hn6
   obtain ⟨hs, hb⟩ := hsb
   refine wpL_nil (th_n (wpE_seq ?_))
   refine wpE_via (fun ρ wJ => ∃ b2'0 : Bool, ∃ HJ : Nat → Prop, (((aM == aO) && (aF == aP)) = b2'0) ∧ Hst w0 Hl2 wl2 HJ wJ ∧ HB HJ wJ [(p5, [(vi aM), (vu aF), (vs aG), (vi aT), (vi aZ)], 46), (p4, [(vi aB), (vi aD), (vu aA), (vs aC), (vb aE)], 132), (p3, [(vb bM), (vi bN), (vi bO)], 43), (p2, [(vi aO), (vu aP), (vs aQ)], 40)] ∧ Has ρ [(5, (vp (some p2))), (6, (vp (some p3))), (7, (vi x1)), (10, (vp (some p5))), (13, r1.v), (14, (vi (r1.len : Int))), (15, (vi x1)), (22, r2.v), (23, (vi (r2.len : Int))), (24, (vi x2)), (46, (vb (b2'0 && (decide (aG = aQ)))))]) ?_ ?_
   ·skip
    refine rg (q0 (vp (some p5)) (q2 (vi aM) (xl (Try.isAgg3 _) (hb.c0 0 gZ)) (q0 (vp (some p2)) (q2 (vi aO) (xl (Try.isAgg3 _) (hb.c0 3 (gS (gS (gS gZ))))) (q0 (vb (aM == aO)) (q0 (vb (aM == aO)) ?_))))))
    refine wpL_join 6 (fun ρ wJ => ∃ b3'0 : Bool, ∃ HJ : Nat → Prop, ((aM == aO) = b3'0) ∧ Hst w0 Hl2 wl2 HJ wJ ∧ HB HJ wJ [(p5, [(vi aM), (vu aF), (vs aG), (vi aT), (vi aZ)], 46), (p4, [(vi aB), (vi aD), (vu aA), (vs aC), (vb aE)], 132), (p3, [(vb bM), (vi bN), (vi bO)], 43), (p2, [(vi aO), (vu aP), (vs aQ)], 40)] ∧ Has ρ [(5, (vp (some p2))), (6, (vp (some p3))), (7, (vi x1)), (10, (vp (some p5))), (13, r1.v), (14, (vi (r1.len : Int))), (15, (vi x1)), (22, r2.v), (23, (vi (r2.len : Int))), (24, (vi x2)), (39, (vb (b3'0 && (aF == aP))))]) ?_ ?_
    ·clear hs hb
     rintro ρ w11 ⟨b3'0, H7, he0, hs, hb, hH⟩
     subst he0
     refine wpL_has hH ?_
     clear hH
     refine q0 (vb ((aM == aO) && (aF == aP))) ?_
     rcases Bool.eq_false_or_eq_true ((aM == aO) && (aF == aP)) with hg6 | hg6
     ·skip
      refine q1 (vp (some (p5.add 2))) (want1 rfl (yD 40 hg6)) (stp (v := (vs aG)) (want1 rfl (yD 40 hg6)) (xl (Try.isAgg9 _) (hb.c 0 2 gZ)) (q1 (vp (some (p2.add 2))) (want1 rfl (yD 40 hg6)) (stp (v := (vs aQ)) (want1 rfl (yD 40 hg6)) (xl (Try.isAgg9 _) (hb.c 3 2 (gS (gS (gS gZ))))) (stp (v := (vb (decide (aG = aQ)))) (want1 rfl (yD 40 hg6)) (x_streq (by kernel_rfl) (by kernel_rfl)) (q2 (vb (decide (aG = aQ))) (xT hg6) (wpL_nil (th_n ?_)))))))
      exact ⟨true, _, hg6, hs, hb, Has.mk (by kernel_rfl)⟩
     ·skip
      refine sk (yD 40 hg6) (sk (yD 40 hg6) (sk (yD 40 hg6) (sk (yD 40 hg6) (sk (yD 40 hg6) (q2 (vb false) (xF hg6) (wpL_nil (th_n ?_)))))))
      exact ⟨false, _, hg6, hs, hb, Has.mk (by kernel_rfl)⟩
    ·skip
     rcases Bool.eq_false_or_eq_true (aM == aO) with hg5 | hg5
     ·skip
      refine q1 (vp (some (p5.add 1))) (want1 rfl (yD 33 hg5)) (stp (v := (vu aF)) (want1 rfl (yD 33 hg5)) (xl (Try.isAgg38 _) (hb.c 0 1 gZ)) (q1 (vp (some (p2.add 1))) (want1 rfl (yD 33 hg5)) (stp (v := (vu aP)) (want1 rfl (yD 33 hg5)) (xl (Try.isAgg38 _) (hb.c 3 1 (gS (gS (gS gZ))))) (q1 (vb (aF == aP)) (want1 rfl (yD 33 hg5)) (q2 (vb (aF == aP)) (xT hg5) (wpL_nil ?_))))))
      exact ⟨true, _, hg5, hs, hb, Has.mk (by kernel_rfl)⟩
     ·skip
      refine sk (yD 33 hg5) (sk (yD 33 hg5) (sk (yD 33 hg5) (sk (yD 33 hg5) (sk (yD 33 hg5) (q2 (vb false) (xF hg5) (wpL_nil ?_))))))
      exact ⟨false, _, hg5, hs, hb, Has.mk (by kernel_rfl)⟩
   ·clear hs hb
    rintro ρ w10 ⟨b2'0, H6, he0, hs, hb, hH⟩
    subst he0
    refine norm_has hH ?_
    clear hH
    refine th_n ?_
    refine wpE_cond (t := (((aM == aO) && (aF == aP)) && (decide (aG = aQ)))) (by kernel_rfl) (fun hc3 => ?_) (fun hc3 => ?_)
    ·replace h := h.1 hc3
     refine wpE_seq (rg (q0 (vp (some (p5.add 3))) (q2 (vi aT) (xl (Try.isAgg3 _) (hb.c 0 3 gZ)) (q0 (vi x1) (q0 (.agg #[(vb true), (vi aT), (vi x1)]) (st_set (want0 rfl) (x_storeA (a := p3) (vs := [(vb true), (vi aT), (vi x1)]) (by kernel_rfl) (by kernel_rfl) rfl (Try.sizeOf43 _) rfl (hb.canWs0 2 3 (gS (gS gZ)) (by kernel_rfl))) ?_))))))
     intro w12 hn7
     have hsb : Hst w0 Hl2 wl2 H6 w12 ∧ HB H6 w12 [(p5, [(vi aM), (vu aF), (vs aG), (vi aT), (vi aZ)], 46), (p4, [(vi aB), (vi aD), (vu aA), (vs aC), (vb aE)], 132), (p3, [(vb true), (vi aT), (vi x1)], 43), (p2, [(vi aO), (vu aP), (vs aQ)], 40)] := by
      rw [hn7]
      exact hb.store0 (i := 2) (vs := [(vb true), (vi aT), (vi x1)]) hs (gS (gS gZ)) (by kernel_rfl) (by kernel_rfl)
     clear hs hb hn7
     obtain ⟨hs, hb⟩ := hsb
     refine wpL_nil (th_n (wpE_ret (bl_r (th_r (th_r (bl_r (bl_r (th_r (th_r (bl_r (th_r ?_)))))))))))
     replace h := h H6 w12 hs
     replace hs := hs.here
     refine resG (.inl rfl) (vs := [(.agg #[(vb true), (vi aT), (vi x1)])]) (v := (.agg #[(vb true), (vi aT), (vi x1)])) Try.results24 ⟨(RV.cellA (by kernel_rfl) (Try.isAgg43 _) (Try.sizeOf43 _) rfl (hb.row0 2 3 (gS (gS gZ)) (by kernel_rfl))), trivial⟩ (by kernel_rfl) ?_
     exact ⟨true, aT, x1, rfl, h⟩
    ·replace h := h.2 hc3
     refine wpE_skip (bl_n (th_n (rg (q0 (vi (IntKind.i64.wrap (x2 + 1))) (q0 (vi (IntKind.i64.wrap (x2 + 1))) (wpL_nil ?_))))))
     replace h := h H6 w10 hs
     replace hs := hs.here
     refine th_n ?_
     exact ⟨((IntKind.i64.wrap (x2 + 1)), bM, bN, bO, H6, w10), ⟨rfl, Has.mk (by kernel_rfl), hs, hb.drop 1, h.1⟩, h.2⟩
  ·replace h := h.2 hc2
   refine wpE_exit (th_x (th_x (bl_eq (bl_n (th_n (rg (q0 (vi (IntKind.i64.wrap (x1 + 1))) (q0 (vi (IntKind.i64.wrap (x1 + 1))) (wpL_nil (th_n ?_))))))))))
   exact ⟨((IntKind.i64.wrap (x1 + 1)), bM, bN, bO, Hl2, wl2), ⟨rfl, Has.mk (by kernel_rfl), hs, hb.drop 1, h.1⟩, h.2⟩
 ·replace h := h.2 hc1
  refine wpE_exit (th_x (th_x (bl_eq (th_n (wpE_seq (rg (q0 (.agg #[(vb false), (vi 0), (vi (-1))]) (st_set (want0 rfl) (x_storeA (a := p3) (vs := [(vb false), (vi 0), (vi (-1))]) (by kernel_rfl) (by kernel_rfl) rfl (Try.sizeOf43 _) rfl (hb.canWs0 0 3 gZ (by kernel_rfl))) ?_))))))))
  intro w13 hn8
  have hsb : Hst w0 Hl1 wl1 Hl1 w13 ∧ HB Hl1 w13 [(p3, [(vb false), (vi 0), (vi (-1))], 43), (p2, [(vi aO), (vu aP), (vs aQ)], 40)] := by
   rw [hn8]
   exact hb.store0 (i := 0) (vs := [(vb false), (vi 0), (vi (-1))]) hs gZ (by kernel_rfl) (by kernel_rfl)
  clear hs hb hn8
  obtain ⟨hs, hb⟩ := hsb
  refine wpL_nil (th_n (wpE_ret ?_))
  replace h := h w13 hs
  replace hs := hs.here
  refine resG (.inl rfl) (vs := [(.agg #[(vb false), (vi 0), (vi (-1))])]) (v := (.agg #[(vb false), (vi 0), (vi (-1))])) Try.results24 ⟨(RV.cellA (by kernel_rfl) (Try.isAgg43 _) (Try.sizeOf43 _) rfl (hb.row0 0 3 gZ (by kernel_rfl))), trivial⟩ (by kernel_rfl) ?_
  exact ⟨false, 0, (-1), rfl, h⟩
end Go.Proofs
end
section
open Go Go.SE
namespace Go.Sp
end Go.Sp
namespace Go.Proofs
attribute [local irreducible] Calls
theorem c_arb_Judge (pv : Option Addr) (sh : Sl) (ls : List Sp.Letter) (who c : Int) (x : ByteArray) (w0 : World) (hR : Reads pv sh ls w0) (hn : ls.length ≤ 1000000) :
  Calls Try.prog 24 #[.pointer pv, sh.v, .agg #[.int .i64 who, .int .u64 c, .string x]] w0 (fun e w' => ∃ b : Bool, ∃ y : Int, ∃ i : Int, e = .returned (.agg #[.bool b, .int .i64 y, .int .i64 i]) ∧ ((b, y, i) = Sp.judgeFrom who c x 0 ls ∧ Pure w0 w')) := by
 suffices key : ∀ K : Bool → Int → Int → World → Prop, (∀ b y i w', ((b, y, i) = Sp.judgeFrom who c x 0 ls ∧ Pure w0 w') → K b y i w') → m_arbiter_Judge pv sh who c x w0 K from
  w_arbiter_Judge _ _ _ _ _ w0 _ (key _ (fun _ _ _ _ h => h))
 intro K hK
 unfold m_arbiter_Judge
 intro H2 w2 hs2
 have E2 := hs2.first
 refine (hR w2 E2).mono ?_
 rintro _ w3 ⟨r1, rfl, hr1⟩
 have O3 := hr1.own' hs2
 have hlen : r1.len = ls.length := by rw [O3.len]; simp
 refine ⟨r1, rfl, hr1.kept, fun x' _ _ _ H w' => ∃ j : Nat, x' = j ∧ j ≤ ls.length ∧ Pure w0 w' ∧ Own H w' 132 5 r1 (ls.map lrow) ∧ Sp.judgeFrom who c x 0 ls = Sp.judgeFrom who c x j (ls.drop j), fun x' _ _ _ _ => ((ls.length : Int) - x').toNat, ⟨0, rfl, Nat.zero_le _, E2.trans hr1.pure, O3, rfl⟩, ?_⟩
 rintro _ _ _ _ Hl wl hl ⟨j, rfl, hj, El, Ol, heq⟩
 unfold m_arbiter_Judge_l1
 refine ⟨fun h => ?_, fun h => ?_⟩
 ·have hlt := lt_of_dec hlen h
  obtain ⟨a, hat, hrow⟩ := Ol.nth hlt
  rw [List.drop_eq_getElem_cons hlt, Sp.judgeFrom] at heq
  generalize ls[j] = l at *
  refine ⟨a, hat, _, _, _, _, _, hrow, ?_⟩
  intro H5 w5 hs5
  have E5 := El.hst hs5
  have O5 := Ol.hst hs5
  refine (c_arb_bonds l.kind l.frm l.c l.text l.fake j w5).mono ?_
  rintro _ w6 ⟨r2, rfl, hr2⟩
  have hll : (⟨l.kind, l.frm, l.c, l.text, l.fake⟩ : Sp.Letter) = l := rfl
  rw [hll] at hr2
  have hbl : (Sp.bondsOf l j).length ≤ 2 := by
   unfold Sp.bondsOf; repeat' split
   all_goals simp
  generalize Sp.bondsOf l j = bs at *
  have O6 := hr2.own' hs5
  have hl2 : r2.len = bs.length := by rw [O6.len]; simp
  refine ⟨r2, rfl, hr2.kept, fun x' _ _ _ H w' => ∃ m : Nat, x' = m ∧ m ≤ bs.length ∧ Pure w0 w' ∧ Own H w' 132 5 r1 (ls.map lrow) ∧ Own H w' 46 5 r2 (bs.map brow) ∧ Sp.judgeBonds who c x j bs = Sp.judgeBonds who c x j (bs.drop m), fun x' _ _ _ _ => ((bs.length : Int) - x').toNat, ⟨0, rfl, Nat.zero_le _, E5.trans hr2.pure, O5.pure hr2.pure, O6, rfl⟩, ?_⟩
  rintro _ _ _ _ Hm wm hm ⟨m, rfl, hmle, Em, Om, Om2, heqm⟩
  unfold m_arbiter_Judge_l2
  refine ⟨fun h => ?_, fun h => ?_⟩
  ·have hlt2 := lt_of_dec hl2 h
   obtain ⟨a2, hat2, hrow2⟩ := Om2.nth hlt2
   rw [List.drop_eq_getElem_cons hlt2] at heqm
   generalize bs[m] = b at *
   refine ⟨a2, hat2, _, _, _, _, _, hrow2, fun h => ?_, fun h => ?_⟩
   ·intro H6 w12 hs6
    have hc : b.who = who ∧ b.c = c ∧ b.text = x := by simpa [and_assoc] using h
    rw [Sp.judgeBonds, if_pos hc] at heqm
    rw [heqm] at heq
    exact hK _ _ _ _ ⟨by rw [heq], Em.hst hs6⟩
   ·intro H6 w10 hs6
    have hc : ¬ (b.who = who ∧ b.c = c ∧ b.text = x) := fun hc => by simp [hc.1, hc.2.1, hc.2.2] at h
    rw [Sp.judgeBonds, if_neg hc] at heqm
    rw [wrap_succ hlt2 (by omega)]
    exact ⟨⟨m + 1, rfl, hlt2, Em.hst hs6, Om.hst hs6, Om2.hst hs6, heqm⟩, lt_dec hlt2⟩
  ·have hge := eq_of_dec hl2 hmle h
   subst hge
   rw [List.drop_length] at heqm
   have heqm : Sp.judgeBonds who c x j bs = none := heqm
   rw [heqm] at heq
   rw [wrap_succ hlt (by omega)]
   exact ⟨⟨j + 1, rfl, hlt, Em, Om, by simpa using heq⟩, lt_dec hlt⟩
 ·have hge := eq_of_dec hlen hj h
  subst hge
  rw [List.drop_length] at heq
  intro w13 hs13
  exact hK _ _ _ _ ⟨by rw [heq]; rfl, El.hst hs13⟩
end Go.Proofs
end
section
open Go Go.SE
namespace Go.Sp
def FrmOk (l : Letter) : Prop := l.kind = 2 → l.frm = 0 ∨ l.frm = 1
end Go.Sp
namespace Go.Proofs
attribute [local irreducible] Calls
theorem lst_letter {S : Nat → Prop} {w : World} {s : Sl} {ls : List Sp.Letter} (h : Lst S w 5 s (ls.map lrow)) {j : Nat} (hj : j < ls.length) : ∃ a, At s j 5 a ∧ S a.block ∧ Row w a (lrow ls[j]) := by
 obtain ⟨a, h1, h2, h3⟩ := h.at_ j (by simpa using hj)
 exact ⟨a, h1, h2, by simpa using h3⟩
theorem binds_eq (l : Sp.Letter) (hl : Sp.FrmOk l) (who c : Int) (x : ByteArray) (i : Int) :
  (s_ref13_binds l.kind l.frm l.c l.text l.fake who c x = 0 ∧ Sp.judgeBonds who c x i (Sp.bondsOf l i) = none) ∨ (s_ref13_binds l.kind l.frm l.c l.text l.fake who c x ≠ 0 ∧ Sp.judgeBonds who c x i (Sp.bondsOf l i) = some (s_ref13_binds l.kind l.frm l.c l.text l.fake who c x, i)) := by
 obtain ⟨k, f, cc, t, g⟩ := l
 unfold s_ref13_binds Sp.bondsOf
 simp only [Sp.FrmOk] at hl ⊢
 by_cases h6 : k = 6
 ·subst h6
  by_cases hc : cc = c
  ·by_cases ht : t = x
   ·by_cases h0 : who = 0
    ·subst h0; right; simp [Sp.judgeBonds, hc, ht]
    ·by_cases h1 : who = 1
     ·subst h1; right; simp [Sp.judgeBonds, hc, ht]
     ·left
      have n0 : (who != 0) = true := bne_iff_ne.2 h0
      have n1 : (who != 1) = true := bne_iff_ne.2 h1
      simp [Sp.judgeBonds, n0, n1, Ne.symm h0, Ne.symm h1]
   ·left; simp [Sp.judgeBonds, ht, decide_eq_false ht]
  ·left
   have nc : (cc != c) = true := bne_iff_ne.2 hc
   simp [Sp.judgeBonds, hc, nc]
 ·have n6 : (k == 6) = false := beq_eq_false_iff_ne.2 h6
  by_cases h2 : k = 2
  ·subst h2
   have hf := hl rfl
   by_cases hc : cc = c
   ·by_cases ht : t = x
    ·by_cases hw : f = who
     ·subst hw; right
      rcases hf with rfl | rfl <;> simp [Sp.judgeBonds, hc, ht]
     ·left
      have nw : (f == who) = false := beq_eq_false_iff_ne.2 hw
      simp [Sp.judgeBonds, hc, ht, hw, nw]
    ·left; simp [Sp.judgeBonds, ht, decide_eq_false ht]
   ·left
    have nc : (cc != c) = true := bne_iff_ne.2 hc
    simp [Sp.judgeBonds, hc, nc]
  ·left
   have n2 : (k == 2) = false := beq_eq_false_iff_ne.2 h2
   simp [Sp.judgeBonds, h2, h6, n2, n6]
theorem c_ref13_Judge {S : Nat → Prop} (s : Sl) (ls : List Sp.Letter) (who c : Int) (x : ByteArray) (w0 : World) (hL : Lst S w0 5 s (ls.map lrow)) (hS : ∀ b, S b → b < w0.heap.size) (hf : ∀ l ∈ ls, Sp.FrmOk l) (hn : ls.length ≤ 1000000) :
  Calls Try.prog 25 #[s.v, .agg #[.int .i64 who, .int .u64 c, .string x]] w0 (fun e w' => ∃ b : Bool, ∃ y : Int, ∃ i : Int, e = .returned (.agg #[.bool b, .int .i64 y, .int .i64 i]) ∧ ((b, y, i) = Sp.judgeFrom who c x 0 ls ∧ Pure w0 w')) := by
 suffices key : ∀ K : Bool → Int → Int → World → Prop, (∀ b y i w', ((b, y, i) = Sp.judgeFrom who c x 0 ls ∧ Pure w0 w') → K b y i w') → m_ref13_Judge s who c x w0 K from
  w_ref13_Judge _ _ _ _ w0 _ (key _ (fun _ _ _ _ h => h))
 intro K hK
 unfold m_ref13_Judge
 intro H2 w2 hs2
 have hlen : s.len = ls.length := by rw [hL.len]; simp
 refine ⟨fun x' _ _ _ H w' => ∃ j : Nat, x' = j ∧ j ≤ ls.length ∧ Pure w0 w' ∧ (∀ b, S b → ¬ H b) ∧ Sp.judgeFrom who c x 0 ls = Sp.judgeFrom who c x j (ls.drop j), fun x' _ _ _ _ => ((ls.length : Int) - x').toNat, ⟨0, rfl, Nat.zero_le _, hs2.first, hs2.disj0 hS, rfl⟩, ?_⟩
 rintro _ _ _ _ Hl wl hl ⟨j, rfl, hj, El, hd, heq⟩
 unfold m_ref13_Judge_l1
 refine ⟨fun h => ?_, fun h => ?_⟩
 ·have hlt := lt_of_dec hlen h
  obtain ⟨a, hat, hSa, hrow⟩ := lst_letter (hL.ext El (fun _ _ h => h)) hlt
  rw [List.drop_eq_getElem_cons hlt, Sp.judgeFrom] at heq
  have hfl := hf ls[j] (List.getElem_mem hlt)
  generalize ls[j] = l at *
  have hb := binds_eq l hfl who c x j
  refine ⟨a, hat, _, _, _, _, _, hrow, hd _ hSa, fun h => ?_, fun h => ?_⟩
  ·intro H3 w7 hs7
   have h : s_ref13_binds l.kind l.frm l.c l.text l.fake who c x ≠ 0 := by simpa using h
   rcases hb with hb | hb
   ·exact absurd hb.1 h
   ·rw [hb.2] at heq
    exact hK _ _ _ _ ⟨by rw [heq], El.hst hs7⟩
  ·intro H3 w5 hs5
   have h : s_ref13_binds l.kind l.frm l.c l.text l.fake who c x = 0 := by simpa using h
   rcases hb with hb | hb
   ·rw [hb.2] at heq
    rw [wrap_succ hlt (by omega)]
    exact ⟨⟨j + 1, rfl, hlt, El.hst hs5, hs5.disj0 hS, by simpa using heq⟩, lt_dec hlt⟩
   ·exact absurd h hb.1
 ·have hge := eq_of_dec hlen hj h
  subst hge
  rw [List.drop_length] at heq
  intro w8 hs8
  exact hK _ _ _ _ ⟨by rw [heq]; rfl, El.hst hs8⟩
end Go.Proofs
end
section
open Go Go.SE
namespace Go.Sp
structure Says where
 who : Int
 c : Int
 text : ByteArray
deriving DecidableEq
def Bond.says (b : Bond) : Says := ⟨b.who, b.c, b.text⟩
def addBond (out : List Bond) (b : Bond) : List Bond := if b.says ∈ out.map Bond.says then out else out ++ [b]
def bondsFrom : Int → List Letter → List Bond → List Bond
 | _, [], out => out
 | i, l :: ls, out => bondsFrom (i + 1) ls ((bondsOf l i).foldl addBond out)
def bonds (ls : List Letter) : List Bond := bondsFrom 0 ls []
end Go.Sp
namespace Go.Proofs
attribute [local irreducible] Calls
def ckey (k : Sp.Says) : Value := .agg #[.int .i64 k.who, .int .u64 k.c, .string k.text]
def IsClaim (v : Value) : Prop := ∃ k, v = ckey k
theorem ckey_inj {a b : Sp.Says} : ckey a = ckey b ↔ a = b := by
 constructor
 ·intro h
  obtain ⟨a1, a2, a3⟩ := a; obtain ⟨b1, b2, b3⟩ := b
  simp [ckey] at h
  simp [h]
 ·rintro rfl; rfl
theorem keyOK_claim : KeyOK Try.prog 40 IsClaim := by
 refine KeyOK.of_struct Try.underlying40 ?_ ?_ ?_
 ·rintro _ ⟨n, rfl⟩ em w; kernel_rfl
 ·rintro _ _ w ⟨n, rfl⟩ ⟨n', rfl⟩
  refine ⟨decide (n = n'), ?_, by simp only [ckey_inj, decide_eq_true_eq]; exact eq_comm⟩
  obtain ⟨k, f, t⟩ := n
  obtain ⟨k', f', t'⟩ := n'
  simp [Op.equal, Op.maxDepth, go_sem, streq, ckey]
  repeat' split
  all_goals simp_all
 ·rintro _ ⟨n, rfl⟩
  have h : ∀ d, Instr.sameBits (d + 1) (ckey n) (ckey n) = true := fun d => by
   have e : (n.text == n.text) = true := by rw [beq_toListBytes]; simp
   cases d <;> simp [Instr.sameBits, ckey, e]
  exact h 9999
structure BondsAt (w0 : World) (H : Nat → Prop) (w : World) (m : Nat) (s : Sl) (out : List Sp.Bond) (ks : List (Sp.Says)) (B : Int) : Prop where
 pure : Pure w0 w
 map : CntMap w m (ks.map ckey) B
 rows : Own H w 46 5 s (out.map brow)
 own : ∀ b, s.blk b → w0.heap.size ≤ b
 mown : w0.heap.size ≤ m
 mvis : ¬ H m
 ne : ¬ s.blk m
theorem BondsAt.hst {w0 w w1 : World} {H H1 : Nat → Prop} {m : Nat} {s : Sl} {out : List Sp.Bond} {ks : List (Sp.Says)} {B : Int} (h : BondsAt w0 H w m s out ks B) (hs : Hst w0 H w H1 w1) : BondsAt w0 H1 w1 m s out ks B :=
 have hm : ¬ H1 m := hs.disj (G := (· = m)) (fun b e => by subst e; exact ⟨h.map.lt, h.mvis⟩) m rfl
 ⟨h.pure.hst hs, h.map.ext hs.ext hm, h.rows.hst hs, h.own, h.mown, hm, h.ne⟩
theorem BondsAt.pureE {w0 w w1 : World} {H : Nat → Prop} {m : Nat} {s : Sl} {out : List Sp.Bond} {ks : List (Sp.Says)} {B : Int} (h : BondsAt w0 H w m s out ks B) (E : Pure w w1) : BondsAt w0 H w1 m s out ks B :=
 ⟨h.pure.trans E, h.map.ext E id, h.rows.pure E, h.own, h.mown, h.mvis, h.ne⟩
theorem claims_are {ks : List (Sp.Says)} : ∀ k ∈ ks.map ckey, IsClaim k := by
 intro k hk; obtain ⟨x, _, rfl⟩ := List.mem_map.1 hk; exact ⟨x, rfl⟩
theorem mem_ckey {ks : List (Sp.Says)} {k : Sp.Says} : ckey k ∈ ks.map ckey ↔ k ∈ ks := by
 constructor
 ·intro h; obtain ⟨x, hx, he⟩ := List.mem_map.1 h; rw [ckey_inj] at he; subst he; exact hx
 ·intro h; exact List.mem_map.2 ⟨k, h, rfl⟩
theorem bonds_j3 {w0 w : World} {H : Nat → Prop} {m : Addr} {s : Sl} {out : List Sp.Bond} {ks : List (Sp.Says)} {B : Int} (h : BondsAt w0 H w m.block s out ks B) (hB : 0 ≤ B) (hB2 : B ≤ 100000000) (x2 who c : Int) (x : ByteArray) {Kc : Sl → Int → (Nat → Prop) → World → Prop} {K : Sl → World → Prop}
  (hK : ∀ w' ks', ((⟨who, c, x⟩ ∈ ks ∧ ks' = ks) ∨ (⟨who, c, x⟩ ∉ ks ∧ ks' = ks ++ [⟨who, c, x⟩])) → BondsAt w0 H w' m.block s out ks' (B + 1) → Ext (· = m.block) w w' → Kc s (IntKind.i64.wrap (x2 + 1)) H w') :
  m_arbiter_Bonds_j3 m x2 who c x s H w Kc K := by
 unfold m_arbiter_Bonds_j3
 obtain ⟨v, w1, z, hv0, hvB, hl, he, hl1, hE1, hst⟩ := (h.map.ext (F := None) (Ext.drew w) id).bump (P := Try.prog) (T := 141) Try.underlying141 keyOK_claim claims_are ⟨⟨who, c, x⟩, rfl⟩ (Try.zeroValue3) hB
 refine ⟨fun w' => (Instr.lookup 141 (.map (some m.block)) (ckey ⟨who, c, x⟩) false).run Try.prog w' = .ok (.int .i64 v) w', hl, ?_⟩
 rintro _ rfl
 have k1 : Kept H w.drew w1 := hE1.kept (fun b hb e => h.mvis (e ▸ hb))
 refine ⟨v, fun w' h' => h', v, z, w1, he, hl1, k1, ?_⟩
 obtain ⟨w3, ks', hr3, hks, hM3, hE3⟩ := hst (Ext.refl (F := None) w1) id
 have hw : IntKind.i64.wrap (v + 1) = v + 1 := by rw [IntWalk.i64_in _ (by omega)]
 rw [hw]
 refine ⟨w3, hr3, hE3.kept (fun b hb e => h.mvis (e ▸ hb)), ?_⟩
 have hE : Ext (· = m.block) w w3 := ((Ext.drew w).trans hE1).trans hE3
 have hsb : ∀ b, s.blk b → ¬ b = m.block := fun b hb e => h.ne (e ▸ hb)
 have fin : ∀ kk, ks' = kk.map ckey → (((⟨who, c, x⟩ ∈ ks ∧ kk = ks) ∨ (⟨who, c, x⟩ ∉ ks ∧ kk = ks ++ [⟨who, c, x⟩]))) → Kc s (IntKind.i64.wrap (x2 + 1)) H w3 := by
  intro kk hkk hor
  refine hK w3 kk hor ⟨h.pure.trans' hE (fun i hi e => by subst e; exact absurd h.mown (by omega)), by rw [← hkk]; exact hM3, h.rows.ext hE hsb, h.own, h.mown, h.mvis, h.ne⟩ hE
 rcases hks with ⟨h1, h2⟩ | ⟨h1, h2⟩
 ·exact fin ks h2 (.inl ⟨mem_ckey.1 h1, rfl⟩)
 ·exact fin (ks ++ [⟨who, c, x⟩]) (by rw [h2]; simp) (.inr ⟨fun hm => h1 (mem_ckey.2 hm), rfl⟩)
theorem addBond_len (out : List Sp.Bond) (b : Sp.Bond) : (Sp.addBond out b).length ≤ out.length + 1 := by
 unfold Sp.addBond; split <;> simp
theorem c_arb_Bonds (pv : Option Addr) (sh : Sl) (ls : List Sp.Letter) (w0 : World) (hR : Reads pv sh ls w0) (hn : ls.length ≤ 1000000) :
  Calls Try.prog 19 #[.pointer pv, sh.v] w0 (fun e w' => ∃ s : Sl, e = .returned s.v ∧ RetS w0 46 5 ((Sp.bonds ls).map brow) s w') := by
 suffices key : ∀ K : Sl → World → Prop, (∀ s w', RetS w0 46 5 ((Sp.bonds ls).map brow) s w' → K s w') → m_arbiter_Bonds pv sh w0 K from
  w_arbiter_Bonds _ _ w0 _ (key _ (fun _ _ h => h))
 intro K hK
 unfold m_arbiter_Bonds
 intro m w1 h1
 have E1 : Pure w0 w1 := Ext.new h1
 have om := New.own (Ext.refl w0) h1
 refine (hR w1 E1).mono ?_
 rintro _ w2 ⟨r1, rfl, hr1⟩
 have hm1 : CntMap w1 m.block (([] : List (Sp.Says)).map ckey) 0 := CntMap.of_new h1 0
 have O1 := hr1.own' ((Hst.start w0).pure E1)
 have hlen : r1.len = ls.length := by rw [O1.len]; simp
 have hrm : ∀ b, r1.blk b → b ≠ m.block := fun b hb e => by have := hr1.own b hb; have := hm1.lt; omega
 have hnil : ∀ b, Sl.nil.blk b → False := fun b hb => by obtain ⟨a, h, _⟩ := hb; cases h
 refine ⟨r1, rfl, hr1.kept, fun s i H w' => ∃ j : Nat, i = j ∧ j ≤ ls.length ∧ ∃ out, out.length ≤ 2 * j ∧ BondsAt w0 H w' m.block s out (out.map Sp.Bond.says) (2 * j) ∧ Own H w' 132 5 r1 (ls.map lrow) ∧ (∀ b, s.blk b → ¬ r1.blk b) ∧ Sp.bonds ls = Sp.bondsFrom j (ls.drop j) out, fun _ i _ => ((ls.length : Int) - i).toNat,
  ⟨0, rfl, Nat.zero_le _, [], by simp, ⟨E1.trans hr1.pure, hm1.ext hr1.pure id, Own.nil _ _, fun b h => (hnil b h).elim, om, id, fun h => hnil _ h⟩, O1, fun b h => (hnil b h).elim, rfl⟩, ?_⟩
 rintro s _ Hl wl hl ⟨j, rfl, hj, out, hol, hA, Ol, hsr, heq⟩
 unfold m_arbiter_Bonds_l1
 refine ⟨fun h => ?_, fun h => ?_⟩
 ·have hlt := lt_of_dec hlen h
  obtain ⟨a, hat, hrow⟩ := Ol.nth hlt
  rw [List.drop_eq_getElem_cons hlt, Sp.bondsFrom] at heq
  generalize ls[j] = l at *
  refine ⟨a, hat, _, _, _, _, _, hrow, ?_⟩
  intro H4 w4 hs4
  refine (c_arb_bonds l.kind l.frm l.c l.text l.fake j w4).mono ?_
  rintro _ w5 ⟨r2, rfl, hr2⟩
  have hll : (⟨l.kind, l.frm, l.c, l.text, l.fake⟩ : Sp.Letter) = l := rfl
  rw [hll] at hr2
  have hbl : (Sp.bondsOf l j).length ≤ 2 := by
   unfold Sp.bondsOf; repeat' split
   all_goals simp
  generalize Sp.bondsOf l j = bs at *
  have O5 := hr2.own' hs4
  have hl2 : r2.len = bs.length := by rw [O5.len]; simp
  have hA4 := hA.hst hs4
  have hlm : m.block < w4.heap.size := hA4.map.lt
  refine ⟨r2, rfl, hr2.kept, fun s i H w' => ∃ k : Nat, i = k ∧ k ≤ bs.length ∧ ∃ out', out'.length ≤ out.length + k ∧ BondsAt w0 H w' m.block s out' (out'.map Sp.Bond.says) (2 * j + k) ∧ Own H w' 132 5 r1 (ls.map lrow) ∧ Own H w' 46 5 r2 (bs.map brow) ∧ (∀ b, s.blk b → ¬ r1.blk b) ∧ (∀ b, s.blk b → ¬ r2.blk b) ∧ bs.foldl Sp.addBond out = (bs.drop k).foldl Sp.addBond out', fun _ i _ => ((bs.length : Int) - i).toNat,
   ⟨0, rfl, Nat.zero_le _, out, by simp, by simpa using hA4.pureE hr2.pure, (Ol.hst hs4).pure hr2.pure, O5, hsr, fun b hb h2 => by have := hr2.own b h2; have := hA4.rows.rows.lt hb; omega, rfl⟩, ?_⟩
  rintro s _ Hm wm hm ⟨k, rfl, hk, out', hol', hAm, Om, Om2, hsr', hsr2, hfold⟩
  unfold m_arbiter_Bonds_l2
  refine ⟨fun h => ?_, fun h => ?_⟩
  ·have hlt2 := lt_of_dec hl2 h
   obtain ⟨a2, hat2, hrow2⟩ := Om2.nth hlt2
   rw [List.drop_eq_getElem_cons hlt2, List.foldl_cons] at hfold
   generalize bs[k] = b at *
   refine ⟨a2, hat2, _, _, _, _, _, hrow2, ?_⟩
   intro H9 w9 hs9
   have hA9 := hAm.hst hs9
   have O9 := Om.hst hs9
   have O92 := Om2.hst hs9
   have hrm2 : ∀ b, r2.blk b → b ≠ m.block := fun b hb e => by have := hr2.own b hb; omega
   obtain ⟨v, hl9, hv⟩ := hA9.map.look (P := Try.prog) (T := 141) Try.underlying141 keyOK_claim claims_are ⟨b.says, rfl⟩ (Try.zeroValue3)
   refine ⟨v, hl9, fun h => ?_, fun h => ?_⟩
   ·-- one bond more
    have hno : b.says ∉ out'.map Sp.Bond.says := by
     have : v = 0 := by simpa using h
     rcases hv with ⟨_, h1, _⟩ | ⟨h1, _⟩
     ·omega
     ·exact fun hm => h1 (mem_ckey.2 hm)
    have hadd : Sp.addBond out' b = out' ++ [b] := by unfold Sp.addBond; rw [if_neg hno]
    rw [hadd] at hfold
    intro p6 w13 h13
    have E13 : Pure w9 w13 := Ext.new h13
    have b6 := Box.of_new h13
    have hA13 := hA9.pureE E13
    obtain ⟨s', w14, hr14, hO14, hE14, hk14, hb14⟩ := hA13.rows.append (P := Try.prog) (ty := 31) (c := 1) slT_bond (hm.trans hs9 |>.again E13.keptP) (r := brow b) b6.row rfl rfl (by simp; omega) (by simp [maxLen]; omega)
    refine ⟨s', w14, hr14, hk14, ?_⟩
    have hs'm : ¬ s'.blk m.block := fun h => (hb14 _ h).elim hA13.ne (fun h => by have := hA13.map.lt; omega)
    have hA14 : BondsAt w0 H9 w14 m.block s' (out' ++ [b]) (out'.map Sp.Bond.says) (2 * j + k) := by
     refine ⟨append_own hA13.rows hA13.pure hE14 hA13.own, hA13.map.ext hE14 hA13.ne, by simpa using hO14, fun b hb => (hb14 b hb).elim (hA13.own b) (fun h => by have := hA13.pure.size; omega), hA13.mown, hA13.mvis, hs'm⟩
    have hr1b : ∀ b, r1.blk b → b < w9.heap.size := fun b hb => O9.rows.lt hb
    have hr2b : ∀ b, r2.blk b → b < w9.heap.size := fun b hb => O92.rows.lt hb
    have O14 : Own H9 w14 132 5 r1 (ls.map lrow) := (O9.pure E13).ext hE14 (fun b hb hs => hsr' b hs hb)
    have O142 : Own H9 w14 46 5 r2 (bs.map brow) := (O92.pure E13).ext hE14 (fun b hb hs => hsr2 b hs hb)
    refine bonds_j3 hA14 (by omega) (by omega) _ _ _ _ ?_
    intro w' ks' hor hA' hE'
    have hks : ks' = (out' ++ [b]).map Sp.Bond.says := by
     rcases hor with ⟨h, _⟩ | ⟨_, h⟩
     ·exact absurd h hno
     ·rw [h]; simp [Sp.Bond.says]
    rw [wrap_succ hlt2 (by omega)]
    refine ⟨⟨k + 1, rfl, hlt2, out' ++ [b], by simp; omega, ?_, O14.ext hE' (fun b hb e => hrm b hb e), O142.ext hE' (fun b hb e => hrm2 b hb e), ?_, ?_, hfold⟩, lt_dec hlt2⟩
    ·rw [← hks]; have e : ((2 * (j : Int)) + ((k + 1 : Nat) : Int)) = 2 * j + k + 1 := by omega
     rw [e]; exact hA'
    ·intro b hb hr; exact (hb14 b hb).elim (fun h => hsr' b h hr) (fun h => by have := hr1b b hr; have := E13.size; omega)
    ·intro b hb hr; exact (hb14 b hb).elim (fun h => hsr2 b h hr) (fun h => by have := hr2b b hr; have := E13.size; omega)
   ·have hyes : b.says ∈ out'.map Sp.Bond.says := by
     have : v ≠ 0 := by simpa using h
     rcases hv with ⟨h1, _⟩ | ⟨_, h1⟩
     ·exact mem_ckey.1 h1
     ·exact absurd h1 this
    have hadd : Sp.addBond out' b = out' := by unfold Sp.addBond; rw [if_pos hyes]
    rw [hadd] at hfold
    refine bonds_j3 hA9 (by omega) (by omega) _ _ _ _ ?_
    intro w' ks' hor hA' hE'
    have hks : ks' = out'.map Sp.Bond.says := by
     rcases hor with ⟨_, h⟩ | ⟨h, _⟩
     ·exact h
     ·exact absurd hyes h
    rw [wrap_succ hlt2 (by omega)]
    refine ⟨⟨k + 1, rfl, hlt2, out', by omega, ?_, O9.ext hE' (fun b hb e => hrm b hb e), O92.ext hE' (fun b hb e => hrm2 b hb e), hsr', hsr2, hfold⟩, lt_dec hlt2⟩
    rw [← hks]; have e : ((2 * (j : Int)) + ((k + 1 : Nat) : Int)) = 2 * j + k + 1 := by omega
    rw [e]; exact hA'
  ·have hge := eq_of_dec hl2 hk h
   subst hge
   rw [List.drop_length] at hfold
   rw [hfold, List.foldl_nil] at heq
   rw [wrap_succ hlt (by omega)]
   refine ⟨⟨j + 1, rfl, hlt, out', by omega, ?_, Om, hsr', by simpa using heq⟩, lt_dec hlt⟩
   exact ⟨hAm.pure, hAm.map.mono (by omega), hAm.rows, hAm.own, hAm.mown, hAm.mvis, hAm.ne⟩
 ·have hge := eq_of_dec hlen hj h
  subst hge
  rw [List.drop_length] at heq
  exact hK _ _ ⟨by rw [heq]; exact hA.rows.rows, hA.own, hA.pure⟩
end Go.Proofs
end
section
open Go Go.SE
namespace Go.Sp
theorem judgeBonds_some {who c : Int} {x : ByteArray} {i : Int} : ∀ {bs : List Bond}, (judgeBonds who c x i bs).isSome = true ↔ (⟨who, c, x⟩ : Says) ∈ bs.map Bond.says
 | [] => by simp [judgeBonds]
 | b :: bs => by
  unfold judgeBonds
  split
  ·rename_i h
   simp [Bond.says, h.1, h.2.1, h.2.2]
  ·rename_i h
   rw [judgeBonds_some (bs := bs), List.map_cons, List.mem_cons]
   refine ⟨.inr, fun hh => hh.resolve_left (fun e => h ?_)⟩
   unfold Bond.says at e
   injection e with e1 e2 e3
   exact ⟨e1.symm, e2.symm, e3.symm⟩
theorem bondsOf_says (l : Letter) (i j : Int) : (bondsOf l i).map Bond.says = (bondsOf l j).map Bond.says := by
 unfold bondsOf; repeat' split
 all_goals rfl
theorem judge_snoc {who c : Int} {x : ByteArray} {l : Letter} : ∀ {ls : List Letter} {i : Int} (j : Int), (judgeFrom who c x i (ls ++ [l])).1 = true ↔ ((judgeFrom who c x i ls).1 = true ∨ (⟨who, c, x⟩ : Says) ∈ (bondsOf l j).map Bond.says)
 | [], i, j => by
  rw [List.nil_append, bondsOf_says l j i, ← judgeBonds_some (i := i)]
  have e : judgeFrom who c x i [l] = match judgeBonds who c x i (bondsOf l i) with | some r => (true, r) | none => (false, 0, -1) := rfl
  have e2 : (judgeFrom who c x i []).1 = false := rfl
  rw [e, e2]
  cases judgeBonds who c x i (bondsOf l i) <;> simp
 | m :: ls, i, j => by
  rw [List.cons_append, judgeFrom, judgeFrom]
  cases h : judgeBonds who c x i (bondsOf m i) with
  | none => exact judge_snoc j
  | some r => simp
theorem mem_addBonds {s : Says} : ∀ {bs : List Bond} {out : List Bond}, s ∈ (bs.foldl addBond out).map Bond.says ↔ s ∈ out.map Bond.says ∨ s ∈ bs.map Bond.says
 | [], out => by simp
 | b :: bs, out => by
  rw [List.foldl_cons, mem_addBonds (bs := bs)]
  unfold addBond
  split
  ·rename_i h
   rw [List.map_cons, List.mem_cons]
   constructor
   ·rintro (h1 | h1)
    ·exact .inl h1
    ·exact .inr (.inr h1)
   ·rintro (h1 | rfl | h1)
    ·exact .inl h1
    ·exact .inl h
    ·exact .inr h1
  ·simp [or_assoc]
end Go.Sp
namespace Go.Proofs
attribute [local irreducible] Calls
def rbind (l : Sp.Letter) (who : Int) : Int := s_ref13_binds l.kind l.frm l.c l.text l.fake who l.c l.text
def rstep (pre : List Sp.Letter) (i : Int) (l : Sp.Letter) (who : Int) (out : List Sp.Bond) : List Sp.Bond :=
 if rbind l who ≠ 0 ∧ (Sp.judgeFrom who l.c l.text 0 pre).1 = false then out ++ [⟨who, l.c, l.text, rbind l who, i⟩] else out
def rsteps (pre : List Sp.Letter) (i : Int) (l : Sp.Letter) (out : List Sp.Bond) : Nat → List Sp.Bond
 | 0 => out
 | k + 1 => rstep pre i l k (rsteps pre i l out k)
theorem rstep_len (pre : List Sp.Letter) (i : Int) (l : Sp.Letter) (who : Int) (out : List Sp.Bond) : (rstep pre i l who out).length ≤ out.length + 1 := by unfold rstep; split <;> simp
theorem rsteps_eq {pre : List Sp.Letter} {i : Int} {l : Sp.Letter} {out : List Sp.Bond} (hl : Sp.FrmOk l) (h : ∀ s : Sp.Says, s ∈ out.map Sp.Bond.says ↔ (Sp.judgeFrom s.who s.c s.text 0 pre).1 = true) : rsteps pre i l out 2 = (Sp.bondsOf l i).foldl Sp.addBond out := by
 show rstep pre i l 1 (rstep pre i l 0 out) = _
 have one : ∀ (who why : Int) (o : List Sp.Bond), rbind l who = why → why ≠ 0 → ((⟨who, l.c, l.text⟩ : Sp.Says) ∈ o.map Sp.Bond.says ↔ (⟨who, l.c, l.text⟩ : Sp.Says) ∈ out.map Sp.Bond.says) → rstep pre i l who o = Sp.addBond o ⟨who, l.c, l.text, why, i⟩ := by
  intro who why o h1 h2 h3
  unfold rstep Sp.addBond
  rw [h1]
  by_cases hm : (⟨who, l.c, l.text⟩ : Sp.Says) ∈ out.map Sp.Bond.says
  ·have := (h _).1 hm
   rw [if_neg (fun hh => by rw [hh.2] at this; cases this), if_pos (show Sp.Bond.says _ ∈ _ from h3.2 hm)]
  ·have : (Sp.judgeFrom who l.c l.text 0 pre).1 = false := by
    cases hj : (Sp.judgeFrom who l.c l.text 0 pre).1 with
    | false => rfl
    | true => exact absurd ((h ⟨who, l.c, l.text⟩).2 hj) hm
   rw [if_pos ⟨h2, this⟩, if_neg (show ¬ Sp.Bond.says _ ∈ _ from fun hh => hm (h3.1 hh))]
 have zero : ∀ (who : Int) (o : List Sp.Bond), rbind l who = 0 → rstep pre i l who o = o := by
  intro who o h1; unfold rstep; rw [if_neg (fun hh => hh.1 h1)]
 obtain ⟨k, f, c, t, g⟩ := l
 simp only at one
 by_cases h6 : k = 6
 ·subst h6
  have hb : Sp.bondsOf ⟨6, f, c, t, g⟩ i = [⟨0, c, t, 2, i⟩, ⟨1, c, t, 2, i⟩] := rfl
  have b0 : rbind ⟨6, f, c, t, g⟩ 0 = 2 := by simp [rbind, s_ref13_binds]
  have b1 : rbind ⟨6, f, c, t, g⟩ 1 = 2 := by simp [rbind, s_ref13_binds]
  rw [hb, one 0 2 out b0 (by omega) Iff.rfl, List.foldl_cons, List.foldl_cons, List.foldl_nil]
  refine one 1 2 _ b1 (by omega) ?_
  unfold Sp.addBond
  split
  ·exact Iff.rfl
  ·simp [Sp.Bond.says]
 ·by_cases h2 : k = 2
  ·subst h2
   have hb : Sp.bondsOf ⟨2, f, c, t, g⟩ i = [⟨f, c, t, 1, i⟩] := rfl
   rw [hb, List.foldl_cons, List.foldl_nil]
   rcases hl rfl with hf | hf
   ·simp only at hf; subst hf
    have b0 : rbind ⟨2, 0, c, t, g⟩ 0 = 1 := by simp [rbind, s_ref13_binds]
    have b1 : rbind ⟨2, 0, c, t, g⟩ 1 = 0 := by simp [rbind, s_ref13_binds]
    rw [zero 1 _ b1, one 0 1 out b0 (by omega) Iff.rfl]
   ·simp only at hf; subst hf
    have b0 : rbind ⟨2, 1, c, t, g⟩ 0 = 0 := by simp [rbind, s_ref13_binds]
    have b1 : rbind ⟨2, 1, c, t, g⟩ 1 = 1 := by simp [rbind, s_ref13_binds]
    rw [zero 0 _ b0, one 1 1 out b1 (by omega) Iff.rfl]
  ·have hb : Sp.bondsOf ⟨k, f, c, t, g⟩ i = [] := by unfold Sp.bondsOf; rw [if_neg h6, if_neg h2]
   have n2 : (k == 2) = false := beq_eq_false_iff_ne.2 h2
   have n6 : (k == 6) = false := beq_eq_false_iff_ne.2 h6
   have bz : ∀ who, rbind ⟨k, f, c, t, g⟩ who = 0 := fun who => by simp [rbind, s_ref13_binds, n2, n6]
   rw [hb, zero 1 _ (bz 1), zero 0 _ (bz 0)]
   rfl
theorem c_ref13_Bonds (s : Sl) (ls : List Sp.Letter) (w0 : World) (hR : Rws w0 132 5 s (ls.map lrow)) (hf : ∀ l ∈ ls, Sp.FrmOk l) (hn : ls.length ≤ 1000000) :
  Calls Try.prog 20 #[s.v] w0 (fun e w' => ∃ s' : Sl, e = .returned s'.v ∧ RetS w0 46 5 ((Sp.bonds ls).map brow) s' w') := by
 suffices key : ∀ K : Sl → World → Prop, (∀ s' w', RetS w0 46 5 ((Sp.bonds ls).map brow) s' w' → K s' w') → m_ref13_Bonds s w0 K from
  w_ref13_Bonds _ w0 _ (key _ (fun _ _ h => h))
 intro K hK
 unfold m_ref13_Bonds
 have hS : ∀ b, s.blk b → b < w0.heap.size := fun b hb => hR.lt hb
 have hlen : s.len = ls.length := by rw [hR.len]; simp
 have hnil : ∀ b, Sl.nil.blk b → False := fun b hb => by obtain ⟨a, h, _⟩ := hb; cases h
 have hL : ∀ {w}, Pure w0 w → Lst s.blk w 5 s (ls.map lrow) := fun E => (hR.pure E).lst
 refine ⟨fun o i H w' => ∃ j : Nat, i = j ∧ j ≤ ls.length ∧ ∃ out, out.length ≤ 2 * j ∧ (∀ q : Sp.Says, q ∈ out.map Sp.Bond.says ↔ (Sp.judgeFrom q.who q.c q.text 0 (ls.take j)).1 = true) ∧ Own H w' 46 5 o (out.map brow) ∧ (∀ b, o.blk b → w0.heap.size ≤ b) ∧ Pure w0 w' ∧ Sp.bonds ls = Sp.bondsFrom j (ls.drop j) out, fun _ i _ => ((ls.length : Int) - i).toNat,
  ⟨0, rfl, Nat.zero_le _, [], by simp, fun q => by simp [Sp.judgeFrom], Own.nil _ _, fun b h => (hnil b h).elim, Ext.refl _, rfl⟩, ?_⟩
 rintro o _ Hl wl hl ⟨j, rfl, hj, out, hol, hinv, hO, hown, El, heq⟩
 unfold m_ref13_Bonds_l1
 refine ⟨fun h => ?_, fun h => ?_⟩
 ·have hlt := lt_of_dec hlen h
  rw [List.drop_eq_getElem_cons hlt, Sp.bondsFrom] at heq
  have hfl := hf ls[j] (List.getElem_mem hlt)
  have hst := rsteps_eq (pre := ls.take j) (i := j) hfl hinv
  rw [← hst] at heq
  refine ⟨fun o' who H w' => ∃ k : Nat, who = k ∧ k ≤ 2 ∧ (rsteps (ls.take j) j ls[j] out k).length ≤ 2 * j + k ∧ Own H w' 46 5 o' ((rsteps (ls.take j) j ls[j] out k).map brow) ∧ (∀ b, o'.blk b → w0.heap.size ≤ b) ∧ Pure w0 w', fun _ who _ => (2 - who).toNat,
   ⟨0, rfl, by omega, by simpa [rsteps] using hol, hO, hown, El⟩, ?_⟩
  rintro o' _ Hm wm hm ⟨k, rfl, hk, hol', hO', hown', Em⟩
  unfold m_ref13_Bonds_l2
  refine ⟨fun h2 => ?_, fun h2 => ?_⟩
  ·have hk2 : k < 2 := by have := of_decide_eq_true h2; omega
   obtain ⟨a, hat, hSa, hrow⟩ := lst_letter (hL Em) hlt
   have hvis : ¬ Hm a.block := fun hh => by have := hm.old _ hh; have := hS _ hSa; omega
   have hnext : rsteps (ls.take j) j ls[j] out (k + 1) = rstep (ls.take j) j ls[j] k (rsteps (ls.take j) j ls[j] out k) := rfl
   have hrl := rstep_len (ls.take j) j ls[j] k (rsteps (ls.take j) j ls[j] out k)
   generalize rsteps (ls.take j) j ls[j] out k = ok at *
   generalize hl0 : ls[j] = l at *
   refine ⟨a, hat, _, _, _, _, _, hrow, hvis, a, hat, l.c, hrow 2 (by simp [lrow]), by rw [add_block]; exact hvis, a, hat, l.text, hrow 3 (by simp [lrow]), by rw [add_block]; exact hvis, ?_⟩
   intro H1 w3 hs3
   have Ed3 : Pure w3 w3.drew := Ext.drew w3
   have E3 := Em.hst hs3
   have R3 : Row w3.drew a (lrow l) := Ed3.row (hs3.ext.row hrow (hs3.disj0 hS _ hSa)) (fun h => h)
   have J3 : ∀ (x1 : Bool) (w : World), (x1 = true → rstep (ls.take j) j l k ok = ok ++ [⟨k, l.c, l.text, rbind l k, j⟩]) → (x1 = false → rstep (ls.take j) j l k ok = ok) → Pure w3.drew w → Hst w0 H1 w H1 w →
     m_ref13_Bonds_j3 s j o' k l.kind l.frm l.c l.text l.fake l.c l.text x1 H1 w (fun y'0 y'1 H' w' => (∃ k : Nat, y'1 = k ∧ k ≤ 2 ∧ (rsteps (ls.take j) j l out k).length ≤ 2 * j + k ∧ Own H' w' 46 5 y'0 ((rsteps (ls.take j) j l out k).map brow) ∧ (∀ b, y'0.blk b → w0.heap.size ≤ b) ∧ Pure w0 w') ∧ (2 - y'1).toNat < (2 - (k : Int)).toNat) K := by
    intro x1 w hx1 hx0 E hw
    have Ew := (E3.trans Ed3).trans E
    have hOw := ((hO'.hst hs3).pure Ed3).pure E
    unfold m_ref13_Bonds_j3
    refine ⟨fun hx => ?_, fun hx => ?_⟩
    ·have Ed : Pure w w.drew := Ext.drew w
     have Rd : Row w.drew a (lrow l) := (E.trans Ed).row R3 (fun h => h)
     refine ⟨fun w' => Row w' a (lrow l), Rd, ?_⟩
     rintro _ rfl
     refine ⟨a, hat, l.c, fun w' h => h 2 (by simp [lrow]), a, hat, l.text, fun w' h => h 3 (by simp [lrow]), ?_⟩
     intro p1 w6 h6
     have E6 : Pure w w6 := Ed.trans (Ext.new h6)
     have b6 := Box.of_new h6
     have R6 : Row w6 a (lrow l) := (E.trans E6).row R3 (fun h => h)
     refine ⟨R6, ?_⟩
     have hO6 := hOw.pure E6
     obtain ⟨s1, w7, hr, hO7, E7, hk7, hb7⟩ := hO6.append (P := Try.prog) (ty := 31) (c := 1) slT_bond (hw.again E6.keptP) (r := brow ⟨k, l.c, l.text, rbind l k, j⟩) b6.row rfl (by simp [brow, oneCell]) (by simp; omega) (by simp [maxLen]; omega)
     refine ⟨s1, w7, hr, ?_, hk7, ?_⟩
     ·exact E7.row R6 (fun hb => by have := hown' _ hb; have := hS _ hSa; omega)
     ·rw [wrap_succ hk2 (by omega)]
      have e : rsteps (ls.take j) j l out (k + 1) = ok ++ [⟨k, l.c, l.text, rbind l k, j⟩] := by rw [hnext]; exact hx1 hx
      refine ⟨⟨k + 1, rfl, hk2, by rw [hnext]; omega, by rw [e]; simpa using hO7, fun b hb => (hb7 b hb).elim (hown' b) (fun h => by have := (Ew.trans E6).size; omega), append_own hO6 (Ew.trans E6) E7 hown'⟩, by omega⟩
    ·rw [wrap_succ hk2 (by omega)]
     have e : rsteps (ls.take j) j l out (k + 1) = ok := by rw [hnext]; exact hx0 hx
     exact ⟨⟨k + 1, rfl, hk2, by rw [e]; omega, by rw [e]; exact hOw, hown', Ew⟩, by omega⟩
   refine ⟨fun w' => Row w' a (lrow l), R3, ?_⟩
   rintro _ rfl
   have hbe : s_ref13_binds l.kind l.frm l.c l.text l.fake k l.c l.text = rbind l k := rfl
   rw [hbe]
   refine ⟨fun hb => ?_, fun hb => ?_⟩
   ·have hb : rbind l k ≠ 0 := by simpa using hb
    obtain ⟨s2, hsl, hR2, hb2⟩ := (hR.pure (E3.trans Ed3)).hiA (P := Try.prog) slT_letter (k := .i64) (n := (j : Int)) (by omega) (by simp; omega)
    have hR2' : Rws w3.drew 132 5 s2 ((ls.take j).map lrow) := by simpa [List.map_take] using hR2
    refine ⟨s2, fun w' _ => hsl w', a, hat, l.c, fun w' h => h 2 (by simp [lrow]), a, hat, l.text, fun w' h => h 3 (by simp [lrow]), ?_⟩
    refine (c_ref13_Judge s2 (ls.take j) k l.c l.text w3.drew hR2'.lst (fun b hb => hR2'.lt hb) (fun m hm => hf m (List.mem_of_mem_take hm)) (by rw [List.length_take]; omega)).mono ?_
    rintro _ w9 ⟨b, y, i, rfl, hj9, E9⟩
    refine ⟨_, _, _, rfl, E9.row R3 (fun h => h), E9.keptP, ?_⟩
    have hbj : (Sp.judgeFrom k l.c l.text 0 (ls.take j)).1 = b := by rw [← hj9]
    refine J3 _ w9 (fun h => ?_) (fun h => ?_) E9 ((hs3.here.again Ed3.keptP).again E9.keptP)
    ·unfold rstep; rw [if_pos ⟨hb, by rw [hbj]; simpa using h⟩]
    ·unfold rstep; rw [if_neg (fun hh => by rw [hbj] at hh; rw [hh.2] at h; cases h)]
   ·have hb : rbind l k = 0 := by simpa using hb
    refine J3 _ _ (fun h => by cases h) (fun _ => ?_) (Ext.refl _) (hs3.here.again Ed3.keptP)
    unfold rstep; rw [if_neg (fun hh => hh.1 hb)]
  ·have hk2 : k = 2 := by have := of_decide_eq_false h2; omega
   subst hk2
   rw [wrap_succ hlt (by omega)]
   refine ⟨⟨j + 1, rfl, hlt, _, by omega, fun q => ?_, hO', hown', Em, by simpa using heq⟩, lt_dec hlt⟩
   rw [hst, Sp.mem_addBonds, hinv, List.take_succ_eq_append_getElem hlt, Sp.judge_snoc j]
 ·have hge := eq_of_dec hlen hj h
  subst hge
  rw [List.drop_length] at heq
  exact hK _ _ ⟨by rw [heq]; exact hO.rows, hown, El⟩
end Go.Proofs
end
section
open Go Go.SE
namespace Go.Sp
def Fault.key (f : Fault) : Fault := { f with a := 0, b := 0 }
def addFault (out : List Fault) (i k : Int) (f : Fault) : List Fault := if f.kind = 0 ∨ f ∈ out.map Fault.key then out else out ++ [{ f with a := i, b := k }]
def faultsRow (i : Int) (a : Letter) : Int → List Letter → List Fault → List Fault
 | _, [], out => out
 | k, b :: bs, out => faultsRow i a (k + 1) bs (addFault out i k (fault a b))
def faultsFrom : Int → List Letter → List Fault → List Fault
 | _, [], out => out
 | i, a :: ls, out => faultsFrom (i + 1) ls (faultsRow i a (i + 1) ls out)
def faults (ls : List Letter) : List Fault := faultsFrom 0 ls []
theorem fault_key (a b : Letter) : (fault a b).a = 0 ∧ (fault a b).b = 0 := by
 unfold fault; repeat' split
 all_goals simp
theorem addFault_len (out : List Fault) (i k : Int) (f : Fault) : (addFault out i k f).length ≤ out.length + 1 := by
 unfold addFault; split <;> simp
end Go.Sp
namespace Go.Proofs
attribute [local irreducible] Calls
def fval (f : Sp.Fault) : Value := .agg (frow f).toArray
def IsFault (v : Value) : Prop := ∃ f, v = fval f
theorem fval_inj {f g : Sp.Fault} : fval f = fval g ↔ f = g := by
 constructor
 ·intro h
  cases f; cases g
  simp [fval, frow] at h
  simp [h]
 ·rintro rfl; rfl
theorem keyOK_fault : KeyOK Try.prog 134 IsFault := by
 refine KeyOK.of_struct Try.underlying134 ?_ ?_ ?_
 ·rintro _ ⟨n, rfl⟩ em w; kernel_rfl
 ·rintro _ _ w ⟨n, rfl⟩ ⟨n', rfl⟩
  refine ⟨decide (n = n'), ?_, by simp only [fval_inj, decide_eq_true_eq]; exact eq_comm⟩
  obtain ⟨k, f, t, u, x⟩ := n
  obtain ⟨k', f', t', u', x'⟩ := n'
  simp [Op.equal, Op.maxDepth, go_sem, fval, frow]
  repeat' split
  all_goals simp_all
 ·rintro _ ⟨n, rfl⟩
  have h : ∀ d, Instr.sameBits (d + 1) (fval n) (fval n) = true := fun d => by
   cases d <;> simp [Instr.sameBits, fval, frow]
  exact h 9999
theorem slT_fault : SlType Try.prog 35 134 5 40 := by
 refine ⟨Try.underlying35, ⟨Try.t134, _, by kernel_rfl, (by kernel_rfl : Try.t134.zero = some (.agg #[.int .i64 0, .int .u64 0, .int .i64 0, .int .i64 0, .int .i64 0])), by kernel_rfl, by kernel_rfl, rfl⟩, by omega⟩
end Go.Proofs
end
section
open Go Go.SE
namespace Go.Proofs
attribute [local irreducible] Calls
structure FltsAt (w0 : World) (H : Nat → Prop) (w : World) (m : Nat) (s : Sl) (out : List Sp.Fault) : Prop where
 pure : Pure w0 w
 map : CntMap w m ((out.map Sp.Fault.key).map fval) out.length
 rows : Own H w 134 5 s (out.map frow)
 own : ∀ b, s.blk b → w0.heap.size ≤ b
 mown : w0.heap.size ≤ m
 mvis : ¬ H m
 ne : ¬ s.blk m
theorem FltsAt.hst {w0 w w1 : World} {H H1 : Nat → Prop} {m : Nat} {s : Sl} {out : List Sp.Fault} (h : FltsAt w0 H w m s out) (hs : Hst w0 H w H1 w1) : FltsAt w0 H1 w1 m s out :=
 have hm : ¬ H1 m := hs.disj (G := (· = m)) (fun b e => by subst e; exact ⟨h.map.lt, h.mvis⟩) m rfl
 ⟨h.pure.hst hs, h.map.ext hs.ext hm, h.rows.hst hs, h.own, h.mown, hm, h.ne⟩
theorem faults_are {fs : List Sp.Fault} : ∀ k ∈ fs.map fval, IsFault k := by
 intro k hk; obtain ⟨x, _, rfl⟩ := List.mem_map.1 hk; exact ⟨x, rfl⟩
theorem mem_fval {fs : List Sp.Fault} {f : Sp.Fault} : fval f ∈ fs.map fval ↔ f ∈ fs := by
 constructor
 ·intro h; obtain ⟨x, hx, he⟩ := List.mem_map.1 h; rw [fval_inj] at he; subst he; exact hx
 ·intro h; exact List.mem_map.2 ⟨f, h, rfl⟩
theorem c_arb_Faults (pv : Option Addr) (sh : Sl) (ls : List Sp.Letter) (w0 : World) (hR : Reads pv sh ls w0) (hn : ls.length ≤ 1000) :
  Calls Try.prog 22 #[.pointer pv, sh.v] w0 (fun e w' => ∃ s : Sl, e = .returned s.v ∧ RetS w0 134 5 ((Sp.faults ls).map frow) s w') := by
 suffices key : ∀ K : Sl → World → Prop, (∀ s w', RetS w0 134 5 ((Sp.faults ls).map frow) s w' → K s w') → m_arbiter_Faults pv sh w0 K from
  w_arbiter_Faults _ _ w0 _ (key _ (fun _ _ h => h))
 intro K hK
 unfold m_arbiter_Faults
 intro m w1 h1
 have E1 : Pure w0 w1 := Ext.new h1
 have om := New.own (Ext.refl w0) h1
 refine (hR w1 E1).mono ?_
 rintro _ w2 ⟨r1, rfl, hr1⟩
 have hm1 : CntMap w1 m.block ((([] : List Sp.Fault).map Sp.Fault.key).map fval) 0 := CntMap.of_new h1 _
 have O1 := hr1.own' ((Hst.start w0).pure E1)
 have hlen : r1.len = ls.length := by rw [O1.len]; simp
 have hrm : ∀ b, r1.blk b → b ≠ m.block := fun b hb e => by have := hr1.own b hb; have := hm1.lt; omega
 have hnil : ∀ b, Sl.nil.blk b → False := fun b hb => by obtain ⟨a, h, _⟩ := hb; cases h
 refine ⟨r1, rfl, hr1.kept, fun s i H w' => ∃ j : Nat, i = j ∧ j ≤ ls.length ∧ ∃ out, out.length ≤ j * 1000 ∧ FltsAt w0 H w' m.block s out ∧ Own H w' 132 5 r1 (ls.map lrow) ∧ (∀ b, s.blk b → ¬ r1.blk b) ∧ Sp.faults ls = Sp.faultsFrom j (ls.drop j) out, fun _ i _ => ((ls.length : Int) - i).toNat,
  ⟨0, rfl, Nat.zero_le _, [], by simp, ⟨E1.trans hr1.pure, hm1.ext hr1.pure id, Own.nil _ _, fun b h => (hnil b h).elim, om, id, fun h => hnil _ h⟩, O1, fun b h => (hnil b h).elim, rfl⟩, ?_⟩
 rintro s _ Hl wl hl ⟨j, rfl, hj, out, hol, hA, Ol, hsr, heq⟩
 unfold m_arbiter_Faults_l1
 refine ⟨fun h => ?_, fun h => ?_⟩
 ·have hlt := lt_of_dec hlen h
  have heq0 := heq
  rw [List.drop_eq_getElem_cons hlt, Sp.faultsFrom] at heq
  have hj1000 : j < 1000 := by omega
  rw [wrap_succ hlt (by omega)]
  refine ⟨fun s k H w' => ∃ q : Nat, k = q ∧ j + 1 ≤ q ∧ q ≤ ls.length ∧ ∃ out', out'.length ≤ out.length + (q - (j + 1)) ∧ FltsAt w0 H w' m.block s out' ∧ Own H w' 132 5 r1 (ls.map lrow) ∧ (∀ b, s.blk b → ¬ r1.blk b) ∧ Sp.faultsRow j ls[j] ((j : Int) + 1) (ls.drop (j + 1)) out = Sp.faultsRow j ls[j] q (ls.drop q) out', fun _ k _ => ((ls.length : Int) - k).toNat,
   ⟨j + 1, by omega, Nat.le_refl _, hlt, out, by omega, hA, Ol, hsr, by simp⟩, ?_⟩
  rintro s2 _ Hm wm hm ⟨q, rfl, hq1, hq, out', hol', hAm, Om, hsr', heq'⟩
  unfold m_arbiter_Faults_l2
  refine ⟨fun h => ?_, fun h => ?_⟩
  ·have hlt2 := lt_of_dec hlen h
   rw [List.drop_eq_getElem_cons hlt2, Sp.faultsRow] at heq'
   obtain ⟨a1, hat1, hrow1⟩ := Om.nth hlt
   obtain ⟨a2, hat2, hrow2⟩ := Om.nth hlt2
   have blk : ∀ (i : Int) a, At r1 i 5 a → ¬ Hm a.block := by
    rintro i a ⟨_, _, b, hb, rfl⟩
    rw [add_block]
    exact Om.vis _ ⟨b, hb, rfl⟩
   refine ⟨a1, hat1, _, _, _, _, _, hrow1, blk _ _ hat1, a2, hat2, _, _, _, _, _, hrow2, blk _ _ hat2, ?_⟩
   generalize hf : Sp.fault ls[j] ls[q] = f at *
   have hfk : f.a = 0 ∧ f.b = 0 := by rw [← hf]; exact Sp.fault_key _ _
   have hkey : f.key = f := by obtain ⟨f1, f2, f3, f4, f5⟩ := f; simp at hfk; simp [Sp.Fault.key, hfk.1, hfk.2]
   have hsf : s_arbiter_fault ls[j].kind ls[j].frm ls[j].c ls[j].text ls[j].fake ls[q].kind ls[q].frm ls[q].c ls[q].text ls[q].fake = (f.who, f.c, f.kind, f.a, f.b) := by
    unfold s_arbiter_fault; rw [hf]
   rw [hsf]
   have hjq : j * 1000 ≤ 999 * 1000 := Nat.mul_le_mul_right _ (by omega)
   have skip : ∀ (H : Nat → Prop) (w : World), FltsAt w0 H w m.block s2 out' → Own H w 132 5 r1 (ls.map lrow) → (f.kind = 0 ∨ f ∈ out'.map Sp.Fault.key) →
     (∃ q' : Nat, IntKind.i64.wrap ((q : Int) + 1) = q' ∧ j + 1 ≤ q' ∧ q' ≤ ls.length ∧ ∃ out', out'.length ≤ out.length + (q' - (j + 1)) ∧ FltsAt w0 H w m.block s2 out' ∧ Own H w 132 5 r1 (ls.map lrow) ∧ (∀ b, s2.blk b → ¬ r1.blk b) ∧ Sp.faultsRow j ls[j] ((j : Int) + 1) (ls.drop (j + 1)) out = Sp.faultsRow j ls[j] q' (ls.drop q') out') ∧ ((ls.length : Int) - IntKind.i64.wrap ((q : Int) + 1)).toNat < ((ls.length : Int) - (q : Int)).toNat := by
    intro H w hF hO hc
    have hadd : Sp.addFault out' j q f = out' := by unfold Sp.addFault; rw [if_pos hc]
    rw [hadd] at heq'
    rw [wrap_succ hlt2 (by omega)]
    exact ⟨⟨q + 1, rfl, by omega, hlt2, out', by omega, hF, hO, hsr', heq'⟩, lt_dec hlt2⟩
   have J3 : ∀ (x2 : Bool) (H : Nat → Prop) (w : World), Hst w0 H w H w → FltsAt w0 H w m.block s2 out' → Own H w 132 5 r1 (ls.map lrow) → (x2 = true → f.kind = 0 ∨ f ∈ out'.map Sp.Fault.key) → (x2 = false → ¬ (f.kind = 0 ∨ f ∈ out'.map Sp.Fault.key)) →
     m_arbiter_Faults_j3 m j s2 q ls[j].kind ls[j].frm ls[j].c ls[j].text ls[j].fake ls[q].kind ls[q].frm ls[q].c ls[q].text ls[q].fake x2 w0 H w (fun y'0 y'1 H' w' => (∃ q : Nat, y'1 = q ∧ j + 1 ≤ q ∧ q ≤ ls.length ∧ ∃ out', out'.length ≤ out.length + (q - (j + 1)) ∧ FltsAt w0 H' w' m.block y'0 out' ∧ Own H' w' 132 5 r1 (ls.map lrow) ∧ (∀ b, y'0.blk b → ¬ r1.blk b) ∧ Sp.faultsRow j ls[j] ((j : Int) + 1) (ls.drop (j + 1)) out = Sp.faultsRow j ls[j] q (ls.drop q) out') ∧ ((ls.length : Int) - y'1).toNat < ((ls.length : Int) - (q : Int)).toNat) K := by
    intro x2 H w hss hF hO hT hFa
    unfold m_arbiter_Faults_j3
    refine ⟨fun hx => skip H w hF hO (hT hx), fun hx => ?_⟩
    have hno := hFa hx
    rw [hsf]
    have hadd : Sp.addFault out' j q f = out' ++ [{ f with a := j, b := q }] := by unfold Sp.addFault; rw [if_neg hno]
    rw [hadd] at heq'
    obtain ⟨f', hf'⟩ : ∃ f' : Sp.Fault, f' = { f with a := j, b := q } := ⟨_, rfl⟩
    rw [← hf'] at heq'
    have hrow' : frow f' = [.int .i64 f.who, .int .u64 f.c, .int .i64 f.kind, .int .i64 j, .int .i64 q] := by rw [hf']; rfl
    have hnk : fval f ∉ (out'.map Sp.Fault.key).map fval := fun hm => hno (.inr (mem_fval.1 hm))
    obtain ⟨v, w3, z, hv0, hvB, hl0, he0, hl1, hE1, hst⟩ := (hF.map.ext (F := None) (Ext.drew w) id).bump (P := Try.prog) (T := 145) Try.underlying145 keyOK_fault faults_are ⟨f, rfl⟩ (Try.zeroValue3) (by omega)
    have hv : v = 0 := by
     obtain ⟨v', hv', hor⟩ := (hF.map.ext (F := None) (Ext.drew w) id).look (P := Try.prog) (T := 145) Try.underlying145 keyOK_fault faults_are ⟨f, rfl⟩ (Try.zeroValue3)
     rw [hl0] at hv'
     have : v = v' := by simpa using hv'
     rcases hor with ⟨h, _⟩ | ⟨_, h⟩
     ·exact absurd h hnk
     ·omega
    subst hv
    refine ⟨fun w' => (Instr.lookup 145 (.map (some m.block)) (fval f) false).run Try.prog w' = .ok (.int .i64 0) w', hl0, ?_⟩
    rintro _ rfl
    obtain ⟨w4, ks', hr4, hks, hM4, hE4⟩ := hst (Ext.refl (F := None) w3) id
    have hks : ks' = (out'.map Sp.Fault.key).map fval ++ [fval f] := by
     rcases hks with ⟨h, _⟩ | ⟨_, h⟩
     ·exact absurd h hnk
     ·exact h
    refine ⟨0, fun w' h' => h', 0, z, w3, he0, hl1, hE1.kept (fun b hb e => hF.mvis (e ▸ hb)), w4, hr4, hE4.kept (fun b hb e => hF.mvis (e ▸ hb)), ?_⟩
    have hE : Ext (· = m.block) w w4 := ((Ext.drew w).trans hE1).trans hE4
    have hsb : ∀ b, s2.blk b → ¬ b = m.block := fun b hb e => hF.ne (e ▸ hb)
    have P4 : Pure w0 w4 := hF.pure.trans' hE (fun i hi e => by subst e; exact absurd hF.mown (by omega))
    intro w5 hs5
    have R5 : Own H w5 134 5 s2 (out'.map frow) := (hF.rows.ext hE hsb).hst hs5
    have O5 : Own H w5 132 5 r1 (ls.map lrow) := (hO.ext hE (fun b hb e => hrm b hb e)).hst hs5
    have M5 := hM4.ext hs5.ext hF.mvis
    have P5 := P4.hst hs5
    intro p8 w6 h6
    have E6 : Pure w5 w6 := Ext.new h6
    have b6 := Box.of_new h6
    have hs6 := hs5.again (E6.keptP (H := H))
    obtain ⟨s', w7, hr7, hO7, hE7, hk7, hb7⟩ := (R5.pure E6).append (P := Try.prog) (ty := 35) (c := 1) slT_fault hs6 (r := frow f') (by rw [hrow']; exact b6.row) rfl rfl (by simp; omega) (by simp [maxLen]; omega)
    refine ⟨s', w7, hr7, hk7, ?_⟩
    rw [wrap_succ hlt2 (by omega)]
    have M6 := M5.ext (F := None) E6 id
    have hs'm : ¬ s'.blk m.block := fun h => (hb7 _ h).elim hF.ne (fun h => by have := M6.lt; omega)
    refine ⟨⟨q + 1, rfl, by omega, hlt2, out' ++ [f'], by simp; omega, ⟨append_own (R5.pure E6) (P5.trans E6) hE7 hF.own, ?_, by simpa using hO7, fun b hb => (hb7 b hb).elim (hF.own b) (fun h => by have := (P5.trans E6).size; omega), hF.mown, hF.mvis, hs'm⟩, (O5.pure E6).ext hE7 (fun b hb hs => hsr' b hs hb), fun b hb hr => (hb7 b hb).elim (fun h => hsr' b h hr) (fun h => by have := O5.rows.lt hr; have := E6.size; omega), heq'⟩, lt_dec hlt2⟩
    have e : ((out' ++ [f']).map Sp.Fault.key).map fval = ks' := by
     rw [hks, List.map_append, List.map_append]
     simp only [List.map_cons, List.map_nil]
     have : Sp.Fault.key f' = f := by rw [hf', ← hkey]; simp [Sp.Fault.key]
     rw [this]
    rw [e]
    have M7 := M6.ext hE7 hF.ne
    simpa using M7
   refine ⟨fun hz => ?_, fun hz => ?_⟩
   ·intro H3 w10 hs3
    exact J3 true H3 w10 hs3.here (hAm.hst hs3) (Om.hst hs3) (fun _ => .inl (by simpa using hz)) (fun h => by cases h)
   ·intro H3 w10 hs3
    have hA10 := hAm.hst hs3
    obtain ⟨v, hl10, hv⟩ := hA10.map.look (P := Try.prog) (T := 145) Try.underlying145 keyOK_fault faults_are ⟨f, rfl⟩ (Try.zeroValue3)
    have hk0 : f.kind ≠ 0 := by simpa using hz
    refine ⟨v, hl10, J3 _ H3 w10 hs3.here hA10 (Om.hst hs3) (fun h => ?_) (fun h => ?_)⟩
    ·have := of_decide_eq_true h
     rcases hv with ⟨h1, _⟩ | ⟨_, h1⟩
     ·exact .inr (mem_fval.1 h1)
     ·omega
    ·have := of_decide_eq_false h
     rintro (h1 | h1)
     ·exact hk0 h1
     ·rcases hv with ⟨_, h2, _⟩ | ⟨h2, _⟩
      ·omega
      ·exact h2 (mem_fval.2 h1)
  ·have hge := eq_of_dec hlen hq h
   subst hge
   rw [List.drop_length, Sp.faultsRow] at heq'
   rw [heq'] at heq
   rw [wrap_succ hlt (by omega)]
   exact ⟨⟨j + 1, rfl, hlt, out', by rw [Nat.succ_mul]; omega, hAm, Om, hsr', heq⟩, lt_dec hlt⟩
 ·have hge := eq_of_dec hlen hj h
  subst hge
  rw [List.drop_length, Sp.faultsFrom] at heq
  exact hK _ _ ⟨by rw [heq]; exact hA.rows.rows, hA.own, hA.pure⟩
end Go.Proofs
end
section
open Go Go.SE
namespace Go.Proofs
attribute [local irreducible] Calls
theorem bonds_len {ls : List Sp.Letter} : (Sp.bonds ls).length ≤ 2 * ls.length := by
 have h : ∀ (bs : List Sp.Bond) (out : List Sp.Bond), (bs.foldl Sp.addBond out).length ≤ out.length + bs.length := by
  intro bs
  induction bs with
  | nil => intro out; simp
  | cons b bs ih => intro out; have := ih (Sp.addBond out b); have := addBond_len out b; simp only [List.foldl_cons, List.length_cons]; omega
 have h2 : ∀ (ls : List Sp.Letter) (i : Int) (out : List Sp.Bond), (Sp.bondsFrom i ls out).length ≤ out.length + 2 * ls.length := by
  intro ls
  induction ls with
  | nil => intro i out; simp [Sp.bondsFrom]
  | cons l ls ih =>
   intro i out
   rw [Sp.bondsFrom]
   have hbl : (Sp.bondsOf l i).length ≤ 2 := by
    unfold Sp.bondsOf; repeat' split
    all_goals simp
   have := ih (i + 1) ((Sp.bondsOf l i).foldl Sp.addBond out)
   have := h (Sp.bondsOf l i) out
   simp only [List.length_cons]; omega
 have := h2 ls 0 []
 simpa [Sp.bonds] using this
end Go.Proofs
end
