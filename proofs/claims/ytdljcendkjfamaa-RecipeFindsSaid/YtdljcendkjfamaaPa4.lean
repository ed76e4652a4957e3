import Derived.Test.YtdljcendkjfamaaProg
import Derived.KernelRfl
import Derived.Test.YtdljcendkjfamaaPa0
import Derived.Test.YtdljcendkjfamaaPa3
import Derived.Test.YtdljcendkjfamaaPa1
import Derived.Test.YtdljcendkjfamaaPa2
import Derived.ProofKit
import Derived.Carry
import Derived.OpenShut
import Derived.Stop.Joined
section
open Go Go.SE
namespace Go.Proofs
set_option maxRecDepth 100000
set_option maxHeartbeats 4000000
attribute [local irreducible] wpL wpX opE wpE Calls
def m_law09_large (l1 : Sl) (w0 : World) (K : Bool → World → Prop) : Prop :=
 Br (decide ((l1.len : Int) > 300))
  (K true w0)
  (Calls Try.prog 61 #[(.agg #[(vi 0), (vi 0), (vi 0), (vu 0), (vs ⟨#[]⟩), l1.v]), (vi 6000)] w0 (fun e w1 => ∃ r1 : Int, e = .returned (vi r1) ∧ 
   K (decide (r1 > 6000)) w1))
theorem w_law09_large (l1 : Sl) (w0 : World) (K : Bool → World → Prop) (h : m_law09_large l1 w0 K) :
  Calls Try.prog 12 #[l1.v] w0 (fun e w' => ∃ r2 : Bool, e = .returned (vb r2) ∧ K r2 w') := by
 unfold m_law09_large at h
 refine calls_of_wpE (args := [l1.v]) Try.func12 rfl Try.ntmps12 (Nat.le_of_ble_eq_true rfl) (wpE_seq (rg (q0 (vb false) (wpL_nil (th_n (wpE_seq (rg (q0 l1.v (q0 (vi (l1.len : Int)) (q0 (vb (decide ((l1.len : Int) > 300))) (q0 (vb (decide ((l1.len : Int) > 300))) ?_)))))))))))
 rcases Bool.eq_false_or_eq_true (decide ((l1.len : Int) > 300)) with hg1 | hg1
 ·replace h := h.1 hg1
  refine sk (yD 6 hg1) (sk (yD 6 hg1) (sk (yD 6 hg1) (sk (yD 6 hg1) (q2 (vb true) (xT hg1) (q0 (vb true) (wpL_nil (th_n (wpE_ret (res1 (.inl rfl) Try.results12 (v := (vb true)) (by kernel_rfl) ?_)))))))))
  exact ⟨true, rfl, h⟩
 ·replace h := h.2 hg1
  refine q1 l1.v (want1 rfl (yD 6 hg1)) (q1 (.agg #[(vi 0), (vi 0), (vi 0), (vu 0), (vs ⟨#[]⟩), l1.v]) (want1 rfl (yD 6 hg1)) ?_)
  refine st_call (want1 rfl (yD 6 hg1)) (xc Try.call61) (h.mono ?_)
  rintro e w1 ⟨r1, rfl, h⟩
  refine ⟨_, rfl, ?_⟩
  refine q1 (vb (decide (r1 > 6000))) (want1 rfl (yD 6 hg1)) (q2 (vb (decide (r1 > 6000))) (xF hg1) (q0 (vb (decide (r1 > 6000))) (wpL_nil (th_n (wpE_ret (res1 (.inl rfl) Try.results12 (v := (vb (decide (r1 > 6000)))) (by kernel_rfl) ?_))))))
  exact ⟨(decide (r1 > 6000)), rfl, h⟩
def s_law09_num (e1 : Int) : Int :=
 e1
theorem pw_law09_num (e1 : Int) (w0 : World) :
  Calls Try.prog 19 #[(vi e1)] w0 (fun e w' => (e = .returned (vi e1)) ∧ Pure w0 w') := by
 refine calls_of_wpE (args := [(vi e1)]) Try.func19 rfl Try.ntmps19 (Nat.le_of_ble_eq_true rfl) (wpE_seq (rg (q0 (vi 0) (wpL_nil (th_n (wpE_seq (rg (q0 (vi e1) (q0 (vi e1) (wpL_nil (th_n ?_)))))))))))
 refine wpE_ret (res1 (.inl rfl) Try.results19 (v := (vi e1)) (by kernel_rfl) ?_)
 exact ⟨by kernel_rfl, Ext.refl _⟩
theorem p_law09_num (e1 : Int) (w0 : World) : Calls Try.prog 19 #[(.int .i64 e1)] w0 (fun e w' => e = .returned (.int .i64 (s_law09_num e1)) ∧ Pure w0 w') := pw_law09_num e1 w0
def m_law09_given_j4 (k1 : Int) (there2 : Bool) (H : Nat → Prop) (w : World) (Kc3 : Bool → Int → (Nat → Prop) → World → Prop) (_K : (Option Addr) → Bool → World → Prop) : Prop :=
 Kc3 there2 (IntKind.i64.wrap (k1 + 1)) H w
def m_law09_given_l3 (p1 : Addr) (i1 r4 r6 : Int) (there1 : Bool) (k1 : Int) (Hl2 : Nat → Prop) (wl2 : World) (Kc2 : Int → (Nat → Prop) → World → Prop) (Kc3 : Bool → Int → (Nat → Prop) → World → Prop) (K : (Option Addr) → Bool → World → Prop) : Prop :=
 ∃ v4 : Sl, wl2.cell? (p1.add 3) = some v4.v ∧
 Br (decide (k1 < (v4.len : Int)))
  (Br there1
   (m_law09_given_j4 k1 true Hl2 wl2 Kc3 K)
   (∃ v5 : Sl, wl2.cell? (p1.add 3) = some v5.v ∧
   ∃ a3 : Addr, At v5 k1 1 a3 ∧
   ∃ v6 : Int, wl2.cell? a3 = some (vi v6) ∧
   m_law09_given_j4 k1 (v6 == r6) Hl2 wl2 Kc3 K))
  (Br (!there1)
   (∃ v7 : Sl, wl2.cell? (p1.add 3) = some v7.v ∧
   ∀ (p2 : Addr) (w14 : World), New wl2 (.cells #[(vi r6)] 38) p2 w14 →
   ∃ s1 : Sl, ∃ w15 : World, (Builtin.append_ #[30, 30] 30 #[v7.v, (Sl.mk (some p2) 1 1).v]).run Try.prog w14 = .ok s1.v w15 ∧
   Kept Hl2 w14 w15 ∧
   CanW w15 (p1.add 3) ∧ ¬ Hl2 (p1.add 3).block ∧ ∀ w16 : World, w16 = w15.setCell (p1.add 3) s1.v →
   ∃ v8 : Option Addr, w16.cell? (p1.add 1) = some (vp v8) ∧
   Calls Try.prog 56 #[(vp v8), (vi r4)] w16 (fun e w17 => ∃ r8 : Int, e = .returned (vi r8) ∧ 
    Kept Hl2 w16 w17 ∧
    Kc2 (IntKind.i64.wrap (i1 + 1)) Hl2 w17))
   (∃ v9 : Option Addr, wl2.cell? (p1.add 1) = some (vp v9) ∧
   Calls Try.prog 56 #[(vp v9), (vi r4)] wl2 (fun e w18 => ∃ r9 : Int, e = .returned (vi r9) ∧ 
    Kept Hl2 wl2 w18 ∧
    Kc2 (IntKind.i64.wrap (i1 + 1)) Hl2 w18)))
def m_law09_given_l2 (l1 : Sl) (p1 : Addr) (i1 : Int) (w0 : World) (Hl1 : Nat → Prop) (wl1 : World) (Kc2 : Int → (Nat → Prop) → World → Prop) (K : (Option Addr) → Bool → World → Prop) : Prop :=
 Br (decide (i1 < (l1.len : Int)))
  (∃ C1 : World → Prop, C1 wl1.drew ∧ ∀ w6, w6 = wl1.drew →
  ∃ v2 : Option Addr, (∀ w', C1 w' → w'.cell? p1 = some (vp v2)) ∧
  ∃ a1 : Addr, At l1 i1 6 a1 ∧
  ∃ aI aJ : Int, ∃ aK aL : Int, ∃ aM : ByteArray, ∃ aN : Sl, (∀ w', C1 w' → Row w' a1 [(vi aI), (vi aJ), (vi aK), (vu aL), (vs aM), aN.v]) ∧
  Calls Try.prog 24 #[(.agg #[(vi aI), (vi aJ), (vi aK), (vu aL), (vs aM), aN.v])] w6 (fun e w7 => ∃ aA aB : Int, ∃ aC aD : Int, ∃ aE : ByteArray, ∃ aH : Sl, e = .returned (.agg #[(vi aA), (vi aB), (vi aC), (vu aD), (vs aE), aH.v]) ∧ C1 w7 ∧ 
   Kept Hl1 w6 w7 ∧
   Calls Try.prog 23 #[(vp v2), (.agg #[(vi aA), (vi aB), (vi aC), (vu aD), (vs aE), aH.v])] w7 (fun e w8 => ∃ r4 r5 : Int, e = .returned (.tuple #[(vi r4), (vi r5)]) ∧ C1 w8 ∧ 
    Kept Hl1 w7 w8 ∧
    ∃ C2 : World → Prop, C2 w8.drew ∧ ∀ w9, w9 = w8.drew →
    ∃ v3 : Option Addr, (∀ w', C2 w' → w'.cell? (p1.add 2) = some (vp v3)) ∧
    ∃ a2 : Addr, At l1 i1 6 a2 ∧
    ∃ aO aP : Int, ∃ aQ aR : Int, ∃ aS : ByteArray, ∃ aT : Sl, (∀ w', C2 w' → Row w' a2 [(vi aO), (vi aP), (vi aQ), (vu aR), (vs aS), aT.v]) ∧
    Calls Try.prog 64 #[(vp v3), (.agg #[(vi aO), (vi aP), (vi aQ), (vu aR), (vs aS), aT.v])] w9 (fun e w10 => ∃ r6 r7 : Int, e = .returned (.tuple #[(vi r6), (vi r7)]) ∧ C2 w10 ∧ 
     Kept Hl1 w9 w10 ∧
     Br ((r4 != r6) || (r5 != r7))
      (∀ (H1 : Nat → Prop) (w12 : World), Hst w0 Hl1 w10 H1 w12 →
      K none false w12)
      (Br (r7 != 0)
       (∀ (H1 : Nat → Prop) (w12 : World), Hst w0 Hl1 w10 H1 w12 →
       Kc2 (IntKind.i64.wrap (i1 + 1)) H1 w12)
       (∀ (H1 : Nat → Prop) (w12 : World), Hst w0 Hl1 w10 H1 w12 →
       ∃ (I2 : Bool → Int → (Nat → Prop) → World → Prop) (mu2 : Bool → Int → World → Nat), I2 false 0 H1 w12 ∧
        ∀ (there1 : Bool) (k1 : Int) (Hl2 : Nat → Prop) (wl2 : World), Hst w0 Hl2 wl2 Hl2 wl2 → I2 there1 k1 Hl2 wl2 → m_law09_given_l3 p1 i1 r4 r6 there1 k1 Hl2 wl2 Kc2 (fun y'0 y'1 H' w' => I2 y'0 y'1 H' w' ∧ mu2 y'0 y'1 w' < mu2 there1 k1 wl2) K))))))
  (K (some p1) true wl1)
def m_law09_given_j1 (l1 : Sl) (p1 : Addr) (x1 : Bool) (w0 : World) (H : Nat → Prop) (w : World) (K : (Option Addr) → Bool → World → Prop) : Prop :=
 Br x1
  (K none false w)
  (∃ (I1 : Int → (Nat → Prop) → World → Prop) (mu1 : Int → World → Nat), I1 0 H w ∧
   ∀ (i1 : Int) (Hl1 : Nat → Prop) (wl1 : World), Hst w0 Hl1 wl1 Hl1 wl1 → I1 i1 Hl1 wl1 → m_law09_given_l2 l1 p1 i1 w0 Hl1 wl1 (fun y'0 H' w' => I1 y'0 H' w' ∧ mu1 y'0 w' < mu1 i1 wl1) K)
def m_law09_given (l1 : Sl) (w0 : World) (K : (Option Addr) → Bool → World → Prop) : Prop :=
 Calls Try.prog 22 #[] w0 (fun e w1 => ∃ r1 : Option Addr, e = .returned (vp r1) ∧ 
  Kept None w0 w1 ∧
  Calls Try.prog 63 #[] w1 (fun e w2 => ∃ r2 : Option Addr, e = .returned (vp r2) ∧ 
   Kept None w1 w2 ∧
   ∀ (p1 : Addr) (w3 : World), New w2 (.cells #[(vp r1), (vp none), (vp r2), Sl.nil.v] 36) p1 w3 →
   ∃ v1 : Option Addr, w3.cell? p1 = some (vp v1) ∧
   Calls Try.prog 54 #[(vp v1)] w3 (fun e w4 => ∃ r3 : Option Addr, e = .returned (vp r3) ∧ 
    Kept None w3 w4 ∧
    CanW w4 (p1.add 1) ∧ ¬ None (p1.add 1).block ∧ ∀ w5 : World, w5 = w4.setCell (p1.add 1) (vp r3) →
    ∃ v10 : Option Addr, w5.cell? p1 = some (vp v10) ∧
    Br (Option.isNone v10)
     (m_law09_given_j1 l1 p1 true w0 None w5 K)
     (∃ v11 : Option Addr, w5.cell? (p1.add 1) = some (vp v11) ∧
     m_law09_given_j1 l1 p1 (Option.isNone v11) w0 None w5 K))))
theorem w_law09_given (l1 : Sl) (w0 : World) (K : (Option Addr) → Bool → World → Prop) (h : m_law09_given l1 w0 K) :
  Calls Try.prog 15 #[l1.v] w0 (fun e w' => ∃ r10 : Option Addr, ∃ r11 : Bool, e = .returned (.tuple #[(vp r10), (vb r11)]) ∧ K r10 r11 w') := by
 unfold m_law09_given at h
 refine calls_of_wpE (args := [l1.v]) Try.func15 rfl Try.ntmps15 (Nat.le_of_ble_eq_true rfl) ?_
 have hs := Hst.start w0
 have hb := HB.nil None w0
 refine wpE_seq (rg (q0 (vp none) (q0 (vb false) (wpL_nil (th_n (wpE_seq (rg ?_)))))))
 refine st_call (want0 rfl) (xc Try.call22) (h.mono ?_)
 rintro e w1 ⟨r1, rfl, hk, h⟩
 refine ⟨_, rfl, ?_⟩
 obtain ⟨hs, hb⟩ := hk.hh hs hb
 refine st_call (want0 rfl) (xc Try.call63) (h.mono ?_)
 rintro e w2 ⟨r2, rfl, hk, h⟩
 refine ⟨_, rfl, ?_⟩
 obtain ⟨hs, hb⟩ := hk.hh hs hb
 refine q0 (.agg #[(vp r1), (vp none), (vp r2), Sl.nil.v]) (sn (O := (.cells #[(vp r1), (vp none), (vp r2), Sl.nil.v] 36)) xb ?_)
 intro p1 w3 hn4
 replace h := h p1 w3 hn4
 replace hs := hs.again (Ext.new (F := None) hn4).keptP
 replace hb := hb.kept (Ext.new (F := None) hn4).keptP
 refine q0 (vp (some p1)) (wpL_nil (th_n (wpE_seq (rg (q0 (vp (some p1)) (q0 (vp (some p1)) (q0 (vp (some p1)) (q0 (vp (some p1)) ?_))))))))
 obtain ⟨v1, hv17, h⟩ := h
 refine q2 (vp v1) (xl (Try.isAgg32 _) hv17) ?_
 refine st_call (want0 rfl) (xc Try.call54) (h.mono ?_)
 rintro e w4 ⟨r3, rfl, hk, h⟩
 refine ⟨_, rfl, ?_⟩
 obtain ⟨hs, hb⟩ := hk.hh hs hb
 refine q0 (vp (some p1)) (q0 (vp (some (p1.add 1))) ?_)
 obtain ⟨hp1, hnh, h⟩ := h
 refine st_set (want0 rfl) (x_store (a := (p1.add 1)) (v := (vp r3)) (by kernel_rfl) (by kernel_rfl) rfl (Try.sizeOf33 _) hp1) ?_
 intro w5 hn1
 replace h := h w5 hn1
 have hk : Kept None w4 w5 := by rw [hn1]; exact Kept.setCell hnh
 replace hs := hs.again hk
 replace hb := hb.kept hk
 clear hk hnh
 refine wpL_nil (th_n (wpE_seq (wpE_seq ?_)))
 refine wpE_joinT (fun ρ w => ∃ x1 : Bool, ∃ H : Nat → Prop, Has ρ [(0, l1.v), (4, (vp (some p1))), (35, (vb x1))] ∧ Hst w0 H w H w ∧ HB H w [] ∧ m_law09_given_j1 l1 p1 x1 w0 H w K) ?_ ?_
 ·clear h hs hb
  rintro ρ w ⟨x1, H, hH, hs, hb, h⟩
  unfold m_law09_given_j1 at h
  refine wpE_has hH ?_
  clear hH
  refine wpE_cond (t := x1) (by kernel_rfl) (fun hc1 => ?_) (fun hc1 => ?_)
  ·replace h := h.1 hc1
   refine wpE_seq (rg (q0 (vp none) (q0 (vb false) (wpL_nil (th_n (wpE_ret (th_r (res2 (.inl rfl) Try.results15 (v := (vp none)) (by kernel_rfl) (v' := (vb false)) (by kernel_rfl) ?_))))))))
   exact ⟨none, false, rfl, h⟩
  ·replace h := h.2 hc1
   refine wpE_skip (th_n (wpE_seq (wpE_seq (rg (q0 (vi 0) (wpL_nil (th_n (wpE_block ?_))))))))
   obtain ⟨I1, mu1, h0, hr⟩ := h
   refine wpE_loop (σ := Int × (Nat → Prop) × World) (fun s ρ w => w = s.2.2 ∧ Has ρ [(0, l1.v), (4, (vp (some p1))), (5, (vi s.1))] ∧ Hst w0 s.2.1 w s.2.1 w ∧ HB s.2.1 w [] ∧ I1 s.1 s.2.1 s.2.2) (fun s => mu1 s.1 s.2.2) (0, H, w) ⟨rfl, Has.mk (by kernel_rfl), hs, hb, h0⟩ ?_
   clear hs hb
   rintro ⟨i1, Hl1, wl1⟩ ρ w ⟨hw, hH, hs, hb, hI⟩
   obtain rfl : wl1 = w := (show w = wl1 from hw).symm
   replace hH : Has ρ [(0, l1.v), (4, (vp (some p1))), (5, (vi i1))] := hH
   replace hs : Hst w0 Hl1 wl1 Hl1 wl1 := hs
   replace hb : HB Hl1 wl1 [] := hb
   have h := hr i1 Hl1 wl1 hs hI
   clear hr h0
   unfold m_law09_given_l2 at h
   refine wpE_has hH ?_
   clear hH hI
   refine wpE_seq (wpE_seq (rg (q0 (vi i1) (q0 l1.v (q0 (vi (l1.len : Int)) (q0 (vb (decide (i1 < (l1.len : Int)))) (wpL_nil (th_n ?_))))))))
   refine wpE_cond (t := (decide (i1 < (l1.len : Int)))) (by kernel_rfl) (fun hc2 => ?_) (fun hc2 => ?_)
   ·replace h := h.1 hc2
    refine wpE_skip (th_n (wpE_seq (wpE_block (wpE_seq ?_))))
    obtain ⟨C1, hC, h⟩ := h
    refine wpE_drawnC C1 [8, 9] [] (by kernel_rfl) (by kernel_rfl) (by kernel_rfl) (by kernel_rfl) hC ?_
    clear hC
    intro w6 hw6
    replace h := h w6 hw6
    replace hs : Hst w0 Hl1 wl1 Hl1 w6 := by rw [hw6]; exact hs.drew
    replace hb : HB Hl1 w6 [] := by rw [hw6]; exact hb.drew
    replace hs := hs.here
    refine qx 0 (vp (some p1)) Kp0 (qx 1 (vp (some p1)) Kp1 (qx 2 (vp (some p1)) Kp2 (qgo (k := 3) (by kernel_rfl) ?_)))
    obtain ⟨v2, hv14, h⟩ := h
    refine sx (v := (vp v2)) Kp3 (want0 rfl) (by kernel_rfl) (fun w' hw' => (xl (Try.isAgg32 _) (hv14 w' hw'))) (qx 4 l1.v Kp4 (qx 5 (vi i1) Kp5 (qgo (k := 6) (by kernel_rfl) ?_)))
    obtain ⟨a1, hv13, h⟩ := h
    refine sx (v := (vp (some a1))) Kp6 (want0 rfl) (by kernel_rfl) (fun w' hw' => (x_indexAddr (s := l1) (k := .i64) (i := i1) (by kernel_rfl) (by kernel_rfl) (Try.runUnderlying22 _) (Try.sizeOf46 _) hv13)) (qgo (k := 7) (by kernel_rfl) ?_)
    obtain ⟨aI, aJ, aK, aL, aM, aN, hv12, h⟩ := h
    refine sx (v := (.agg #[(vi aI), (vi aJ), (vi aK), (vu aL), (vs aM), aN.v])) Kp7 (want0 rfl) (by kernel_rfl) (fun w' hw' => (x_loadA (a := a1) (vs := [(vi aI), (vi aJ), (vi aK), (vu aL), (vs aM), aN.v]) (by kernel_rfl) (Try.isAgg46 _) (Try.sizeOf46 _) rfl (hv12 w' hw'))) (lgo (k := 8) (by kernel_rfl) ?_)
    refine sl_call Kp8 (want0 rfl) (by kernel_rfl) (xc Try.call24) (h.mono ?_)
    rintro e w7 ⟨aA, aB, aC, aD, aE, aH, rfl, hC, hk, h⟩
    refine ⟨_, rfl, .inr hC, ?_⟩
    obtain ⟨hs, hb⟩ := hk.hh hs hb
    refine lgo (k := 9) (by kernel_rfl) ?_
    refine sl_call Kp9 (want0 rfl) (by kernel_rfl) (xc Try.call23) (h.mono ?_)
    rintro e w8 ⟨r4, r5, rfl, hC, hk, h⟩
    refine ⟨_, rfl, .inr hC, ?_⟩
    obtain ⟨hs, hb⟩ := hk.hh hs hb
    refine qx 10 (.tuple #[(vi r4), (vi r5)]) (pickA (S8 (pickS (pickS pickZ)))) (qx 11 (vi r4) (pickA (S8 (pickS (pickS (pickS pickZ))))) (qx 12 (vi r5) (pickA (S8 (S4 pickZ))) (qx 13 (vi r4) (pickA (S8 (S4 (pickS pickZ)))) (qx 14 (vi r5) (pickA (S8 (S4 (pickS (pickS pickZ))))) (wpX_nil (by kernel_rfl) (th_n (wpE_seq ?_)))))))
    obtain ⟨C2, hC, h⟩ := h
    refine wpE_drawnC C2 [8] [] (by kernel_rfl) (by kernel_rfl) (by kernel_rfl) (by kernel_rfl) hC ?_
    clear hC
    intro w9 hw9
    replace h := h w9 hw9
    replace hs : Hst w0 Hl1 w8 Hl1 w9 := by rw [hw9]; exact hs.drew
    replace hb : HB Hl1 w9 [] := by rw [hw9]; exact hb.drew
    replace hs := hs.here
    refine qx 0 (vp (some p1)) Kp0 (qx 1 (vp (some p1)) Kp1 (qx 2 (vp (some (p1.add 2))) Kp2 (qgo (k := 3) (by kernel_rfl) ?_)))
    obtain ⟨v3, hv11, h⟩ := h
    refine sx (v := (vp v3)) Kp3 (want0 rfl) (by kernel_rfl) (fun w' hw' => (xl (Try.isAgg34 _) (hv11 w' hw'))) (qx 4 l1.v Kp4 (qx 5 (vi i1) Kp5 (qgo (k := 6) (by kernel_rfl) ?_)))
    obtain ⟨a2, hv10, h⟩ := h
    refine sx (v := (vp (some a2))) Kp6 (want0 rfl) (by kernel_rfl) (fun w' hw' => (x_indexAddr (s := l1) (k := .i64) (i := i1) (by kernel_rfl) (by kernel_rfl) (Try.runUnderlying22 _) (Try.sizeOf46 _) hv10)) (qgo (k := 7) (by kernel_rfl) ?_)
    obtain ⟨aO, aP, aQ, aR, aS, aT, hv9, h⟩ := h
    refine sx (v := (.agg #[(vi aO), (vi aP), (vi aQ), (vu aR), (vs aS), aT.v])) Kp7 (want0 rfl) (by kernel_rfl) (fun w' hw' => (x_loadA (a := a2) (vs := [(vi aO), (vi aP), (vi aQ), (vu aR), (vs aS), aT.v]) (by kernel_rfl) (Try.isAgg46 _) (Try.sizeOf46 _) rfl (hv9 w' hw'))) (lgo (k := 8) (by kernel_rfl) ?_)
    refine sl_call Kp8 (want0 rfl) (by kernel_rfl) (xc Try.call64) (h.mono ?_)
    rintro e w10 ⟨r6, r7, rfl, hC, hk, h⟩
    refine ⟨_, rfl, .inr hC, ?_⟩
    obtain ⟨hs, hb⟩ := hk.hh hs hb
    refine qx 9 (.tuple #[(vi r6), (vi r7)]) Kp9 (qx 10 (vi r6) (pickA (S8 (pickS (pickS pickZ)))) (qx 11 (vi r7) (pickA (S8 (pickS (pickS (pickS pickZ))))) (qx 12 (vi r6) (pickA (S8 (S4 pickZ))) (qx 13 (vi r7) (pickA (S8 (S4 (pickS pickZ)))) (wpX_nil (by kernel_rfl) (th_n (wpE_seq (wpE_seq ?_))))))))
    refine wpE_via (fun ρ wJ => ∃ b1'0 : Bool, ∃ HJ : Nat → Prop, ((r4 != r6) = b1'0) ∧ Hst w0 Hl1 w10 HJ wJ ∧ HB HJ wJ [] ∧ Has ρ [(0, l1.v), (4, (vp (some p1))), (5, (vi i1)), (6, (vi r4)), (8, (vi r6)), (9, (vi r7)), (75, (vb (b1'0 || (r5 != r7))))]) ?_ ?_
    ·skip
     refine rg (q0 (vi r4) (q0 (vi r6) (q0 (vb (r4 != r6)) (q0 (vb (r4 != r6)) ?_))))
     rcases Bool.eq_false_or_eq_true (r4 != r6) with hg2 | hg2
     ·skip
      refine sk (yD 70 hg2) (sk (yD 70 hg2) (sk (yD 70 hg2) (sk (yD 70 hg2) (q2 (vb true) (xT hg2) (wpL_nil (th_n ?_))))))
      exact ⟨true, _, hg2, hs, hb, Has.mk (by kernel_rfl)⟩
     ·skip
      refine q1 (vi r5) (want1 rfl (yD 70 hg2)) ?_
      refine st_call (want1 rfl (yD 70 hg2)) (xc Try.call19) ((p_law09_num r5 w10).mono ?_)
      rintro e w13 ⟨he, hE⟩
      refine ⟨(vi r5), he.trans (by kernel_rfl), ?_⟩
      replace hs := hs.pure hE
      replace hb := hb.pure hE
      clear hE he
      refine q1 (vi r7) (want1 rfl (yD 70 hg2)) (q1 (vb (r5 != r7)) (want1 rfl (yD 70 hg2)) (q2 (vb (r5 != r7)) (xF hg2) (wpL_nil (th_n ?_))))
      exact ⟨false, _, hg2, hs, hb, Has.mk (by kernel_rfl)⟩
    ·clear hs hb
     rintro ρ w12 ⟨b1'0, H1, he0, hs, hb, hH⟩
     subst he0
     refine norm_has hH ?_
     clear hH
     refine th_n ?_
     refine wpE_cond (t := ((r4 != r6) || (r5 != r7))) (by kernel_rfl) (fun hc3 => ?_) (fun hc3 => ?_)
     ·replace h := h.1 hc3
      refine wpE_seq (rg (q0 (vp none) (q0 (vb false) (wpL_nil (th_n (wpE_ret (th_r (bl_r (th_r (th_r (bl_r ?_)))))))))))
      refine th_r ?_
      replace h := h H1 w12 hs
      replace hs := hs.here
      refine res2 (.inl rfl) Try.results15 (v := (vp none)) (by kernel_rfl) (v' := (vb false)) (by kernel_rfl) ?_
      exact ⟨none, false, rfl, h⟩
     ·replace h := h.2 hc3
      refine wpE_skip (th_n (wpE_seq (wpE_seq (rg (q0 (vi r7) (q0 (vb (r7 != 0)) (wpL_nil (th_n ?_))))))))
      refine wpE_cond (t := (r7 != 0)) (by kernel_rfl) (fun hc4 => ?_) (fun hc4 => ?_)
      ·replace h := h.1 hc4
       refine wpE_exit (th_x (bl_eq (th_n (rg (q0 (vi i1) (q0 (vi (IntKind.i64.wrap (i1 + 1))) (q0 (vi (IntKind.i64.wrap (i1 + 1))) (wpL_nil ?_))))))))
       replace h := h H1 w12 hs
       replace hs := hs.here
       refine th_n ?_
       exact ⟨((IntKind.i64.wrap (i1 + 1)), H1, w12), ⟨rfl, Has.mk (by kernel_rfl), hs, hb, h.1⟩, h.2⟩
      ·replace h := h.2 hc4
       refine wpE_skip (th_n (wpE_seq (rg (q0 (vb false) (wpL_nil (th_n (wpE_seq (wpE_seq (rg (q0 (vi 0) (wpL_nil ?_)))))))))))
       refine th_n (wpE_block ?_)
       replace h := h H1 w12 hs
       replace hs := hs.here
       obtain ⟨I2, mu2, h0, hr⟩ := h
       refine wpE_loop (σ := Bool × Int × (Nat → Prop) × World) (fun s ρ w => w = s.2.2.2 ∧ Has ρ [(0, l1.v), (4, (vp (some p1))), (5, (vi i1)), (6, (vi r4)), (8, (vi r6)), (10, (vb s.1)), (11, (vi s.2.1))] ∧ Hst w0 s.2.2.1 w s.2.2.1 w ∧ HB s.2.2.1 w [] ∧ I2 s.1 s.2.1 s.2.2.1 s.2.2.2) (fun s => mu2 s.1 s.2.1 s.2.2.2) (false, 0, H1, w12) ⟨rfl, Has.mk (by kernel_rfl), hs, hb, h0⟩ ?_
       clear hs hb
       rintro ⟨there1, k1, Hl2, wl2⟩ ρ w ⟨hw, hH, hs, hb, hI⟩
       obtain rfl : wl2 = w := (show w = wl2 from hw).symm
       replace hH : Has ρ [(0, l1.v), (4, (vp (some p1))), (5, (vi i1)), (6, (vi r4)), (8, (vi r6)), (10, (vb there1)), (11, (vi k1))] := hH
       replace hs : Hst w0 Hl2 wl2 Hl2 wl2 := hs
       replace hb : HB Hl2 wl2 [] := hb
       have h := hr there1 k1 Hl2 wl2 hs hI
       clear hr h0
       unfold m_law09_given_l3 at h
       refine wpE_has hH ?_
       clear hH hI
       refine wpE_seq (wpE_seq (rg (q0 (vi k1) (q0 (vp (some p1)) (q0 (vp (some p1)) (q0 (vp (some (p1.add 3))) ?_))))))
       obtain ⟨v4, hv8, h⟩ := h
       refine q2 v4.v (xl (Try.isAgg30 _) hv8) (q0 (vi (v4.len : Int)) (q0 (vb (decide (k1 < (v4.len : Int)))) (wpL_nil (th_n ?_))))
       refine wpE_cond (t := (decide (k1 < (v4.len : Int)))) (by kernel_rfl) (fun hc5 => ?_) (fun hc5 => ?_)
       ·replace h := h.1 hc5
        refine wpE_skip (th_n (wpE_seq ?_))
        refine wpE_joinT (fun ρ w => ∃ there2 : Bool, ∃ H : Nat → Prop, Has ρ [(0, l1.v), (4, (vp (some p1))), (5, (vi i1)), (6, (vi r4)), (8, (vi r6)), (10, (vb there2)), (11, (vi k1))] ∧ Hst w0 H w H w ∧ HB H w [] ∧ m_law09_given_j4 k1 there2 H w (fun y'0 y'1 H' w' => I2 y'0 y'1 H' w' ∧ mu2 y'0 y'1 w' < mu2 there1 k1 wl2) K) ?_ ?_
        ·clear h hs hb
         rintro ρ w ⟨there2, H, hH, hs, hb, h⟩
         unfold m_law09_given_j4 at h
         refine wpE_has hH ?_
         clear hH
         refine rg (q0 (vi k1) (q0 (vi (IntKind.i64.wrap (k1 + 1))) (q0 (vi (IntKind.i64.wrap (k1 + 1))) (wpL_nil (th_n ?_)))))
         exact ⟨(there2, (IntKind.i64.wrap (k1 + 1)), H, w), ⟨rfl, Has.mk (by kernel_rfl), hs, hb, h.1⟩, h.2⟩
        ·skip
         refine wpE_block (rg (q0 (vb there1) (q0 (vb there1) ?_)))
         rcases Bool.eq_false_or_eq_true there1 with hg3 | hg3
         ·replace h := h.1 hg3
          refine sk (yD 88 hg3) (sk (yD 88 hg3) (sk (yD 88 hg3) (sk (yD 88 hg3) (sk (yD 88 hg3) (sk (yD 88 hg3) (sk (yD 88 hg3) (sk (yD 88 hg3) (sk (yD 88 hg3) (q2 (vb true) (xT hg3) (q0 (vb true) (wpL_nil ?_)))))))))))
          refine bl_n (th_n ?_)
          exact ⟨true, Hl2, Has.mk (by kernel_rfl), hs, hb, h⟩
         ·replace h := h.2 hg3
          refine q1 (vp (some p1)) (want1 rfl (yD 88 hg3)) (q1 (vp (some p1)) (want1 rfl (yD 88 hg3)) (q1 (vp (some (p1.add 3))) (want1 rfl (yD 88 hg3)) ?_))
          obtain ⟨v5, hv3, h⟩ := h
          refine stp (v := v5.v) (want1 rfl (yD 88 hg3)) (xl (Try.isAgg30 _) hv3) (q1 (vi k1) (want1 rfl (yD 88 hg3)) ?_)
          obtain ⟨a3, hv2, h⟩ := h
          refine stp (v := (vp (some a3))) (want1 rfl (yD 88 hg3)) (x_indexAddr (s := v5) (k := .i64) (i := k1) (by kernel_rfl) (by kernel_rfl) (Try.runUnderlying30 _) (Try.sizeOf38 _) hv2) ?_
          obtain ⟨v6, hv1, h⟩ := h
          refine stp (v := (vi v6)) (want1 rfl (yD 88 hg3)) (xl (Try.isAgg38 _) hv1) (q1 (vi r6) (want1 rfl (yD 88 hg3)) (q1 (vb (v6 == r6)) (want1 rfl (yD 88 hg3)) (q2 (vb (v6 == r6)) (xF hg3) (q0 (vb (v6 == r6)) (wpL_nil (bl_n (th_n ?_)))))))
          exact ⟨(v6 == r6), Hl2, Has.mk (by kernel_rfl), hs, hb, h⟩
       ·replace h := h.2 hc5
        refine wpE_exit (th_x (th_x (bl_eq (th_n (wpE_seq (wpE_seq (rg (q0 (vb there1) (q0 (vb (!there1)) (wpL_nil (th_n ?_)))))))))))
        refine wpE_cond (t := (!there1)) (by kernel_rfl) (fun hc6 => ?_) (fun hc6 => ?_)
        ·replace h := h.1 hc6
         refine rg (q0 (vp (some p1)) (q0 (vp (some p1)) (q0 (vp (some p1)) (q0 (vp (some (p1.add 3))) ?_))))
         obtain ⟨v7, hv6, h⟩ := h
         refine q2 v7.v (xl (Try.isAgg30 _) hv6) (q0 (vi r6) (st_new (O := (.cells #[(vi r6)] 38)) (fun p => (Sl.mk (some p) 1 1).v) (want0 rfl) (x_buildSlice (vs := #[(0, (vi r6))]) (by kernel_rfl) (by kernel_rfl)) ?_))
         intro p2 w14 hn3
         replace h := h p2 w14 hn3
         replace hs := hs.again (Ext.new (F := None) hn3).keptP
         replace hb := hb.kept (Ext.new (F := None) hn3).keptP
         obtain ⟨s1, w15, hv5, hk, h⟩ := h
         refine st (v := s1.v) (want0 rfl) (x_builtin (args := #[v7.v, (Sl.mk (some p2) 1 1).v]) (by kernel_rfl) (fun _ => rfl) hv5) ?_
         obtain ⟨hs, hb⟩ := hk.hh hs hb
         refine q0 (vp (some p1)) (q0 (vp (some (p1.add 3))) ?_)
         obtain ⟨hp2, hnh, h⟩ := h
         refine st_set (want0 rfl) (x_store (a := (p1.add 3)) (v := s1.v) (by kernel_rfl) (by kernel_rfl) rfl (Try.sizeOf30 _) hp2) ?_
         intro w16 hn2
         replace h := h w16 hn2
         have hk : Kept Hl2 w15 w16 := by rw [hn2]; exact Kept.setCell hnh
         replace hs := hs.again hk
         replace hb := hb.kept hk
         clear hk hnh
         refine wpL_nil (th_n (rg (q0 (vp (some p1)) (q0 (vp (some p1)) (q0 (vp (some (p1.add 1))) ?_)))))
         obtain ⟨v8, hv4, h⟩ := h
         refine q2 (vp v8) (xl (Try.isAgg33 _) hv4) (q0 (vi r4) ?_)
         refine st_call (want0 rfl) (xc Try.call56) (h.mono ?_)
         rintro e w17 ⟨r8, rfl, hk, h⟩
         refine ⟨_, rfl, ?_⟩
         obtain ⟨hs, hb⟩ := hk.hh hs hb
         refine wpL_nil (bl_n (th_n (rg (q0 (vi i1) (q0 (vi (IntKind.i64.wrap (i1 + 1))) (q0 (vi (IntKind.i64.wrap (i1 + 1))) (wpL_nil (th_n ?_))))))))
         exact ⟨((IntKind.i64.wrap (i1 + 1)), Hl2, w17), ⟨rfl, Has.mk (by kernel_rfl), hs, hb, h.1⟩, h.2⟩
        ·replace h := h.2 hc6
         refine wpE_skip (th_n (rg (q0 (vp (some p1)) (q0 (vp (some p1)) (q0 (vp (some (p1.add 1))) ?_)))))
         obtain ⟨v9, hv7, h⟩ := h
         refine q2 (vp v9) (xl (Try.isAgg33 _) hv7) (q0 (vi r4) ?_)
         refine st_call (want0 rfl) (xc Try.call56) (h.mono ?_)
         rintro e w18 ⟨r9, rfl, hk, h⟩
         refine ⟨_, rfl, ?_⟩
         obtain ⟨hs, hb⟩ := hk.hh hs hb
         refine wpL_nil (bl_n (th_n (rg (q0 (vi i1) (q0 (vi (IntKind.i64.wrap (i1 + 1))) (q0 (vi (IntKind.i64.wrap (i1 + 1))) (wpL_nil (th_n ?_))))))))
         exact ⟨((IntKind.i64.wrap (i1 + 1)), Hl2, w18), ⟨rfl, Has.mk (by kernel_rfl), hs, hb, h.1⟩, h.2⟩
   ·replace h := h.2 hc2
    refine wpE_exit (th_x (th_x (bl_eq (th_n (wpE_seq (rg (q0 (vp (some p1)) (q0 (vp (some p1)) (q0 (vb true) (wpL_nil (th_n ?_)))))))))))
    refine wpE_ret (res2 (.inl rfl) Try.results15 (v := (vp (some p1))) (by kernel_rfl) (v' := (vb true)) (by kernel_rfl) ?_)
    exact ⟨(some p1), true, rfl, h⟩
 ·skip
  refine rg (q0 (vp (some p1)) (q0 (vp (some p1)) (q0 (vp (some p1)) ?_)))
  obtain ⟨v10, hv16, h⟩ := h
  refine q2 (vp v10) (xl (Try.isAgg32 _) hv16) (q2 (vb (Option.isNone v10)) (x_ptreq (by kernel_rfl) rfl Try.underlying32) (q0 (vb (Option.isNone v10)) ?_))
  rcases Bool.eq_false_or_eq_true (Option.isNone v10) with hg4 | hg4
  ·replace h := h.1 hg4
   refine sk (yD 29 hg4) (sk (yD 29 hg4) (sk (yD 29 hg4) (sk (yD 29 hg4) (sk (yD 29 hg4) (q2 (vb true) (xT hg4) (wpL_nil (th_n ?_)))))))
   exact ⟨true, None, Has.mk (by kernel_rfl), hs, hb, h⟩
  ·replace h := h.2 hg4
   refine q1 (vp (some p1)) (want1 rfl (yD 29 hg4)) (q1 (vp (some p1)) (want1 rfl (yD 29 hg4)) (q1 (vp (some (p1.add 1))) (want1 rfl (yD 29 hg4)) ?_))
   obtain ⟨v11, hv15, h⟩ := h
   refine stp (v := (vp v11)) (want1 rfl (yD 29 hg4)) (xl (Try.isAgg33 _) hv15) (stp (v := (vb (Option.isNone v11))) (want1 rfl (yD 29 hg4)) (x_ptreq (by kernel_rfl) rfl Try.underlying33) (q2 (vb (Option.isNone v11)) (xF hg4) (wpL_nil (th_n ?_))))
   exact ⟨(Option.isNone v11), None, Has.mk (by kernel_rfl), hs, hb, h⟩
def m_law09_live  (w0 : World) (K : Bool → World → Prop) : Prop :=
 ∀ (p1 : Addr) (w1 : World), New w0 (.cells #[(vi 2), (vi 0), (vi 0), (vu 1), (vs ⟨#[]⟩), Sl.nil.v] 46) p1 w1 →
 ∀ (p2 : Addr) (w2 : World), New w1 (.cells #[(vi 7), (vi 0), (vi 0), (vu 0), (vs ⟨#[]⟩), (Sl.mk (some p1) 1 1).v, (vi 6), (vi 0), (vi 0), (vu 0), (vs ⟨#[]⟩), Sl.nil.v] 46) p2 w2 →
 Calls Try.prog 15 #[(Sl.mk (some p2) 2 2).v] w2 (fun e w3 => ∃ r1 : Option Addr, ∃ r2 : Bool, e = .returned (.tuple #[(vp r1), (vb r2)]) ∧ 
  Kept None w2 w3 ∧
  Br (!r2)
   (K false w3)
   (∃ C1 : World → Prop, C1 w3.drew ∧ ∀ w4, w4 = w3.drew →
   ∃ a1 : Addr, r1 = some a1 ∧
   ∃ v1 : Option Addr, (∀ w', C1 w' → w'.cell? a1 = some (vp v1)) ∧
   ∃ a2 : Addr, r1 = some a2 ∧
   ∃ v2 : Option Addr, (∀ w', C1 w' → w'.cell? (a2.add 1) = some (vp v2)) ∧
   ∀ (p3 : Addr) (w5 : World), New w4 (.cells #[(vi 0), (vi 0), (vi 0), (vu 0), (vs ⟨#[]⟩), (vi 8), (vi 0), (vi 0), (vu 0), (vs ⟨#[]⟩), (vi 5), (vi 1), (vi 0), (vu 0), (vs ⟨#[]⟩), (vi 0), (vi 1), (vi 0), (vu 0), (vs ⟨#[]⟩), (vi 9), (vi 2), (vi 3), (vu 0), (vs ⟨#[]⟩)] 103) p3 w5 → C1 w5 ∧
   Calls Try.prog 18 #[(vp v1), (vp v2), (Sl.mk (some p3) 5 5).v] w5 (fun e w6 => ∃ r3 r4 r5 : Int, e = .returned (.tuple #[(vi r3), (vi r4), (vi r5)]) ∧ C1 w6 ∧ 
    Kept None w5 w6 ∧
    ∃ C2 : World → Prop, C2 w6.drew ∧ ∀ w7, w7 = w6.drew →
    ∃ a3 : Addr, r1 = some a3 ∧
    ∃ v3 : Option Addr, (∀ w', C2 w' → w'.cell? a3 = some (vp v3)) ∧
    ∃ a4 : Addr, r1 = some a4 ∧
    ∃ v4 : Option Addr, (∀ w', C2 w' → w'.cell? (a4.add 1) = some (vp v4)) ∧
    ∀ (p4 : Addr) (w8 : World), New w7 (.cells #[(vi 0), (vi 0), (vi 0), (vu 0), (vs ⟨#[]⟩), (vi 6), (vi 0), (vi 0), (vu 0), (vs ⟨#[]⟩)] 103) p4 w8 → C2 w8 ∧
    Calls Try.prog 18 #[(vp v3), (vp v4), (Sl.mk (some p4) 2 2).v] w8 (fun e w9 => ∃ r6 r7 r8 : Int, e = .returned (.tuple #[(vi r6), (vi r7), (vi r8)]) ∧ C2 w9 ∧ 
     Kept None w8 w9 ∧
     ∃ a5 : Addr, r1 = some a5 ∧
     ∃ v5 : Option Addr, w9.cell? a5 = some (vp v5) ∧
     Calls Try.prog 62 #[(vp v5), (vi r3)] w9 (fun e w10 => ∃ aA aB : Int, ∃ aC aD : Int, ∃ aE : ByteArray, ∃ aF aG : Int, ∃ r9 : Bool, e = .returned (.tuple #[(.agg #[(vi aA), (vi aB), (vi aC), (vu aD), (vs aE), (vi aF), (vi aG)]), (vb r9)]) ∧ 
      Kept None w9 w10 ∧
      ∀ (H6 : Nat → Prop) (w20 : World), Hst w0 None w10 H6 w20 →
      K (((((r4 == 0) && (aA == 7)) && (aB == 0)) && (r7 == 90)) && (r8 == 1)) w20)))))
theorem w_law09_live  (w0 : World) (K : Bool → World → Prop) (h : m_law09_live  w0 K) :
  Calls Try.prog 14 #[] w0 (fun e w' => ∃ r10 : Bool, e = .returned (vb r10) ∧ K r10 w') := by
 unfold m_law09_live at h
 refine calls_of_wpE (args := []) Try.func14 rfl Try.ntmps14 (Nat.le_of_ble_eq_true rfl) ?_
 have hs := Hst.start w0
 have hb := HB.nil None w0
 refine wpE_seq (rg (q0 (vb false) (wpL_nil (th_n (wpE_seq (rg (q0 (.agg #[(vi 2), (vi 0), (vi 0), (vu 1), (vs ⟨#[]⟩), Sl.nil.v]) (st_new (O := (.cells #[(vi 2), (vi 0), (vi 0), (vu 1), (vs ⟨#[]⟩), Sl.nil.v] 46)) (fun p => (Sl.mk (some p) 1 1).v) (want0 rfl) (x_buildSlice (vs := #[(0, (.agg #[(vi 2), (vi 0), (vi 0), (vu 1), (vs ⟨#[]⟩), Sl.nil.v]))]) (by kernel_rfl) (by kernel_rfl)) ?_))))))))
 intro p1 w1 hn6
 replace h := h p1 w1 hn6
 replace hs := hs.again (Ext.new (F := None) hn6).keptP
 replace hb := hb.kept (Ext.new (F := None) hn6).keptP
 refine q0 (.agg #[(vi 7), (vi 0), (vi 0), (vu 0), (vs ⟨#[]⟩), (Sl.mk (some p1) 1 1).v]) (q0 (.agg #[(vi 6), (vi 0), (vi 0), (vu 0), (vs ⟨#[]⟩), Sl.nil.v]) (st_new (O := (.cells #[(vi 7), (vi 0), (vi 0), (vu 0), (vs ⟨#[]⟩), (Sl.mk (some p1) 1 1).v, (vi 6), (vi 0), (vi 0), (vu 0), (vs ⟨#[]⟩), Sl.nil.v] 46)) (fun p => (Sl.mk (some p) 2 2).v) (want0 rfl) (x_buildSlice (vs := #[(0, (.agg #[(vi 7), (vi 0), (vi 0), (vu 0), (vs ⟨#[]⟩), (Sl.mk (some p1) 1 1).v])), (1, (.agg #[(vi 6), (vi 0), (vi 0), (vu 0), (vs ⟨#[]⟩), Sl.nil.v]))]) (by kernel_rfl) (by kernel_rfl)) ?_))
 intro p2 w2 hn5
 replace h := h p2 w2 hn5
 replace hs := hs.again (Ext.new (F := None) hn5).keptP
 replace hb := hb.kept (Ext.new (F := None) hn5).keptP
 refine st_call (want0 rfl) (xc Try.call15) (h.mono ?_)
 rintro e w3 ⟨r1, r2, rfl, hk, h⟩
 refine ⟨_, rfl, ?_⟩
 obtain ⟨hs, hb⟩ := hk.hh hs hb
 refine q0 (.tuple #[(vp r1), (vb r2)]) (q0 (vp r1) (q0 (vb r2) (q0 (vp r1) (q0 (vb r2) (wpL_nil (th_n (wpE_seq (wpE_seq (rg (q0 (vb r2) (q0 (vb (!r2)) ?_)))))))))))
 refine wpL_nil (th_n ?_)
 refine wpE_cond (t := (!r2)) (by kernel_rfl) (fun hc1 => ?_) (fun hc1 => ?_)
 ·replace h := h.1 hc1
  refine wpE_seq (rg (q0 (vb false) (wpL_nil (th_n (wpE_ret (th_r (res1 (.inl rfl) Try.results14 (v := (vb false)) (by kernel_rfl) ?_)))))))
  exact ⟨false, rfl, h⟩
 ·replace h := h.2 hc1
  refine wpE_skip (th_n (wpE_seq ?_))
  obtain ⟨C1, hC, h⟩ := h
  refine wpE_drawnC C1 [13, 14] [] (by kernel_rfl) (by kernel_rfl) (by kernel_rfl) (by kernel_rfl) hC ?_
  clear hC
  intro w4 hw4
  replace h := h w4 hw4
  replace hs : Hst w0 None w3 None w4 := by rw [hw4]; exact hs.drew
  replace hb : HB None w4 [] := by rw [hw4]; exact hb.drew
  replace hs := hs.here
  refine qx 0 (vp r1) Kp0 (qgo (k := 1) (by kernel_rfl) ?_)
  obtain ⟨a1, hp1, h⟩ := h
  refine sx (v := (vp (some a1))) Kp1 (want0 rfl) (by kernel_rfl) (fun w' hw' => (x_nilCheck (p := r1) (by kernel_rfl) hp1)) (qx 2 (vp (some a1)) Kp2 (qgo (k := 3) (by kernel_rfl) ?_))
  obtain ⟨v1, hv5, h⟩ := h
  refine sx (v := (vp v1)) Kp3 (want0 rfl) (by kernel_rfl) (fun w' hw' => (xl (Try.isAgg32 _) (hv5 w' hw'))) (qx 4 (vp r1) Kp4 (qgo (k := 5) (by kernel_rfl) ?_))
  obtain ⟨a2, hp2, h⟩ := h
  refine sx (v := (vp (some a2))) Kp5 (want0 rfl) (by kernel_rfl) (fun w' hw' => (x_nilCheck (p := r1) (by kernel_rfl) hp2)) (qx 6 (vp (some (a2.add 1))) Kp6 (qgo (k := 7) (by kernel_rfl) ?_))
  obtain ⟨v2, hv4, h⟩ := h
  refine sx (v := (vp v2)) Kp7 (want0 rfl) (by kernel_rfl) (fun w' hw' => (xl (Try.isAgg33 _) (hv4 w' hw'))) (qx 8 (.agg #[(vi 0), (vi 0), (vi 0), (vu 0), (vs ⟨#[]⟩)]) Kp8 (qx 9 (.agg #[(vi 8), (vi 0), (vi 0), (vu 0), (vs ⟨#[]⟩)]) Kp9 (qx 10 (.agg #[(vi 5), (vi 1), (vi 0), (vu 0), (vs ⟨#[]⟩)]) (pickA (S8 (pickS (pickS pickZ)))) (qx 11 (.agg #[(vi 0), (vi 1), (vi 0), (vu 0), (vs ⟨#[]⟩)]) (pickA (S8 (pickS (pickS (pickS pickZ))))) (qx 12 (.agg #[(vi 9), (vi 2), (vi 3), (vu 0), (vs ⟨#[]⟩)]) (pickA (S8 (S4 pickZ))) (lgo (k := 13) (by kernel_rfl) (sl_new (O := (.cells #[(vi 0), (vi 0), (vi 0), (vu 0), (vs ⟨#[]⟩), (vi 8), (vi 0), (vi 0), (vu 0), (vs ⟨#[]⟩), (vi 5), (vi 1), (vi 0), (vu 0), (vs ⟨#[]⟩), (vi 0), (vi 1), (vi 0), (vu 0), (vs ⟨#[]⟩), (vi 9), (vi 2), (vi 3), (vu 0), (vs ⟨#[]⟩)] 103)) (fun p => (Sl.mk (some p) 5 5).v) (pickA (S8 (S4 (pickS pickZ)))) (want0 rfl) (by kernel_rfl) (x_buildSlice (vs := #[(0, (.agg #[(vi 0), (vi 0), (vi 0), (vu 0), (vs ⟨#[]⟩)])), (1, (.agg #[(vi 8), (vi 0), (vi 0), (vu 0), (vs ⟨#[]⟩)])), (2, (.agg #[(vi 5), (vi 1), (vi 0), (vu 0), (vs ⟨#[]⟩)])), (3, (.agg #[(vi 0), (vi 1), (vi 0), (vu 0), (vs ⟨#[]⟩)])), (4, (.agg #[(vi 9), (vi 2), (vi 3), (vu 0), (vs ⟨#[]⟩)]))]) (by kernel_rfl) (by kernel_rfl)) ?_)))))))
  intro p3 w5 hn4
  replace h := h p3 w5 hn4
  refine ⟨.inr h.1, ?_⟩
  replace h := h.2
  replace hs := hs.again (Ext.new (F := None) hn4).keptP
  replace hb := hb.kept (Ext.new (F := None) hn4).keptP
  refine lgo (k := 14) (by kernel_rfl) ?_
  refine sl_call (pickA (S8 (S4 (pickS (pickS pickZ))))) (want0 rfl) (by kernel_rfl) (xc Try.call18) (h.mono ?_)
  rintro e w6 ⟨r3, r4, r5, rfl, hC, hk, h⟩
  refine ⟨_, rfl, .inr hC, ?_⟩
  obtain ⟨hs, hb⟩ := hk.hh hs hb
  refine qx 15 (.tuple #[(vi r3), (vi r4), (vi r5)]) (pickA (S8 (S4 (pickS (pickS (pickS pickZ)))))) (qx 16 (vi r3) (pickA (S8 (S8 pickZ))) (qx 17 (vi r4) (pickA (S8 (S8 (pickS pickZ)))) (qx 18 (vi r5) (pickA (S8 (S8 (pickS (pickS pickZ))))) (qx 19 (vi r3) (pickA (S8 (S8 (pickS (pickS (pickS pickZ)))))) (qx 20 (vi r4) (pickA (S8 (S8 (S4 pickZ)))) (qx 21 (vi r5) (pickA (S8 (S8 (S4 (pickS pickZ))))) (wpX_nil (by kernel_rfl) (th_n (wpE_seq ?_)))))))))
  obtain ⟨C2, hC, h⟩ := h
  refine wpE_drawnC C2 [10, 11] [] (by kernel_rfl) (by kernel_rfl) (by kernel_rfl) (by kernel_rfl) hC ?_
  clear hC
  intro w7 hw7
  replace h := h w7 hw7
  replace hs : Hst w0 None w6 None w7 := by rw [hw7]; exact hs.drew
  replace hb : HB None w7 [] := by rw [hw7]; exact hb.drew
  replace hs := hs.here
  refine qx 0 (vp r1) Kp0 (qgo (k := 1) (by kernel_rfl) ?_)
  obtain ⟨a3, hp3, h⟩ := h
  refine sx (v := (vp (some a3))) Kp1 (want0 rfl) (by kernel_rfl) (fun w' hw' => (x_nilCheck (p := r1) (by kernel_rfl) hp3)) (qx 2 (vp (some a3)) Kp2 (qgo (k := 3) (by kernel_rfl) ?_))
  obtain ⟨v3, hv3, h⟩ := h
  refine sx (v := (vp v3)) Kp3 (want0 rfl) (by kernel_rfl) (fun w' hw' => (xl (Try.isAgg32 _) (hv3 w' hw'))) (qx 4 (vp r1) Kp4 (qgo (k := 5) (by kernel_rfl) ?_))
  obtain ⟨a4, hp4, h⟩ := h
  refine sx (v := (vp (some a4))) Kp5 (want0 rfl) (by kernel_rfl) (fun w' hw' => (x_nilCheck (p := r1) (by kernel_rfl) hp4)) (qx 6 (vp (some (a4.add 1))) Kp6 (qgo (k := 7) (by kernel_rfl) ?_))
  obtain ⟨v4, hv2, h⟩ := h
  refine sx (v := (vp v4)) Kp7 (want0 rfl) (by kernel_rfl) (fun w' hw' => (xl (Try.isAgg33 _) (hv2 w' hw'))) (qx 8 (.agg #[(vi 0), (vi 0), (vi 0), (vu 0), (vs ⟨#[]⟩)]) Kp8 (qx 9 (.agg #[(vi 6), (vi 0), (vi 0), (vu 0), (vs ⟨#[]⟩)]) Kp9 (lgo (k := 10) (by kernel_rfl) (sl_new (O := (.cells #[(vi 0), (vi 0), (vi 0), (vu 0), (vs ⟨#[]⟩), (vi 6), (vi 0), (vi 0), (vu 0), (vs ⟨#[]⟩)] 103)) (fun p => (Sl.mk (some p) 2 2).v) (pickA (S8 (pickS (pickS pickZ)))) (want0 rfl) (by kernel_rfl) (x_buildSlice (vs := #[(0, (.agg #[(vi 0), (vi 0), (vi 0), (vu 0), (vs ⟨#[]⟩)])), (1, (.agg #[(vi 6), (vi 0), (vi 0), (vu 0), (vs ⟨#[]⟩)]))]) (by kernel_rfl) (by kernel_rfl)) ?_))))
  intro p4 w8 hn3
  replace h := h p4 w8 hn3
  refine ⟨.inr h.1, ?_⟩
  replace h := h.2
  replace hs := hs.again (Ext.new (F := None) hn3).keptP
  replace hb := hb.kept (Ext.new (F := None) hn3).keptP
  refine lgo (k := 11) (by kernel_rfl) ?_
  refine sl_call (pickA (S8 (pickS (pickS (pickS pickZ))))) (want0 rfl) (by kernel_rfl) (xc Try.call18) (h.mono ?_)
  rintro e w9 ⟨r6, r7, r8, rfl, hC, hk, h⟩
  refine ⟨_, rfl, .inr hC, ?_⟩
  obtain ⟨hs, hb⟩ := hk.hh hs hb
  refine qx 12 (.tuple #[(vi r6), (vi r7), (vi r8)]) (pickA (S8 (S4 pickZ))) (qx 13 (vi r6) (pickA (S8 (S4 (pickS pickZ)))) (qx 14 (vi r7) (pickA (S8 (S4 (pickS (pickS pickZ))))) (qx 15 (vi r8) (pickA (S8 (S4 (pickS (pickS (pickS pickZ)))))) (qx 16 (vi r6) (pickA (S8 (S8 pickZ))) (qx 17 (vi r7) (pickA (S8 (S8 (pickS pickZ)))) (qx 18 (vi r8) (pickA (S8 (S8 (pickS (pickS pickZ))))) (wpX_nil (by kernel_rfl) (th_n (wpE_seq (rg (q0 (vp r1) ?_)))))))))))
  obtain ⟨a5, hp5, h⟩ := h
  refine q2 (vp (some a5)) (x_nilCheck (p := r1) (by kernel_rfl) hp5) (q0 (vp (some a5)) ?_)
  obtain ⟨v5, hv1, h⟩ := h
  refine q2 (vp v5) (xl (Try.isAgg32 _) hv1) (q0 (vi r3) ?_)
  refine st_call (want0 rfl) (xc Try.call62) (h.mono ?_)
  rintro e w10 ⟨aA, aB, aC, aD, aE, aF, aG, r9, rfl, hk, h⟩
  refine ⟨_, rfl, ?_⟩
  obtain ⟨hs, hb⟩ := hk.hh hs hb
  refine q0 (.tuple #[(.agg #[(vi aA), (vi aB), (vi aC), (vu aD), (vs aE), (vi aF), (vi aG)]), (vb r9)]) (q0 (.agg #[(vi aA), (vi aB), (vi aC), (vu aD), (vs aE), (vi aF), (vi aG)]) (q0 (vb r9) (sn (O := (.cells #[(vi 0), (vi 0), (vi 0), (vu 0), (vs ⟨#[]⟩), (vi 0), (vi 0)] 105)) (x_alloc (Try.zeroValue105 _) rfl) ?_)))
  intro p5 w11 hn1
  obtain ⟨H1, hs, hb⟩ := hs.alloc hb hn1
  refine st_set (want0 rfl) (x_storeA (a := p5) (vs := [(vi aA), (vi aB), (vi aC), (vu aD), (vs aE), (vi aF), (vi aG)]) (by kernel_rfl) (by kernel_rfl) rfl (Try.sizeOf105 _) rfl (hb.canWs0 0 7 gZ (by kernel_rfl))) ?_
  intro w12 hn2
  have hsb : Hst w0 None w10 H1 w12 ∧ HB H1 w12 [(p5, [(vi aA), (vi aB), (vi aC), (vu aD), (vs aE), (vi aF), (vi aG)], 105)] := by
   rw [hn2]
   exact hb.store0 (i := 0) (vs := [(vi aA), (vi aB), (vi aC), (vu aD), (vs aE), (vi aF), (vi aG)]) hs gZ (by kernel_rfl) (by kernel_rfl)
  clear hs hb hn2
  obtain ⟨hs, hb⟩ := hsb
  refine q0 (vb r9) (wpL_nil (th_n (wpE_seq ?_)))
  refine wpE_via (fun ρ wJ => ∃ HJ : Nat → Prop, Hst w0 None w10 HJ wJ ∧ HB HJ wJ [(p5, [(vi aA), (vi aB), (vi aC), (vu aD), (vs aE), (vi aF), (vi aG)], 105)] ∧ Has ρ [(0, (vb (((((r4 == 0) && (aA == 7)) && (aB == 0)) && (r7 == 90)) && (r8 == 1))))]) ?_ ?_
  ·skip
   refine rg (q0 (vi r4) ?_)
   refine st_call (want0 rfl) (xc Try.call19) ((p_law09_num r4 w12).mono ?_)
   rintro e w21 ⟨he, hE⟩
   refine ⟨(vi r4), he.trans (by kernel_rfl), ?_⟩
   replace hs := hs.pure hE
   replace hb := hb.pure hE
   clear hE he
   refine q0 (vb (r4 == 0)) (q0 (vb (r4 == 0)) ?_)
   refine wpL_join 4 (fun ρ wJ => ∃ b6'0 : Bool, ∃ HJ : Nat → Prop, ((r4 == 0) = b6'0) ∧ Hst w0 None w10 HJ wJ ∧ HB HJ wJ [(p5, [(vi aA), (vi aB), (vi aC), (vu aD), (vs aE), (vi aF), (vi aG)], 105)] ∧ Has ρ [(7, (vi r7)), (8, (vi r8)), (9, (vp (some p5))), (73, (vb (b6'0 && (aA == 7))))]) ?_ ?_
   ·clear hs hb
    rintro ρ w22 ⟨b6'0, H7, he0, hs, hb, hH⟩
    subst he0
    refine wpL_has hH ?_
    clear hH
    refine q0 (vb ((r4 == 0) && (aA == 7))) ?_
    refine wpL_join 4 (fun ρ wJ => ∃ b7'0 : Bool, ∃ HJ : Nat → Prop, (((r4 == 0) && (aA == 7)) = b7'0) ∧ Hst w0 None w10 HJ wJ ∧ HB HJ wJ [(p5, [(vi aA), (vi aB), (vi aC), (vu aD), (vs aE), (vi aF), (vi aG)], 105)] ∧ Has ρ [(7, (vi r7)), (8, (vi r8)), (78, (vb (b7'0 && (aB == 0))))]) ?_ ?_
    ·clear hs hb
     rintro ρ w23 ⟨b7'0, H8, he0, hs, hb, hH⟩
     subst he0
     refine wpL_has hH ?_
     clear hH
     refine q0 (vb (((r4 == 0) && (aA == 7)) && (aB == 0))) ?_
     refine wpL_join 4 (fun ρ wJ => ∃ b8'0 : Bool, ∃ HJ : Nat → Prop, ((((r4 == 0) && (aA == 7)) && (aB == 0)) = b8'0) ∧ Hst w0 None w10 HJ wJ ∧ HB HJ wJ [(p5, [(vi aA), (vi aB), (vi aC), (vu aD), (vs aE), (vi aF), (vi aG)], 105)] ∧ Has ρ [(8, (vi r8)), (83, (vb (b8'0 && (r7 == 90))))]) ?_ ?_
     ·clear hs hb
      rintro ρ w25 ⟨b8'0, H9, he0, hs, hb, hH⟩
      subst he0
      refine wpL_has hH ?_
      clear hH
      refine q0 (vb ((((r4 == 0) && (aA == 7)) && (aB == 0)) && (r7 == 90))) ?_
      refine wpL_join 3 (fun ρ wJ => ∃ b9'0 : Bool, ∃ HJ : Nat → Prop, (((((r4 == 0) && (aA == 7)) && (aB == 0)) && (r7 == 90)) = b9'0) ∧ Hst w0 None w10 HJ wJ ∧ HB HJ wJ [(p5, [(vi aA), (vi aB), (vi aC), (vu aD), (vs aE), (vi aF), (vi aG)], 105)] ∧ Has ρ [(87, (vb (b9'0 && (r8 == 1))))]) ?_ ?_
      ·clear hs hb
       rintro ρ w27 ⟨b9'0, H10, he0, hs, hb, hH⟩
       subst he0
       refine wpL_has hH ?_
       clear hH
       refine q0 (vb (((((r4 == 0) && (aA == 7)) && (aB == 0)) && (r7 == 90)) && (r8 == 1))) (wpL_nil (th_n ?_))
       exact ⟨_, hs, hb, Has.mk (by kernel_rfl)⟩
      ·skip
       rcases Bool.eq_false_or_eq_true ((((r4 == 0) && (aA == 7)) && (aB == 0)) && (r7 == 90)) with hg16 | hg16
       ·skip
        refine q1 (vi r8) (want1 rfl (yD 84 hg16)) (q1 (vb (r8 == 1)) (want1 rfl (yD 84 hg16)) (q2 (vb (r8 == 1)) (xT hg16) (wpL_nil ?_)))
        exact ⟨true, _, hg16, hs, hb, Has.mk (by kernel_rfl)⟩
       ·skip
        refine sk (yD 84 hg16) (sk (yD 84 hg16) (q2 (vb false) (xF hg16) (wpL_nil ?_)))
        exact ⟨false, _, hg16, hs, hb, Has.mk (by kernel_rfl)⟩
     ·skip
      rcases Bool.eq_false_or_eq_true (((r4 == 0) && (aA == 7)) && (aB == 0)) with hg14 | hg14
      ·skip
       refine q1 (vi r7) (want1 rfl (yD 79 hg14)) ?_
       refine st_call (want1 rfl (yD 79 hg14)) (xc Try.call19) ((p_law09_num r7 w23).mono ?_)
       rintro e w26 ⟨he, hE⟩
       refine ⟨(vi r7), he.trans (by kernel_rfl), ?_⟩
       replace hs := hs.pure hE
       replace hb := hb.pure hE
       clear hE he
       refine q1 (vb (r7 == 90)) (want1 rfl (yD 79 hg14)) (q2 (vb (r7 == 90)) (xT hg14) (wpL_nil ?_))
       exact ⟨true, _, hg14, hs, hb, Has.mk (by kernel_rfl)⟩
      ·skip
       refine sk (yD 79 hg14) (sk (yD 79 hg14) (sk (yD 79 hg14) (q2 (vb false) (xF hg14) (wpL_nil ?_))))
       exact ⟨false, _, hg14, hs, hb, Has.mk (by kernel_rfl)⟩
    ·skip
     rcases Bool.eq_false_or_eq_true ((r4 == 0) && (aA == 7)) with hg12 | hg12
     ·skip
      refine q1 (vp (some (p5.add 1))) (want1 rfl (yD 74 hg12)) (stp (v := (vi aB)) (want1 rfl (yD 74 hg12)) (xl (Try.isAgg3 _) (hb.c 0 1 gZ)) (q1 (vb (aB == 0)) (want1 rfl (yD 74 hg12)) (q2 (vb (aB == 0)) (xT hg12) (wpL_nil ?_))))
      exact ⟨true, _, hg12, hs, hb, Has.mk (by kernel_rfl)⟩
     ·skip
      refine sk (yD 74 hg12) (sk (yD 74 hg12) (sk (yD 74 hg12) (q2 (vb false) (xF hg12) (wpL_nil ?_))))
      exact ⟨false, _, hg12, hs, hb, Has.mk (by kernel_rfl)⟩
   ·skip
    rcases Bool.eq_false_or_eq_true (r4 == 0) with hg10 | hg10
    ·skip
     refine q1 (vp (some p5)) (want1 rfl (yD 69 hg10)) (stp (v := (vi aA)) (want1 rfl (yD 69 hg10)) (xl (Try.isAgg3 _) (hb.c0 0 gZ)) (q1 (vb (aA == 7)) (want1 rfl (yD 69 hg10)) (q2 (vb (aA == 7)) (xT hg10) (wpL_nil ?_))))
     exact ⟨true, _, hg10, hs, hb, Has.mk (by kernel_rfl)⟩
    ·skip
     refine sk (yD 69 hg10) (sk (yD 69 hg10) (sk (yD 69 hg10) (q2 (vb false) (xF hg10) (wpL_nil ?_))))
     exact ⟨false, _, hg10, hs, hb, Has.mk (by kernel_rfl)⟩
  ·clear hs hb
   rintro ρ w20 ⟨H6, hs, hb, hH⟩
   refine norm_has hH ?_
   clear hH
   refine th_n (wpE_ret ?_)
   replace h := h H6 w20 hs
   replace hs := hs.here
   refine res1 (.inl rfl) Try.results14 (v := (vb (((((r4 == 0) && (aA == 7)) && (aB == 0)) && (r7 == 90)) && (r8 == 1)))) (by kernel_rfl) ?_
   exact ⟨(((((r4 == 0) && (aA == 7)) && (aB == 0)) && (r7 == 90)) && (r8 == 1)), rfl, h⟩
theorem eqt_law09_RecipeFinds_neq_4 (a0 b0 : Bool) (w : World) : (Go.binOp .neq 4 (.bool a0) (.bool b0)).run Try.prog w = .ok (.bool (!(a0 == b0))) w := by
 simp [Go.binOp, Op.equal, Op.maxDepth, go_sem, streq, bne]
def m_law09_RecipeFinds_j2 (r2 : Option Addr) (r4 : Int) (r7 r9 : Sl) (r10 x2 : Bool) (w0 : World) (H : Nat → Prop) (w : World) (K : Bool → World → Prop) : Prop :=
 Br x2
  (K false w)
  (Br (!r10)
   (Calls Try.prog 14 #[] w (fun e w12 => ∃ r11 : Bool, e = .returned (vb r11) ∧ 
    Kept H w w12 ∧
    K r11 w12))
   (∃ C3 : World → Prop, C3 w.drew ∧ ∀ w13, w13 = w.drew →
   ∃ a5 : Addr, r2 = some a5 ∧
   ∃ v5 : Option Addr, (∀ w', C3 w' → w'.cell? a5 = some (vp v5)) ∧
   ∃ a6 : Addr, r2 = some a6 ∧
   ∃ v6 : Option Addr, (∀ w', C3 w' → w'.cell? (a6.add 1) = some (vp v6)) ∧
   Calls Try.prog 18 #[(vp v5), (vp v6), r9.v] w13 (fun e w14 => ∃ r12 r13 r14 : Int, e = .returned (.tuple #[(vi r12), (vi r13), (vi r14)]) ∧ C3 w14 ∧ 
    Kept H w13 w14 ∧
    ∀ y1 : Bool, y1 = (((r13 == 0) && (r12 == r4)) && (((r9.len : Int) : Int) == (r7.len : Int))) →
    Br y1
     (∀ (H3 : Nat → Prop) (w17 : World), Hst w0 H w14 H3 w17 →
     Calls Try.prog 14 #[] w17 (fun e w18 => ∃ r15 : Bool, e = .returned (vb r15) ∧ 
      Kept H3 w17 w18 ∧
      K r15 w18))
     (∀ (H3 : Nat → Prop) (w17 : World), Hst w0 H w14 H3 w17 →
     K false w17))))
def m_law09_RecipeFinds_j1 (l1 : Sl) (goalKind1 goalFrom1 : Int) (goalTo1 goalNum1 : Int) (goalText1 : ByteArray) (goalKids1 : Sl) (x1 : Bool) (w0 : World) (H : Nat → Prop) (w : World) (K : Bool → World → Prop) : Prop :=
 Br x1
  (Calls Try.prog 14 #[] w (fun e w2 => ∃ r1 : Bool, e = .returned (vb r1) ∧ 
   Kept H w w2 ∧
   K r1 w2))
  (Calls Try.prog 15 #[l1.v] w (fun e w3 => ∃ r2 : Option Addr, ∃ r3 : Bool, e = .returned (.tuple #[(vp r2), (vb r3)]) ∧ 
   Kept H w w3 ∧
   Br (!r3)
    (K false w3)
    (∃ C1 : World → Prop, C1 w3.drew ∧ ∀ w4, w4 = w3.drew →
    ∃ a1 : Addr, r2 = some a1 ∧
    ∃ v1 : Option Addr, (∀ w', C1 w' → w'.cell? a1 = some (vp v1)) ∧
    Calls Try.prog 24 #[(.agg #[(vi goalKind1), (vi goalFrom1), (vi goalTo1), (vu goalNum1), (vs goalText1), goalKids1.v])] w4 (fun e w5 => ∃ aA aB : Int, ∃ aC aD : Int, ∃ aE : ByteArray, ∃ aH : Sl, e = .returned (.agg #[(vi aA), (vi aB), (vi aC), (vu aD), (vs aE), aH.v]) ∧ C1 w5 ∧ 
     Kept H w4 w5 ∧
     Calls Try.prog 23 #[(vp v1), (.agg #[(vi aA), (vi aB), (vi aC), (vu aD), (vs aE), aH.v])] w5 (fun e w6 => ∃ r4 r5 : Int, e = .returned (.tuple #[(vi r4), (vi r5)]) ∧ C1 w6 ∧ 
      Kept H w5 w6 ∧
      Br (r5 != 0)
       (∀ (w7 : World), Hst w0 H w6 H w7 →
       Calls Try.prog 14 #[] w7 (fun e w8 => ∃ r6 : Bool, e = .returned (vb r6) ∧ 
        Kept H w7 w8 ∧
        K r6 w8))
       (∃ a2 : Addr, r2 = some a2 ∧
       ∀ (w7 : World), Hst w0 H w6 H w7 →
       ∃ v2 : Option Addr, w7.cell? (a2.add 1) = some (vp v2) ∧
       Calls Try.prog 37 #[(vp v2), (vi r4)] w7 (fun e w9 => ∃ r7 : Sl, ∃ r8 : Bool, e = .returned (.tuple #[r7.v, (vb r8)]) ∧ 
        Kept H w7 w9 ∧
        ∃ C2 : World → Prop, C2 w9.drew ∧ ∀ w10, w10 = w9.drew →
        ∃ a3 : Addr, r2 = some a3 ∧
        ∃ v3 : Option Addr, (∀ w', C2 w' → w'.cell? a3 = some (vp v3)) ∧
        ∃ a4 : Addr, r2 = some a4 ∧
        ∃ v4 : Option Addr, (∀ w', C2 w' → w'.cell? (a4.add 1) = some (vp v4)) ∧
        Calls Try.prog 38 #[(vp v3), (vp v4), (vi r4)] w10 (fun e w11 => ∃ r9 : Sl, ∃ r10 : Bool, e = .returned (.tuple #[r9.v, (vb r10)]) ∧ C2 w11 ∧ 
         Kept H w10 w11 ∧
         ∃ a7 : Addr, r2 = some a7 ∧
         ∃ v7 : Option Addr, w11.cell? (a7.add 1) = some (vp v7) ∧
         Calls Try.prog 17 #[(vp v7), (vi r4)] w11 (fun e w19 => ∃ r16 : Bool, e = .returned (vb r16) ∧ 
          Kept H w11 w19 ∧
          ∀ y2 : Bool, y2 = (((!(r8 == r16)) || (!(r10 == (r8 && (decide ((r7.len : Int) ≤ 256)))))) || ((!r10) && (decide ((r9.len : Int) > 0)))) →
          ∀ (H8 : Nat → Prop) (w24 : World), Hst w0 H w19 H8 w24 →
          m_law09_RecipeFinds_j2 r2 r4 r7 r9 r10 y2 w0 H8 w24 K)))))))))
def m_law09_RecipeFinds (l1 : Sl) (goalKind1 goalFrom1 : Int) (goalTo1 goalNum1 : Int) (goalText1 : ByteArray) (goalKids1 : Sl) (w0 : World) (K : Bool → World → Prop) : Prop :=
 ∀ (H1 : Nat → Prop) (w1 : World), Hst w0 None w0 H1 w1 →
 Calls Try.prog 12 #[l1.v] w1 (fun e w26 => ∃ r17 : Bool, e = .returned (vb r17) ∧ 
  Kept H1 w1 w26 ∧
  Br r17
   (m_law09_RecipeFinds_j1 l1 goalKind1 goalFrom1 goalTo1 goalNum1 goalText1 goalKids1 true w0 H1 w26 K)
   (∀ (p2 : Addr) (w27 : World), New w26 (.cells #[(vi goalKind1), (vi goalFrom1), (vi goalTo1), (vu goalNum1), (vs goalText1), goalKids1.v] 46) p2 w27 →
   Calls Try.prog 12 #[(Sl.mk (some p2) 1 1).v] w27 (fun e w28 => ∃ r18 : Bool, e = .returned (vb r18) ∧ 
    Kept H1 w27 w28 ∧
    m_law09_RecipeFinds_j1 l1 goalKind1 goalFrom1 goalTo1 goalNum1 goalText1 goalKids1 r18 w0 H1 w28 K)))
theorem w_law09_RecipeFinds (l1 : Sl) (goalKind1 goalFrom1 : Int) (goalTo1 goalNum1 : Int) (goalText1 : ByteArray) (goalKids1 : Sl) (w0 : World) (K : Bool → World → Prop) (h : m_law09_RecipeFinds l1 goalKind1 goalFrom1 goalTo1 goalNum1 goalText1 goalKids1 w0 K) :
  Calls Try.prog 7 #[l1.v, (.agg #[(vi goalKind1), (vi goalFrom1), (vi goalTo1), (vu goalNum1), (vs goalText1), goalKids1.v])] w0 (fun e w' => ∃ r19 : Bool, e = .returned (vb r19) ∧ K r19 w') := by
 unfold m_law09_RecipeFinds at h
 refine calls_of_wpE (args := [l1.v, (.agg #[(vi goalKind1), (vi goalFrom1), (vi goalTo1), (vu goalNum1), (vs goalText1), goalKids1.v])]) Try.func7 rfl Try.ntmps7 (Nat.le_of_ble_eq_true rfl) ?_
 have hs := Hst.start w0
 have hb := HB.nil None w0
 refine wpE_seq (rg (sn (O := (.cells #[(vi goalKind1), (vi goalFrom1), (vi goalTo1), (vu goalNum1), (vs goalText1), goalKids1.v] 46)) xb ?_))
 intro p1 w1 hn1
 obtain ⟨H1, hs, hb⟩ := hs.alloc hb hn1
 refine q0 (vb false) (wpL_nil (th_n (wpE_seq (wpE_seq ?_))))
 refine wpE_joinT (fun ρ w => ∃ x1 : Bool, ∃ H : Nat → Prop, Has ρ [(0, l1.v), (3, (vp (some p1))), (22, (vb x1))] ∧ Hst w0 H w H w ∧ HB H w [(p1, [(vi goalKind1), (vi goalFrom1), (vi goalTo1), (vu goalNum1), (vs goalText1), goalKids1.v], 46)] ∧ m_law09_RecipeFinds_j1 l1 goalKind1 goalFrom1 goalTo1 goalNum1 goalText1 goalKids1 x1 w0 H w K) ?_ ?_
 ·clear h hs hb
  rintro ρ w ⟨x1, H, hH, hs, hb, h⟩
  unfold m_law09_RecipeFinds_j1 at h
  refine wpE_has hH ?_
  clear hH
  refine wpE_cond (t := x1) (by kernel_rfl) (fun hc1 => ?_) (fun hc1 => ?_)
  ·replace h := h.1 hc1
   refine wpE_seq (rg ?_)
   refine st_call (want0 rfl) (xc Try.call14) (h.mono ?_)
   rintro e w2 ⟨r1, rfl, hk, h⟩
   refine ⟨_, rfl, ?_⟩
   obtain ⟨hs, hb⟩ := hk.hh hs hb
   refine q0 (vb r1) (wpL_nil (th_n (wpE_ret (th_r (res1 (.inl rfl) Try.results7 (v := (vb r1)) (by kernel_rfl) ?_)))))
   exact ⟨r1, rfl, h⟩
  ·replace h := h.2 hc1
   refine wpE_skip (th_n (wpE_seq (rg (q0 l1.v ?_))))
   refine st_call (want0 rfl) (xc Try.call15) (h.mono ?_)
   rintro e w3 ⟨r2, r3, rfl, hk, h⟩
   refine ⟨_, rfl, ?_⟩
   obtain ⟨hs, hb⟩ := hk.hh hs hb
   refine q0 (.tuple #[(vp r2), (vb r3)]) (q0 (vp r2) (q0 (vb r3) (q0 (vp r2) (q0 (vb r3) (wpL_nil (th_n (wpE_seq (wpE_seq (rg (q0 (vb r3) (q0 (vb (!r3)) ?_)))))))))))
   refine wpL_nil (th_n ?_)
   refine wpE_cond (t := (!r3)) (by kernel_rfl) (fun hc2 => ?_) (fun hc2 => ?_)
   ·replace h := h.1 hc2
    refine wpE_seq (rg (q0 (vb false) (wpL_nil (th_n (wpE_ret (th_r (res1 (.inl rfl) Try.results7 (v := (vb false)) (by kernel_rfl) ?_)))))))
    exact ⟨false, rfl, h⟩
   ·replace h := h.2 hc2
    refine wpE_skip (th_n (wpE_seq ?_))
    obtain ⟨C1, hC, h⟩ := h
    refine wpE_drawnC (fun x => C1 x ∧ HB H x [(p1, [(vi goalKind1), (vi goalFrom1), (vi goalTo1), (vu goalNum1), (vs goalText1), goalKids1.v], 46)]) [5, 6] [] (by kernel_rfl) (by kernel_rfl) (by kernel_rfl) (by kernel_rfl) ⟨hC, hb.drew⟩ ?_
    clear hC
    intro w4 hw4
    replace h := h w4 hw4
    replace hs : Hst w0 H w3 H w4 := by rw [hw4]; exact hs.drew
    replace hb : HB H w4 [(p1, [(vi goalKind1), (vi goalFrom1), (vi goalTo1), (vu goalNum1), (vs goalText1), goalKids1.v], 46)] := by rw [hw4]; exact hb.drew
    replace hs := hs.here
    refine qx 0 (vp r2) Kp0 (qgo (k := 1) (by kernel_rfl) ?_)
    obtain ⟨a1, hp1, h⟩ := h
    refine sx (v := (vp (some a1))) Kp1 (want0 rfl) (by kernel_rfl) (fun w' hw' => (x_nilCheck (p := r2) (by kernel_rfl) hp1)) (qx 2 (vp (some a1)) Kp2 (qgo (k := 3) (by kernel_rfl) ?_))
    obtain ⟨v1, hv7, h⟩ := h
    refine sx (v := (vp v1)) Kp3 (want0 rfl) (by kernel_rfl) (fun w' hw' => (xl (Try.isAgg32 _) (hv7 w' hw'.1))) (qz 4 (.agg #[(vi goalKind1), (vi goalFrom1), (vi goalTo1), (vu goalNum1), (vs goalText1), goalKids1.v]) Kp4 (fun w' hw' => (x_loadA (a := p1) (vs := [(vi goalKind1), (vi goalFrom1), (vi goalTo1), (vu goalNum1), (vs goalText1), goalKids1.v]) (by kernel_rfl) (Try.isAgg46 _) (Try.sizeOf46 _) rfl (hw'.2.row0 0 6 gZ (by kernel_rfl)))) (lgo (k := 5) (by kernel_rfl) ?_))
    refine sl_call Kp5 (want0 rfl) (by kernel_rfl) (xc Try.call24) (h.mono ?_)
    rintro e w5 ⟨aA, aB, aC, aD, aE, aH, rfl, hC, hk, h⟩
    refine ⟨_, rfl, .inr ⟨hC, hb.kept hk⟩, ?_⟩
    obtain ⟨hs, hb⟩ := hk.hh hs hb
    refine lgo (k := 6) (by kernel_rfl) ?_
    refine sl_call Kp6 (want0 rfl) (by kernel_rfl) (xc Try.call23) (h.mono ?_)
    rintro e w6 ⟨r4, r5, rfl, hC, hk, h⟩
    refine ⟨_, rfl, .inr ⟨hC, hb.kept hk⟩, ?_⟩
    obtain ⟨hs, hb⟩ := hk.hh hs hb
    refine qx 7 (.tuple #[(vi r4), (vi r5)]) Kp7 (qx 8 (vi r4) Kp8 (qx 9 (vi r5) Kp9 (qx 10 (vi r4) (pickA (S8 (pickS (pickS pickZ)))) (qx 11 (vi r5) (pickA (S8 (pickS (pickS (pickS pickZ))))) (wpX_nil (by kernel_rfl) (th_n (wpE_seq (wpE_seq (rg (q0 (vi r5) ?_))))))))))
    refine st_call (want0 rfl) (xc Try.call19) ((p_law09_num r5 w6).mono ?_)
    rintro e w7 ⟨he, hE⟩
    refine ⟨(vi r5), he.trans (by kernel_rfl), ?_⟩
    replace hs := hs.pure hE
    replace hb := hb.pure hE
    clear hE he
    refine q0 (vb (r5 != 0)) (wpL_nil (th_n ?_))
    refine wpE_cond (t := (r5 != 0)) (by kernel_rfl) (fun hc3 => ?_) (fun hc3 => ?_)
    ·replace h := h.1 hc3
     refine wpE_seq (rg ?_)
     replace h := h w7 hs
     replace hs := hs.here
     refine st_call (want0 rfl) (xc Try.call14) (h.mono ?_)
     rintro e w8 ⟨r6, rfl, hk, h⟩
     refine ⟨_, rfl, ?_⟩
     obtain ⟨hs, hb⟩ := hk.hh hs hb
     refine q0 (vb r6) (wpL_nil (th_n (wpE_ret (th_r (res1 (.inl rfl) Try.results7 (v := (vb r6)) (by kernel_rfl) ?_)))))
     exact ⟨r6, rfl, h⟩
    ·replace h := h.2 hc3
     refine wpE_skip (th_n (wpE_seq (rg (q0 (vp r2) ?_))))
     obtain ⟨a2, hp2, h⟩ := h
     refine q2 (vp (some a2)) (x_nilCheck (p := r2) (by kernel_rfl) hp2) (q0 (vp (some (a2.add 1))) ?_)
     replace h := h w7 hs
     replace hs := hs.here
     obtain ⟨v2, hv6, h⟩ := h
     refine q2 (vp v2) (xl (Try.isAgg33 _) hv6) (q0 (vi r4) ?_)
     refine st_call (want0 rfl) (xc Try.call37) (h.mono ?_)
     rintro e w9 ⟨r7, r8, rfl, hk, h⟩
     refine ⟨_, rfl, ?_⟩
     obtain ⟨hs, hb⟩ := hk.hh hs hb
     refine q0 (.tuple #[r7.v, (vb r8)]) (q0 r7.v (q0 (vb r8) (q0 r7.v (q0 (vb r8) (wpL_nil (th_n (wpE_seq ?_)))))))
     obtain ⟨C2, hC, h⟩ := h
     refine wpE_drawnC (fun x => C2 x ∧ HB H x [(p1, [(vi goalKind1), (vi goalFrom1), (vi goalTo1), (vu goalNum1), (vs goalText1), goalKids1.v], 46)]) [9] [] (by kernel_rfl) (by kernel_rfl) (by kernel_rfl) (by kernel_rfl) ⟨hC, hb.drew⟩ ?_
     clear hC
     intro w10 hw10
     replace h := h w10 hw10
     replace hs : Hst w0 H w9 H w10 := by rw [hw10]; exact hs.drew
     replace hb : HB H w10 [(p1, [(vi goalKind1), (vi goalFrom1), (vi goalTo1), (vu goalNum1), (vs goalText1), goalKids1.v], 46)] := by rw [hw10]; exact hb.drew
     replace hs := hs.here
     refine qx 0 (vp r2) Kp0 (qgo (k := 1) (by kernel_rfl) ?_)
     obtain ⟨a3, hp3, h⟩ := h
     refine sx (v := (vp (some a3))) Kp1 (want0 rfl) (by kernel_rfl) (fun w' hw' => (x_nilCheck (p := r2) (by kernel_rfl) hp3)) (qx 2 (vp (some a3)) Kp2 (qgo (k := 3) (by kernel_rfl) ?_))
     obtain ⟨v3, hv5, h⟩ := h
     refine sx (v := (vp v3)) Kp3 (want0 rfl) (by kernel_rfl) (fun w' hw' => (xl (Try.isAgg32 _) (hv5 w' hw'.1))) (qx 4 (vp r2) Kp4 (qgo (k := 5) (by kernel_rfl) ?_))
     obtain ⟨a4, hp4, h⟩ := h
     refine sx (v := (vp (some a4))) Kp5 (want0 rfl) (by kernel_rfl) (fun w' hw' => (x_nilCheck (p := r2) (by kernel_rfl) hp4)) (qx 6 (vp (some (a4.add 1))) Kp6 (qgo (k := 7) (by kernel_rfl) ?_))
     obtain ⟨v4, hv4, h⟩ := h
     refine sx (v := (vp v4)) Kp7 (want0 rfl) (by kernel_rfl) (fun w' hw' => (xl (Try.isAgg33 _) (hv4 w' hw'.1))) (qx 8 (vi r4) Kp8 (lgo (k := 9) (by kernel_rfl) ?_))
     refine sl_call Kp9 (want0 rfl) (by kernel_rfl) (xc Try.call38) (h.mono ?_)
     rintro e w11 ⟨r9, r10, rfl, hC, hk, h⟩
     refine ⟨_, rfl, .inr ⟨hC, hb.kept hk⟩, ?_⟩
     obtain ⟨hs, hb⟩ := hk.hh hs hb
     refine qx 10 (.tuple #[r9.v, (vb r10)]) (pickA (S8 (pickS (pickS pickZ)))) (qx 11 r9.v (pickA (S8 (pickS (pickS (pickS pickZ))))) (qx 12 (vb r10) (pickA (S8 (S4 pickZ))) (qx 13 r9.v (pickA (S8 (S4 (pickS pickZ)))) (qx 14 (vb r10) (pickA (S8 (S4 (pickS (pickS pickZ))))) (wpX_nil (by kernel_rfl) (th_n (wpE_seq (wpE_seq ?_))))))))
     refine wpE_joinT (fun ρ w => ∃ x2 : Bool, ∃ H : Nat → Prop, Has ρ [(5, (vp r2)), (7, (vi r4)), (9, r7.v), (11, r9.v), (12, (vb r10)), (93, (vb x2))] ∧ Hst w0 H w H w ∧ HB H w [(p1, [(vi goalKind1), (vi goalFrom1), (vi goalTo1), (vu goalNum1), (vs goalText1), goalKids1.v], 46)] ∧ m_law09_RecipeFinds_j2 r2 r4 r7 r9 r10 x2 w0 H w K) ?_ ?_
     ·clear h hs hb
      rintro ρ w ⟨x2, H, hH, hs, hb, h⟩
      unfold m_law09_RecipeFinds_j2 at h
      refine wpE_has hH ?_
      clear hH
      refine wpE_cond (t := x2) (by kernel_rfl) (fun hc4 => ?_) (fun hc4 => ?_)
      ·replace h := h.1 hc4
       refine wpE_seq (rg (q0 (vb false) (wpL_nil (th_n (wpE_ret (th_r (res1 (.inl rfl) Try.results7 (v := (vb false)) (by kernel_rfl) ?_)))))))
       exact ⟨false, rfl, h⟩
      ·replace h := h.2 hc4
       refine wpE_skip (th_n (wpE_seq (wpE_seq (rg (q0 (vb r10) (q0 (vb (!r10)) (wpL_nil (th_n ?_))))))))
       refine wpE_cond (t := (!r10)) (by kernel_rfl) (fun hc5 => ?_) (fun hc5 => ?_)
       ·replace h := h.1 hc5
        refine wpE_seq (rg ?_)
        refine st_call (want0 rfl) (xc Try.call14) (h.mono ?_)
        rintro e w12 ⟨r11, rfl, hk, h⟩
        refine ⟨_, rfl, ?_⟩
        obtain ⟨hs, hb⟩ := hk.hh hs hb
        refine q0 (vb r11) (wpL_nil (th_n (wpE_ret (th_r (res1 (.inl rfl) Try.results7 (v := (vb r11)) (by kernel_rfl) ?_)))))
        exact ⟨r11, rfl, h⟩
       ·replace h := h.2 hc5
        refine wpE_skip (th_n (wpE_seq ?_))
        obtain ⟨C3, hC, h⟩ := h
        refine wpE_drawnC (fun x => C3 x ∧ HB H x [(p1, [(vi goalKind1), (vi goalFrom1), (vi goalTo1), (vu goalNum1), (vs goalText1), goalKids1.v], 46)]) [9] [] (by kernel_rfl) (by kernel_rfl) (by kernel_rfl) (by kernel_rfl) ⟨hC, hb.drew⟩ ?_
        clear hC
        intro w13 hw13
        replace h := h w13 hw13
        replace hs : Hst w0 H w H w13 := by rw [hw13]; exact hs.drew
        replace hb : HB H w13 [(p1, [(vi goalKind1), (vi goalFrom1), (vi goalTo1), (vu goalNum1), (vs goalText1), goalKids1.v], 46)] := by rw [hw13]; exact hb.drew
        replace hs := hs.here
        refine qx 0 (vp r2) Kp0 (qgo (k := 1) (by kernel_rfl) ?_)
        obtain ⟨a5, hp5, h⟩ := h
        refine sx (v := (vp (some a5))) Kp1 (want0 rfl) (by kernel_rfl) (fun w' hw' => (x_nilCheck (p := r2) (by kernel_rfl) hp5)) (qx 2 (vp (some a5)) Kp2 (qgo (k := 3) (by kernel_rfl) ?_))
        obtain ⟨v5, hv2, h⟩ := h
        refine sx (v := (vp v5)) Kp3 (want0 rfl) (by kernel_rfl) (fun w' hw' => (xl (Try.isAgg32 _) (hv2 w' hw'.1))) (qx 4 (vp r2) Kp4 (qgo (k := 5) (by kernel_rfl) ?_))
        obtain ⟨a6, hp6, h⟩ := h
        refine sx (v := (vp (some a6))) Kp5 (want0 rfl) (by kernel_rfl) (fun w' hw' => (x_nilCheck (p := r2) (by kernel_rfl) hp6)) (qx 6 (vp (some (a6.add 1))) Kp6 (qgo (k := 7) (by kernel_rfl) ?_))
        obtain ⟨v6, hv1, h⟩ := h
        refine sx (v := (vp v6)) Kp7 (want0 rfl) (by kernel_rfl) (fun w' hw' => (xl (Try.isAgg33 _) (hv1 w' hw'.1))) (qx 8 r9.v Kp8 (lgo (k := 9) (by kernel_rfl) ?_))
        refine sl_call Kp9 (want0 rfl) (by kernel_rfl) (xc Try.call18) (h.mono ?_)
        rintro e w14 ⟨r12, r13, r14, rfl, hC, hk, h⟩
        refine ⟨_, rfl, .inr ⟨hC, hb.kept hk⟩, ?_⟩
        obtain ⟨hs, hb⟩ := hk.hh hs hb
        refine qx 10 (.tuple #[(vi r12), (vi r13), (vi r14)]) (pickA (S8 (pickS (pickS pickZ)))) (qx 11 (vi r12) (pickA (S8 (pickS (pickS (pickS pickZ))))) (qx 12 (vi r13) (pickA (S8 (S4 pickZ))) (qx 13 (vi r14) (pickA (S8 (S4 (pickS pickZ)))) (qx 14 (vi r12) (pickA (S8 (S4 (pickS (pickS pickZ))))) (qx 15 (vi r13) (pickA (S8 (S4 (pickS (pickS (pickS pickZ)))))) (qx 16 (vi r14) (pickA (S8 (S8 pickZ))) (wpX_nil (by kernel_rfl) (th_n (wpE_seq (rg (q0 (vi r13) ?_)))))))))))
        refine st_call (want0 rfl) (xc Try.call19) ((p_law09_num r13 w14).mono ?_)
        rintro e w15 ⟨he, hE⟩
        refine ⟨(vi r13), he.trans (by kernel_rfl), ?_⟩
        replace hs := hs.pure hE
        replace hb := hb.pure hE
        clear hE he
        refine q0 (vb (r13 == 0)) (q0 (vb (r13 == 0)) ?_)
        refine wpL_join 4 (fun ρ wJ => ∃ b1'0 : Bool, ∃ HJ : Nat → Prop, ((r13 == 0) = b1'0) ∧ Hst w0 H w14 HJ wJ ∧ HB HJ wJ [(p1, [(vi goalKind1), (vi goalFrom1), (vi goalTo1), (vu goalNum1), (vs goalText1), goalKids1.v], 46)] ∧ Has ρ [(9, r7.v), (11, r9.v), (118, (vb (b1'0 && (r12 == r4))))]) ?_ ?_
        ·clear hs hb
         rintro ρ w16 ⟨b1'0, H2, he0, hs, hb, hH⟩
         subst he0
         refine wpL_has hH ?_
         clear hH
         refine q0 (vb ((r13 == 0) && (r12 == r4))) ?_
         refine wpL_join 6 (fun ρ wJ => ∃ b2'0 y1 : Bool, ∃ HJ : Nat → Prop, (((r13 == 0) && (r12 == r4)) = b2'0) ∧ (y1 = (b2'0 && (((r9.len : Int) : Int) == (r7.len : Int)))) ∧ Hst w0 H w14 HJ wJ ∧ HB HJ wJ [(p1, [(vi goalKind1), (vi goalFrom1), (vi goalTo1), (vu goalNum1), (vs goalText1), goalKids1.v], 46)] ∧ Has ρ [(125, (vb y1))]) ?_ ?_
         ·clear hs hb
          rintro ρ w17 ⟨b2'0, y1, H3, he0, hy1, hs, hb, hH⟩
          subst he0
          replace h := h y1 hy1
          refine wpL_has hH ?_
          clear hH
          refine q0 (vb y1) ?_
          rcases Bool.eq_false_or_eq_true y1 with hg5 | hg5
          ·replace h := h.1 hg5
           replace h := h H3 w17 hs
           replace hs := hs.here
           refine st_call (want1 rfl (yD 126 hg5)) (xc Try.call14) (h.mono ?_)
           rintro e w18 ⟨r15, rfl, hk, h⟩
           refine ⟨_, rfl, ?_⟩
           obtain ⟨hs, hb⟩ := hk.hh hs hb
           refine q2 (vb r15) (xT hg5) (q0 (vb r15) (wpL_nil (th_n (wpE_ret (res1 (.inl rfl) Try.results7 (v := (vb r15)) (by kernel_rfl) ?_)))))
           exact ⟨r15, rfl, h⟩
          ·replace h := h.2 hg5
           refine sk (yD 126 hg5) (q2 (vb false) (xF hg5) (q0 (vb false) (wpL_nil (th_n (wpE_ret ?_)))))
           replace h := h H3 w17 hs
           replace hs := hs.here
           refine res1 (.inl rfl) Try.results7 (v := (vb false)) (by kernel_rfl) ?_
           exact ⟨false, rfl, h⟩
         ·skip
          rcases Bool.eq_false_or_eq_true ((r13 == 0) && (r12 == r4)) with hg4 | hg4
          ·skip
           refine q1 r9.v (want1 rfl (yD 119 hg4)) (q1 (vi (r9.len : Int)) (want1 rfl (yD 119 hg4)) (q1 r7.v (want1 rfl (yD 119 hg4)) (q1 (vi (r7.len : Int)) (want1 rfl (yD 119 hg4)) (q1 (vb (((r9.len : Int) : Int) == (r7.len : Int))) (want1 rfl (yD 119 hg4)) (q2 (vb (((r9.len : Int) : Int) == (r7.len : Int))) (xT hg4) (wpL_nil ?_))))))
           exact ⟨true, _, _, hg4, rfl, hs, hb, Has.mk (by kernel_rfl)⟩
          ·skip
           refine sk (yD 119 hg4) (sk (yD 119 hg4) (sk (yD 119 hg4) (sk (yD 119 hg4) (sk (yD 119 hg4) (q2 (vb false) (xF hg4) (wpL_nil ?_))))))
           exact ⟨false, _, _, hg4, rfl, hs, hb, Has.mk (by kernel_rfl)⟩
        ·skip
         rcases Bool.eq_false_or_eq_true (r13 == 0) with hg2 | hg2
         ·skip
          refine q1 (vi r12) (want1 rfl (yD 114 hg2)) (q1 (vi r4) (want1 rfl (yD 114 hg2)) (q1 (vb (r12 == r4)) (want1 rfl (yD 114 hg2)) (q2 (vb (r12 == r4)) (xT hg2) (wpL_nil ?_))))
          exact ⟨true, _, hg2, hs, hb, Has.mk (by kernel_rfl)⟩
         ·skip
          refine sk (yD 114 hg2) (sk (yD 114 hg2) (sk (yD 114 hg2) (q2 (vb false) (xF hg2) (wpL_nil ?_))))
          exact ⟨false, _, hg2, hs, hb, Has.mk (by kernel_rfl)⟩
     ·skip
      refine rg (q0 (vb r8) (q0 (vp r2) ?_))
      obtain ⟨a7, hp7, h⟩ := h
      refine q2 (vp (some a7)) (x_nilCheck (p := r2) (by kernel_rfl) hp7) (q0 (vp (some (a7.add 1))) ?_)
      obtain ⟨v7, hv3, h⟩ := h
      refine q2 (vp v7) (xl (Try.isAgg33 _) hv3) (q0 (vi r4) ?_)
      refine st_call (want0 rfl) (xc Try.call17) (h.mono ?_)
      rintro e w19 ⟨r16, rfl, hk, h⟩
      refine ⟨_, rfl, ?_⟩
      obtain ⟨hs, hb⟩ := hk.hh hs hb
      refine q2 (vb (!(r8 == r16))) (x_bin (by kernel_rfl) (by kernel_rfl) (by kernel_rfl) (eqt_law09_RecipeFinds_neq_4 r8 r16 _)) (q0 (vb (!(r8 == r16))) ?_)
      refine wpL_join 9 (fun ρ wJ => ∃ b4'0 : Bool, ∃ HJ : Nat → Prop, ((!(r8 == r16)) = b4'0) ∧ Hst w0 H w19 HJ wJ ∧ HB HJ wJ [(p1, [(vi goalKind1), (vi goalFrom1), (vi goalTo1), (vu goalNum1), (vs goalText1), goalKids1.v], 46)] ∧ Has ρ [(5, (vp r2)), (7, (vi r4)), (9, r7.v), (11, r9.v), (12, (vb r10)), (84, (vb (b4'0 || (!(r10 == (r8 && (decide ((r7.len : Int) ≤ 256))))))))]) ?_ ?_
      ·clear hs hb
       rintro ρ w21 ⟨b4'0, H5, he0, hs, hb, hH⟩
       subst he0
       refine wpL_has hH ?_
       clear hH
       refine q0 (vb ((!(r8 == r16)) || (!(r10 == (r8 && (decide ((r7.len : Int) ≤ 256))))))) ?_
       refine wpL_join 8 (fun ρ wJ => ∃ b7'0 y2 : Bool, ∃ HJ : Nat → Prop, (((!(r8 == r16)) || (!(r10 == (r8 && (decide ((r7.len : Int) ≤ 256)))))) = b7'0) ∧ (y2 = (b7'0 || ((!r10) && (decide ((r9.len : Int) > 0))))) ∧ Hst w0 H w19 HJ wJ ∧ HB HJ wJ [(p1, [(vi goalKind1), (vi goalFrom1), (vi goalTo1), (vu goalNum1), (vs goalText1), goalKids1.v], 46)] ∧ Has ρ [(5, (vp r2)), (7, (vi r4)), (9, r7.v), (11, r9.v), (12, (vb r10)), (93, (vb y2))]) ?_ ?_
       ·clear hs hb
        rintro ρ w24 ⟨b7'0, y2, H8, he0, hy2, hs, hb, hH⟩
        subst he0
        replace h := h y2 hy2
        refine wpL_has hH ?_
        clear hH
        refine wpL_nil ?_
        replace h := h H8 w24 hs
        replace hs := hs.here
        refine th_n ?_
        exact ⟨y2, H8, Has.mk (by kernel_rfl), hs, hb, h⟩
       ·skip
        rcases Bool.eq_false_or_eq_true ((!(r8 == r16)) || (!(r10 == (r8 && (decide ((r7.len : Int) ≤ 256)))))) with hg15 | hg15
        ·skip
         refine sk (yD 85 hg15) (sk (yD 85 hg15) (sk (yD 85 hg15) (st_not (by kernel_rfl) (st_not (by kernel_rfl) (st_not (by kernel_rfl) (sk (yD 85 hg15) (q2 (vb true) (xT hg15) (wpL_nil ?_))))))))
         exact ⟨true, _, _, hg15, rfl, hs, hb, Has.mk (by kernel_rfl)⟩
        ·skip
         refine q1 (vb r10) (want1 rfl (yD 85 hg15)) (q1 (vb (!r10)) (want1 rfl (yD 85 hg15)) (q1 (vb (!r10)) (want1 rfl (yD 85 hg15)) ?_))
         refine wpL_join 4 (fun ρ wJ => ∃ b8'0 : Bool, ∃ HJ : Nat → Prop, ((!r10) = b8'0) ∧ Hst w0 H w19 HJ wJ ∧ HB HJ wJ [(p1, [(vi goalKind1), (vi goalFrom1), (vi goalTo1), (vu goalNum1), (vs goalText1), goalKids1.v], 46)] ∧ Has ρ [(5, (vp r2)), (7, (vi r4)), (9, r7.v), (11, r9.v), (12, (vb r10)), (85, (vb ((!(r8 == r16)) || (!(r10 == (r8 && (decide ((r7.len : Int) ≤ 256)))))))), (92, (vb (b8'0 && (decide ((r9.len : Int) > 0)))))]) ?_ ?_
         ·clear hs hb
          rintro ρ w25 ⟨b8'0, H9, he0, hs, hb, hH⟩
          subst he0
          refine wpL_has hH ?_
          clear hH
          refine q2 (vb ((!r10) && (decide ((r9.len : Int) > 0)))) (xF hg15) (wpL_nil ?_)
          exact ⟨false, _, _, hg15, rfl, hs, hb, Has.mk (by kernel_rfl)⟩
         ·skip
          rcases Bool.eq_false_or_eq_true (!r10) with hg17 | hg17
          ·skip
           refine q1 r9.v (want1 rfl (yD 88 hg17)) (q1 (vi (r9.len : Int)) (want1 rfl (yD 88 hg17)) (q1 (vb (decide ((r9.len : Int) > 0))) (want1 rfl (yD 88 hg17)) (stp (v := (vb (decide ((r9.len : Int) > 0)))) (want1 rfl (yD 85 hg15)) (xT hg17) (wpL_nil ?_))))
           exact ⟨true, _, hg17, hs, hb, Has.mk (by kernel_rfl)⟩
          ·skip
           refine sk (yD 88 hg17) (sk (yD 88 hg17) (sk (yD 88 hg17) (stp (v := (vb false)) (want1 rfl (yD 85 hg15)) (xF hg17) (wpL_nil ?_))))
           exact ⟨false, _, hg17, hs, hb, Has.mk (by kernel_rfl)⟩
      ·skip
       rcases Bool.eq_false_or_eq_true (!(r8 == r16)) with hg9 | hg9
       ·skip
        refine sk (yD 75 hg9) (sk (yD 75 hg9) (sk (yD 75 hg9) (st_not (by kernel_rfl) (st_not (by kernel_rfl) (st_not (by kernel_rfl) (sk (yD 75 hg9) (sk (yD 75 hg9) (q2 (vb true) (xT hg9) (wpL_nil ?_)))))))))
        exact ⟨true, _, hg9, hs, hb, Has.mk (by kernel_rfl)⟩
       ·skip
        refine q1 (vb r10) (want1 rfl (yD 75 hg9)) (q1 (vb r8) (want1 rfl (yD 75 hg9)) (q1 (vb r8) (want1 rfl (yD 75 hg9)) ?_))
        refine wpL_join 4 (fun ρ wJ => ∃ b5'0 : Bool, ∃ HJ : Nat → Prop, (r8 = b5'0) ∧ Hst w0 H w19 HJ wJ ∧ HB HJ wJ [(p1, [(vi goalKind1), (vi goalFrom1), (vi goalTo1), (vu goalNum1), (vs goalText1), goalKids1.v], 46)] ∧ Has ρ [(5, (vp r2)), (7, (vi r4)), (9, r7.v), (11, r9.v), (12, (vb r10)), (75, (vb (!(r8 == r16)))), (76, (vb r10)), (82, (vb (b5'0 && (decide ((r7.len : Int) ≤ 256)))))]) ?_ ?_
        ·clear hs hb
         rintro ρ w22 ⟨b5'0, H6, he0, hs, hb, hH⟩
         subst he0
         refine wpL_has hH ?_
         clear hH
         refine stp (v := (vb (!(r10 == (r8 && (decide ((r7.len : Int) ≤ 256))))))) (want1 rfl (yD 75 hg9)) (x_bin (by kernel_rfl) (by kernel_rfl) (by kernel_rfl) (eqt_law09_RecipeFinds_neq_4 r10 (r8 && (decide ((r7.len : Int) ≤ 256))) _)) (q2 (vb (!(r10 == (r8 && (decide ((r7.len : Int) ≤ 256)))))) (xF hg9) (wpL_nil ?_))
         exact ⟨false, _, hg9, hs, hb, Has.mk (by kernel_rfl)⟩
        ·skip
         rcases Bool.eq_false_or_eq_true r8 with hg11 | hg11
         ·skip
          refine q1 r7.v (want1 rfl (yD 78 hg11)) (q1 (vi (r7.len : Int)) (want1 rfl (yD 78 hg11)) (q1 (vb (decide ((r7.len : Int) ≤ 256))) (want1 rfl (yD 78 hg11)) (stp (v := (vb (decide ((r7.len : Int) ≤ 256)))) (want1 rfl (yD 75 hg9)) (xT hg11) (wpL_nil ?_))))
          exact ⟨true, _, hg11, hs, hb, Has.mk (by kernel_rfl)⟩
         ·skip
          refine sk (yD 78 hg11) (sk (yD 78 hg11) (sk (yD 78 hg11) (stp (v := (vb false)) (want1 rfl (yD 75 hg9)) (xF hg11) (wpL_nil ?_))))
          exact ⟨false, _, hg11, hs, hb, Has.mk (by kernel_rfl)⟩
 ·skip
  refine rg (q0 l1.v ?_)
  replace h := h H1 w1 hs
  replace hs := hs.here
  refine st_call (want0 rfl) (xc Try.call12) (h.mono ?_)
  rintro e w26 ⟨r17, rfl, hk, h⟩
  refine ⟨_, rfl, ?_⟩
  obtain ⟨hs, hb⟩ := hk.hh hs hb
  refine q0 (vb r17) ?_
  rcases Bool.eq_false_or_eq_true r17 with hg18 | hg18
  ·replace h := h.1 hg18
   refine sk (yD 18 hg18) (sk (yD 18 hg18) (sk (yD 18 hg18) (q2 (vb true) (xT hg18) (wpL_nil (th_n ?_)))))
   exact ⟨true, H1, Has.mk (by kernel_rfl), hs, hb, h⟩
  ·replace h := h.2 hg18
   refine stp (v := (.agg #[(vi goalKind1), (vi goalFrom1), (vi goalTo1), (vu goalNum1), (vs goalText1), goalKids1.v])) (want1 rfl (yD 18 hg18)) (x_loadA (a := p1) (vs := [(vi goalKind1), (vi goalFrom1), (vi goalTo1), (vu goalNum1), (vs goalText1), goalKids1.v]) (by kernel_rfl) (Try.isAgg46 _) (Try.sizeOf46 _) rfl (hb.row0 0 6 gZ (by kernel_rfl))) (st_new (O := (.cells #[(vi goalKind1), (vi goalFrom1), (vi goalTo1), (vu goalNum1), (vs goalText1), goalKids1.v] 46)) (fun p => (Sl.mk (some p) 1 1).v) (want1 rfl (yD 18 hg18)) (x_buildSlice (vs := #[(0, (.agg #[(vi goalKind1), (vi goalFrom1), (vi goalTo1), (vu goalNum1), (vs goalText1), goalKids1.v]))]) (by kernel_rfl) (by kernel_rfl)) ?_)
   intro p2 w27 hn2
   replace h := h p2 w27 hn2
   replace hs := hs.again (Ext.new (F := None) hn2).keptP
   replace hb := hb.kept (Ext.new (F := None) hn2).keptP
   refine st_call (want1 rfl (yD 18 hg18)) (xc Try.call12) (h.mono ?_)
   rintro e w28 ⟨r18, rfl, hk, h⟩
   refine ⟨_, rfl, ?_⟩
   obtain ⟨hs, hb⟩ := hk.hh hs hb
   refine q2 (vb r18) (xF hg18) (wpL_nil (th_n ?_))
   exact ⟨r18, H1, Has.mk (by kernel_rfl), hs, hb, h⟩
end Go.Proofs
end
section
open Go Go.SE
namespace Go.Sp
theorem KnowOk.nil (L : Pool) : KnowOk L [] [] := ⟨⟨by simp [wkeys], by simp [wkeys], fun i hi => by simp at hi⟩, by simp [wkeys], by simp, by simp⟩
end Go.Sp
end
section
open Go Go.SE
namespace Go.Proofs
attribute [local irreducible] Calls
theorem c_law09_large {S : Nat → Prop} (ts : List Sp.Tree) (s : Sl) (w0 : World) (hT : TreeAt S w0 s (.mk 0 0 0 0 ⟨#[]⟩ ts)) (hS : ∀ b, S b → b < w0.heap.size) :
  Calls Try.prog 12 #[s.v] w0 (fun e w' => ∃ r : Bool, e = .returned (.bool r) ∧ ((r = false → ts.length ≤ 300 ∧ Sp.cntAll ts ≤ 6000) ∧ Pure w0 w')) := by
 refine w_law09_large _ w0 (fun r w' => (r = false → ts.length ≤ 300 ∧ Sp.cntAll ts ≤ 6000) ∧ Pure w0 w') ?_
 unfold m_law09_large
 have hlen : s.len = ts.length := by cases hT; assumption
 refine ⟨fun h => ⟨fun h => (by cases h), Ext.refl _⟩, fun h => ?_⟩
 have hle : ts.length ≤ 300 := by have := of_decide_eq_false h; omega
 refine (c_ref05_Parts (.mk 0 0 0 0 ⟨#[]⟩ ts) s 6000 w0 (by omega) (by omega) hT hS).mono ?_
 rintro _ w1 ⟨r, rfl, hr, E⟩
 refine ⟨_, rfl, fun h => ⟨hle, ?_⟩, E⟩
 have h := of_decide_eq_false h
 have hp := (Sp.parts_facts (.mk 0 0 0 0 ⟨#[]⟩ ts) 6000 (by omega)).2.2 (by omega)
 rw [Sp.cnt] at hp
 omega
structure SideAt (w0 : World) (H : Nat → Prop) (w : World) (s p k q : Addr) (sg : Sl) (L1 L2 : Sp.Pool) (GK G : List Int) (S : List Sp.Way) (FP FK FR : Nat → Prop) : Prop where
 box : Box w s [.pointer (some p), .pointer (some k), .pointer (some q), sg.v] 36
 pool : PoolAt w p L1 FP
 know : KnowAt w k p GK S FK
 ref : PoolR w q L2 FR
 giv : Rws w 38 1 sg (tmr G)
 pure : Pure w0 w
 hs : Hst w0 H w H w
 oP : ∀ b, FP b → w0.heap.size ≤ b ∧ ¬ H b ∧ b ≠ s.block ∧ ¬ FK b ∧ ¬ FR b ∧ ¬ sg.blk b
 oK : ∀ b, FK b → w0.heap.size ≤ b ∧ ¬ H b ∧ b ≠ s.block ∧ ¬ FR b ∧ ¬ sg.blk b
 oR : ∀ b, FR b → w0.heap.size ≤ b ∧ ¬ H b ∧ b ≠ s.block ∧ ¬ sg.blk b
 oG : ∀ b, sg.blk b → w0.heap.size ≤ b ∧ ¬ H b ∧ b ≠ s.block
 oS : w0.heap.size ≤ s.block ∧ ¬ H s.block
section
variable {w0 w w' : World} {H H' : Nat → Prop} {s p k q : Addr} {sg : Sl} {L1 L2 L' : Sp.Pool} {GK G G' : List Int} {S S' : List Sp.Way} {FP FK FR F' : Nat → Prop}
theorem SideAt.pureE (h : SideAt w0 H w s p k q sg L1 L2 GK G S FP FK FR) (E : Pure w w') : SideAt w0 H w' s p k q sg L1 L2 GK G S FP FK FR :=
 ⟨h.box.pure E, h.pool.pure E, h.know.pure E, h.ref.pure E, h.giv.pure E, h.pure.trans E, h.hs.again E.keptP, h.oP, h.oK, h.oR, h.oG, h.oS⟩
theorem SideAt.hst (h : SideAt w0 H w s p k q sg L1 L2 GK G S FP FK FR) (hs : Hst w0 H w H' w') : SideAt w0 H' w' s p k q sg L1 L2 GK G S FP FK FR := by
 have xP := hs.disj (G := FP) (fun b hb => ⟨h.pool.lt hb, (h.oP b hb).2.1⟩)
 have xK := hs.disj (G := FK) (fun b hb => ⟨h.know.lt hb, (h.oK b hb).2.1⟩)
 have xR := hs.disj (G := FR) (fun b hb => ⟨h.ref.lt hb, (h.oR b hb).2.1⟩)
 have xG := hs.disj (G := sg.blk) (fun b hb => ⟨h.giv.lt hb, (h.oG b hb).2.1⟩)
 have xS := hs.disj (G := (· = s.block)) (fun b hb => by subst hb; exact ⟨h.box.lt, h.oS.2⟩) _ rfl
 exact ⟨h.box.ext hs.ext xS, h.pool.ext hs.ext xP, h.know.ext hs.ext xK, h.ref.ext hs.ext xR, h.giv.ext hs.ext xG, h.pure.hst hs, hs.here, fun b hb => ⟨(h.oP b hb).1, xP b hb, (h.oP b hb).2.2⟩, fun b hb => ⟨(h.oK b hb).1, xK b hb, (h.oK b hb).2.2⟩, fun b hb => ⟨(h.oR b hb).1, xR b hb, (h.oR b hb).2.2⟩, fun b hb => ⟨(h.oG b hb).1, xG b hb, (h.oG b hb).2.2⟩, ⟨h.oS.1, xS⟩⟩
theorem SideAt.prog (h : SideAt w0 H w s p k q sg L1 L2 GK G S FP FK FR) (hP : PoolAt w' p L' F') (E : Ext FP w w') (hF : ∀ b, F' b → FP b ∨ w.heap.size ≤ b) : Kept H w w' ∧ SideAt w0 H w' s p k q sg L' L2 GK G S F' FK FR := by
 have hk : Kept H w w' := E.kept (fun b hb hf => (h.oP b hf).2.1 hb)
 have z := h.pure.size
 have zb := h.box.lt
 refine ⟨hk, h.box.ext E (fun hf => (h.oP _ hf).2.2.1 rfl), hP, h.know.ext E (fun b hb hf => (h.oP b hf).2.2.2.1 hb), h.ref.ext E (fun b hb hf => (h.oP b hf).2.2.2.2.1 hb), h.giv.ext E (fun b hb hf => (h.oP b hf).2.2.2.2.2 hb), h.pure.trans' E (fun i hi hb => by have := (h.oP i hb).1; omega), h.hs.again hk, fun b hb => ?_, h.oK, h.oR, h.oG, h.oS⟩
 rcases hF b hb with h1 | h1
 ·exact h.oP b h1
 ·exact ⟨by omega, fun hh => by have := h.hs.lt b hh; omega, by omega, fun hh => by have := h.know.lt hh; omega, fun hh => by have := h.ref.lt hh; omega, fun hh => by have := h.giv.lt hh; omega⟩
theorem SideAt.doc (h : SideAt w0 H w s p k q sg L1 L2 GK G S FP FK FR) (hP : PoolR w' q L' F') (E : Ext FR w w') (hF : ∀ b, F' b → FR b ∨ w.heap.size ≤ b) : Kept H w w' ∧ SideAt w0 H w' s p k q sg L1 L' GK G S FP FK F' := by
 have hk : Kept H w w' := E.kept (fun b hb hf => (h.oR b hf).2.1 hb)
 have z := h.pure.size
 have zb := h.box.lt
 have nf : ∀ b, b < w.heap.size → ¬ FR b → ¬ F' b := fun b hb h1 h2 => (hF b h2).elim h1 (fun h3 => by omega)
 refine ⟨hk, h.box.ext E (fun hf => (h.oR _ hf).2.2.1 rfl), h.pool.ext E (fun b hb => (h.oP b hb).2.2.2.2.1), h.know.ext E (fun b hb => (h.oK b hb).2.2.2.1), hP, h.giv.ext E (fun b hb hf => (h.oR b hf).2.2.2 hb), h.pure.trans' E (fun i hi hb => by have := (h.oR i hb).1; omega), h.hs.again hk, fun b hb => ⟨(h.oP b hb).1, (h.oP b hb).2.1, (h.oP b hb).2.2.1, (h.oP b hb).2.2.2.1, nf b (h.pool.lt hb) (h.oP b hb).2.2.2.2.1, (h.oP b hb).2.2.2.2.2⟩, fun b hb => ⟨(h.oK b hb).1, (h.oK b hb).2.1, (h.oK b hb).2.2.1, nf b (h.know.lt hb) (h.oK b hb).2.2.2.1, (h.oK b hb).2.2.2.2⟩, fun b hb => ?_, h.oG, h.oS⟩
 rcases hF b hb with h1 | h1
 ·exact h.oR b h1
 ·exact ⟨by omega, fun hh => by have := h.hs.lt b hh; omega, by omega, fun hh => by have := h.giv.lt hh; omega⟩
theorem SideAt.add (h : SideAt w0 H w s p k q sg L1 L2 GK G S FP FK FR) (hK : KnowAt w' k p G' S' F') (E : Ext FK w w') (hF : ∀ b, F' b → FK b ∨ w.heap.size ≤ b) : Kept H w w' ∧ SideAt w0 H w' s p k q sg L1 L2 G' G S' FP F' FR := by
 have hk : Kept H w w' := E.kept (fun b hb hf => (h.oK b hf).2.1 hb)
 have z := h.pure.size
 have zb := h.box.lt
 refine ⟨hk, h.box.ext E (fun hf => (h.oK _ hf).2.2.1 rfl), h.pool.ext E (fun b hb => (h.oP b hb).2.2.2.1), hK, h.ref.ext E (fun b hb hf => (h.oK b hf).2.2.2.1 hb), h.giv.ext E (fun b hb hf => (h.oK b hf).2.2.2.2 hb), h.pure.trans' E (fun i hi hb => by have := (h.oK i hb).1; omega), h.hs.again hk, fun b hb => ⟨(h.oP b hb).1, (h.oP b hb).2.1, (h.oP b hb).2.2.1, fun hf => (hF b hf).elim (h.oP b hb).2.2.2.1 (fun hh => by have := h.pool.lt hb; omega), (h.oP b hb).2.2.2.2⟩, fun b hb => ?_, h.oR, h.oG, h.oS⟩
 rcases hF b hb with h1 | h1
 ·exact h.oK b h1
 ·exact ⟨by omega, fun hh => by have := h.hs.lt b hh; omega, by omega, fun hh => by have := h.ref.lt hh; omega, fun hh => by have := h.giv.lt hh; omega⟩
theorem SideAt.app (h : SideAt w0 H w s p k q sg L1 L2 GK G S FP FK FR) {t : Int} {a : Addr} {w1 : World} (hq : New w (.cells #[.int .i64 t] 38) a w1) (hn : G.length ≤ 1000000) : ∃ s1 w2, (Builtin.append_ #[30, 30] 30 #[sg.v, (Sl.mk (some a) 1 1).v]).run Try.prog w1 = .ok s1.v w2 ∧ Kept H w1 w2 ∧ CanW w2 (s.add 3) ∧
  SideAt w0 H (w2.setCell (s.add 3) s1.v) s p k q s1 L1 L2 GK (G ++ [t]) S FP FK FR := by
 have E1 : Pure w w1 := Ext.new hq
 obtain ⟨s1, w2, hr, hR, hE, hb⟩ := (h.giv.pure E1).append (P := Try.prog) (ty := 30) (c := 1) slT_tm (r := [.int .i64 t]) (Box.of_new hq).row rfl rfl (by rw [tmr_len]; omega) (by rw [tmr_len]; simp [maxLen]; omega)
 have hk : Kept H w1 w2 := hE.kept (fun b hb hs => (h.oG b hs).2.1 hb)
 have hbx := (h.box.pure E1).ext hE (fun hs => (h.oG _ hs).2.2 rfl)
 have z1 := E1.size
 have z2 := hE.size
 have z := h.pure.size
 have zb := h.box.lt
 have E3 := Ext.setCell (w := w2) (s.add 3) s1.v
 rw [add_block] at E3
 have hb' : ∀ b, s1.blk b → sg.blk b ∨ w.heap.size ≤ b := fun b h => (hb b h).imp_right (fun h => by omega)
 have nb : ∀ b, w.heap.size ≤ b → ¬ H b := fun b hb hh => by have := h.hs.lt b hh; omega
 refine ⟨s1, w2, hr, hk, hbx.canW (by simp), hbx.set 3 s1.v, ((h.pool.pure E1).ext hE (fun b hb => (h.oP b hb).2.2.2.2.2)).ext E3 (fun b hb => (h.oP b hb).2.2.1), ((h.know.pure E1).ext hE (fun b hb => (h.oK b hb).2.2.2.2)).ext E3 (fun b hb => (h.oK b hb).2.2.1), ((h.ref.pure E1).ext hE (fun b hb => (h.oR b hb).2.2.2)).ext E3 (fun b hb => (h.oR b hb).2.2.1), ?_, ?_, ((h.hs.again E1.keptP).again hk).again (E3.kept (fun b hb e => h.oS.2 (e ▸ hb))),
  fun b hb => ⟨(h.oP b hb).1, (h.oP b hb).2.1, (h.oP b hb).2.2.1, (h.oP b hb).2.2.2.1, (h.oP b hb).2.2.2.2.1, fun hh => (hb' b hh).elim (h.oP b hb).2.2.2.2.2 (fun h3 => by have := h.pool.lt hb; omega)⟩, fun b hb => ⟨(h.oK b hb).1, (h.oK b hb).2.1, (h.oK b hb).2.2.1, (h.oK b hb).2.2.2.1, fun hh => (hb' b hh).elim (h.oK b hb).2.2.2.2 (fun h3 => by have := h.know.lt hb; omega)⟩, fun b hb => ⟨(h.oR b hb).1, (h.oR b hb).2.1, (h.oR b hb).2.2.1, fun hh => (hb' b hh).elim (h.oR b hb).2.2.2 (fun h3 => by have := h.ref.lt hb; omega)⟩, fun b hb => ?_, h.oS⟩
 ·rw [show tmr (G ++ [t]) = tmr G ++ [[.int .i64 t]] by simp [tmr]]
  refine hR.ext E3 (fun b hb' e => ?_)
  rcases hb b hb' with h1 | h1
  ·exact (h.oG b h1).2.2 e
  ·omega
 ·exact ((h.pure.trans E1).trans' hE (fun i hi hs => by have := (h.oG i hs).1; omega)).trans' E3 (fun i hi e => by have := h.oS.1; omega)
 ·rcases hb' b hb with h1 | h1
  ·exact h.oG b h1
  ·exact ⟨by omega, nb b (by omega), by omega⟩
end
theorem c_law09_given {ST : Nat → Prop} (ts : List Sp.Tree) (sT : Sl) (w0 : World) (hT : TreeAt ST w0 sT (.mk 0 0 0 0 ⟨#[]⟩ ts)) (hS : ∀ b, ST b → b < w0.heap.size) (hn : ts.length ≤ 1000) (hc : Sp.cntAll ts ≤ 900000) :
  Calls Try.prog 15 #[sT.v] w0 (fun e w' => ∃ r1 : Option Addr, ∃ r2 : Bool, e = .returned (.tuple #[.pointer r1, .bool r2]) ∧ ∃ s p k q sg S FP FK FR, r1 = some s ∧ r2 = true ∧ SideAt w0 None w' s p k q sg (Sp.sideAll ts).1 (Sp.sideAll ts).1 (Sp.sideAll ts).2 (Sp.sideAll ts).2 S FP FK FR ∧ Sp.KnowOk (Sp.sideAll ts).1 (Sp.sideAll ts).2 S) := by
 suffices key : ∀ K : Option Addr → Bool → World → Prop, (∀ s p k q sg S FP FK FR H w', SideAt w0 H w' s p k q sg (Sp.sideAll ts).1 (Sp.sideAll ts).1 (Sp.sideAll ts).2 (Sp.sideAll ts).2 S FP FK FR → Sp.KnowOk (Sp.sideAll ts).1 (Sp.sideAll ts).2 S → K (some s) true w') → m_law09_given sT w0 K by
  refine (w_law09_given _ w0 (fun r1 r2 w' => ∃ s p k q sg S FP FK FR H, r1 = some s ∧ r2 = true ∧ SideAt w0 H w' s p k q sg (Sp.sideAll ts).1 (Sp.sideAll ts).1 (Sp.sideAll ts).2 (Sp.sideAll ts).2 S FP FK FR ∧ Sp.KnowOk (Sp.sideAll ts).1 (Sp.sideAll ts).2 S) (key _ (fun s p k q sg S FP FK FR H w' h hk => ⟨s, p, k, q, sg, S, FP, FK, FR, H, rfl, rfl, h, hk⟩))).mono ?_
  rintro _ w' ⟨r1, r2, rfl, s, p, k, q, sg, S, FP, FK, FR, H, rfl, rfl, h, hk⟩
  exact ⟨_, _, rfl, s, p, k, q, sg, S, FP, FK, FR, rfl, rfl, ⟨h.box, h.pool, h.know, h.ref, h.giv, h.pure, (Hst.start w0).again (h.pure.keptP), fun b hb => ⟨(h.oP b hb).1, id, (h.oP b hb).2.2⟩, fun b hb => ⟨(h.oK b hb).1, id, (h.oK b hb).2.2⟩, fun b hb => ⟨(h.oR b hb).1, id, (h.oR b hb).2.2⟩, fun b hb => ⟨(h.oG b hb).1, id, (h.oG b hb).2.2⟩, ⟨h.oS.1, id⟩⟩, hk⟩
 intro K hK
 have hnil : ∀ b, ¬ Sl.nil.blk b := fun b hb => by obtain ⟨a, h, _⟩ := hb; cases h
 cases hT with
 | mk _ _ _ _ _ _ _ rs len fit row kid =>
 unfold m_law09_given
 refine (c_New w0).mono ?_
 rintro _ w1 ⟨_, rfl, p, rfl, E1, FP, hP1, hFP⟩
 refine ⟨_, rfl, E1.keptP, ?_⟩
 refine (c_ref05_New w1).mono ?_
 rintro _ w2 ⟨_, rfl, q, FR, rfl, hR2, E2, hFR⟩
 refine ⟨_, rfl, E2.keptP, ?_⟩
 intro s w3 n3
 have E3 : Pure w2 w3 := Ext.new n3
 have B3 := Box.of_new n3
 refine ⟨some p, B3.cell0, ?_⟩
 refine (c_ded_New p w3).mono ?_
 rintro _ w4 ⟨_, rfl, k, FK, rfl, hK4, E4, hFK⟩
 have B4 := B3.pure E4
 refine ⟨_, rfl, E4.keptP, B4.canW (by simp), id, ?_⟩
 intro w5 hw5
 have X5 : Ext (· = s.block) w4 w5 := by rw [hw5, ← add_block s 1]; exact Ext.setCell (s.add 1) _
 have B5 : Box w5 s [.pointer (some p), .pointer (some k), .pointer (some q), Sl.nil.v] 36 := by rw [hw5]; exact B4.set 1 (.pointer (some k))
 clear hw5
 have z1 := E1.size
 have z2 := E2.size
 have z3 := E3.size
 have z4 := E4.size
 have zs := n3.at_size
 have zl := B3.lt
 have lP := fun b (hb : FP b) => hP1.lt hb
 have lR := fun b (hb : FR b) => hR2.lt hb
 have E04 : Pure w0 w4 := ((E1.trans E2).trans E3).trans E4
 have E05 : Pure w0 w5 := E04.own (by omega) X5
 have S0 : SideAt w0 None w5 s p k q Sl.nil [] [] [] [] [] FP FK FR :=
  ⟨B5, ((hP1.pure ((E2.trans E3).trans E4)).ext X5 (fun b hb e => by have := lP b hb; omega)), hK4.ext X5 (fun b hb e => by have := hFK b hb; omega), ((hR2.pure (E3.trans E4)).ext X5 (fun b hb e => by have := lR b hb; omega)), Rws.nil _ _ _, E05, (Hst.start w0).again E05.keptP,
   fun b hb => ⟨hFP b hb, id, by have := lP b hb; omega, fun h => by have := lP b hb; have := hFK b h; omega, fun h => by have := lP b hb; have := hFR b h; omega, hnil b⟩, fun b hb => ⟨by have := hFK b hb; omega, id, by have := hFK b hb; omega, fun h => by have := hFK b hb; have := lR b h; omega, hnil b⟩, fun b hb => ⟨by have := hFR b hb; omega, id, by have := lR b hb; omega, hnil b⟩, fun b hb => (hnil b hb).elim, ⟨by omega, id⟩⟩
 refine ⟨some p, B5.cell0, Br.f rfl ⟨some k, B5.cell rfl, ?_⟩⟩
 unfold m_law09_given_j1
 refine Br.f rfl ?_
 refine ⟨fun i H w => ∃ (j : Nat) (sg : Sl) (S : List Sp.Way) (FP FK FR : Nat → Prop), i = j ∧ j ≤ ts.length ∧ SideAt w0 H w s p k q sg (Sp.sideAll (ts.take j)).1 (Sp.sideAll (ts.take j)).1 (Sp.sideAll (ts.take j)).2 (Sp.sideAll (ts.take j)).2 S FP FK FR ∧ Sp.KnowOk (Sp.sideAll (ts.take j)).1 (Sp.sideAll (ts.take j)).2 S, fun i _ => ((ts.length : Int) - i).toNat, ⟨0, Sl.nil, [], FP, FK, FR, rfl, Nat.zero_le _, S0, Sp.KnowOk.nil _⟩, ?_⟩
 clear S0 B5 E05 E04 lP lR X5 B4 B3 hK4 hR2 hP1 hFK hFR hFP FP FK FR
 rintro _ H wl hl ⟨j, sg, S, FP, FK, FR, rfl, hj, hA, hk⟩
 unfold m_law09_given_l2
 refine ⟨fun h => ?_, fun h => ?_⟩
 ·have hlt := lt_of_dec len h
  have htk : ts.take (j + 1) = ts.take j ++ [ts[j]] := List.take_succ_eq_append_getElem hlt
  have hstep : Sp.sideAll (ts.take (j + 1)) = Sp.sideStep (Sp.sideAll (ts.take j)) ts[j] := by rw [htk, Sp.sideAll_snoc]
  have hW := Sp.sideAll_wf (ts.take j)
  have hgl := Sp.sideAll_len (ts.take j)
  rw [List.length_take, Nat.min_eq_left (by omega)] at hgl
  have hcx : Sp.cnt ts[j] ≤ 900000 := by
   have h1 : ∀ (ts : List Sp.Tree) (i : Nat) (hi : i < ts.length), Sp.cnt ts[i] ≤ Sp.cntAll ts := by
    intro ts
    induction ts with
    | nil => intro i hi; simp at hi
    | cons t ts ih =>
     intro i hi
     rw [Sp.cntAll]
     cases i with
     | zero => simp
     | succ i => have := ih i (by simpa using hi); simp; omega
   have := h1 ts j hlt; omega
  generalize Sp.sideAll (ts.take j) = Q at *
  obtain ⟨L, G⟩ := Q
  simp only at hA hk hW hgl
  obtain ⟨a, hat, hSa, hrow⟩ := row j hlt
  have hkid := kid j hlt
  generalize ts[j] = x at *
  generalize rs j = sx at *
  have hrowT : ∀ {w}, Pure w0 w → Row w a (trow x sx) := fun E => E.row hrow (fun h => h)
  obtain ⟨xk, xf, xt, xu, xx, xks⟩ := x
  have hAd := hA.pureE (Ext.drew wl)
  refine ⟨fun w => Box w s [.pointer (some p), .pointer (some k), .pointer (some q), sg.v] 36 ∧ Row w a (trow (.mk xk xf xt xu xx xks) sx), ⟨hAd.box, hrowT hAd.pure⟩, ?_⟩
  rintro _ rfl
  refine ⟨some p, fun _ h => h.1.cell0, a, hat, _, _, _, _, _, sx, fun _ h => h.2, ?_⟩
  refine (c_ref05_Lent (.mk xk xf xt xu xx xks) sx wl.drew (by omega) (hkid.pure hAd.pure) (fun b hb => by have := hS b hb; have := hAd.pure.size; omega)).mono ?_
  rintro _ w7 ⟨s', rfl, hT7, E7⟩
  have A7 := hAd.pureE E7
  refine ⟨_, _, _, _, _, s', rfl, ⟨A7.box, hrowT A7.pure⟩, E7.keptP, ?_⟩
  refine (c_Of (S := fun b => wl.drew.heap.size ≤ b ∧ b < w7.heap.size) p (.mk xk xf xt xu xx xks) s' w7 hT7.lt A7.pool hW.ok (fun b hb hh => by have := hAd.pool.lt hb; omega) (fun b hb => hb.2)).mono ?_
  rintro _ w8 ⟨r4, r5, rfl, h45, FP', hP8, X8, hF8⟩
  obtain ⟨k8, A8⟩ := A7.prog hP8 X8 hF8
  refine ⟨_, _, rfl, ⟨A8.box, hrowT A8.pure⟩, k8, ?_⟩
  have A9 := A8.pureE (Ext.drew w8)
  refine ⟨fun w => Box w s [.pointer (some p), .pointer (some k), .pointer (some q), sg.v] 36 ∧ Row w a (trow (.mk xk xf xt xu xx xks) sx), ⟨A9.box, hrowT A9.pure⟩, ?_⟩
  rintro _ rfl
  refine ⟨some q, fun _ h => h.1.cell rfl, a, hat, _, _, _, _, _, sx, fun _ h => h.2, ?_⟩
  refine (c_ref05_Of (S := ST) q (.mk xk xf xt xu xx xks) sx w8.drew (hkid.pure A9.pure) A9.ref hW.ok (fun b hb hh => by have := (A9.oR b hb).1; have := hS b hh; omega) (fun b hb => by have := hS b hb; have := A9.pure.size; omega)).mono ?_
  rintro _ w10 ⟨r6, r7, rfl, h67, FR', hR10, X10, hF10⟩
  obtain ⟨k10, A10⟩ := A9.doc hR10 X10 hF10
  refine ⟨_, _, rfl, ⟨A10.box, hrowT A10.pure⟩, k10, ?_⟩
  obtain ⟨M, hM⟩ := Sp.of_grows hW.ok (.mk xk xf xt xu xx xks)
  have hWx := Sp.of_wf hW (.mk xk xf xt xu xx xks)
  have htr := Sp.of_tree hW (x := .mk xk xf xt xu xx xks)
  rw [Sp.sideStep] at hstep
  simp only at hstep
  have hkM : Sp.KnowOk (Sp.of L (.mk xk xf xt xu xx xks)).2.2 G S := by rw [hM]; exact hk.app
  generalize Sp.of L (.mk xk xf xt xu xx xks) = R at *
  obtain ⟨t, er, L'⟩ := R
  simp only at h45 h67 hM hWx htr hstep hkM A10
  cases h45
  cases h67
  refine Br.f (by simp) ⟨fun h => ?_, fun h => ?_⟩
  ·intro H1 w12 hs12
   rw [if_pos (by simpa using h)] at hstep
   rw [wrap_succ hlt (by omega)]
   refine ⟨⟨j + 1, sg, S, FP', FK, FR', rfl, hlt, ?_, ?_⟩, lt_dec hlt⟩
   ·rw [hstep]; exact A10.hst hs12
   ·rw [hstep]; exact hkM
  ·intro H1 w12 hs12
   have her : r5 = 0 := by simpa using h
   rw [if_neg (by simpa using her)] at hstep
   have A12 := A10.hst hs12
   have hin := (htr her).1
   have hgT := Sp.giveT_in (G := G) hin
   refine ⟨fun there i H w => ∃ n : Nat, i = n ∧ n ≤ G.length ∧ there = decide (r4 ∈ G.take n) ∧ SideAt w0 H w s p k q sg L' L' G G S FP' FK FR', fun _ i _ => ((G.length : Int) - i).toNat, ⟨0, rfl, Nat.zero_le _, by simp, A12⟩, ?_⟩
   rintro there _ H2 w2 hs2 ⟨n, rfl, hnG, hth, B⟩
   unfold m_law09_given_l3
   have hsl : sg.len = G.length := by rw [B.giv.len, tmr_len]
   refine ⟨sg, B.box.cell rfl, fun h => ?_, fun h => ?_⟩
   ·have hltn := lt_of_dec hsl h
    have htk : G.take (n + 1) = G.take n ++ [G[n]] := List.take_succ_eq_append_getElem hltn
    refine ⟨fun h => ?_, fun h => ?_⟩
    ·unfold m_law09_given_j4
     rw [wrap_succ hltn (by omega)]
     refine ⟨⟨n + 1, rfl, hltn, ?_, B⟩, lt_dec hltn⟩
     rw [h] at hth
     rw [htk, eq_comm, decide_eq_true_eq]
     exact List.mem_append_left _ (by simpa using hth.symm)
    ·obtain ⟨ad, had, _, hcell⟩ := tm_nth B.giv.lst hltn
     refine ⟨sg, B.box.cell rfl, ad, had, _, hcell, ?_⟩
     unfold m_law09_given_j4
     rw [wrap_succ hltn (by omega)]
     refine ⟨⟨n + 1, rfl, hltn, ?_, B⟩, lt_dec hltn⟩
     rw [h] at hth
     have hnot : r4 ∉ G.take n := by simpa using hth.symm
     rw [htk, Bool.eq_iff_iff]
     simp only [beq_iff_eq, decide_eq_true_eq, List.mem_append, List.mem_singleton]
     exact ⟨fun e => .inr e.symm, fun e => e.elim (fun h => absurd h hnot) (fun h => h.symm)⟩
   ·have hge := eq_of_dec hsl hnG h
    subst hge
    rw [List.take_length] at hth
    have fin : ∀ {sg' : Sl} {w : World} {G' : List Int}, Sp.addT G r4 = G' → SideAt w0 H2 w s p k q sg' L' L' G G' S FP' FK FR' → ∃ v : Option Addr, w.cell? (s.add 1) = some (.pointer v) ∧ Calls Try.prog 56 #[.pointer v, .int .i64 r4] w (fun e w' => ∃ r : Int, e = .returned (.int .i64 r) ∧ Kept H2 w w' ∧ ((∃ (j' : Nat) (sg : Sl) (S : List Sp.Way) (FP FK FR : Nat → Prop), IntKind.i64.wrap ((j : Int) + 1) = j' ∧ j' ≤ ts.length ∧ SideAt w0 H2 w' s p k q sg (Sp.sideAll (ts.take j')).1 (Sp.sideAll (ts.take j')).1 (Sp.sideAll (ts.take j')).2 (Sp.sideAll (ts.take j')).2 S FP FK FR ∧ Sp.KnowOk (Sp.sideAll (ts.take j')).1 (Sp.sideAll (ts.take j')).2 S) ∧ ((ts.length : Int) - IntKind.i64.wrap ((j : Int) + 1)).toNat < ((ts.length : Int) - j).toNat)) := by
     intro sg' w G' hG C
     refine ⟨some k, C.box.cell rfl, ?_⟩
     refine (c_ded_Add k p r4 w C.know C.pool hWx (fun b hb hf => (C.oP b hf).2.2.2.1 hb) hkM).mono ?_
     rintro _ w' ⟨r, rfl, _, S', F', hK', ok', X', hF'⟩
     obtain ⟨kk, D⟩ := C.add hK' X' hF'
     rw [wrap_succ hlt (by omega)]
     rw [hgT] at D ok'
     refine ⟨r, rfl, kk, ⟨j + 1, sg', S', FP', F', FR', rfl, hlt, ?_, ?_⟩, lt_dec hlt⟩
     ·rw [hstep]; subst hG; exact D
     ·rw [hstep]; exact ok'
    refine ⟨fun h => ?_, fun h => ?_⟩
    ·have hnot : r4 ∉ G := by rw [hth] at h; simpa using h
     refine ⟨sg, B.box.cell rfl, ?_⟩
     intro p2 w14 n14
     obtain ⟨s1, w15, hr15, k15, cw, C⟩ := B.app n14 (by omega)
     refine ⟨s1, w15, hr15, k15, cw, by rw [add_block]; exact B.oS.2, ?_⟩
     rintro _ rfl
     exact fin (by unfold Sp.addT; rw [if_neg hnot]) C
    ·have hyes : r4 ∈ G := by rw [hth] at h; simpa using h
     exact fin (by unfold Sp.addT; rw [if_pos hyes]) B
 ·have hge := eq_of_dec len hj h
  subst hge
  rw [List.take_length] at hA hk
  exact hK _ _ _ _ _ _ _ _ _ _ _ hA hk
end Go.Proofs
end
section
namespace Go.Sp
end Go.Sp
end
section
namespace Go.Sp
end Go.Sp
end
section
open Go Go.SE
namespace Go.Sp
def l9t : List Tree := [.mk 7 0 0 0 ⟨#[]⟩ [.mk 2 0 0 1 ⟨#[]⟩ []], .mk 6 0 0 0 ⟨#[]⟩ []]
def l9p : Pool := [⟨⟨2, 0, 0, 1, ⟨#[]⟩, 0, 0⟩, 1, 1⟩, ⟨⟨7, 0, 0, 0, ⟨#[]⟩, 1, 0⟩, 2, 2⟩, ⟨⟨6, 0, 0, 0, ⟨#[]⟩, 0, 0⟩, 1, 1⟩]
def l9a : List Op := [⟨0, 0, 0, 0, ⟨#[]⟩⟩, ⟨8, 0, 0, 0, ⟨#[]⟩⟩, ⟨5, 1, 0, 0, ⟨#[]⟩⟩, ⟨0, 1, 0, 0, ⟨#[]⟩⟩, ⟨9, 2, 3, 0, ⟨#[]⟩⟩]
def l9b : List Op := [⟨0, 0, 0, 0, ⟨#[]⟩⟩, ⟨6, 0, 0, 0, ⟨#[]⟩⟩]
def l9q : Pool := l9p ++ [⟨⟨5, 0, 0, 0, ⟨#[]⟩, 1, 0⟩, 2, 2⟩, ⟨⟨7, 0, 0, 0, ⟨#[]⟩, 4, 0⟩, 3, 3⟩]
theorem l9s : sideAll l9t = (l9p, [2, 3]) := by kernel_rfl
theorem l9e : evalOps l9p [2, 3] l9a = (5, 0, 0, l9q) := by kernel_rfl
theorem l9f : evalOps l9q [2, 3] l9b = (0, 90, 1, l9q) := by kernel_rfl
theorem l9n : nodeOf l9q 5 = ⟨7, 0, 0, 0, ⟨#[]⟩, 4, 0⟩ := by kernel_rfl
end Go.Sp
namespace Go.Proofs
attribute [local irreducible] Calls
theorem Lst.of_box {w : World} {p : Addr} {T : TypeId} {sz : Nat} (rs : List (List Value)) (hsz : ∀ r ∈ rs, r.length = sz) (h : Box w p rs.flatten T) : Lst (· = p.block) w sz ⟨some p, rs.length, rs.length⟩ rs := by
 refine ⟨rfl, fun i hi => ⟨p.add (i * sz), ⟨by omega, by show (i : Int) < (rs.length : Int); omega, p, rfl, rfl⟩, by rw [add_block], fun j hj => ?_⟩⟩
 have hl := hsz _ (List.getElem_mem hi)
 rw [add_add, List.getElem?_eq_getElem hj]
 refine h.cell ?_
 rw [flatten_get hsz hi (by omega), List.getElem?_eq_getElem hj]
theorem oprow_sz (l : List Sp.Op) : ∀ q ∈ l.map oprow, q.length = 5 := by intro q hq; obtain ⟨o, _, rfl⟩ := List.mem_map.1 hq; rfl
theorem c_live9 (w0 : World) : Calls Try.prog 14 #[] w0 (fun e w' => ∃ r : Bool, e = .returned (.bool r) ∧ (r = true ∧ Pure w0 w')) := by
 refine w_law09_live w0 (fun r w' => r = true ∧ Pure w0 w') ?_
 unfold m_law09_live
 intro p1 w1 n1 p2 w2 n2
 have E1 : Pure w0 w1 := Ext.new n1
 have E2 : Pure w1 w2 := Ext.new n2
 have hT : TreeAt (fun b => b = p1.block ∨ b = p2.block) w2 ⟨some p2, 2, 2⟩ (.mk 0 0 0 0 ⟨#[]⟩ Sp.l9t) :=
  TreeAt.pair (A := .mk 7 0 0 0 ⟨#[]⟩ [.mk 2 0 0 1 ⟨#[]⟩ []]) (B := .mk 6 0 0 0 ⟨#[]⟩ []) (sa := ⟨some p1, 1, 1⟩) (sb := Sl.nil) (Box.of_new n2) (.inr rfl) (TreeAt.one (A := .mk 2 0 0 1 ⟨#[]⟩ []) (sa := Sl.nil) ((Box.of_new n1).pure E2) (.inl rfl) TreeAt.leaf) TreeAt.leaf
 have z1 := (Box.of_new n1).lt
 have z2 := (Box.of_new n2).lt
 have y2 := E2.size
 refine (c_law09_given (ST := fun b => b = p1.block ∨ b = p2.block) Sp.l9t ⟨some p2, 2, 2⟩ w2 hT (fun b hb => by rcases hb with rfl | rfl <;> omega) (by decide) (by decide)).mono ?_
 rintro _ w3 ⟨_, _, rfl, s, p, k, q, sg, S, FP, FK, FR, rfl, rfl, A, hk⟩
 rw [Sp.l9s] at A hk
 simp only at A hk
 have hW : Sp.Wf Sp.l9p := by have := Sp.sideAll_wf Sp.l9t; rwa [Sp.l9s] at this
 have hWq : Sp.Wf Sp.l9q := by have := Sp.evalOps_wf hW [2, 3] Sp.l9a; rwa [Sp.l9e] at this
 refine ⟨_, _, rfl, A.pure.keptP, Br.f rfl ?_⟩
 have Ad := A.pureE (Ext.drew w3)
 refine ⟨fun w => Box w s [.pointer (some p), .pointer (some k), .pointer (some q), sg.v] 36, Ad.box, ?_⟩
 rintro _ rfl
 refine ⟨s, rfl, some p, fun _ h => h.cell0, s, rfl, some k, fun _ h => h.cell rfl, ?_⟩
 intro p3 w5 n5
 have E5 : Pure w3.drew w5 := Ext.new n5
 have A5 := Ad.pureE E5
 refine ⟨A5.box, ?_⟩
 have b3 := n5.at_size
 refine (c_recipe_Eval (Sl0 := (· = p3.block)) p k ⟨some p3, 5, 5⟩ Sp.l9a w5 hW A5.pool A5.know (Lst.of_box (Sp.l9a.map oprow) (oprow_sz _) (Box.of_new n5)) (fun b hb => by subst hb; exact ⟨(Box.of_new n5).lt, fun hf => by have := Ad.pool.lt hf; omega⟩) (by decide) (by decide)).mono ?_
 rintro _ w6 ⟨r3, r4, r5, rfl, hr, F', hP6, X6, hF6⟩
 rw [Sp.l9e] at hr hP6
 cases hr
 obtain ⟨k6, A6⟩ := A5.prog hP6 X6 hF6
 refine ⟨_, _, _, rfl, A6.box, k6, ?_⟩
 have Ae := A6.pureE (Ext.drew w6)
 refine ⟨fun w => Box w s [.pointer (some p), .pointer (some k), .pointer (some q), sg.v] 36, Ae.box, ?_⟩
 rintro _ rfl
 refine ⟨s, rfl, some p, fun _ h => h.cell0, s, rfl, some k, fun _ h => h.cell rfl, ?_⟩
 intro p4 w8 n8
 have E8 : Pure w6.drew w8 := Ext.new n8
 have A8 := Ae.pureE E8
 refine ⟨A8.box, ?_⟩
 have b4 := n8.at_size
 refine (c_recipe_Eval (Sl0 := (· = p4.block)) p k ⟨some p4, 2, 2⟩ Sp.l9b w8 hWq A8.pool A8.know (Lst.of_box (Sp.l9b.map oprow) (oprow_sz _) (Box.of_new n8)) (fun b hb => by subst hb; exact ⟨(Box.of_new n8).lt, fun hf => by have := Ae.pool.lt hf; omega⟩) (by decide) (by decide)).mono ?_
 rintro _ w9 ⟨r6, r7, r8, rfl, hr, F'', hP9, X9, hF9⟩
 rw [Sp.l9f] at hr hP9
 cases hr
 obtain ⟨k9, A9⟩ := A8.prog hP9 X9 hF9
 refine ⟨_, _, _, rfl, A9.box, k9, s, rfl, some p, A9.box.cell0, ?_⟩
 refine (c_Node p 5 w9 A9.pool hWq.ok).mono ?_
 rintro _ w10 ⟨nk, nf, nt, nu, nx, na, nb, r9, rfl, ⟨hn, _⟩, E10⟩
 rw [Sp.l9n] at hn
 cases hn
 refine ⟨_, _, _, _, _, _, _, _, rfl, E10.keptP, fun H w hs => ⟨rfl, ?_⟩⟩
 exact (((E1.trans E2).trans A9.pure).trans E10).trans' hs.ext (fun b hb hh => by have := hs.old b hh; omega)
end Go.Proofs
end
section
open Go Go.SE
namespace Go.Proofs
attribute [local irreducible] Calls
theorem slT_op : SlType Try.prog 23 103 5 48 := by
 refine ⟨Try.underlying23, ⟨Try.t103, _, by kernel_rfl, (by kernel_rfl : Try.t103.zero = some (.agg #[.int .i64 0, .int .i64 0, .int .i64 0, .int .u64 0, .string ⟨#[]⟩])), by kernel_rfl, by kernel_rfl, rfl⟩, by omega⟩
theorem SideAt.base {w0 w1 w : World} {s p k q : Addr} {sg : Sl} {L1 L2 : Sp.Pool} {GK G : List Int} {S : List Sp.Way} {FP FK FR : Nat → Prop} (h : SideAt w1 None w s p k q sg L1 L2 GK G S FP FK FR) (E : Pure w0 w1) : SideAt w0 None w s p k q sg L1 L2 GK G S FP FK FR := by
 have z := E.size
 have E2 := E.trans h.pure
 exact ⟨h.box, h.pool, h.know, h.ref, h.giv, E2, (Hst.start w0).again E2.keptP, fun b hb => ⟨by have := (h.oP b hb).1; omega, (h.oP b hb).2⟩, fun b hb => ⟨by have := (h.oK b hb).1; omega, (h.oK b hb).2⟩, fun b hb => ⟨by have := (h.oR b hb).1; omega, (h.oR b hb).2⟩, fun b hb => ⟨by have := (h.oG b hb).1; omega, (h.oG b hb).2⟩, ⟨by have := h.oS.1; omega, h.oS.2⟩⟩
end Go.Proofs
end
section
namespace Go.Sp
theorem inP_of_kind {L : Pool} {t : Int} (h : (nodeOf L t).kind ≠ 0) : inP L t = true := by
 cases hi : inP L t with
 | true => rfl
 | false => rw [nodeOf_out hi] at h; exact absurd rfl h
theorem find_app {L M : Pool} {n : Node} {i : Nat} (h : find L n = some i) : find (L ++ M) n = some i := by
 unfold find at h ⊢
 rw [List.findIdx?_append, h]; rfl
theorem freeK_ne {k : Int} (h : freeK k = true) : k ≠ 0 := by
 rintro rfl; cases h
theorem Drv.app {L M : Pool} {K : Int → Prop} {t : Int} (h : Drv L K t) : Drv (L ++ M) K t := by
 induction h with
 | seen h => exact .seen h
 | free h => exact .free (by rw [nodeOf_app (inP_of_kind (freeK_ne h))]; exact h)
 | @pair t h _ _ ih1 ih2 =>
  have e : nodeOf (L ++ M) t = nodeOf L t := nodeOf_app (inP_of_kind (by omega))
  exact .pair (by rw [e]; exact h) (by rw [e]; exact ih1) (by rw [e]; exact ih2)
 | @hash t h _ ih =>
  have e : nodeOf (L ++ M) t = nodeOf L t := nodeOf_app (inP_of_kind (by omega))
  exact .hash (by rw [e]; exact h) (by rw [e]; exact ih)
 | @sign t i h _ hf hK ih =>
  have e : nodeOf (L ++ M) t = nodeOf L t := nodeOf_app (inP_of_kind (fun h0 => by rw [h0] at h; cases h))
  exact .sign (by rw [e]; exact h) (by rw [e]; exact ih) (by rw [e]; exact find_app hf) hK
section
variable {L : Pool} {G M : List Int} {S : List Way}
end
end Go.Sp
end
section
namespace Go.Sp
theorem make_there {L : Pool} (hW : Wf L) {t : Int} (ht : inP L t = true) : make L (nodeOf L t) = (t, 0, L) := by
 obtain ⟨h1, h2, h3, h4, h5, h6, h7⟩ := hW.node ht
 obtain ⟨i, hi, rfl⟩ := inP_at ht
 have hs := hW.ok.sizeOf ((i : Int) + 1)
 have hd := hW.ok.depthOf ((i : Int) + 1)
 have hf : find L (nodeOf L ((i : Int) + 1)) = some i := by rw [nodeOf_lt hi]; exact Go.Proofs.find_of hW.ok (List.getElem?_eq_getElem hi)
 have hany : ((kidsOf (nodeOf L ((i : Int) + 1))).any fun t => !inP L t) = false := by
  rw [List.any_eq_false]; intro x hx; rw [(h5 x hx).1]; simp
 have hab : ((decide ((shapeOf (nodeOf L ((i : Int) + 1)).kind).kids < 1) && (nodeOf L ((i : Int) + 1)).a != 0) || (decide ((shapeOf (nodeOf L ((i : Int) + 1)).kind).kids < 2) && (nodeOf L ((i : Int) + 1)).b != 0)) = false := by
  rw [Bool.or_eq_false_iff, Bool.and_eq_false_iff, Bool.and_eq_false_iff]
  constructor
  ·by_cases h : (shapeOf (nodeOf L ((i : Int) + 1)).kind).kids < 1
   ·right; rw [h2 h]; rfl
   ·left; exact decide_eq_false h
  ·by_cases h : (shapeOf (nodeOf L ((i : Int) + 1)).kind).kids < 2
   ·right; rw [h3 h]; rfl
   ·left; exact decide_eq_false h
 generalize nodeOf L ((i : Int) + 1) = n at *
 have hc : (check L n).2.2 = 0 := by
  unfold check
  simp only
  rw [if_neg (by simpa using h1), if_neg (by rw [hab]; simp), if_neg (by simpa using h4), if_neg (by rw [hany]; simp), if_neg (by omega)]
 unfold make
 simp only
 rw [if_neg (by simpa using hc), hf]
theorem node_plain {L : Pool} (hW : Wf L) {t : Int} (ht : inP L t = true) : (freeK (nodeOf L t).kind = true ∨ (nodeOf L t).kind = 4 ∨ (nodeOf L t).kind = 5 ∨ showsK (nodeOf L t).kind = true) →
  ((nodeOf L t).kind = 1 ∧ nodeOf L t = ⟨1, (nodeOf L t).frm, 0, 0, ⟨#[]⟩, 0, 0⟩) ∨ ((nodeOf L t).kind = 2 ∧ nodeOf L t = ⟨2, 0, 0, (nodeOf L t).num, ⟨#[]⟩, 0, 0⟩) ∨ ((nodeOf L t).kind = 3 ∧ nodeOf L t = ⟨3, 0, 0, 0, (nodeOf L t).text, 0, 0⟩) ∨
  ((nodeOf L t).kind = 4 ∧ nodeOf L t = ⟨4, 0, 0, 0, ⟨#[]⟩, (nodeOf L t).a, (nodeOf L t).b⟩) ∨ ((nodeOf L t).kind = 5 ∧ nodeOf L t = ⟨5, 0, 0, 0, ⟨#[]⟩, (nodeOf L t).a, 0⟩) ∨ ((nodeOf L t).kind = 7 ∧ nodeOf L t = ⟨7, (nodeOf L t).frm, 0, 0, ⟨#[]⟩, (nodeOf L t).a, 0⟩) ∨
  ((nodeOf L t).kind = 8 ∧ nodeOf L t = ⟨8, (nodeOf L t).frm, (nodeOf L t).to, 0, ⟨#[]⟩, (nodeOf L t).a, 0⟩ ∧ nameOf (IntKind.u64.wrap (nodeOf L t).to) = (nodeOf L t).to) ∨
  ((nodeOf L t).kind = 9 ∧ nodeOf L t = ⟨9, (nodeOf L t).frm, (nodeOf L t).to, 0, ⟨#[]⟩, (nodeOf L t).a, 0⟩ ∧ nameOf (IntKind.u64.wrap (nodeOf L t).frm) = (nodeOf L t).frm) := by
 obtain ⟨h1, h2, h3, h4, _⟩ := hW.node ht
 generalize nodeOf L t = n at *
 obtain ⟨k, f, to, u, x, a, b⟩ := n
 simp only at h1 h2 h3 h4 ⊢
 have hnm : ∀ m : Int, isName m = true → nameOf (IntKind.u64.wrap m) = m := fun m hm => by
  simp only [isName, Bool.and_eq_true, decide_eq_true_eq] at hm
  have : IntKind.u64.wrap m = m := by simp [IntKind.wrap, IntKind.bits, IntKind.signed]; omega
  unfold nameOf
  rw [this, decide_eq_false (by omega)]
  exact IntWalk.i64_in m (by omega)
 intro hk
 have hkk : k = 1 ∨ k = 2 ∨ k = 3 ∨ k = 4 ∨ k = 5 ∨ k = 7 ∨ k = 8 ∨ k = 9 := by
  simp only [freeK, showsK, Bool.or_eq_true, beq_iff_eq] at hk; omega
 rcases hkk with rfl | rfl | rfl | rfl | rfl | rfl | rfl | rfl
 ·left; simp [plainErr, shapeOf, isKind] at h1; simp [shapeOf] at h2 h3; simp_all
 ·right; left; simp [plainErr, shapeOf, isKind] at h1; simp [shapeOf] at h2 h3; simp_all
 ·right; right; left; simp [plainErr, shapeOf, isKind] at h1; simp [shapeOf] at h2 h3; simp_all
 ·right; right; right; left; simp [plainErr, shapeOf, isKind] at h1; simp_all
 ·right; right; right; right; left; simp [plainErr, shapeOf, isKind] at h1; simp [shapeOf] at h2 h3; simp_all
 ·right; right; right; right; right; left; simp [plainErr, shapeOf, isKind] at h1; simp [shapeOf] at h2 h3; simp_all
 ·right; right; right; right; right; right; left
  simp [plainErr, shapeOf, isKind] at h1; simp [shapeOf] at h2 h3
  have hn : isName to = true := by
   unfold fieldsErr at h4
   simp only [shapeOf] at h4
   cases hh : isName to with
   | true => rfl
   | false => simp [hh] at h4
  simp_all
 ·right; right; right; right; right; right; right
  simp [plainErr, shapeOf, isKind] at h1; simp [shapeOf] at h2 h3
  have hn : isName f = true := by
   unfold fieldsErr at h4
   simp only [shapeOf] at h4
   cases hh : isName f with
   | true => rfl
   | false => simp [hh] at h4
  simp_all
def StepOp (L : Pool) (G : List Int) (s : Step) (o : Op) : Prop :=
 if s.rule = 0 then o.code = 0 ∧ (s.t ∈ G → atM G o.a = some s.t)
 else if s.rule = 1 then o = ⟨6, s.a, 0, 0, ⟨#[]⟩⟩
 else if s.rule = 2 then o = ⟨7, s.a, 0, 0, ⟨#[]⟩⟩
 else if s.rule = 3 then o = ⟨8, s.a, 0, 0, ⟨#[]⟩⟩
 else if (nodeOf L s.t).kind = 1 then o = ⟨1, (nodeOf L s.t).frm, 0, 0, ⟨#[]⟩⟩
 else if (nodeOf L s.t).kind = 2 then o = ⟨2, 0, 0, (nodeOf L s.t).num, ⟨#[]⟩⟩
 else if (nodeOf L s.t).kind = 3 then o = ⟨3, 0, 0, 0, (nodeOf L s.t).text⟩
 else if (nodeOf L s.t).kind = 4 then o = ⟨4, s.a, s.b, 0, ⟨#[]⟩⟩
 else if (nodeOf L s.t).kind = 5 then o = ⟨5, s.a, 0, 0, ⟨#[]⟩⟩
 else if (nodeOf L s.t).kind = 7 then o = ⟨9, s.a, s.b, 0, ⟨#[]⟩⟩
 else if (nodeOf L s.t).kind = 8 then o = ⟨10, s.a, s.b, IntKind.u64.wrap (nodeOf L s.t).to, ⟨#[]⟩⟩
 else o = ⟨11, s.a, s.b, IntKind.u64.wrap (nodeOf L s.t).frm, ⟨#[]⟩⟩
theorem ahead_at {pre : List Step} {v : Int} (h : ahead pre.length v = true) : atM (pre.map Step.t) v = some (tAt pre v) := by
 simp only [ahead, Bool.and_eq_true, decide_eq_true_eq] at h
 have hv : v.toNat < pre.length := by omega
 rw [atM_in h.1 (by simpa using hv)]
 simp [tAt, hv]
theorem stepOp_does {L : Pool} (hW : Wf L) {G : List Int} {pre : List Step} {s : Step} {o : Op} (hf : fol L G pre s = true) (ho : StepOp L G s o) : doOp L G (pre.map Step.t) o = (s.t, 0, L) := by
 unfold fol at hf
 by_cases hin : inP L s.t = false
 ·rw [if_pos hin] at hf; cases hf
 rw [if_neg hin] at hf
 have hin : inP L s.t = true := by simpa using hin
 unfold StepOp at ho
 by_cases h0 : s.rule = 0
 ·rw [if_pos h0] at hf ho
  simp only [Bool.and_eq_true, decide_eq_true_eq] at hf
  rw [doOp0 ho.1]
  unfold knownOp
  rw [ho.2 hf.2]
 rw [if_neg h0] at hf ho
 by_cases h123 : s.rule = 1 ∨ s.rule = 2 ∨ s.rule = 3
 ·rw [if_pos h123] at hf
  simp only [Bool.and_eq_true, beq_iff_eq] at hf
  obtain ⟨⟨ha, _⟩, har⟩ := hf
  have hat := ahead_at ha
  have hna : nodeAt L (pre.map Step.t) s.a = nodeOf L (tAt pre s.a) := by unfold nodeAt; rw [hat]
  unfold arisesB at har
  rcases h123 with h | h | h
  ·rw [if_pos h] at ho har
   subst ho
   simp only [Bool.and_eq_true, beq_iff_eq] at har
   rw [doOp6 rfl]; unfold partOp; simp only
   rw [hna, if_pos har.1, har.2]; rfl
  ·rw [if_neg (by omega), if_pos h] at ho har
   subst ho
   simp only [Bool.and_eq_true, beq_iff_eq] at har
   rw [doOp7 rfl]; unfold partOp; simp only
   rw [hna, if_pos har.1, har.2]; rfl
  ·rw [if_neg (by omega), if_neg (by omega)] at ho har
   rw [if_pos h] at ho
   subst ho
   simp only [Bool.and_eq_true, beq_iff_eq] at har
   rw [doOp8 rfl]; unfold shownOp; simp only
   rw [hna, if_pos har.1, har.2]
 rw [if_neg h123] at hf
 rw [if_neg (by omega), if_neg (by omega), if_neg (by omega)] at ho
 have hmk := make_there hW hin
 by_cases h4 : s.rule = 4
 ·rw [if_pos h4] at hf
  simp only [Bool.and_eq_true, beq_iff_eq] at hf
  have hfr := hf.2
  rcases node_plain hW hin (.inl hfr) with ⟨e, hn⟩ | ⟨e, hn⟩ | ⟨e, hn⟩ | ⟨e, hn⟩ | ⟨e, hn⟩ | ⟨e, hn⟩ | ⟨e, hn, _⟩ | ⟨e, hn, _⟩
  ·rw [if_pos e] at ho; subst ho; rw [doOp1 rfl]; simp only; rw [← hn]; exact hmk
  ·rw [if_neg (by omega), if_pos e] at ho; subst ho; rw [doOp2 rfl]; simp only; rw [← hn]; exact hmk
  ·rw [if_neg (by omega), if_neg (by omega), if_pos e] at ho; subst ho; rw [doOp3 rfl]; simp only; rw [← hn]; exact hmk
  all_goals rw [e] at hfr; cases hfr
 rw [if_neg h4] at hf
 by_cases h5 : s.rule = 5
 ·rw [if_pos h5] at hf
  by_cases k4 : (nodeOf L s.t).kind = 4
  ·rw [if_pos k4] at hf
   simp only [Bool.and_eq_true, beq_iff_eq] at hf
   obtain ⟨⟨⟨ha, hb⟩, ea⟩, eb⟩ := hf
   rw [if_neg (by omega), if_neg (by omega), if_neg (by omega), if_pos k4] at ho
   subst ho
   rw [doOp4 rfl]; unfold pairOp; simp only
   rw [ahead_at ha]; simp only; rw [ahead_at hb]; simp only
   rcases node_plain hW hin (.inr (.inl k4)) with ⟨e, hn⟩ | ⟨e, hn⟩ | ⟨e, hn⟩ | ⟨e, hn⟩ | ⟨e, hn⟩ | ⟨e, hn⟩ | ⟨e, hn, _⟩ | ⟨e, hn, _⟩ <;> first | omega | (rw [ea, eb, ← hn]; exact hmk)
  rw [if_neg k4] at hf
  by_cases k5 : (nodeOf L s.t).kind = 5
  ·rw [if_pos k5] at hf
   simp only [Bool.and_eq_true, beq_iff_eq] at hf
   obtain ⟨⟨ha, _⟩, ea⟩ := hf
   rw [if_neg (by omega), if_neg (by omega), if_neg (by omega), if_neg (by omega), if_pos k5] at ho
   subst ho
   rw [doOp5 rfl]; unfold hashOp; simp only
   rw [ahead_at ha]; simp only
   rcases node_plain hW hin (.inr (.inr (.inl k5))) with ⟨e, hn⟩ | ⟨e, hn⟩ | ⟨e, hn⟩ | ⟨e, hn⟩ | ⟨e, hn⟩ | ⟨e, hn⟩ | ⟨e, hn, _⟩ | ⟨e, hn, _⟩ <;> first | omega | (rw [ea, ← hn]; exact hmk)
  rw [if_neg k5] at hf
  by_cases ks : showsK (nodeOf L s.t).kind = true
  ·rw [if_pos ks] at hf
   simp only [Bool.and_eq_true, beq_iff_eq] at hf
   obtain ⟨⟨⟨⟨ha, hb⟩, ea⟩, eb⟩, ef⟩ := hf
   have hnb : nodeAt L (pre.map Step.t) s.b = nodeOf L (tAt pre s.b) := by unfold nodeAt; rw [ahead_at hb]
   have hkd : ∀ (c : Int) (m : Int) (mk : Int → Int → Node), keyedOp L (pre.map Step.t) ⟨c, s.a, s.b, m, ⟨#[]⟩⟩ mk = make L (mk (whoOf (nodeOf L s.t)) (nodeOf L s.t).a) := fun c m mk => by
    unfold keyedOp; simp only
    rw [ahead_at ha]; simp only
    rw [hnb, if_pos eb, ef, ea]
   rcases node_plain hW hin (.inr (.inr (.inr ks))) with ⟨e, hn⟩ | ⟨e, hn⟩ | ⟨e, hn⟩ | ⟨e, hn⟩ | ⟨e, hn⟩ | ⟨e, hn⟩ | ⟨e, hn, hw⟩ | ⟨e, hn, hw⟩
   ·rw [e] at ks; cases ks
   ·rw [e] at ks; cases ks
   ·rw [e] at ks; cases ks
   ·omega
   ·omega
   ·rw [if_neg (by omega), if_neg (by omega), if_neg (by omega), if_neg (by omega), if_neg (by omega), if_pos e] at ho
    subst ho
    rw [doOp9 rfl, hkd]
    have : whoOf (nodeOf L s.t) = (nodeOf L s.t).frm := by unfold whoOf; rw [if_neg (by omega)]
    rw [this, ← hn]; exact hmk
   ·rw [if_neg (by omega), if_neg (by omega), if_neg (by omega), if_neg (by omega), if_neg (by omega), if_neg (by omega), if_pos e] at ho
    subst ho
    rw [doOp10 rfl, hkd]
    have : whoOf (nodeOf L s.t) = (nodeOf L s.t).frm := by unfold whoOf; rw [if_neg (by omega)]
    simp only
    rw [this, hw, ← hn]; exact hmk
   ·rw [if_neg (by omega), if_neg (by omega), if_neg (by omega), if_neg (by omega), if_neg (by omega), if_neg (by omega), if_neg (by omega)] at ho
    subst ho
    rw [doOp11 rfl, hkd]
    have : whoOf (nodeOf L s.t) = (nodeOf L s.t).to := by unfold whoOf; rw [if_pos e]
    simp only
    rw [this, hw, ← hn]; exact hmk
  ·rw [if_neg ks] at hf; cases hf
 ·rw [if_neg h5] at hf; cases hf
theorem steps_run {L : Pool} (hW : Wf L) {G : List Int} {l : List Step} {ops : List Op} (hl : ops.length = l.length) (ho : ∀ i (h : i < l.length), StepOp L G l[i] (ops[i]'(by omega))) (hf : ∀ i (hi : i < l.length), fol L G (l.take i) l[i] = true) :
  ∀ n, n ≤ l.length → runOps L G [] ops = runOps L G ((l.take n).map Step.t) (ops.drop n) := by
 intro n
 induction n with
 | zero => intro _; simp
 | succ n ih =>
  intro hn
  have hlt : n < l.length := by omega
  rw [ih (by omega), runOps_step (by omega : n < ops.length), stepOp_does hW (hf n hlt) (ho n hlt)]
  simp only [ne_eq, not_true_eq_false, if_false]
  rw [List.take_succ_eq_append_getElem hlt, List.map_append]; rfl
theorem steps_eval {L : Pool} (hW : Wf L) {G : List Int} {l : List Step} {ops : List Op} (hl : ops.length = l.length) (ho : ∀ i (h : i < l.length), StepOp L G l[i] (ops[i]'(by omega))) (hf : ∀ i (hi : i < l.length), fol L G (l.take i) l[i] = true) (h256 : l.length ≤ 256) (hne : l ≠ []) {t : Int} (ht : tAt l ((l.length : Int) - 1) = t) :
  evalOps L G ops = (t, 0, 0, L) := by
 have hr := steps_run hW hl ho hf l.length (Nat.le_refl _)
 rw [List.take_length, ← hl, List.drop_length] at hr
 have hr : runOps L G [] ops = (l.map Step.t, 0, L) := hr
 have hpos : 0 < l.length := List.length_pos_iff.2 hne
 unfold evalOps
 rw [if_neg (by omega), if_neg (by omega), hr]
 simp only [ne_eq, not_true_eq_false, if_false]
 have e : ((l.length : Int) - 1).toNat = l.length - 1 := by omega
 unfold tAt at ht
 rw [e] at ht
 rw [List.getLast?_eq_getElem?, List.length_map, List.getElem?_map, ht]
end Go.Sp
end
section
open Go Go.SE
namespace Go.Proofs
attribute [local irreducible] Calls
theorem c_slIndexAt {S : Nat → Prop} (s : Sl) (ts : List Int) (v : Int) (w0 : World) (hs : Lst S w0 1 s (tmr ts)) (hn : ts.length ≤ 1000000) :
  Calls Try.prog 92 #[s.v, .int .i64 v] w0 (fun e w' => ∃ r : Int, e = .returned (.int .i64 r) ∧ ((v ∈ ts → Sp.atM ts r = some v) ∧ w' = w0)) := by
 refine w_slices_Index_api_Term_api_Term _ _ w0 (fun r w' => (v ∈ ts → Sp.atM ts r = some v) ∧ w' = w0) ?_
 unfold m_slices_Index_api_Term_api_Term
 have hl : s.len = ts.length := by rw [hs.len, tmr_len]
 refine ⟨fun i w' => w' = w0 ∧ ∃ j : Nat, i = j ∧ j ≤ ts.length ∧ v ∉ ts.take j, fun i _ => ((ts.length : Int) - i).toNat, ⟨rfl, 0, rfl, Nat.zero_le _, by simp⟩, ?_⟩
 rintro _ _ ⟨rfl, j, rfl, hj, hv⟩
 unfold m_slices_Index_api_Term_api_Term_l1
 refine ⟨fun h => ?_, fun h => ?_⟩
 ·have hlt := lt_of_dec hl h
  obtain ⟨a, hat, _, hc⟩ := tm_nth hs hlt
  have htk : ts.take (j + 1) = ts.take j ++ [ts[j]] := List.take_succ_eq_append_getElem hlt
  refine ⟨a, hat, _, hc, fun h => ⟨fun _ => ?_, rfl⟩, fun h => ?_⟩
  ·have : v = ts[j] := by simpa using h
   rw [this]; exact Sp.atM_in (by omega) (by simpa using hlt)
  ·rw [wrap_succ hlt (by omega)]
   refine ⟨⟨rfl, j + 1, rfl, hlt, ?_⟩, lt_dec hlt⟩
   rw [htk, List.mem_append, List.mem_singleton]
   rintro (h' | h')
   ·exact hv h'
   ·simp [h'] at h
 ·have hge := eq_of_dec hl hj h
  subst hge
  rw [List.take_length] at hv
  exact ⟨fun h => absurd h hv, rfl⟩
def stv (s : Sp.Step) : Value := .agg #[.int .i64 s.rule, .int .i64 s.a, .int .i64 s.b, .int .i64 s.t]
theorem c_recipe_step {Sg : Nat → Prop} (p : Addr) (sg : Sl) (G : List Int) (s : Sp.Step) (w0 : World) {L : Sp.Pool} {F : Nat → Prop} (hP : PoolAt w0 p L F) (hok : Sp.Ok L) (hg : Lst Sg w0 1 sg (tmr G)) (hG : G.length ≤ 1000000) :
  Calls Try.prog 86 #[.pointer (some p), sg.v, stv s] w0 (fun e w' => ∃ o : Sp.Op, e = .returned (opv o) ∧ (Sp.StepOp L G s o ∧ Pure w0 w')) := by
 obtain ⟨ru, sa, sb, st⟩ := s
 suffices key : ∀ K : Int → Int → Int → Int → ByteArray → World → Prop, (∀ c a b n x w', Sp.StepOp L G ⟨ru, sa, sb, st⟩ ⟨c, a, b, n, x⟩ → Pure w0 w' → K c a b n x w') → m_recipe_step (some p) sg ru sa sb st w0 K by
  refine (w_recipe_step _ _ ru sa sb st w0 (fun c a b n x w' => Sp.StepOp L G ⟨ru, sa, sb, st⟩ ⟨c, a, b, n, x⟩ ∧ Pure w0 w') (key _ (fun c a b n x w' h1 h2 => ⟨h1, h2⟩))).mono ?_
  rintro _ w' ⟨c, a, b, n, x, rfl, h⟩
  exact ⟨⟨c, a, b, n, x⟩, rfl, h⟩
 intro K hK
 unfold m_recipe_step
 intro H2 w2 hs2
 have E2 := hs2.first
 refine (c_Node p st w2 (hP.pure E2) hok).mono ?_
 rintro _ w3 ⟨k, f, t', u, x, a, b, r, rfl, ⟨hn, _⟩, E3⟩
 refine ⟨_, _, _, _, _, _, _, _, rfl, E3.keptP, ?_⟩
 have E := E2.trans E3
 unfold Sp.StepOp at hK
 simp only at hK
 rw [← hn] at hK
 simp only at hK
 refine ⟨fun h => fun H w hs => ?_, fun h => ?_⟩
 ·have h : ru = 0 := by simpa using h
  refine (c_slIndexAt sg G st w (hg.pure (E.hst hs)) hG).mono ?_
  rintro _ _ ⟨r2, rfl, hr2, rfl⟩
  refine ⟨_, rfl, Kept.refl _, fun w7 hs7 => hK _ _ _ _ _ _ ?_ ((E.hst hs).trans' hs7.ext (fun b hb hh => by have := hs7.old b hh; omega))⟩
  rw [if_pos h]; exact ⟨rfl, hr2⟩
 have n0 : ru ≠ 0 := by simpa using h
 refine ⟨fun h => fun H w hs => hK _ _ _ _ _ _ ?_ (E.hst hs), fun h => ?_⟩
 ·rw [if_neg n0, if_pos (by simpa using h)]
 have n1 : ru ≠ 1 := by simpa using h
 refine ⟨fun h => fun H w hs => hK _ _ _ _ _ _ ?_ (E.hst hs), fun h => ?_⟩
 ·rw [if_neg n0, if_neg n1, if_pos (by simpa using h)]
 have n2 : ru ≠ 2 := by simpa using h
 refine ⟨fun h => fun H w hs => hK _ _ _ _ _ _ ?_ (E.hst hs), fun h => ?_⟩
 ·rw [if_neg n0, if_neg n1, if_neg n2, if_pos (by simpa using h)]
 have n3 : ru ≠ 3 := by simpa using h
 refine ⟨fun h => fun H w hs => hK _ _ _ _ _ _ ?_ (E.hst hs), fun h => ?_⟩
 ·rw [if_neg n0, if_neg n1, if_neg n2, if_neg n3, if_pos (by simpa using h)]
 have m1 : k ≠ 1 := by simpa using h
 refine ⟨fun h => fun H w hs => hK _ _ _ _ _ _ ?_ (E.hst hs), fun h => ?_⟩
 ·rw [if_neg n0, if_neg n1, if_neg n2, if_neg n3, if_neg m1, if_pos (by simpa using h)]
 have m2 : k ≠ 2 := by simpa using h
 refine ⟨fun h => fun H w hs => hK _ _ _ _ _ _ ?_ (E.hst hs), fun h => ?_⟩
 ·rw [if_neg n0, if_neg n1, if_neg n2, if_neg n3, if_neg m1, if_neg m2, if_pos (by simpa using h)]
 have m3 : k ≠ 3 := by simpa using h
 refine ⟨fun h => fun H w hs => hK _ _ _ _ _ _ ?_ (E.hst hs), fun h => ?_⟩
 ·rw [if_neg n0, if_neg n1, if_neg n2, if_neg n3, if_neg m1, if_neg m2, if_neg m3, if_pos (by simpa using h)]
 have m4 : k ≠ 4 := by simpa using h
 refine ⟨fun h => fun H w hs => hK _ _ _ _ _ _ ?_ (E.hst hs), fun h => ?_⟩
 ·rw [if_neg n0, if_neg n1, if_neg n2, if_neg n3, if_neg m1, if_neg m2, if_neg m3, if_neg m4, if_pos (by simpa using h)]
 have m5 : k ≠ 5 := by simpa using h
 refine ⟨fun h => fun H w hs => hK _ _ _ _ _ _ ?_ (E.hst hs), fun h => ?_⟩
 ·rw [if_neg n0, if_neg n1, if_neg n2, if_neg n3, if_neg m1, if_neg m2, if_neg m3, if_neg m4, if_neg m5, if_pos (by simpa using h)]
 have m7 : k ≠ 7 := by simpa using h
 refine ⟨fun h => fun H w hs => hK _ _ _ _ _ _ ?_ (E.hst hs), fun h => fun H w hs => hK _ _ _ _ _ _ ?_ (E.hst hs)⟩
 ·rw [if_neg n0, if_neg n1, if_neg n2, if_neg n3, if_neg m1, if_neg m2, if_neg m3, if_neg m4, if_neg m5, if_neg m7, if_pos (by simpa using h)]
 ·rw [if_neg n0, if_neg n1, if_neg n2, if_neg n3, if_neg m1, if_neg m2, if_neg m3, if_neg m4, if_neg m5, if_neg m7, if_neg (by simpa using h)]
structure IsPrf (L : Sp.Pool) (G : List Int) (S : List Sp.Way) (t : Int) (l : List Sp.Step) : Prop where
 ne : l ≠ []
 fol : ∀ i (hi : i < l.length), Sp.fol L G (l.take i) l[i] = true
 nd : (l.map Sp.Step.t).Nodup
 last : Sp.tAt l ((l.length : Int) - 1) = t
 mem : ∀ x, x ∈ l.map Sp.Step.t ↔ Sp.Dp L S t x
theorem IsPrf.len {L : Sp.Pool} {G : List Int} {S : List Sp.Way} {t : Int} {l m : List Sp.Step} (h : IsPrf L G S t l) (k : IsPrf L G S t m) : l.length = m.length := by
 have h1 := Sp.nodup_len h.nd (fun x hx => (k.mem x).2 ((h.mem x).1 hx))
 have h2 := Sp.nodup_len k.nd (fun x hx => (h.mem x).2 ((k.mem x).1 hx))
 simp only [List.length_map] at h1 h2
 omega
structure ForK (w0 : World) (L : Sp.Pool) (G : List Int) (S : List Sp.Way) (t : Int) (r : Sl) (ok : Bool) (w' : World) : Prop where
 pure : Pure w0 w'
 no : ok = false → r = Sl.nil ∧ (¬ Sp.Drv L (fun x => x ∈ Sp.wkeys S) t ∨ ∃ l, IsPrf L G S t l ∧ 256 < l.length)
 yes : ok = true → Sp.Drv L (fun x => x ∈ Sp.wkeys S) t ∧ ∃ (l : List Sp.Step) (ops : List Sp.Op), IsPrf L G S t l ∧ Rws w' 103 5 r (ops.map oprow) ∧ (∀ b, r.blk b → w0.heap.size ≤ b) ∧ ops.length = l.length ∧ l.length ≤ 256 ∧ Sp.evalOps L G ops = (t, 0, 0, L)
theorem c_ded_ProofI (k p : Addr) (t : Int) (w0 : World) {L : Sp.Pool} {G : List Int} {S : List Sp.Way} {F FP : Nat → Prop} (hW : Sp.Wf L) (hk : Sp.KnowOk L G S) (h : KnowAt w0 k p G S F) (hP : PoolAt w0 p L FP) :
  Calls Try.prog 37 #[.pointer (some k), .int .i64 t] w0 (fun e w' => ∃ r : Sl, ∃ ok : Bool, e = .returned (.tuple #[r.v, .bool ok]) ∧ ∃ l : List Sp.Step, RetO w0 136 4 (l.map strow) r w' ∧ (ok = true ↔ Sp.Drv L (fun x => x ∈ Sp.wkeys S) t) ∧ (ok = true → IsPrf L G S t l)) := by
 refine (c_ded_ProofD k p t w0 hW hk h hP).mono ?_
 rintro _ w' ⟨r, ok, rfl, l, h1, h2, _, h4, h5⟩
 exact ⟨r, ok, rfl, l, h1, h2, fun h => ⟨(h4 h).1, (h4 h).2.1, (h4 h).2.2.1, (h4 h).2.2.2.1, h5 h⟩⟩
theorem c_recipe_For (p k : Addr) (t : Int) (w0 : World) {L : Sp.Pool} {G : List Int} {S : List Sp.Way} {F FK : Nat → Prop} (hW : Sp.Wf L) (hk : Sp.KnowOk L G S) (hP : PoolAt w0 p L F) (hK : KnowAt w0 k p G S FK) (hG : G.length ≤ 1000000) :
  Calls Try.prog 38 #[.pointer (some p), .pointer (some k), .int .i64 t] w0 (fun e w' => ∃ r : Sl, ∃ ok : Bool, e = .returned (.tuple #[r.v, .bool ok]) ∧ ForK w0 L G S t r ok w') := by
 refine w_recipe_For _ _ _ w0 (fun r ok w' => ForK w0 L G S t r ok w') ?_
 unfold m_recipe_For
 have hnil : ∀ b, ¬ Sl.nil.blk b := fun b hb => by obtain ⟨a, h, _⟩ := hb; cases h
 refine Br.f rfl (fun H1 w1 hs1 => ?_)
 have E1 := hs1.first
 refine (c_ded_ProofI k p t w1 hW hk (hK.pure E1) (hP.pure E1)).mono ?_
 rintro _ w2 ⟨r1, ok1, rfl, l, hr1, hd, hpf⟩
 refine ⟨r1, ok1, rfl, hr1.kept, ?_⟩
 have hl1 : r1.len = l.length := by rw [hr1.rows.len]; simp
 have E2 := E1.trans hr1.pure
 refine ⟨fun h => fun H2 w3 hs3 => ⟨E2.hst hs3, fun _ => ⟨rfl, ?_⟩, fun h => by cases h⟩, fun h => fun H2 w3 hs3 => ?_⟩
 ·rw [Bool.or_eq_true] at h
  rcases h with h | h
  ·left; intro hdr; rw [hd.2 hdr] at h; cases h
  ·cases ok1 with
   | false => left; intro hdr; have := hd.2 hdr; cases this
   | true => right; exact ⟨l, hpf rfl, by have := of_decide_eq_true h; omega⟩
 rw [Bool.or_eq_false_iff] at h
 have hok : ok1 = true := by simpa using h.1
 subst hok
 have h256 : l.length ≤ 256 := by have := of_decide_eq_false h.2; omega
 have hP' := hpf rfl
 have E3 := E2.hst hs3
 have O1 : Own H1 w2 136 4 r1 (l.map strow) := ⟨hr1.rows, fun b hb hh => by have := hr1.own b hb; have := hs1.lt b hh; omega⟩
 have O3 := O1.hst hs3
 refine (c_ded_Given k p w3 (hK.pure E3) hG).mono ?_
 rintro _ w4 ⟨r3, rfl, hr3⟩
 refine ⟨r3, rfl, hr3.kept, ?_⟩
 have E4 := E3.trans hr3.pure
 have O4 := O3.pure hr3.pure
 have P4 : Own H2 w4 38 1 r3 (tmr G) := ⟨hr3.rows, fun b hb hh => by have := hr3.own b hb; have := hs3.lt b hh; omega⟩
 have z4 := hr3.pure.size
 have zz : w0.heap.size ≤ w2.heap.size := E2.size
 have z3 := hs3.ext.size
 refine ⟨fun s x H w => ∃ (j : Nat) (ops : List Sp.Op), x = j ∧ j ≤ l.length ∧ ∃ hl : ops.length = j, (∀ i (h : i < ops.length) (h2 : i < l.length), Sp.StepOp L G l[i] ops[i]) ∧ Pure w0 w ∧ w4.heap.size ≤ w.heap.size ∧ Hst w0 H w H w ∧ Own H w 136 4 r1 (l.map strow) ∧ Own H w 38 1 r3 (tmr G) ∧ Own H w 103 5 s (ops.map oprow) ∧ (∀ b, s.blk b → w4.heap.size ≤ b),
  fun _ x _ => ((l.length : Int) - x).toNat, ⟨0, [], rfl, Nat.zero_le _, rfl, fun i h => by simp at h, E4, Nat.le_refl _, hs3.here.again hr3.kept, O4, P4, Own.nil _ _, fun b hb => (hnil b hb).elim⟩, ?_⟩
 rintro s _ H w _ ⟨j, ops, rfl, hj, hlo, hst, E, zw, hsw, O, Pg, Q, hQ⟩
 unfold m_recipe_For_l1
 refine ⟨fun h => ?_, fun h => ?_⟩
 ·have hlt := lt_of_dec hl1 h
  obtain ⟨a, hat, hrow⟩ := O.nth hlt
  refine ⟨a, hat, l[j].rule, l[j].a, l[j].b, l[j].t, hrow, fun H3 w6 hs6 => ?_⟩
  have O6 := O.hst hs6
  have Pg6 := Pg.hst hs6
  have Q6 := Q.hst hs6
  have E6 := E.hst hs6
  refine (c_recipe_step p r3 G l[j] w6 (hP.pure E6) hW.ok Pg6.rows.lst hG).mono ?_
  rintro _ w7 ⟨o, rfl, hso, E7⟩
  refine ⟨o.code, o.a, o.b, o.num, o.text, rfl, E7.keptP, fun p3 w8 n8 => ?_⟩
  have E8 : Pure w7 w8 := Ext.new n8
  have hs8 : Hst w0 H3 w8 H3 w8 := (hs6.here.again E7.keptP).again E8.keptP
  obtain ⟨s1, w9, hr9, Q9, X9, k9, b9⟩ := ((Q6.pure E7).pure E8).append (P := Try.prog) (ty := 23) (c := 1) slT_op hs8 (r := oprow o) (Box.of_new n8).row rfl (by simp [oprow, oneCell]) (by simp; omega) (by simp [maxLen]; omega)
  refine ⟨s1, w9, hr9, k9, ?_⟩
  rw [wrap_succ hlt (by omega)]
  have z6 := hs6.ext.size
  have z7 := E7.size
  have z8 := E8.size
  have z9 := X9.size
  have dj : ∀ {e' : TypeId} {sz : Nat} {r : Sl} {rs : List (List Value)}, Own H3 w6 e' sz r rs → (∀ b, r.blk b → b < w4.heap.size) → Own H3 w9 e' sz r rs := fun h hb => ((h.pure E7).pure E8).ext X9 (fun b hb' hs => by have := hQ b hs; have := hb b hb'; omega)
  refine ⟨⟨j + 1, ops ++ [o], rfl, hlt, by simp [hlo], ?_, ((E6.trans E7).trans E8).trans' X9 (fun i hi hs => by have := hQ i hs; have := E4.size; omega), by omega, hs8.again k9, dj O6 (fun b hb => by have := O4.rows.lt hb; omega), dj Pg6 (fun b hb => P4.rows.lt hb), by simpa using Q9, fun b hb => (b9 b hb).elim (hQ b) (fun h => by omega)⟩, lt_dec hlt⟩
  intro i hi hi2
  by_cases hij : i < ops.length
  ·rw [List.getElem_append_left hij]; exact hst i hij hi2
  ·have : i = j := by simp at hi; omega
   subst this
   rw [List.getElem_append_right (by omega)]
   simpa [hlo] using hso
 ·have hge := eq_of_dec hl1 hj h
  subst hge
  refine ⟨E, fun h => (by cases h), fun _ => ⟨hd.1 rfl, l, ops, hP', Q.rows, fun b hb => by have := hQ b hb; have := E4.size; omega, hlo, h256, ?_⟩⟩
  exact Sp.steps_eval hW hlo (fun i h => hst i (by omega) h) hP'.fol h256 hP'.ne hP'.last
end Go.Proofs
end
section
open Go Go.SE
namespace Go.Proofs
attribute [local irreducible] Calls
theorem SideAt.baseH {w0 w1 w : World} {H : Nat → Prop} {s p k q : Addr} {sg : Sl} {L1 L2 : Sp.Pool} {GK G : List Int} {S : List Sp.Way} {FP FK FR : Nat → Prop} (h : SideAt w1 None w s p k q sg L1 L2 GK G S FP FK FR) (E : Pure w0 w1) (hs : Hst w0 H w1 H w1) : SideAt w0 H w s p k q sg L1 L2 GK G S FP FK FR := by
 have z := E.size
 have nh : ∀ b, w1.heap.size ≤ b → ¬ H b := fun b hb hh => by have := hs.lt b hh; omega
 exact ⟨h.box, h.pool, h.know, h.ref, h.giv, E.trans h.pure, hs.again h.pure.keptP, fun b hb => ⟨by have := (h.oP b hb).1; omega, nh b (h.oP b hb).1, (h.oP b hb).2.2⟩, fun b hb => ⟨by have := (h.oK b hb).1; omega, nh b (h.oK b hb).1, (h.oK b hb).2.2⟩, fun b hb => ⟨by have := (h.oR b hb).1; omega, nh b (h.oR b hb).1, (h.oR b hb).2.2⟩, fun b hb => ⟨by have := (h.oG b hb).1; omega, nh b (h.oG b hb).1, (h.oG b hb).2.2⟩, ⟨by have := h.oS.1; omega, nh _ h.oS.1⟩⟩
theorem c_law09_RecipeFinds {ST SG : Nat → Prop} (ts : List Sp.Tree) (goal : Sp.Tree) (sT sG : Sl) (w0 : World) (hT : TreeAt ST w0 sT (.mk 0 0 0 0 ⟨#[]⟩ ts)) (hS : ∀ b, ST b → b < w0.heap.size) (hG : TreeAt SG w0 sG goal) (hSG : ∀ b, SG b → b < w0.heap.size) :
  Calls Try.prog 7 #[sT.v, .agg (trow goal sG).toArray] w0 (fun e w' => ∃ r : Bool, e = .returned (.bool r) ∧ (r = true ∧ Pure w0 w')) := by
 obtain ⟨gk, gf, gt, gu, gx, gks⟩ := goal
 refine w_law09_RecipeFinds sT gk gf gt gu gx sG w0 (fun r w' => r = true ∧ Pure w0 w') ?_
 unfold m_law09_RecipeFinds
 intro H w1 hs1
 have E1 := hs1.first
 have LV : ∀ {H' : Nat → Prop} {w : World}, Pure w0 w → Calls Try.prog 14 #[] w (fun e w' => ∃ r : Bool, e = .returned (.bool r) ∧ Kept H' w w' ∧ r = true ∧ Pure w0 w') := fun {H' w} E => by
  refine (c_live9 w).mono ?_
  rintro _ w3 ⟨r2, rfl, hr2, E3⟩
  exact ⟨_, rfl, E3.keptP, hr2, E.trans E3⟩
 have J1t : ∀ w, Pure w0 w → m_law09_RecipeFinds_j1 sT gk gf gt gu gx sG true w0 H w (fun r w' => r = true ∧ Pure w0 w') := by
  intro w E
  unfold m_law09_RecipeFinds_j1
  exact Br.t rfl (LV E)
 refine (c_law09_large ts sT w1 (hT.pure E1) (fun b hb => by have := hS b hb; have := E1.size; omega)).mono ?_
 rintro _ w26 ⟨r17, rfl, hlg, E26'⟩
 have E26 := E1.trans E26'
 refine ⟨_, rfl, E26'.keptP, fun _ => J1t w26 E26, fun h1 => ?_⟩
 obtain ⟨hn1, hc1⟩ := hlg h1
 intro p2 w27 n27
 have E27' : Pure w26 w27 := Ext.new n27
 have E27 := E26.trans E27'
 have z27 := (Box.of_new n27).lt
 have hone : TreeAt (fun b => SG b ∨ b = p2.block) w27 ⟨some p2, 1, 1⟩ (.mk 0 0 0 0 ⟨#[]⟩ [.mk gk gf gt gu gx gks]) := TreeAt.one (A := .mk gk gf gt gu gx gks) (sa := sG) (Box.of_new n27) (.inr rfl) ((hG.pure E27).mono (fun b hb => .inl hb))
 refine (c_law09_large [.mk gk gf gt gu gx gks] ⟨some p2, 1, 1⟩ w27 hone (fun b hb => by
  rcases hb with hb | hb
  ·have := hSG b hb; have := E27.size; omega
  ·omega)).mono ?_
 rintro _ w28 ⟨r18, rfl, hlg2, E28'⟩
 have E28 := E27.trans E28'
 refine ⟨_, rfl, E28'.keptP, ?_⟩
 cases r18 with
 | true => exact J1t w28 E28
 | false =>
 obtain ⟨_, hc2⟩ := hlg2 rfl
 have hcg : Sp.cnt (.mk gk gf gt gu gx gks) ≤ 6000 := by simp only [Sp.cntAll] at hc2; omega
 have hs28 : Hst w0 H w28 H w28 := ((hs1.here.again E26'.keptP).again E27'.keptP).again E28'.keptP
 unfold m_law09_RecipeFinds_j1
 refine Br.f rfl ?_
 refine (c_law09_given ts sT w28 (hT.pure E28) (fun b hb => by have := hS b hb; have := E28.size; omega) (by omega) (by omega)).mono ?_
 rintro _ w3 ⟨_, _, rfl, s, p, k, q, sg, S, FP, FK, FR, rfl, rfl, A3', hk⟩
 refine ⟨_, _, rfl, A3'.pure.keptP, Br.f rfl ?_⟩
 have A3 := A3'.baseH E28 hs28
 have hW := Sp.sideAll_wf ts
 have hGn := Sp.sideAll_len ts
 generalize Sp.sideAll ts = Q at *
 obtain ⟨L, G⟩ := Q
 simp only at A3 hk hW hGn
 have Ad := A3.pureE (Ext.drew w3)
 refine ⟨fun w => Box w s [.pointer (some p), .pointer (some k), .pointer (some q), sg.v] 36, Ad.box, ?_⟩
 rintro _ rfl
 refine ⟨s, rfl, some p, fun _ h => h.cell0, ?_⟩
 refine (c_ref05_Lent (.mk gk gf gt gu gx gks) sG w3.drew (by omega) (hG.pure Ad.pure) (fun b hb => by have := hSG b hb; have := Ad.pure.size; omega)).mono ?_
 rintro _ w5 ⟨s', rfl, hT5, E5⟩
 have A5 := Ad.pureE E5
 refine ⟨_, _, _, _, _, s', rfl, A5.box, E5.keptP, ?_⟩
 refine (c_Of (S := fun b => w3.drew.heap.size ≤ b ∧ b < w5.heap.size) p (.mk gk gf gt gu gx gks) s' w5 hT5.lt A5.pool hW.ok (fun b hb hh => by have := Ad.pool.lt hb; omega) (fun b hb => hb.2)).mono ?_
 rintro _ w6 ⟨r4, r5, rfl, h45, FP6, hP6, X6, hF6⟩
 obtain ⟨k6, A6⟩ := A5.prog hP6 X6 hF6
 refine ⟨_, _, rfl, A6.box, k6, ?_⟩
 obtain ⟨X, hX⟩ := Sp.of_grows hW.ok (.mk gk gf gt gu gx gks)
 have hWx := Sp.of_wf hW (.mk gk gf gt gu gx gks)
 have hkx : Sp.KnowOk (Sp.of L (.mk gk gf gt gu gx gks)).2.2 G S := by rw [hX]; exact hk.app
 generalize Sp.of L (.mk gk gf gt gu gx gks) = R at *
 obtain ⟨t, er, L'⟩ := R
 simp only at h45 hWx hkx A6
 cases h45
 refine ⟨fun _ => fun w7 hs7 => LV (A6.hst hs7).pure, fun _ => ⟨s, rfl, fun w7 hs7 => ?_⟩⟩
 have A7 := A6.hst hs7
 refine ⟨some k, A7.box.cell rfl, ?_⟩
 refine (c_ded_ProofI k p r4 w7 hWx hkx A7.know A7.pool).mono ?_
 rintro _ w9 ⟨r7, r8, rfl, l, hl, hd8, hp8⟩
 refine ⟨_, _, rfl, hl.kept, ?_⟩
 have A9 := A7.pureE hl.pure
 have Ad9 := A9.pureE (Ext.drew w9)
 have hl7 : r7.len = l.length := by rw [hl.rows.len]; simp
 refine ⟨fun w => Box w s [.pointer (some p), .pointer (some k), .pointer (some q), sg.v] 36, Ad9.box, ?_⟩
 rintro _ rfl
 refine ⟨s, rfl, some p, fun _ h => h.cell0, s, rfl, some k, fun _ h => h.cell rfl, ?_⟩
 refine (c_recipe_For p k r4 w9.drew hWx hkx Ad9.pool Ad9.know (by omega)).mono ?_
 rintro _ w11 ⟨r9, r10, rfl, hF⟩
 have A11 := Ad9.pureE hF.pure
 refine ⟨_, _, rfl, A11.box, hF.pure.keptP, s, rfl, some k, A11.box.cell rfl, ?_⟩
 refine (c_ded_Derives k p r4 w11 hWx hkx A11.know A11.pool).mono ?_
 rintro _ w19 ⟨r16, rfl, hd16, E19⟩
 refine ⟨_, rfl, E19.keptP, ?_⟩
 have e16 : r16 = r8 := by rw [Bool.eq_iff_iff, hd16, hd8]
 subst e16
 have e10 : r10 = (r16 && decide ((r7.len : Int) ≤ 256)) := by
  cases h8 : r16 with
  | false =>
   cases h10 : r10 with
   | false => rfl
   | true => have := hd8.2 (hF.yes h10).1; rw [h8] at this; cases this
  | true =>
   cases h10 : r10 with
   | true =>
    obtain ⟨_, l2, ops, hp2, _, _, _, h256, _⟩ := hF.yes h10
    have := (hp8 h8).len hp2
    rw [decide_eq_true (by omega)]; rfl
   | false =>
    rcases (hF.no h10).2 with h | ⟨l2, hp2, h⟩
    ·exact absurd (hd8.1 h8) h
    ·have := (hp8 h8).len hp2
     rw [decide_eq_false (by omega)]; rfl
 have e9 : ((!r10) && (decide ((r9.len : Int) > 0))) = false := by
  cases h10 : r10 with
  | true => rfl
  | false => rw [(hF.no h10).1]; rfl
 rintro y2 rfl
 intro H8 w24 hs24
 rw [e9, ← e10]
 have A24 := (A11.pureE E19).hst hs24
 have hx : (((!(r16 == r16)) || (!(r10 == r10))) || false) = false := by simp
 rw [hx]
 unfold m_law09_RecipeFinds_j2
 refine Br.f rfl ⟨fun _ => LV A24.pure, fun h10 => ?_⟩
 have h10 : r10 = true := by simpa using h10
 obtain ⟨_, l2, ops, hp2, hrows, hown, hlo, h256, hev⟩ := hF.yes h10
 have h8 : r16 = true := by rw [h10] at e10; cases r16 with | true => rfl | false => cases e10
 have hll := (hp8 h8).len hp2
 have O11 : Own H w11 103 5 r9 (ops.map oprow) := ⟨hrows, fun b hb hh => by have := hown b hb; have := Ad9.hs.lt b hh; omega⟩
 have O24 := ((O11.pure E19).hst hs24).pure (Ext.drew w24)
 have Ad := A24.pureE (Ext.drew w24)
 refine ⟨fun w => Box w s [.pointer (some p), .pointer (some k), .pointer (some q), sg.v] 36, Ad.box, ?_⟩
 rintro _ rfl
 refine ⟨s, rfl, some p, fun _ h => h.cell0, s, rfl, some k, fun _ h => h.cell rfl, ?_⟩
 refine (c_recipe_Eval (Sl0 := r9.blk) p k r9 ops w24.drew hWx Ad.pool Ad.know O24.rows.lst (fun b hb => ⟨O24.rows.lt hb, fun hf => by have := hown b hb; have := Ad9.pool.lt hf; omega⟩) (by omega) (by omega)).mono ?_
 rintro _ w14 ⟨r12, r13, r14, rfl, hr, FP14, hP14, X14, hF14⟩
 obtain ⟨k14, B14⟩ := Ad.prog hP14 X14 hF14
 rw [hev] at hr
 cases hr
 refine ⟨_, _, _, rfl, B14.box, k14, ?_⟩
 have hr9 : r9.len = ops.length := by rw [hrows.len]; simp
 rintro y1 rfl
 refine Br.t (by simp [hr9, hl7, hlo, hll]) (fun H3 w17 hs17 => LV (B14.hst hs17).pure)
end Go.Proofs
end
section
namespace Go.SE
open Go.ChangeShapes Go.WideShapes Go.ChangeAt Go.RowKit
section
variable {H : Type} {enc : TypeId × Value → H} {P : Program}
theorem below_trodAll (hl : laidOutB P = true) {W W' : World} (hb : Below W.heap.size W W') : ∀ (ts : List TypeId) (vs : List Value) (ds : List (DataW H)) (ps : List MemPlace), (ts.all fun t => P.readableRec t && decide (t < P.types.size)) = true →
  DataW.TrodAll enc P W 0 (fun _ => true) true ts vs ds ps → (∀ x ∈ ps, x.block < W.heap.size) → DataW.TrodAll enc P W' 0 (fun b => decide (b < W.heap.size)) true ts vs ds ps
 | [], _, _, _, _, h, _ => by
  obtain ⟨rfl, rfl, rfl⟩ := trodAll_nil h
  exact h
 | t :: ts, _, _, _, hr, h, hlt => by
  obtain ⟨v, vs1, d, ds1, a, b, rfl, rfl, rfl, h1, h2⟩ := trodAll_cons h
  simp only [List.all_cons, Bool.and_eq_true, decide_eq_true_eq] at hr
  exact ⟨a, b, Below.trod hl hr.1.1 hr.1.2 h1 hb (fun x hx => hlt x (by simp [hx])), below_trodAll hl hb ts vs1 ds1 b (by simpa using hr.2) h2 (fun x hx => hlt x (by simp [hx])), rfl⟩
theorem law_post {f : Func} {s : ChangeSpec} {W W' : World} {args : Array Value} {ds gs : List (DataW H)} {before : List MemPlace} {t : TypeId} (hl : laidOutB P = true)
  (hv : s.vars = []) (hf : ∀ ds : List (DataW H), ds.length = f.params.size → s.fn H ds = { results := [.lit (.bool true)], args := ds }) (hrt : f.resultTypes = #[t]) (ht : P.underlying t = some .bool)
  (hr : (f.params.toList.all fun t => P.readableRec t && decide (t < P.types.size)) = true)
  (hW : DataW.Whole enc P f.params.toList s.vars false W args.toList ds gs before) (E : Pure W W') :
  s.post enc P f false true false false W args (.bool true) W' := by
 have hW' := hW
 obtain ⟨p, q, hA, hV, rfl, hfz, hnd⟩ := hW
 rw [hv] at hV
 obtain ⟨rfl, rfl⟩ := trodVars_none hV
 have hlen : ds.length = f.params.size := by
  have : ∀ (ts : List TypeId) (vs : List Value) (ds : List (DataW H)) (ps : List MemPlace), DataW.TrodAll enc P W 0 (fun _ => true) true ts vs ds ps → ds.length = ts.length := by
   intro ts
   induction ts with
   | nil => intro vs ds ps h; obtain ⟨_, rfl, _⟩ := trodAll_nil h; rfl
   | cons t ts ih =>
    intro vs ds ps h
    obtain ⟨v, vs1, d, ds1, a, b, _, rfl, _, _, h2⟩ := trodAll_cons h
    simp [ih _ _ _ h2]
  simpa using this _ _ _ _ hA
 have hfn := hf ds hlen
 have hfn' : s.fn H (ds ++ []) = { results := [.lit (.bool true)], args := ds } := by rw [List.append_nil]; exact hfn
 have hlt : ∀ x ∈ p, x.block < W.heap.size := fun x hx => by simpa using hW'.lt x (by simp [hx])
 have bel := E.below
 refine ⟨ds, [], p ++ [], [], p, [], hW', ?_, ?_, ?_, bel.frame _, fun h => by cases h⟩
 ·rw [hfn', hrt]; exact trodAll_mk1 (shut_bool ht _)
 ·rw [hfn']; exact below_trodAll hl bel _ _ _ _ hr hA hlt
 ·rw [hfn', hv]; exact hV
theorem law_lifted {C : Checked} {os : Os} {f : FuncId} {fn : Func} {s : ChangeSpec} {t : TypeId} (hl : laidOutB C.prog = true)
  (hv : s.vars = []) (hf : ∀ ds : List (DataW H), ds.length = fn.params.size → s.fn H ds = { results := [.lit (.bool true)], args := ds }) (hrt : fn.resultTypes = #[t]) (ht : C.prog.underlying t = some .bool)
  (hr : (fn.params.toList.all fun t => C.prog.readableRec t && decide (t < C.prog.types.size)) = true)
  (own : ownKnob C.prog.godebug = none) (started : os.Started) (noInit : C.prog.inits.idxOf? f = none) (hfn : C.prog.funcs[f]? = some fn)
  (witness : ∃ (w : World) (tape : Tape) (i : Input), w.os = os ∧ (w.forCall tape i).Shaped C.prog ∧ i.vars = [] ∧ Input.okWide C.prog (w.forCall tape i) .any w.heap.size f i ∧
   s.pre6 enc C.prog fn [] false (w.forCall tape i).memory i.args ∧ ({} : Assume).holds C.prog (lone (Frame.enter C.prog f i.args .normal) [] (w.forCall tape i)))
  (contract : ∀ (W : World) (base : Nat) (args : Array Value) (ds : List (DataW H)) (p : List MemPlace),
   (∀ (j : Nat) t v, fn.params[j]? = some t → args[j]? = some v → Value.okWide C.prog W .any base t v) →
   DataW.TrodAll enc C.prog W 0 (fun _ => true) true fn.params.toList args.toList ds p → (∀ x ∈ p, x.block < W.heap.size) →
   Calls C.prog f args W (fun e W' => ∃ r : Bool, e = .returned (.bool r) ∧ (r = true ∧ Pure W W'))) :
  ReturnsInHanded {} C os f .any (s.pre6 enc C.prog fn [] false) (s.post enc C.prog fn false true false false) := by
 refine returnsInHanded_of_change own started noInit hfn witness ?_
 intro W base args ds gs before hval hW _ _
 have hW' := hW
 obtain ⟨p, q, hA, hV, rfl, hfz, hnd⟩ := hW
 refine (contract W base args ds p hval hA (fun x hx => by simpa using hW'.lt x (by simp [hx]))).mono fun e W' ⟨r, he, h1, h2⟩ => ?_
 subst h1
 exact ⟨_, he, law_post hl hv hf hrt ht hr hW' h2⟩
end
end Go.SE
namespace Go.SE
open Go.ChangeShapes Go.WideShapes Go.ChangeAt Go.RowKit
section
variable {P : Program} {W : World} {r : Reach} {b0 : Nat} {t : TypeId} {v : Value}
theorem okWide_cells {fs : Array Field} {ts : List TypeId} (ht : P.underlying t = some (.struct fs)) (hc : P.cellTypes P.depth t = some ts) (hn : P.cellsOf t = ts.length) (h : Value.okWide P W r b0 t v) :
  ∃ cs : Array Value, v = .agg cs ∧ cs.size = ts.length ∧ ∀ (i : Nat) (u : TypeId) (c : Value), ts[i]? = some u → cs[i]? = some c → Cell.okWide P W r b0 u c := by
 unfold Value.okWide at h
 rw [ht] at h
 obtain ⟨cs, rfl, hs, ts', hts, _, hall⟩ := h
 rw [hc] at hts
 cases hts
 refine ⟨cs, rfl, hs.trans hn, fun i u c hu hcs => ?_⟩
 obtain ⟨u', hu', hok⟩ := hall i c hcs
 have hlt : i < ts.length := (List.getElem?_eq_some_iff.1 hu).1
 rw [Nat.mod_eq_of_lt hlt, hu] at hu'
 cases hu'
 exact hok
theorem okWide_sl {e : TypeId} (ht : P.underlying t = some (.slice e)) (h : Value.okWide P W r b0 t v) : ∃ a n c, v = .slice a n c := by
 unfold Value.okWide at h
 rw [ht] at h
 simp only at h
 unfold Cell.okWide at h
 rw [ht] at h
 cases v <;> simp [Cell.ok, ht] at h
 exact ⟨_, _, _, rfl⟩
end
end Go.SE
end
section
open Go Go.SE
namespace Go.Proofs
theorem mapM_facts {α β : Type} {f : α → Option β} : ∀ {l : List α} {r : List β}, l.mapM f = some r → r.length = l.length ∧ ∀ (i : Nat) (a : α), l[i]? = some a → ∃ b, f a = some b ∧ r[i]? = some b
 | [], r, h => by
  have : r = [] := by simpa using h.symm
  subst this
  exact ⟨rfl, fun i a h => by simp at h⟩
 | x :: xs, r, h => by
  rw [List.mapM_cons] at h
  cases hx : f x with
  | none => simp [hx] at h
  | some y =>
   cases hxs : xs.mapM f with
   | none => simp [hx, hxs] at h
   | some ys =>
    have : r = y :: ys := by simpa [hx, hxs] using h.symm
    subst this
    obtain ⟨h1, h2⟩ := mapM_facts hxs
    refine ⟨by simp [h1], fun i a ha => ?_⟩
    cases i with
    | zero => cases ha; exact ⟨y, hx, rfl⟩
    | succ i => exact h2 i a (by simpa using ha)
theorem cells_row {w : World} {base : Nat} {a : Addr} {n : Nat} {cs : List Value} (h : w.cells? base a n = some cs) : cs.length = n ∧ Row w a cs := by
 obtain ⟨_, h1, h2⟩ := World.cells?_some h
 exact ⟨h1, fun j hj => h2 j (by omega)⟩
section
variable {H : Type} {enc : TypeId × Value → H} {P : Program} {W : World} {base : Nat} {sp : Nat → Bool} {held : Bool}
theorem trod_int1 {t : TypeId} {k : IntKind} (ht : P.underlying t = some (.int k)) {n : Nat} {c : Value} {x : DataW H × List MemPlace} (h : DataW.trod enc P W base sp held n t [c] = some x) : ∃ m, c = .int k m := by
 cases n with
 | zero => cases h
 | succ n =>
  rw [DataW.trod_step] at h
  unfold DataW.trodStep at h
  rw [ht] at h
  cases c <;> simp at h
  obtain ⟨⟨rfl, _⟩, _⟩ := h
  exact ⟨_, rfl⟩
theorem trod_str1 {t : TypeId} (ht : P.underlying t = some .string) {n : Nat} {c : Value} {x : DataW H × List MemPlace} (h : DataW.trod enc P W base sp held n t [c] = some x) : ∃ m, c = .string m := by
 cases n with
 | zero => cases h
 | succ n =>
  rw [DataW.trod_step] at h
  unfold DataW.trodStep at h
  rw [ht] at h
  cases c <;> simp at h
  exact ⟨_, rfl⟩
theorem trod_slice1 {t e : TypeId} (ht : P.underlying t = some (.slice e)) {n : Nat} {c : Value} {x : DataW H × List MemPlace} (h : DataW.trod enc P W base sp held (n + 1) t [c] = some x) :
  c = .slice none 0 0 ∨ ∃ a len cap, c = .slice (some a) len cap ∧ len ≤ cap ∧ cap ≤ maxLen ∧ ∀ i, i < len → ∃ cs y, W.cells? base (a.add (i * P.cellsOf e)) (P.cellsOf e) = some cs ∧ DataW.trod enc P W base sp held n e cs = some y := by
 rw [DataW.trod_step] at h
 unfold DataW.trodStep at h
 rw [ht] at h
 cases c with
 | slice a len cap =>
  cases a with
  | none =>
   cases len with
   | zero => cases cap with
    | zero => exact .inl rfl
    | succ c => simp at h
   | succ l => simp at h
  | some a =>
   right
   simp only at h
   split at h
   ·rename_i hc
    refine ⟨a, len, cap, rfl, hc.2.1, hc.2.2, fun i hi => ?_⟩
    cases hm : (List.range len).mapM fun i => (W.cells? base (a.add (i * P.cellsOf e)) (P.cellsOf e)).bind (DataW.trod enc P W base sp held n e) with
    | none => rw [hm] at h; cases h
    | some r =>
     obtain ⟨b, hb, _⟩ := (mapM_facts hm).2 i i (by simp [hi])
     obtain ⟨cs, h1, h2⟩ := Option.bind_eq_some_iff.1 hb
     exact ⟨cs, b, h1, h2⟩
   ·cases h
 | _ => simp at h
structure TreeTypes (P : Program) (tS tT : TypeId) : Prop where
 ex : ∃ ti tu ts : TypeId, ∃ f0 f1 f2 f3 f4 f5 : Field, P.underlying tS = some (.slice tT) ∧ P.underlying tT = some (.struct #[f0, f1, f2, f3, f4, f5]) ∧ P.cellsOf tT = 6 ∧
  (f0.type = ti ∧ f1.type = ti ∧ f2.type = ti ∧ f3.type = tu ∧ f4.type = ts ∧ f5.type = tS) ∧ (f0.offset = 0 ∧ f1.offset = 1 ∧ f2.offset = 2 ∧ f3.offset = 3 ∧ f4.offset = 4 ∧ f5.offset = 5) ∧
  P.underlying ti = some (.int .i64) ∧ P.underlying tu = some (.int .u64) ∧ P.underlying ts = some .string ∧ P.cellsOf ti = 1 ∧ P.cellsOf tu = 1 ∧ P.cellsOf ts = 1 ∧ P.cellsOf tS = 1
theorem trod_tree {tS tT : TypeId} (hTT : TreeTypes P tS tT) : ∀ n : Nat,
  (∀ (c : Value) (x : DataW H × List MemPlace), DataW.trod enc P W base sp held n tS [c] = some x → ∃ s : Sl, ∃ ts : List Sp.Tree, c = s.v ∧ ∀ (k f t u : Int) (tx : ByteArray), TreeAt (fun _ => True) W s (.mk k f t u tx ts)) ∧
  (∀ (cs : List Value) (x : DataW H × List MemPlace), DataW.trod enc P W base sp held n tT cs = some x → ∃ t s, cs = trow t s ∧ TreeAt (fun _ => True) W s t) := by
 obtain ⟨ti, tu, tx, f0, f1, f2, f3, f4, f5, hS, hT, hc6, ⟨e0, e1, e2, e3, e4, e5⟩, ⟨o0, o1, o2, o3, o4, o5⟩, ui, uu, us, ci, cu, cs1, cS⟩ := hTT.ex
 intro n
 induction n with
 | zero => exact ⟨fun c x h => (by cases h), fun cs x h => (by cases h)⟩
 | succ n ih =>
  refine ⟨fun c x h => ?_, fun cs x h => ?_⟩
  ·rcases trod_slice1 hS h with rfl | ⟨a, len, cap, rfl, hle, hcm, hel⟩
   ·exact ⟨Sl.nil, [], rfl, fun k f t u tx => .mk k f t u tx [] Sl.nil (fun _ => Sl.nil) rfl (by simp) (fun i h => by simp at h) (fun i h => by simp at h)⟩
   ·rw [hc6] at hel
    have hex : ∀ i, ∃ q : Sp.Tree × Sl, i < len → Row W (a.add (i * 6)) (trow q.1 q.2) ∧ TreeAt (fun _ => True) W q.2 q.1 := by
     intro i
     by_cases hi : i < len
     ·obtain ⟨cs, y, h1, h2⟩ := hel i hi
      obtain ⟨tr, s, e, hTr⟩ := ih.2 cs y h2
      exact ⟨(tr, s), fun _ => ⟨e ▸ (cells_row h1).2, hTr⟩⟩
     ·exact ⟨(Sp.Tree.mk 0 0 0 0 ⟨#[]⟩ [], Sl.nil), fun h => absurd h hi⟩
    obtain ⟨q, hq⟩ := Classical.axiomOfChoice hex
    refine ⟨⟨some a, len, cap⟩, (List.range len).map fun i => (q i).1, rfl, fun k f t u tx => .mk k f t u tx _ _ (fun i => (q i).2) (by simp) (by simp only [maxLen] at hcm; simp; omega) (fun i h => ?_) (fun i h => ?_)⟩
    ·have hi : i < len := by simpa using h
     refine ⟨a.add (i * 6), ⟨by omega, by simpa using hi, a, rfl, by simp⟩, trivial, ?_⟩
     simpa using (hq i hi).1
    ·have hi : i < len := by simpa using h
     simpa using (hq i hi).2
  ·rw [DataW.trod_step] at h
   unfold DataW.trodStep at h
   rw [hT] at h
   simp only at h
   split at h
   ·rename_i hl
    rw [hc6] at hl
    match cs, hl with
    | [c0, c1, c2, c3, c4, c5], _ =>
     cases hm : ([f0, f1, f2, f3, f4, f5] : List Field).mapM (fun f => DataW.trod enc P W base sp held n f.type ((([c0, c1, c2, c3, c4, c5] : List Value).drop f.offset).take (P.cellsOf f.type))) with
     | none => rw [hm] at h; cases h
     | some r =>
      have hf := (mapM_facts hm).2
      obtain ⟨_, h0, _⟩ := hf 0 f0 rfl
      obtain ⟨_, h1, _⟩ := hf 1 f1 rfl
      obtain ⟨_, h2, _⟩ := hf 2 f2 rfl
      obtain ⟨_, h3, _⟩ := hf 3 f3 rfl
      obtain ⟨_, h4, _⟩ := hf 4 f4 rfl
      obtain ⟨_, h5, _⟩ := hf 5 f5 rfl
      rw [e0, o0, ci] at h0; rw [e1, o1, ci] at h1; rw [e2, o2, ci] at h2; rw [e3, o3, cu] at h3; rw [e4, o4, cs1] at h4; rw [e5, o5, cS] at h5
      obtain ⟨m0, rfl⟩ := trod_int1 ui h0
      obtain ⟨m1, rfl⟩ := trod_int1 ui h1
      obtain ⟨m2, rfl⟩ := trod_int1 ui h2
      obtain ⟨m3, rfl⟩ := trod_int1 uu h3
      obtain ⟨m4, rfl⟩ := trod_str1 us h4
      obtain ⟨s, ts, rfl, hTr⟩ := ih.1 c5 _ h5
      exact ⟨.mk m0 m1 m2 m3 m4 ts, s, rfl, hTr m0 m1 m2 m3 m4⟩
   ·cases h
theorem trees_of_trod {tS tT : TypeId} (hTT : TreeTypes P tS tT) {v : Value} {d : DataW H} {ps : List MemPlace} (h : DataW.Trod enc P W base sp held tS v d ps) (hv : ∃ a n c, v = .slice a n c) :
  ∃ s : Sl, ∃ ts : List Sp.Tree, v = s.v ∧ TreeAt (fun b => b < W.heap.size) W s (.mk 0 0 0 0 ⟨#[]⟩ ts) := by
 obtain ⟨n, h⟩ := h
 obtain ⟨a, m, c, rfl⟩ := hv
 obtain ⟨s, ts, e, hT⟩ := (trod_tree hTT n).1 _ _ h
 exact ⟨s, ts, e, (hT 0 0 0 0 ⟨#[]⟩).lt.mono (fun b hb => hb.2)⟩
end
theorem treeTypes : TreeTypes Try.prog 22 46 :=
 ⟨3, 44, 9, _, _, _, _, _, _, Try.underlying22, Try.underlying46, by kernel_rfl, ⟨rfl, rfl, rfl, rfl, rfl, rfl⟩, ⟨rfl, rfl, rfl, rfl, rfl, rfl⟩, Try.underlying3, Try.underlying44, Try.underlying9, by kernel_rfl, by kernel_rfl, by kernel_rfl, by kernel_rfl⟩
end Go.Proofs
end
