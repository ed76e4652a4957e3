import Derived.Test.YtdljcendkjfamaaProg
import Derived.KernelRfl
import Derived.Test.YtdljcendkjfamaaPa0
import Derived.Test.YtdljcendkjfamaaPa3
import Derived.Test.YtdljcendkjfamaaPa2
import Derived.Test.YtdljcendkjfamaaPa1
import Derived.ProofKit
import Derived.Carry
import Derived.OpenShut
import Derived.Stop.Joined
section
open Go Go.SE
namespace Go.Proofs
set_option maxRecDepth 100000
set_option maxHeartbeats 4000000
attribute [local irreducible] wpL wpX opE wpE Calls
def m_law09_large (l1 : Sl) (w0 : World) (K : Bool → World → Prop) : Prop :=
 Br (decide ((l1.len : Int) > 300))
  (K true w0)
  (Calls Try.prog 61 #[(.agg #[(vi 0), (vi 0), (vi 0), (vu 0), (vs ⟨#[]⟩), l1.v]), (vi 6000)] w0 (fun e w1 => ∃ r1 : Int, e = .returned (vi r1) ∧ 
   K (decide (r1 > 6000)) w1))
theorem w_law09_large (l1 : Sl) (w0 : World) (K : Bool → World → Prop) (h : m_law09_large l1 w0 K) :
  Calls Try.prog 12 #[l1.v] w0 (fun e w' => ∃ r2 : Bool, e = .returned (vb r2) ∧ K r2 w') := by
 unfold m_law09_large at h
 refine calls_of_wpE (args := [l1.v]) Try.func12 rfl Try.ntmps12 (Nat.le_of_ble_eq_true rfl) (wpE_seq (rg (q0 (vb false) (wpL_nil (th_n (wpE_seq (rg (q0 l1.v (q0 (vi (l1.len : Int)) (q0 (vb (decide ((l1.len : Int) > 300))) (q0 (vb (decide ((l1.len : Int) > 300))) ?_)))))))))))
 rcases Bool.eq_false_or_eq_true (decide ((l1.len : Int) > 300)) with hg1 | hg1
 ·replace h := h.1 hg1
  refine sk (yD 6 hg1) (sk (yD 6 hg1) (sk (yD 6 hg1) (sk (yD 6 hg1) (q2 (vb true) (xT hg1) (q0 (vb true) (wpL_nil (th_n (wpE_ret (res1 (.inl rfl) Try.results12 (v := (vb true)) (by kernel_rfl) ?_)))))))))
  exact ⟨true, rfl, h⟩
 ·replace h := h.2 hg1
  refine q1 l1.v (want1 rfl (yD 6 hg1)) (q1 (.agg #[(vi 0), (vi 0), (vi 0), (vu 0), (vs ⟨#[]⟩), l1.v]) (want1 rfl (yD 6 hg1)) ?_)
  refine st_call (want1 rfl (yD 6 hg1)) (xc Try.call61) (h.mono ?_)
  rintro e w1 ⟨r1, rfl, h⟩
  refine ⟨_, rfl, ?_⟩
  refine q1 (vb (decide (r1 > 6000))) (want1 rfl (yD 6 hg1)) (q2 (vb (decide (r1 > 6000))) (xF hg1) (q0 (vb (decide (r1 > 6000))) (wpL_nil (th_n (wpE_ret (res1 (.inl rfl) Try.results12 (v := (vb (decide (r1 > 6000)))) (by kernel_rfl) ?_))))))
  exact ⟨(decide (r1 > 6000)), rfl, h⟩
def m_law09_long_l1 (l1 : Sl) (n1 i1 : Int) (wl1 : World) (Kc1 : Int → Int → World → Prop) (K : Bool → World → Prop) : Prop :=
 Br ((decide (i1 < (l1.len : Int))) && (decide (i1 ≤ 300)))
  (∃ a1 : Addr, At l1 i1 5 a1 ∧
  ∃ v1 : ByteArray, wl1.cell? (a1.add 4) = some (vs v1) ∧
  Kc1 (IntKind.i64.wrap (n1 + (v1.size : Int))) (IntKind.i64.wrap (i1 + 1)) wl1)
  (K ((decide ((l1.len : Int) > 300)) || (decide (n1 > 20000))) wl1)
def m_law09_long (l1 : Sl) (w0 : World) (K : Bool → World → Prop) : Prop :=
 ∃ (I1 : Int → Int → World → Prop) (mu1 : Int → Int → World → Nat), I1 0 0 w0 ∧
  ∀ (n1 i1 : Int) (wl1 : World), I1 n1 i1 wl1 → m_law09_long_l1 l1 n1 i1 wl1 (fun y'0 y'1 w' => I1 y'0 y'1 w' ∧ mu1 y'0 y'1 w' < mu1 n1 i1 wl1) K
theorem w_law09_long (l1 : Sl) (w0 : World) (K : Bool → World → Prop) (h : m_law09_long l1 w0 K) :
  Calls Try.prog 13 #[l1.v] w0 (fun e w' => ∃ r1 : Bool, e = .returned (vb r1) ∧ K r1 w') := by
 unfold m_law09_long at h
 refine calls_of_wpE (args := [l1.v]) Try.func13 rfl Try.ntmps13 (Nat.le_of_ble_eq_true rfl) (wpE_seq (rg (q0 (vb false) (wpL_nil (th_n (wpE_seq (rg (q0 (vi 0) (wpL_nil (th_n (wpE_seq ?_)))))))))))
 refine wpE_seq (rg (q0 (vi 0) (wpL_nil (th_n (wpE_block ?_)))))
 obtain ⟨I1, mu1, h0, hr⟩ := h
 refine wpE_loop (σ := Int × Int × World) (fun s ρ w => w = s.2.2 ∧ Has ρ [(0, l1.v), (3, (vi s.1)), (4, (vi s.2.1))] ∧ I1 s.1 s.2.1 s.2.2) (fun s => mu1 s.1 s.2.1 s.2.2) (0, 0, w0) ⟨rfl, Has.mk (by kernel_rfl), h0⟩ ?_
 rintro ⟨n1, i1, wl1⟩ ρ w ⟨hw, hH, hI⟩
 obtain rfl : wl1 = w := (show w = wl1 from hw).symm
 replace hH : Has ρ [(0, l1.v), (3, (vi n1)), (4, (vi i1))] := hH
 have h := hr n1 i1 wl1 hI
 clear hr h0
 unfold m_law09_long_l1 at h
 refine wpE_has hH ?_
 clear hH hI
 refine wpE_seq (wpE_seq ?_)
 refine wpE_via (fun ρ wJ => ∃ b1'0 : Bool, ((decide (i1 < (l1.len : Int))) = b1'0) ∧ wl1 = wJ ∧ Has ρ [(0, l1.v), (3, (vi n1)), (4, (vi i1)), (12, (vb (b1'0 && (decide (i1 ≤ 300)))))]) ?_ ?_
 ·skip
  refine rg (q0 (vi i1) (q0 l1.v (q0 (vi (l1.len : Int)) (q0 (vb (decide (i1 < (l1.len : Int)))) (q0 (vb (decide (i1 < (l1.len : Int)))) ?_)))))
  rcases Bool.eq_false_or_eq_true (decide (i1 < (l1.len : Int))) with hg2 | hg2
  ·skip
   refine q1 (vi i1) (want1 rfl (yD 9 hg2)) (q1 (vb (decide (i1 ≤ 300))) (want1 rfl (yD 9 hg2)) (q2 (vb (decide (i1 ≤ 300))) (xT hg2) (wpL_nil (th_n ?_))))
   exact ⟨true, hg2, rfl, Has.mk (by kernel_rfl)⟩
  ·skip
   refine sk (yD 9 hg2) (sk (yD 9 hg2) (q2 (vb false) (xF hg2) (wpL_nil (th_n ?_))))
   exact ⟨false, hg2, rfl, Has.mk (by kernel_rfl)⟩
 ·rintro ρ w1 ⟨b1'0, he0, hw, hH⟩
  subst he0
  subst hw
  refine norm_has hH ?_
  clear hH
  refine th_n ?_
  refine wpE_cond (t := ((decide (i1 < (l1.len : Int))) && (decide (i1 ≤ 300)))) (by kernel_rfl) (fun hc1 => ?_) (fun hc1 => ?_)
  ·replace h := h.1 hc1
   refine wpE_skip (th_n (wpE_seq (wpE_block (rg (q0 (vi n1) (q0 l1.v (q0 (vi i1) ?_)))))))
   obtain ⟨a1, hv2, h⟩ := h
   refine q2 (vp (some a1)) (x_indexAddr (s := l1) (k := .i64) (i := i1) (by kernel_rfl) (by kernel_rfl) (Try.runUnderlying23 _) (Try.sizeOf103 _) hv2) (q0 (vp (some (a1.add 4))) ?_)
   obtain ⟨v1, hv1, h⟩ := h
   refine q2 (vs v1) (xl (Try.isAgg9 _) hv1) (q0 (vi (v1.size : Int)) (q0 (vi (IntKind.i64.wrap (n1 + (v1.size : Int)))) (q0 (vi (IntKind.i64.wrap (n1 + (v1.size : Int)))) (wpL_nil (bl_n (th_n (rg (q0 (vi i1) (q0 (vi (IntKind.i64.wrap (i1 + 1))) (q0 (vi (IntKind.i64.wrap (i1 + 1))) (wpL_nil ?_)))))))))))
   refine th_n ?_
   exact ⟨((IntKind.i64.wrap (n1 + (v1.size : Int))), (IntKind.i64.wrap (i1 + 1)), wl1), ⟨rfl, Has.mk (by kernel_rfl), h.1⟩, h.2⟩
  ·replace h := h.2 hc1
   refine wpE_exit (th_x (th_x (bl_eq (th_n (wpE_seq ?_)))))
   refine wpE_via (fun ρ wJ => wl1 = wJ ∧ Has ρ [(2, (vb ((decide ((l1.len : Int) > 300)) || (decide (n1 > 20000)))))]) ?_ ?_
   ·skip
    refine rg (q0 l1.v (q0 (vi (l1.len : Int)) (q0 (vb (decide ((l1.len : Int) > 300))) (q0 (vb (decide ((l1.len : Int) > 300))) ?_))))
    refine wpL_join 3 (fun ρ wJ => ∃ b4'0 : Bool, ((decide ((l1.len : Int) > 300)) = b4'0) ∧ wl1 = wJ ∧ Has ρ [(29, (vb (b4'0 || (decide (n1 > 20000)))))]) ?_ ?_
    ·rintro ρ w4 ⟨b4'0, he0, hw, hH⟩
     subst he0
     subst hw
     refine wpL_has hH ?_
     clear hH
     refine q0 (vb ((decide ((l1.len : Int) > 300)) || (decide (n1 > 20000)))) (wpL_nil (th_n ?_))
     exact ⟨rfl, Has.mk (by kernel_rfl)⟩
    ·skip
     rcases Bool.eq_false_or_eq_true (decide ((l1.len : Int) > 300)) with hg6 | hg6
     ·skip
      refine sk (yD 26 hg6) (sk (yD 26 hg6) (q2 (vb true) (xT hg6) (wpL_nil ?_)))
      exact ⟨true, hg6, rfl, Has.mk (by kernel_rfl)⟩
     ·skip
      refine q1 (vi n1) (want1 rfl (yD 26 hg6)) (q1 (vb (decide (n1 > 20000))) (want1 rfl (yD 26 hg6)) (q2 (vb (decide (n1 > 20000))) (xF hg6) (wpL_nil ?_)))
      exact ⟨false, hg6, rfl, Has.mk (by kernel_rfl)⟩
   ·rintro ρ w3 ⟨hw, hH⟩
    subst hw
    refine norm_has hH ?_
    clear hH
    refine th_n (wpE_ret (res1 (.inl rfl) Try.results13 (v := (vb ((decide ((l1.len : Int) > 300)) || (decide (n1 > 20000))))) (by kernel_rfl) ?_))
    exact ⟨((decide ((l1.len : Int) > 300)) || (decide (n1 > 20000))), rfl, h⟩
def s_law09_num (e1 : Int) : Int :=
 e1
theorem pw_law09_num (e1 : Int) (w0 : World) :
  Calls Try.prog 19 #[(vi e1)] w0 (fun e w' => (e = .returned (vi e1)) ∧ Pure w0 w') := by
 refine calls_of_wpE (args := [(vi e1)]) Try.func19 rfl Try.ntmps19 (Nat.le_of_ble_eq_true rfl) (wpE_seq (rg (q0 (vi 0) (wpL_nil (th_n (wpE_seq (rg (q0 (vi e1) (q0 (vi e1) (wpL_nil (th_n ?_)))))))))))
 refine wpE_ret (res1 (.inl rfl) Try.results19 (v := (vi e1)) (by kernel_rfl) ?_)
 exact ⟨by kernel_rfl, Ext.refl _⟩
theorem p_law09_num (e1 : Int) (w0 : World) : Calls Try.prog 19 #[(.int .i64 e1)] w0 (fun e w' => e = .returned (.int .i64 (s_law09_num e1)) ∧ Pure w0 w') := pw_law09_num e1 w0
def m_law09_given_j4 (k1 : Int) (there2 : Bool) (H : Nat → Prop) (w : World) (Kc3 : Bool → Int → (Nat → Prop) → World → Prop) (_K : (Option Addr) → Bool → World → Prop) : Prop :=
 Kc3 there2 (IntKind.i64.wrap (k1 + 1)) H w
def m_law09_given_l3 (p1 : Addr) (i1 r4 r6 : Int) (there1 : Bool) (k1 : Int) (Hl2 : Nat → Prop) (wl2 : World) (Kc2 : Int → (Nat → Prop) → World → Prop) (Kc3 : Bool → Int → (Nat → Prop) → World → Prop) (K : (Option Addr) → Bool → World → Prop) : Prop :=
 ∃ v4 : Sl, wl2.cell? (p1.add 3) = some v4.v ∧
 Br (decide (k1 < (v4.len : Int)))
  (Br there1
   (m_law09_given_j4 k1 true Hl2 wl2 Kc3 K)
   (∃ v5 : Sl, wl2.cell? (p1.add 3) = some v5.v ∧
   ∃ a3 : Addr, At v5 k1 1 a3 ∧
   ∃ v6 : Int, wl2.cell? a3 = some (vi v6) ∧
   m_law09_given_j4 k1 (v6 == r6) Hl2 wl2 Kc3 K))
  (Br (!there1)
   (∃ v7 : Sl, wl2.cell? (p1.add 3) = some v7.v ∧
   ∀ (p2 : Addr) (w14 : World), New wl2 (.cells #[(vi r6)] 38) p2 w14 →
   ∃ s1 : Sl, ∃ w15 : World, (Builtin.append_ #[30, 30] 30 #[v7.v, (Sl.mk (some p2) 1 1).v]).run Try.prog w14 = .ok s1.v w15 ∧
   Kept Hl2 w14 w15 ∧
   CanW w15 (p1.add 3) ∧ ¬ Hl2 (p1.add 3).block ∧ ∀ w16 : World, w16 = w15.setCell (p1.add 3) s1.v →
   ∃ v8 : Option Addr, w16.cell? (p1.add 1) = some (vp v8) ∧
   Calls Try.prog 56 #[(vp v8), (vi r4)] w16 (fun e w17 => ∃ r8 : Int, e = .returned (vi r8) ∧ 
    Kept Hl2 w16 w17 ∧
    Kc2 (IntKind.i64.wrap (i1 + 1)) Hl2 w17))
   (∃ v9 : Option Addr, wl2.cell? (p1.add 1) = some (vp v9) ∧
   Calls Try.prog 56 #[(vp v9), (vi r4)] wl2 (fun e w18 => ∃ r9 : Int, e = .returned (vi r9) ∧ 
    Kept Hl2 wl2 w18 ∧
    Kc2 (IntKind.i64.wrap (i1 + 1)) Hl2 w18)))
def m_law09_given_l2 (l1 : Sl) (p1 : Addr) (i1 : Int) (w0 : World) (Hl1 : Nat → Prop) (wl1 : World) (Kc2 : Int → (Nat → Prop) → World → Prop) (K : (Option Addr) → Bool → World → Prop) : Prop :=
 Br (decide (i1 < (l1.len : Int)))
  (∃ C1 : World → Prop, C1 wl1.drew ∧ ∀ w6, w6 = wl1.drew →
  ∃ v2 : Option Addr, (∀ w', C1 w' → w'.cell? p1 = some (vp v2)) ∧
  ∃ a1 : Addr, At l1 i1 6 a1 ∧
  ∃ aH aI : Int, ∃ aJ aK : Int, ∃ aL : ByteArray, ∃ aM : Sl, (∀ w', C1 w' → Row w' a1 [(vi aH), (vi aI), (vi aJ), (vu aK), (vs aL), aM.v]) ∧
  Calls Try.prog 24 #[(.agg #[(vi aH), (vi aI), (vi aJ), (vu aK), (vs aL), aM.v])] w6 (fun e w7 => ∃ aA aB : Int, ∃ aC aD : Int, ∃ aE : ByteArray, ∃ aT : Sl, e = .returned (.agg #[(vi aA), (vi aB), (vi aC), (vu aD), (vs aE), aT.v]) ∧ C1 w7 ∧ 
   Kept Hl1 w6 w7 ∧
   Calls Try.prog 23 #[(vp v2), (.agg #[(vi aA), (vi aB), (vi aC), (vu aD), (vs aE), aT.v])] w7 (fun e w8 => ∃ r4 r5 : Int, e = .returned (.tuple #[(vi r4), (vi r5)]) ∧ C1 w8 ∧ 
    Kept Hl1 w7 w8 ∧
    ∃ C2 : World → Prop, C2 w8.drew ∧ ∀ w9, w9 = w8.drew →
    ∃ v3 : Option Addr, (∀ w', C2 w' → w'.cell? (p1.add 2) = some (vp v3)) ∧
    ∃ a2 : Addr, At l1 i1 6 a2 ∧
    ∃ aN aO : Int, ∃ aP aQ : Int, ∃ aR : ByteArray, ∃ aS : Sl, (∀ w', C2 w' → Row w' a2 [(vi aN), (vi aO), (vi aP), (vu aQ), (vs aR), aS.v]) ∧
    Calls Try.prog 64 #[(vp v3), (.agg #[(vi aN), (vi aO), (vi aP), (vu aQ), (vs aR), aS.v])] w9 (fun e w10 => ∃ r6 r7 : Int, e = .returned (.tuple #[(vi r6), (vi r7)]) ∧ C2 w10 ∧ 
     Kept Hl1 w9 w10 ∧
     Br ((r4 != r6) || (r5 != r7))
      (∀ (H1 : Nat → Prop) (w12 : World), Hst w0 Hl1 w10 H1 w12 →
      K none false w12)
      (Br (r7 != 0)
       (∀ (H1 : Nat → Prop) (w12 : World), Hst w0 Hl1 w10 H1 w12 →
       Kc2 (IntKind.i64.wrap (i1 + 1)) H1 w12)
       (∀ (H1 : Nat → Prop) (w12 : World), Hst w0 Hl1 w10 H1 w12 →
       ∃ (I2 : Bool → Int → (Nat → Prop) → World → Prop) (mu2 : Bool → Int → World → Nat), I2 false 0 H1 w12 ∧
        ∀ (there1 : Bool) (k1 : Int) (Hl2 : Nat → Prop) (wl2 : World), Hst w0 Hl2 wl2 Hl2 wl2 → I2 there1 k1 Hl2 wl2 → m_law09_given_l3 p1 i1 r4 r6 there1 k1 Hl2 wl2 Kc2 (fun y'0 y'1 H' w' => I2 y'0 y'1 H' w' ∧ mu2 y'0 y'1 w' < mu2 there1 k1 wl2) K))))))
  (K (some p1) true wl1)
def m_law09_given_j1 (l1 : Sl) (p1 : Addr) (x1 : Bool) (w0 : World) (H : Nat → Prop) (w : World) (K : (Option Addr) → Bool → World → Prop) : Prop :=
 Br x1
  (K none false w)
  (∃ (I1 : Int → (Nat → Prop) → World → Prop) (mu1 : Int → World → Nat), I1 0 H w ∧
   ∀ (i1 : Int) (Hl1 : Nat → Prop) (wl1 : World), Hst w0 Hl1 wl1 Hl1 wl1 → I1 i1 Hl1 wl1 → m_law09_given_l2 l1 p1 i1 w0 Hl1 wl1 (fun y'0 H' w' => I1 y'0 H' w' ∧ mu1 y'0 w' < mu1 i1 wl1) K)
def m_law09_given (l1 : Sl) (w0 : World) (K : (Option Addr) → Bool → World → Prop) : Prop :=
 Calls Try.prog 22 #[] w0 (fun e w1 => ∃ r1 : Option Addr, e = .returned (vp r1) ∧ 
  Kept None w0 w1 ∧
  Calls Try.prog 63 #[] w1 (fun e w2 => ∃ r2 : Option Addr, e = .returned (vp r2) ∧ 
   Kept None w1 w2 ∧
   ∀ (p1 : Addr) (w3 : World), New w2 (.cells #[(vp r1), (vp none), (vp r2), Sl.nil.v] 36) p1 w3 →
   ∃ v1 : Option Addr, w3.cell? p1 = some (vp v1) ∧
   Calls Try.prog 54 #[(vp v1)] w3 (fun e w4 => ∃ r3 : Option Addr, e = .returned (vp r3) ∧ 
    Kept None w3 w4 ∧
    CanW w4 (p1.add 1) ∧ ¬ None (p1.add 1).block ∧ ∀ w5 : World, w5 = w4.setCell (p1.add 1) (vp r3) →
    ∃ v10 : Option Addr, w5.cell? p1 = some (vp v10) ∧
    Br (Option.isNone v10)
     (m_law09_given_j1 l1 p1 true w0 None w5 K)
     (∃ v11 : Option Addr, w5.cell? (p1.add 1) = some (vp v11) ∧
     m_law09_given_j1 l1 p1 (Option.isNone v11) w0 None w5 K))))
theorem w_law09_given (l1 : Sl) (w0 : World) (K : (Option Addr) → Bool → World → Prop) (h : m_law09_given l1 w0 K) :
  Calls Try.prog 15 #[l1.v] w0 (fun e w' => ∃ r10 : Option Addr, ∃ r11 : Bool, e = .returned (.tuple #[(vp r10), (vb r11)]) ∧ K r10 r11 w') := by
 unfold m_law09_given at h
 refine calls_of_wpE (args := [l1.v]) Try.func15 rfl Try.ntmps15 (Nat.le_of_ble_eq_true rfl) ?_
 have hs := Hst.start w0
 have hb := HB.nil None w0
 refine wpE_seq (rg (q0 (vp none) (q0 (vb false) (wpL_nil (th_n (wpE_seq (rg ?_)))))))
 refine st_call (want0 rfl) (xc Try.call22) (h.mono ?_)
 rintro e w1 ⟨r1, rfl, hk, h⟩
 refine ⟨_, rfl, ?_⟩
 obtain ⟨hs, hb⟩ := hk.hh hs hb
 refine st_call (want0 rfl) (xc Try.call63) (h.mono ?_)
 rintro e w2 ⟨r2, rfl, hk, h⟩
 refine ⟨_, rfl, ?_⟩
 obtain ⟨hs, hb⟩ := hk.hh hs hb
 refine q0 (.agg #[(vp r1), (vp none), (vp r2), Sl.nil.v]) (sn (O := (.cells #[(vp r1), (vp none), (vp r2), Sl.nil.v] 36)) xb ?_)
 intro p1 w3 hn4
 replace h := h p1 w3 hn4
 replace hs := hs.again (Ext.new (F := None) hn4).keptP
 replace hb := hb.kept (Ext.new (F := None) hn4).keptP
 refine q0 (vp (some p1)) (wpL_nil (th_n (wpE_seq (rg (q0 (vp (some p1)) (q0 (vp (some p1)) (q0 (vp (some p1)) (q0 (vp (some p1)) ?_))))))))
 obtain ⟨v1, hv17, h⟩ := h
 refine q2 (vp v1) (xl (Try.isAgg32 _) hv17) ?_
 refine st_call (want0 rfl) (xc Try.call54) (h.mono ?_)
 rintro e w4 ⟨r3, rfl, hk, h⟩
 refine ⟨_, rfl, ?_⟩
 obtain ⟨hs, hb⟩ := hk.hh hs hb
 refine q0 (vp (some p1)) (q0 (vp (some (p1.add 1))) ?_)
 obtain ⟨hp1, hnh, h⟩ := h
 refine st_set (want0 rfl) (x_store (a := (p1.add 1)) (v := (vp r3)) (by kernel_rfl) (by kernel_rfl) rfl (Try.sizeOf33 _) hp1) ?_
 intro w5 hn1
 replace h := h w5 hn1
 have hk : Kept None w4 w5 := by rw [hn1]; exact Kept.setCell hnh
 replace hs := hs.again hk
 replace hb := hb.kept hk
 clear hk hnh
 refine wpL_nil (th_n (wpE_seq (wpE_seq ?_)))
 refine wpE_joinT (fun ρ w => ∃ x1 : Bool, ∃ H : Nat → Prop, Has ρ [(0, l1.v), (4, (vp (some p1))), (35, (vb x1))] ∧ Hst w0 H w H w ∧ HB H w [] ∧ m_law09_given_j1 l1 p1 x1 w0 H w K) ?_ ?_
 ·clear h hs hb
  rintro ρ w ⟨x1, H, hH, hs, hb, h⟩
  unfold m_law09_given_j1 at h
  refine wpE_has hH ?_
  clear hH
  refine wpE_cond (t := x1) (by kernel_rfl) (fun hc1 => ?_) (fun hc1 => ?_)
  ·replace h := h.1 hc1
   refine wpE_seq (rg (q0 (vp none) (q0 (vb false) (wpL_nil (th_n (wpE_ret (th_r (res2 (.inl rfl) Try.results15 (v := (vp none)) (by kernel_rfl) (v' := (vb false)) (by kernel_rfl) ?_))))))))
   exact ⟨none, false, rfl, h⟩
  ·replace h := h.2 hc1
   refine wpE_skip (th_n (wpE_seq (wpE_seq (rg (q0 (vi 0) (wpL_nil (th_n (wpE_block ?_))))))))
   obtain ⟨I1, mu1, h0, hr⟩ := h
   refine wpE_loop (σ := Int × (Nat → Prop) × World) (fun s ρ w => w = s.2.2 ∧ Has ρ [(0, l1.v), (4, (vp (some p1))), (5, (vi s.1))] ∧ Hst w0 s.2.1 w s.2.1 w ∧ HB s.2.1 w [] ∧ I1 s.1 s.2.1 s.2.2) (fun s => mu1 s.1 s.2.2) (0, H, w) ⟨rfl, Has.mk (by kernel_rfl), hs, hb, h0⟩ ?_
   clear hs hb
   rintro ⟨i1, Hl1, wl1⟩ ρ w ⟨hw, hH, hs, hb, hI⟩
   obtain rfl : wl1 = w := (show w = wl1 from hw).symm
   replace hH : Has ρ [(0, l1.v), (4, (vp (some p1))), (5, (vi i1))] := hH
   replace hs : Hst w0 Hl1 wl1 Hl1 wl1 := hs
   replace hb : HB Hl1 wl1 [] := hb
   have h := hr i1 Hl1 wl1 hs hI
   clear hr h0
   unfold m_law09_given_l2 at h
   refine wpE_has hH ?_
   clear hH hI
   refine wpE_seq (wpE_seq (rg (q0 (vi i1) (q0 l1.v (q0 (vi (l1.len : Int)) (q0 (vb (decide (i1 < (l1.len : Int)))) (wpL_nil (th_n ?_))))))))
   refine wpE_cond (t := (decide (i1 < (l1.len : Int)))) (by kernel_rfl) (fun hc2 => ?_) (fun hc2 => ?_)
   ·replace h := h.1 hc2
    refine wpE_skip (th_n (wpE_seq (wpE_block (wpE_seq ?_))))
    obtain ⟨C1, hC, h⟩ := h
    refine wpE_drawnC C1 [8, 9] [] (by kernel_rfl) (by kernel_rfl) (by kernel_rfl) (by kernel_rfl) hC ?_
    clear hC
    intro w6 hw6
    replace h := h w6 hw6
    replace hs : Hst w0 Hl1 wl1 Hl1 w6 := by rw [hw6]; exact hs.drew
    replace hb : HB Hl1 w6 [] := by rw [hw6]; exact hb.drew
    replace hs := hs.here
    refine qx 0 (vp (some p1)) Kp0 (qx 1 (vp (some p1)) Kp1 (qx 2 (vp (some p1)) Kp2 (qgo (k := 3) (by kernel_rfl) ?_)))
    obtain ⟨v2, hv14, h⟩ := h
    refine sx (v := (vp v2)) Kp3 (want0 rfl) (by kernel_rfl) (fun w' hw' => (xl (Try.isAgg32 _) (hv14 w' hw'))) (qx 4 l1.v Kp4 (qx 5 (vi i1) Kp5 (qgo (k := 6) (by kernel_rfl) ?_)))
    obtain ⟨a1, hv13, h⟩ := h
    refine sx (v := (vp (some a1))) Kp6 (want0 rfl) (by kernel_rfl) (fun w' hw' => (x_indexAddr (s := l1) (k := .i64) (i := i1) (by kernel_rfl) (by kernel_rfl) (Try.runUnderlying22 _) (Try.sizeOf46 _) hv13)) (qgo (k := 7) (by kernel_rfl) ?_)
    obtain ⟨aH, aI, aJ, aK, aL, aM, hv12, h⟩ := h
    refine sx (v := (.agg #[(vi aH), (vi aI), (vi aJ), (vu aK), (vs aL), aM.v])) Kp7 (want0 rfl) (by kernel_rfl) (fun w' hw' => (x_loadA (a := a1) (vs := [(vi aH), (vi aI), (vi aJ), (vu aK), (vs aL), aM.v]) (by kernel_rfl) (Try.isAgg46 _) (Try.sizeOf46 _) rfl (hv12 w' hw'))) (lgo (k := 8) (by kernel_rfl) ?_)
    refine sl_call Kp8 (want0 rfl) (by kernel_rfl) (xc Try.call24) (h.mono ?_)
    rintro e w7 ⟨aA, aB, aC, aD, aE, aT, rfl, hC, hk, h⟩
    refine ⟨_, rfl, .inr hC, ?_⟩
    obtain ⟨hs, hb⟩ := hk.hh hs hb
    refine lgo (k := 9) (by kernel_rfl) ?_
    refine sl_call Kp9 (want0 rfl) (by kernel_rfl) (xc Try.call23) (h.mono ?_)
    rintro e w8 ⟨r4, r5, rfl, hC, hk, h⟩
    refine ⟨_, rfl, .inr hC, ?_⟩
    obtain ⟨hs, hb⟩ := hk.hh hs hb
    refine qx 10 (.tuple #[(vi r4), (vi r5)]) (pickA (S8 (pickS (pickS pickZ)))) (qx 11 (vi r4) (pickA (S8 (pickS (pickS (pickS pickZ))))) (qx 12 (vi r5) (pickA (S8 (S4 pickZ))) (qx 13 (vi r4) (pickA (S8 (S4 (pickS pickZ)))) (qx 14 (vi r5) (pickA (S8 (S4 (pickS (pickS pickZ))))) (wpX_nil (by kernel_rfl) (th_n (wpE_seq ?_)))))))
    obtain ⟨C2, hC, h⟩ := h
    refine wpE_drawnC C2 [8] [] (by kernel_rfl) (by kernel_rfl) (by kernel_rfl) (by kernel_rfl) hC ?_
    clear hC
    intro w9 hw9
    replace h := h w9 hw9
    replace hs : Hst w0 Hl1 w8 Hl1 w9 := by rw [hw9]; exact hs.drew
    replace hb : HB Hl1 w9 [] := by rw [hw9]; exact hb.drew
    replace hs := hs.here
    refine qx 0 (vp (some p1)) Kp0 (qx 1 (vp (some p1)) Kp1 (qx 2 (vp (some (p1.add 2))) Kp2 (qgo (k := 3) (by kernel_rfl) ?_)))
    obtain ⟨v3, hv11, h⟩ := h
    refine sx (v := (vp v3)) Kp3 (want0 rfl) (by kernel_rfl) (fun w' hw' => (xl (Try.isAgg34 _) (hv11 w' hw'))) (qx 4 l1.v Kp4 (qx 5 (vi i1) Kp5 (qgo (k := 6) (by kernel_rfl) ?_)))
    obtain ⟨a2, hv10, h⟩ := h
    refine sx (v := (vp (some a2))) Kp6 (want0 rfl) (by kernel_rfl) (fun w' hw' => (x_indexAddr (s := l1) (k := .i64) (i := i1) (by kernel_rfl) (by kernel_rfl) (Try.runUnderlying22 _) (Try.sizeOf46 _) hv10)) (qgo (k := 7) (by kernel_rfl) ?_)
    obtain ⟨aN, aO, aP, aQ, aR, aS, hv9, h⟩ := h
    refine sx (v := (.agg #[(vi aN), (vi aO), (vi aP), (vu aQ), (vs aR), aS.v])) Kp7 (want0 rfl) (by kernel_rfl) (fun w' hw' => (x_loadA (a := a2) (vs := [(vi aN), (vi aO), (vi aP), (vu aQ), (vs aR), aS.v]) (by kernel_rfl) (Try.isAgg46 _) (Try.sizeOf46 _) rfl (hv9 w' hw'))) (lgo (k := 8) (by kernel_rfl) ?_)
    refine sl_call Kp8 (want0 rfl) (by kernel_rfl) (xc Try.call64) (h.mono ?_)
    rintro e w10 ⟨r6, r7, rfl, hC, hk, h⟩
    refine ⟨_, rfl, .inr hC, ?_⟩
    obtain ⟨hs, hb⟩ := hk.hh hs hb
    refine qx 9 (.tuple #[(vi r6), (vi r7)]) Kp9 (qx 10 (vi r6) (pickA (S8 (pickS (pickS pickZ)))) (qx 11 (vi r7) (pickA (S8 (pickS (pickS (pickS pickZ))))) (qx 12 (vi r6) (pickA (S8 (S4 pickZ))) (qx 13 (vi r7) (pickA (S8 (S4 (pickS pickZ)))) (wpX_nil (by kernel_rfl) (th_n (wpE_seq (wpE_seq ?_))))))))
    refine wpE_via (fun ρ wJ => ∃ b1'0 : Bool, ∃ HJ : Nat → Prop, ((r4 != r6) = b1'0) ∧ Hst w0 Hl1 w10 HJ wJ ∧ HB HJ wJ [] ∧ Has ρ [(0, l1.v), (4, (vp (some p1))), (5, (vi i1)), (6, (vi r4)), (8, (vi r6)), (9, (vi r7)), (75, (vb (b1'0 || (r5 != r7))))]) ?_ ?_
    ·skip
     refine rg (q0 (vi r4) (q0 (vi r6) (q0 (vb (r4 != r6)) (q0 (vb (r4 != r6)) ?_))))
     rcases Bool.eq_false_or_eq_true (r4 != r6) with hg2 | hg2
     ·skip
      refine sk (yD 70 hg2) (sk (yD 70 hg2) (sk (yD 70 hg2) (sk (yD 70 hg2) (q2 (vb true) (xT hg2) (wpL_nil (th_n ?_))))))
      exact ⟨true, _, hg2, hs, hb, Has.mk (by kernel_rfl)⟩
     ·skip
      refine q1 (vi r5) (want1 rfl (yD 70 hg2)) ?_
      refine st_call (want1 rfl (yD 70 hg2)) (xc Try.call19) ((p_law09_num r5 w10).mono ?_)
      rintro e w13 ⟨he, hE⟩
      refine ⟨(vi r5), he.trans (by kernel_rfl), ?_⟩
      replace hs := hs.pure hE
      replace hb := hb.pure hE
      clear hE he
      refine q1 (vi r7) (want1 rfl (yD 70 hg2)) (q1 (vb (r5 != r7)) (want1 rfl (yD 70 hg2)) (q2 (vb (r5 != r7)) (xF hg2) (wpL_nil (th_n ?_))))
      exact ⟨false, _, hg2, hs, hb, Has.mk (by kernel_rfl)⟩
    ·clear hs hb
     rintro ρ w12 ⟨b1'0, H1, he0, hs, hb, hH⟩
     subst he0
     refine norm_has hH ?_
     clear hH
     refine th_n ?_
     refine wpE_cond (t := ((r4 != r6) || (r5 != r7))) (by kernel_rfl) (fun hc3 => ?_) (fun hc3 => ?_)
     ·replace h := h.1 hc3
      refine wpE_seq (rg (q0 (vp none) (q0 (vb false) (wpL_nil (th_n (wpE_ret (th_r (bl_r (th_r (th_r (bl_r ?_)))))))))))
      refine th_r ?_
      replace h := h H1 w12 hs
      replace hs := hs.here
      refine res2 (.inl rfl) Try.results15 (v := (vp none)) (by kernel_rfl) (v' := (vb false)) (by kernel_rfl) ?_
      exact ⟨none, false, rfl, h⟩
     ·replace h := h.2 hc3
      refine wpE_skip (th_n (wpE_seq (wpE_seq (rg (q0 (vi r7) (q0 (vb (r7 != 0)) (wpL_nil (th_n ?_))))))))
      refine wpE_cond (t := (r7 != 0)) (by kernel_rfl) (fun hc4 => ?_) (fun hc4 => ?_)
      ·replace h := h.1 hc4
       refine wpE_exit (th_x (bl_eq (th_n (rg (q0 (vi i1) (q0 (vi (IntKind.i64.wrap (i1 + 1))) (q0 (vi (IntKind.i64.wrap (i1 + 1))) (wpL_nil ?_))))))))
       replace h := h H1 w12 hs
       replace hs := hs.here
       refine th_n ?_
       exact ⟨((IntKind.i64.wrap (i1 + 1)), H1, w12), ⟨rfl, Has.mk (by kernel_rfl), hs, hb, h.1⟩, h.2⟩
      ·replace h := h.2 hc4
       refine wpE_skip (th_n (wpE_seq (rg (q0 (vb false) (wpL_nil (th_n (wpE_seq (wpE_seq (rg (q0 (vi 0) (wpL_nil ?_)))))))))))
       refine th_n (wpE_block ?_)
       replace h := h H1 w12 hs
       replace hs := hs.here
       obtain ⟨I2, mu2, h0, hr⟩ := h
       refine wpE_loop (σ := Bool × Int × (Nat → Prop) × World) (fun s ρ w => w = s.2.2.2 ∧ Has ρ [(0, l1.v), (4, (vp (some p1))), (5, (vi i1)), (6, (vi r4)), (8, (vi r6)), (10, (vb s.1)), (11, (vi s.2.1))] ∧ Hst w0 s.2.2.1 w s.2.2.1 w ∧ HB s.2.2.1 w [] ∧ I2 s.1 s.2.1 s.2.2.1 s.2.2.2) (fun s => mu2 s.1 s.2.1 s.2.2.2) (false, 0, H1, w12) ⟨rfl, Has.mk (by kernel_rfl), hs, hb, h0⟩ ?_
       clear hs hb
       rintro ⟨there1, k1, Hl2, wl2⟩ ρ w ⟨hw, hH, hs, hb, hI⟩
       obtain rfl : wl2 = w := (show w = wl2 from hw).symm
       replace hH : Has ρ [(0, l1.v), (4, (vp (some p1))), (5, (vi i1)), (6, (vi r4)), (8, (vi r6)), (10, (vb there1)), (11, (vi k1))] := hH
       replace hs : Hst w0 Hl2 wl2 Hl2 wl2 := hs
       replace hb : HB Hl2 wl2 [] := hb
       have h := hr there1 k1 Hl2 wl2 hs hI
       clear hr h0
       unfold m_law09_given_l3 at h
       refine wpE_has hH ?_
       clear hH hI
       refine wpE_seq (wpE_seq (rg (q0 (vi k1) (q0 (vp (some p1)) (q0 (vp (some p1)) (q0 (vp (some (p1.add 3))) ?_))))))
       obtain ⟨v4, hv8, h⟩ := h
       refine q2 v4.v (xl (Try.isAgg30 _) hv8) (q0 (vi (v4.len : Int)) (q0 (vb (decide (k1 < (v4.len : Int)))) (wpL_nil (th_n ?_))))
       refine wpE_cond (t := (decide (k1 < (v4.len : Int)))) (by kernel_rfl) (fun hc5 => ?_) (fun hc5 => ?_)
       ·replace h := h.1 hc5
        refine wpE_skip (th_n (wpE_seq ?_))
        refine wpE_joinT (fun ρ w => ∃ there2 : Bool, ∃ H : Nat → Prop, Has ρ [(0, l1.v), (4, (vp (some p1))), (5, (vi i1)), (6, (vi r4)), (8, (vi r6)), (10, (vb there2)), (11, (vi k1))] ∧ Hst w0 H w H w ∧ HB H w [] ∧ m_law09_given_j4 k1 there2 H w (fun y'0 y'1 H' w' => I2 y'0 y'1 H' w' ∧ mu2 y'0 y'1 w' < mu2 there1 k1 wl2) K) ?_ ?_
        ·clear h hs hb
         rintro ρ w ⟨there2, H, hH, hs, hb, h⟩
         unfold m_law09_given_j4 at h
         refine wpE_has hH ?_
         clear hH
         refine rg (q0 (vi k1) (q0 (vi (IntKind.i64.wrap (k1 + 1))) (q0 (vi (IntKind.i64.wrap (k1 + 1))) (wpL_nil (th_n ?_)))))
         exact ⟨(there2, (IntKind.i64.wrap (k1 + 1)), H, w), ⟨rfl, Has.mk (by kernel_rfl), hs, hb, h.1⟩, h.2⟩
        ·skip
         refine wpE_block (rg (q0 (vb there1) (q0 (vb there1) ?_)))
         rcases Bool.eq_false_or_eq_true there1 with hg3 | hg3
         ·replace h := h.1 hg3
          refine sk (yD 88 hg3) (sk (yD 88 hg3) (sk (yD 88 hg3) (sk (yD 88 hg3) (sk (yD 88 hg3) (sk (yD 88 hg3) (sk (yD 88 hg3) (sk (yD 88 hg3) (sk (yD 88 hg3) (q2 (vb true) (xT hg3) (q0 (vb true) (wpL_nil ?_)))))))))))
          refine bl_n (th_n ?_)
          exact ⟨true, Hl2, Has.mk (by kernel_rfl), hs, hb, h⟩
         ·replace h := h.2 hg3
          refine q1 (vp (some p1)) (want1 rfl (yD 88 hg3)) (q1 (vp (some p1)) (want1 rfl (yD 88 hg3)) (q1 (vp (some (p1.add 3))) (want1 rfl (yD 88 hg3)) ?_))
          obtain ⟨v5, hv3, h⟩ := h
          refine stp (v := v5.v) (want1 rfl (yD 88 hg3)) (xl (Try.isAgg30 _) hv3) (q1 (vi k1) (want1 rfl (yD 88 hg3)) ?_)
          obtain ⟨a3, hv2, h⟩ := h
          refine stp (v := (vp (some a3))) (want1 rfl (yD 88 hg3)) (x_indexAddr (s := v5) (k := .i64) (i := k1) (by kernel_rfl) (by kernel_rfl) (Try.runUnderlying30 _) (Try.sizeOf38 _) hv2) ?_
          obtain ⟨v6, hv1, h⟩ := h
          refine stp (v := (vi v6)) (want1 rfl (yD 88 hg3)) (xl (Try.isAgg38 _) hv1) (q1 (vi r6) (want1 rfl (yD 88 hg3)) (q1 (vb (v6 == r6)) (want1 rfl (yD 88 hg3)) (q2 (vb (v6 == r6)) (xF hg3) (q0 (vb (v6 == r6)) (wpL_nil (bl_n (th_n ?_)))))))
          exact ⟨(v6 == r6), Hl2, Has.mk (by kernel_rfl), hs, hb, h⟩
       ·replace h := h.2 hc5
        refine wpE_exit (th_x (th_x (bl_eq (th_n (wpE_seq (wpE_seq (rg (q0 (vb there1) (q0 (vb (!there1)) (wpL_nil (th_n ?_)))))))))))
        refine wpE_cond (t := (!there1)) (by kernel_rfl) (fun hc6 => ?_) (fun hc6 => ?_)
        ·replace h := h.1 hc6
         refine rg (q0 (vp (some p1)) (q0 (vp (some p1)) (q0 (vp (some p1)) (q0 (vp (some (p1.add 3))) ?_))))
         obtain ⟨v7, hv6, h⟩ := h
         refine q2 v7.v (xl (Try.isAgg30 _) hv6) (q0 (vi r6) (st_new (O := (.cells #[(vi r6)] 38)) (fun p => (Sl.mk (some p) 1 1).v) (want0 rfl) (x_buildSlice (vs := #[(0, (vi r6))]) (by kernel_rfl) (by kernel_rfl)) ?_))
         intro p2 w14 hn3
         replace h := h p2 w14 hn3
         replace hs := hs.again (Ext.new (F := None) hn3).keptP
         replace hb := hb.kept (Ext.new (F := None) hn3).keptP
         obtain ⟨s1, w15, hv5, hk, h⟩ := h
         refine st (v := s1.v) (want0 rfl) (x_builtin (args := #[v7.v, (Sl.mk (some p2) 1 1).v]) (by kernel_rfl) (fun _ => rfl) hv5) ?_
         obtain ⟨hs, hb⟩ := hk.hh hs hb
         refine q0 (vp (some p1)) (q0 (vp (some (p1.add 3))) ?_)
         obtain ⟨hp2, hnh, h⟩ := h
         refine st_set (want0 rfl) (x_store (a := (p1.add 3)) (v := s1.v) (by kernel_rfl) (by kernel_rfl) rfl (Try.sizeOf30 _) hp2) ?_
         intro w16 hn2
         replace h := h w16 hn2
         have hk : Kept Hl2 w15 w16 := by rw [hn2]; exact Kept.setCell hnh
         replace hs := hs.again hk
         replace hb := hb.kept hk
         clear hk hnh
         refine wpL_nil (th_n (rg (q0 (vp (some p1)) (q0 (vp (some p1)) (q0 (vp (some (p1.add 1))) ?_)))))
         obtain ⟨v8, hv4, h⟩ := h
         refine q2 (vp v8) (xl (Try.isAgg33 _) hv4) (q0 (vi r4) ?_)
         refine st_call (want0 rfl) (xc Try.call56) (h.mono ?_)
         rintro e w17 ⟨r8, rfl, hk, h⟩
         refine ⟨_, rfl, ?_⟩
         obtain ⟨hs, hb⟩ := hk.hh hs hb
         refine wpL_nil (bl_n (th_n (rg (q0 (vi i1) (q0 (vi (IntKind.i64.wrap (i1 + 1))) (q0 (vi (IntKind.i64.wrap (i1 + 1))) (wpL_nil (th_n ?_))))))))
         exact ⟨((IntKind.i64.wrap (i1 + 1)), Hl2, w17), ⟨rfl, Has.mk (by kernel_rfl), hs, hb, h.1⟩, h.2⟩
        ·replace h := h.2 hc6
         refine wpE_skip (th_n (rg (q0 (vp (some p1)) (q0 (vp (some p1)) (q0 (vp (some (p1.add 1))) ?_)))))
         obtain ⟨v9, hv7, h⟩ := h
         refine q2 (vp v9) (xl (Try.isAgg33 _) hv7) (q0 (vi r4) ?_)
         refine st_call (want0 rfl) (xc Try.call56) (h.mono ?_)
         rintro e w18 ⟨r9, rfl, hk, h⟩
         refine ⟨_, rfl, ?_⟩
         obtain ⟨hs, hb⟩ := hk.hh hs hb
         refine wpL_nil (bl_n (th_n (rg (q0 (vi i1) (q0 (vi (IntKind.i64.wrap (i1 + 1))) (q0 (vi (IntKind.i64.wrap (i1 + 1))) (wpL_nil (th_n ?_))))))))
         exact ⟨((IntKind.i64.wrap (i1 + 1)), Hl2, w18), ⟨rfl, Has.mk (by kernel_rfl), hs, hb, h.1⟩, h.2⟩
   ·replace h := h.2 hc2
    refine wpE_exit (th_x (th_x (bl_eq (th_n (wpE_seq (rg (q0 (vp (some p1)) (q0 (vp (some p1)) (q0 (vb true) (wpL_nil (th_n ?_)))))))))))
    refine wpE_ret (res2 (.inl rfl) Try.results15 (v := (vp (some p1))) (by kernel_rfl) (v' := (vb true)) (by kernel_rfl) ?_)
    exact ⟨(some p1), true, rfl, h⟩
 ·skip
  refine rg (q0 (vp (some p1)) (q0 (vp (some p1)) (q0 (vp (some p1)) ?_)))
  obtain ⟨v10, hv16, h⟩ := h
  refine q2 (vp v10) (xl (Try.isAgg32 _) hv16) (q2 (vb (Option.isNone v10)) (x_ptreq (by kernel_rfl) rfl Try.underlying32) (q0 (vb (Option.isNone v10)) ?_))
  rcases Bool.eq_false_or_eq_true (Option.isNone v10) with hg4 | hg4
  ·replace h := h.1 hg4
   refine sk (yD 29 hg4) (sk (yD 29 hg4) (sk (yD 29 hg4) (sk (yD 29 hg4) (sk (yD 29 hg4) (q2 (vb true) (xT hg4) (wpL_nil (th_n ?_)))))))
   exact ⟨true, None, Has.mk (by kernel_rfl), hs, hb, h⟩
  ·replace h := h.2 hg4
   refine q1 (vp (some p1)) (want1 rfl (yD 29 hg4)) (q1 (vp (some p1)) (want1 rfl (yD 29 hg4)) (q1 (vp (some (p1.add 1))) (want1 rfl (yD 29 hg4)) ?_))
   obtain ⟨v11, hv15, h⟩ := h
   refine stp (v := (vp v11)) (want1 rfl (yD 29 hg4)) (xl (Try.isAgg33 _) hv15) (stp (v := (vb (Option.isNone v11))) (want1 rfl (yD 29 hg4)) (x_ptreq (by kernel_rfl) rfl Try.underlying33) (q2 (vb (Option.isNone v11)) (xF hg4) (wpL_nil (th_n ?_))))
   exact ⟨(Option.isNone v11), None, Has.mk (by kernel_rfl), hs, hb, h⟩
def m_law09_live  (w0 : World) (K : Bool → World → Prop) : Prop :=
 ∀ (p1 : Addr) (w1 : World), New w0 (.cells #[(vi 2), (vi 0), (vi 0), (vu 1), (vs ⟨#[]⟩), Sl.nil.v] 46) p1 w1 →
 ∀ (p2 : Addr) (w2 : World), New w1 (.cells #[(vi 7), (vi 0), (vi 0), (vu 0), (vs ⟨#[]⟩), (Sl.mk (some p1) 1 1).v, (vi 6), (vi 0), (vi 0), (vu 0), (vs ⟨#[]⟩), Sl.nil.v] 46) p2 w2 →
 Calls Try.prog 15 #[(Sl.mk (some p2) 2 2).v] w2 (fun e w3 => ∃ r1 : Option Addr, ∃ r2 : Bool, e = .returned (.tuple #[(vp r1), (vb r2)]) ∧ 
  Kept None w2 w3 ∧
  Br (!r2)
   (K false w3)
   (∃ C1 : World → Prop, C1 w3.drew ∧ ∀ w4, w4 = w3.drew →
   ∃ a1 : Addr, r1 = some a1 ∧
   ∃ v1 : Option Addr, (∀ w', C1 w' → w'.cell? a1 = some (vp v1)) ∧
   ∃ a2 : Addr, r1 = some a2 ∧
   ∃ v2 : Option Addr, (∀ w', C1 w' → w'.cell? (a2.add 1) = some (vp v2)) ∧
   ∀ (p3 : Addr) (w5 : World), New w4 (.cells #[(vi 0), (vi 0), (vi 0), (vu 0), (vs ⟨#[]⟩), (vi 8), (vi 0), (vi 0), (vu 0), (vs ⟨#[]⟩), (vi 5), (vi 1), (vi 0), (vu 0), (vs ⟨#[]⟩), (vi 0), (vi 1), (vi 0), (vu 0), (vs ⟨#[]⟩), (vi 9), (vi 2), (vi 3), (vu 0), (vs ⟨#[]⟩)] 103) p3 w5 → C1 w5 ∧
   Calls Try.prog 18 #[(vp v1), (vp v2), (Sl.mk (some p3) 5 5).v] w5 (fun e w6 => ∃ r3 r4 r5 : Int, e = .returned (.tuple #[(vi r3), (vi r4), (vi r5)]) ∧ C1 w6 ∧ 
    Kept None w5 w6 ∧
    ∃ C2 : World → Prop, C2 w6.drew ∧ ∀ w7, w7 = w6.drew →
    ∃ a3 : Addr, r1 = some a3 ∧
    ∃ v3 : Option Addr, (∀ w', C2 w' → w'.cell? a3 = some (vp v3)) ∧
    ∃ a4 : Addr, r1 = some a4 ∧
    ∃ v4 : Option Addr, (∀ w', C2 w' → w'.cell? (a4.add 1) = some (vp v4)) ∧
    ∀ (p4 : Addr) (w8 : World), New w7 (.cells #[(vi 0), (vi 0), (vi 0), (vu 0), (vs ⟨#[]⟩), (vi 6), (vi 0), (vi 0), (vu 0), (vs ⟨#[]⟩)] 103) p4 w8 → C2 w8 ∧
    Calls Try.prog 18 #[(vp v3), (vp v4), (Sl.mk (some p4) 2 2).v] w8 (fun e w9 => ∃ r6 r7 r8 : Int, e = .returned (.tuple #[(vi r6), (vi r7), (vi r8)]) ∧ C2 w9 ∧ 
     Kept None w8 w9 ∧
     ∃ a5 : Addr, r1 = some a5 ∧
     ∃ v5 : Option Addr, w9.cell? a5 = some (vp v5) ∧
     Calls Try.prog 62 #[(vp v5), (vi r3)] w9 (fun e w10 => ∃ aA aB : Int, ∃ aC aD : Int, ∃ aE : ByteArray, ∃ aF aG : Int, ∃ r9 : Bool, e = .returned (.tuple #[(.agg #[(vi aA), (vi aB), (vi aC), (vu aD), (vs aE), (vi aF), (vi aG)]), (vb r9)]) ∧ 
      Kept None w9 w10 ∧
      ∀ (H6 : Nat → Prop) (w20 : World), Hst w0 None w10 H6 w20 →
      K (((((r4 == 0) && (aA == 7)) && (aB == 0)) && (r7 == 90)) && (r8 == 1)) w20)))))
theorem w_law09_live  (w0 : World) (K : Bool → World → Prop) (h : m_law09_live  w0 K) :
  Calls Try.prog 14 #[] w0 (fun e w' => ∃ r10 : Bool, e = .returned (vb r10) ∧ K r10 w') := by
 unfold m_law09_live at h
 refine calls_of_wpE (args := []) Try.func14 rfl Try.ntmps14 (Nat.le_of_ble_eq_true rfl) ?_
 have hs := Hst.start w0
 have hb := HB.nil None w0
 refine wpE_seq (rg (q0 (vb false) (wpL_nil (th_n (wpE_seq (rg (q0 (.agg #[(vi 2), (vi 0), (vi 0), (vu 1), (vs ⟨#[]⟩), Sl.nil.v]) (st_new (O := (.cells #[(vi 2), (vi 0), (vi 0), (vu 1), (vs ⟨#[]⟩), Sl.nil.v] 46)) (fun p => (Sl.mk (some p) 1 1).v) (want0 rfl) (x_buildSlice (vs := #[(0, (.agg #[(vi 2), (vi 0), (vi 0), (vu 1), (vs ⟨#[]⟩), Sl.nil.v]))]) (by kernel_rfl) (by kernel_rfl)) ?_))))))))
 intro p1 w1 hn6
 replace h := h p1 w1 hn6
 replace hs := hs.again (Ext.new (F := None) hn6).keptP
 replace hb := hb.kept (Ext.new (F := None) hn6).keptP
 refine q0 (.agg #[(vi 7), (vi 0), (vi 0), (vu 0), (vs ⟨#[]⟩), (Sl.mk (some p1) 1 1).v]) (q0 (.agg #[(vi 6), (vi 0), (vi 0), (vu 0), (vs ⟨#[]⟩), Sl.nil.v]) (st_new (O := (.cells #[(vi 7), (vi 0), (vi 0), (vu 0), (vs ⟨#[]⟩), (Sl.mk (some p1) 1 1).v, (vi 6), (vi 0), (vi 0), (vu 0), (vs ⟨#[]⟩), Sl.nil.v] 46)) (fun p => (Sl.mk (some p) 2 2).v) (want0 rfl) (x_buildSlice (vs := #[(0, (.agg #[(vi 7), (vi 0), (vi 0), (vu 0), (vs ⟨#[]⟩), (Sl.mk (some p1) 1 1).v])), (1, (.agg #[(vi 6), (vi 0), (vi 0), (vu 0), (vs ⟨#[]⟩), Sl.nil.v]))]) (by kernel_rfl) (by kernel_rfl)) ?_))
 intro p2 w2 hn5
 replace h := h p2 w2 hn5
 replace hs := hs.again (Ext.new (F := None) hn5).keptP
 replace hb := hb.kept (Ext.new (F := None) hn5).keptP
 refine st_call (want0 rfl) (xc Try.call15) (h.mono ?_)
 rintro e w3 ⟨r1, r2, rfl, hk, h⟩
 refine ⟨_, rfl, ?_⟩
 obtain ⟨hs, hb⟩ := hk.hh hs hb
 refine q0 (.tuple #[(vp r1), (vb r2)]) (q0 (vp r1) (q0 (vb r2) (q0 (vp r1) (q0 (vb r2) (wpL_nil (th_n (wpE_seq (wpE_seq (rg (q0 (vb r2) (q0 (vb (!r2)) ?_)))))))))))
 refine wpL_nil (th_n ?_)
 refine wpE_cond (t := (!r2)) (by kernel_rfl) (fun hc1 => ?_) (fun hc1 => ?_)
 ·replace h := h.1 hc1
  refine wpE_seq (rg (q0 (vb false) (wpL_nil (th_n (wpE_ret (th_r (res1 (.inl rfl) Try.results14 (v := (vb false)) (by kernel_rfl) ?_)))))))
  exact ⟨false, rfl, h⟩
 ·replace h := h.2 hc1
  refine wpE_skip (th_n (wpE_seq ?_))
  obtain ⟨C1, hC, h⟩ := h
  refine wpE_drawnC C1 [13, 14] [] (by kernel_rfl) (by kernel_rfl) (by kernel_rfl) (by kernel_rfl) hC ?_
  clear hC
  intro w4 hw4
  replace h := h w4 hw4
  replace hs : Hst w0 None w3 None w4 := by rw [hw4]; exact hs.drew
  replace hb : HB None w4 [] := by rw [hw4]; exact hb.drew
  replace hs := hs.here
  refine qx 0 (vp r1) Kp0 (qgo (k := 1) (by kernel_rfl) ?_)
  obtain ⟨a1, hp1, h⟩ := h
  refine sx (v := (vp (some a1))) Kp1 (want0 rfl) (by kernel_rfl) (fun w' hw' => (x_nilCheck (p := r1) (by kernel_rfl) hp1)) (qx 2 (vp (some a1)) Kp2 (qgo (k := 3) (by kernel_rfl) ?_))
  obtain ⟨v1, hv5, h⟩ := h
  refine sx (v := (vp v1)) Kp3 (want0 rfl) (by kernel_rfl) (fun w' hw' => (xl (Try.isAgg32 _) (hv5 w' hw'))) (qx 4 (vp r1) Kp4 (qgo (k := 5) (by kernel_rfl) ?_))
  obtain ⟨a2, hp2, h⟩ := h
  refine sx (v := (vp (some a2))) Kp5 (want0 rfl) (by kernel_rfl) (fun w' hw' => (x_nilCheck (p := r1) (by kernel_rfl) hp2)) (qx 6 (vp (some (a2.add 1))) Kp6 (qgo (k := 7) (by kernel_rfl) ?_))
  obtain ⟨v2, hv4, h⟩ := h
  refine sx (v := (vp v2)) Kp7 (want0 rfl) (by kernel_rfl) (fun w' hw' => (xl (Try.isAgg33 _) (hv4 w' hw'))) (qx 8 (.agg #[(vi 0), (vi 0), (vi 0), (vu 0), (vs ⟨#[]⟩)]) Kp8 (qx 9 (.agg #[(vi 8), (vi 0), (vi 0), (vu 0), (vs ⟨#[]⟩)]) Kp9 (qx 10 (.agg #[(vi 5), (vi 1), (vi 0), (vu 0), (vs ⟨#[]⟩)]) (pickA (S8 (pickS (pickS pickZ)))) (qx 11 (.agg #[(vi 0), (vi 1), (vi 0), (vu 0), (vs ⟨#[]⟩)]) (pickA (S8 (pickS (pickS (pickS pickZ))))) (qx 12 (.agg #[(vi 9), (vi 2), (vi 3), (vu 0), (vs ⟨#[]⟩)]) (pickA (S8 (S4 pickZ))) (lgo (k := 13) (by kernel_rfl) (sl_new (O := (.cells #[(vi 0), (vi 0), (vi 0), (vu 0), (vs ⟨#[]⟩), (vi 8), (vi 0), (vi 0), (vu 0), (vs ⟨#[]⟩), (vi 5), (vi 1), (vi 0), (vu 0), (vs ⟨#[]⟩), (vi 0), (vi 1), (vi 0), (vu 0), (vs ⟨#[]⟩), (vi 9), (vi 2), (vi 3), (vu 0), (vs ⟨#[]⟩)] 103)) (fun p => (Sl.mk (some p) 5 5).v) (pickA (S8 (S4 (pickS pickZ)))) (want0 rfl) (by kernel_rfl) (x_buildSlice (vs := #[(0, (.agg #[(vi 0), (vi 0), (vi 0), (vu 0), (vs ⟨#[]⟩)])), (1, (.agg #[(vi 8), (vi 0), (vi 0), (vu 0), (vs ⟨#[]⟩)])), (2, (.agg #[(vi 5), (vi 1), (vi 0), (vu 0), (vs ⟨#[]⟩)])), (3, (.agg #[(vi 0), (vi 1), (vi 0), (vu 0), (vs ⟨#[]⟩)])), (4, (.agg #[(vi 9), (vi 2), (vi 3), (vu 0), (vs ⟨#[]⟩)]))]) (by kernel_rfl) (by kernel_rfl)) ?_)))))))
  intro p3 w5 hn4
  replace h := h p3 w5 hn4
  refine ⟨.inr h.1, ?_⟩
  replace h := h.2
  replace hs := hs.again (Ext.new (F := None) hn4).keptP
  replace hb := hb.kept (Ext.new (F := None) hn4).keptP
  refine lgo (k := 14) (by kernel_rfl) ?_
  refine sl_call (pickA (S8 (S4 (pickS (pickS pickZ))))) (want0 rfl) (by kernel_rfl) (xc Try.call18) (h.mono ?_)
  rintro e w6 ⟨r3, r4, r5, rfl, hC, hk, h⟩
  refine ⟨_, rfl, .inr hC, ?_⟩
  obtain ⟨hs, hb⟩ := hk.hh hs hb
  refine qx 15 (.tuple #[(vi r3), (vi r4), (vi r5)]) (pickA (S8 (S4 (pickS (pickS (pickS pickZ)))))) (qx 16 (vi r3) (pickA (S8 (S8 pickZ))) (qx 17 (vi r4) (pickA (S8 (S8 (pickS pickZ)))) (qx 18 (vi r5) (pickA (S8 (S8 (pickS (pickS pickZ))))) (qx 19 (vi r3) (pickA (S8 (S8 (pickS (pickS (pickS pickZ)))))) (qx 20 (vi r4) (pickA (S8 (S8 (S4 pickZ)))) (qx 21 (vi r5) (pickA (S8 (S8 (S4 (pickS pickZ))))) (wpX_nil (by kernel_rfl) (th_n (wpE_seq ?_)))))))))
  obtain ⟨C2, hC, h⟩ := h
  refine wpE_drawnC C2 [10, 11] [] (by kernel_rfl) (by kernel_rfl) (by kernel_rfl) (by kernel_rfl) hC ?_
  clear hC
  intro w7 hw7
  replace h := h w7 hw7
  replace hs : Hst w0 None w6 None w7 := by rw [hw7]; exact hs.drew
  replace hb : HB None w7 [] := by rw [hw7]; exact hb.drew
  replace hs := hs.here
  refine qx 0 (vp r1) Kp0 (qgo (k := 1) (by kernel_rfl) ?_)
  obtain ⟨a3, hp3, h⟩ := h
  refine sx (v := (vp (some a3))) Kp1 (want0 rfl) (by kernel_rfl) (fun w' hw' => (x_nilCheck (p := r1) (by kernel_rfl) hp3)) (qx 2 (vp (some a3)) Kp2 (qgo (k := 3) (by kernel_rfl) ?_))
  obtain ⟨v3, hv3, h⟩ := h
  refine sx (v := (vp v3)) Kp3 (want0 rfl) (by kernel_rfl) (fun w' hw' => (xl (Try.isAgg32 _) (hv3 w' hw'))) (qx 4 (vp r1) Kp4 (qgo (k := 5) (by kernel_rfl) ?_))
  obtain ⟨a4, hp4, h⟩ := h
  refine sx (v := (vp (some a4))) Kp5 (want0 rfl) (by kernel_rfl) (fun w' hw' => (x_nilCheck (p := r1) (by kernel_rfl) hp4)) (qx 6 (vp (some (a4.add 1))) Kp6 (qgo (k := 7) (by kernel_rfl) ?_))
  obtain ⟨v4, hv2, h⟩ := h
  refine sx (v := (vp v4)) Kp7 (want0 rfl) (by kernel_rfl) (fun w' hw' => (xl (Try.isAgg33 _) (hv2 w' hw'))) (qx 8 (.agg #[(vi 0), (vi 0), (vi 0), (vu 0), (vs ⟨#[]⟩)]) Kp8 (qx 9 (.agg #[(vi 6), (vi 0), (vi 0), (vu 0), (vs ⟨#[]⟩)]) Kp9 (lgo (k := 10) (by kernel_rfl) (sl_new (O := (.cells #[(vi 0), (vi 0), (vi 0), (vu 0), (vs ⟨#[]⟩), (vi 6), (vi 0), (vi 0), (vu 0), (vs ⟨#[]⟩)] 103)) (fun p => (Sl.mk (some p) 2 2).v) (pickA (S8 (pickS (pickS pickZ)))) (want0 rfl) (by kernel_rfl) (x_buildSlice (vs := #[(0, (.agg #[(vi 0), (vi 0), (vi 0), (vu 0), (vs ⟨#[]⟩)])), (1, (.agg #[(vi 6), (vi 0), (vi 0), (vu 0), (vs ⟨#[]⟩)]))]) (by kernel_rfl) (by kernel_rfl)) ?_))))
  intro p4 w8 hn3
  replace h := h p4 w8 hn3
  refine ⟨.inr h.1, ?_⟩
  replace h := h.2
  replace hs := hs.again (Ext.new (F := None) hn3).keptP
  replace hb := hb.kept (Ext.new (F := None) hn3).keptP
  refine lgo (k := 11) (by kernel_rfl) ?_
  refine sl_call (pickA (S8 (pickS (pickS (pickS pickZ))))) (want0 rfl) (by kernel_rfl) (xc Try.call18) (h.mono ?_)
  rintro e w9 ⟨r6, r7, r8, rfl, hC, hk, h⟩
  refine ⟨_, rfl, .inr hC, ?_⟩
  obtain ⟨hs, hb⟩ := hk.hh hs hb
  refine qx 12 (.tuple #[(vi r6), (vi r7), (vi r8)]) (pickA (S8 (S4 pickZ))) (qx 13 (vi r6) (pickA (S8 (S4 (pickS pickZ)))) (qx 14 (vi r7) (pickA (S8 (S4 (pickS (pickS pickZ))))) (qx 15 (vi r8) (pickA (S8 (S4 (pickS (pickS (pickS pickZ)))))) (qx 16 (vi r6) (pickA (S8 (S8 pickZ))) (qx 17 (vi r7) (pickA (S8 (S8 (pickS pickZ)))) (qx 18 (vi r8) (pickA (S8 (S8 (pickS (pickS pickZ))))) (wpX_nil (by kernel_rfl) (th_n (wpE_seq (rg (q0 (vp r1) ?_)))))))))))
  obtain ⟨a5, hp5, h⟩ := h
  refine q2 (vp (some a5)) (x_nilCheck (p := r1) (by kernel_rfl) hp5) (q0 (vp (some a5)) ?_)
  obtain ⟨v5, hv1, h⟩ := h
  refine q2 (vp v5) (xl (Try.isAgg32 _) hv1) (q0 (vi r3) ?_)
  refine st_call (want0 rfl) (xc Try.call62) (h.mono ?_)
  rintro e w10 ⟨aA, aB, aC, aD, aE, aF, aG, r9, rfl, hk, h⟩
  refine ⟨_, rfl, ?_⟩
  obtain ⟨hs, hb⟩ := hk.hh hs hb
  refine q0 (.tuple #[(.agg #[(vi aA), (vi aB), (vi aC), (vu aD), (vs aE), (vi aF), (vi aG)]), (vb r9)]) (q0 (.agg #[(vi aA), (vi aB), (vi aC), (vu aD), (vs aE), (vi aF), (vi aG)]) (q0 (vb r9) (sn (O := (.cells #[(vi 0), (vi 0), (vi 0), (vu 0), (vs ⟨#[]⟩), (vi 0), (vi 0)] 105)) (x_alloc (Try.zeroValue105 _) rfl) ?_)))
  intro p5 w11 hn1
  obtain ⟨H1, hs, hb⟩ := hs.alloc hb hn1
  refine st_set (want0 rfl) (x_storeA (a := p5) (vs := [(vi aA), (vi aB), (vi aC), (vu aD), (vs aE), (vi aF), (vi aG)]) (by kernel_rfl) (by kernel_rfl) rfl (Try.sizeOf105 _) rfl (hb.canWs0 0 7 gZ (by kernel_rfl))) ?_
  intro w12 hn2
  have hsb : Hst w0 None w10 H1 w12 ∧ HB H1 w12 [(p5, [(vi aA), (vi aB), (vi aC), (vu aD), (vs aE), (vi aF), (vi aG)], 105)] := by
   rw [hn2]
   exact hb.store0 (i := 0) (vs := [(vi aA), (vi aB), (vi aC), (vu aD), (vs aE), (vi aF), (vi aG)]) hs gZ (by kernel_rfl) (by kernel_rfl)
  clear hs hb hn2
  obtain ⟨hs, hb⟩ := hsb
  refine q0 (vb r9) (wpL_nil (th_n (wpE_seq ?_)))
  refine wpE_via (fun ρ wJ => ∃ HJ : Nat → Prop, Hst w0 None w10 HJ wJ ∧ HB HJ wJ [(p5, [(vi aA), (vi aB), (vi aC), (vu aD), (vs aE), (vi aF), (vi aG)], 105)] ∧ Has ρ [(0, (vb (((((r4 == 0) && (aA == 7)) && (aB == 0)) && (r7 == 90)) && (r8 == 1))))]) ?_ ?_
  ·skip
   refine rg (q0 (vi r4) ?_)
   refine st_call (want0 rfl) (xc Try.call19) ((p_law09_num r4 w12).mono ?_)
   rintro e w21 ⟨he, hE⟩
   refine ⟨(vi r4), he.trans (by kernel_rfl), ?_⟩
   replace hs := hs.pure hE
   replace hb := hb.pure hE
   clear hE he
   refine q0 (vb (r4 == 0)) (q0 (vb (r4 == 0)) ?_)
   refine wpL_join 4 (fun ρ wJ => ∃ b6'0 : Bool, ∃ HJ : Nat → Prop, ((r4 == 0) = b6'0) ∧ Hst w0 None w10 HJ wJ ∧ HB HJ wJ [(p5, [(vi aA), (vi aB), (vi aC), (vu aD), (vs aE), (vi aF), (vi aG)], 105)] ∧ Has ρ [(7, (vi r7)), (8, (vi r8)), (9, (vp (some p5))), (73, (vb (b6'0 && (aA == 7))))]) ?_ ?_
   ·clear hs hb
    rintro ρ w22 ⟨b6'0, H7, he0, hs, hb, hH⟩
    subst he0
    refine wpL_has hH ?_
    clear hH
    refine q0 (vb ((r4 == 0) && (aA == 7))) ?_
    refine wpL_join 4 (fun ρ wJ => ∃ b7'0 : Bool, ∃ HJ : Nat → Prop, (((r4 == 0) && (aA == 7)) = b7'0) ∧ Hst w0 None w10 HJ wJ ∧ HB HJ wJ [(p5, [(vi aA), (vi aB), (vi aC), (vu aD), (vs aE), (vi aF), (vi aG)], 105)] ∧ Has ρ [(7, (vi r7)), (8, (vi r8)), (78, (vb (b7'0 && (aB == 0))))]) ?_ ?_
    ·clear hs hb
     rintro ρ w23 ⟨b7'0, H8, he0, hs, hb, hH⟩
     subst he0
     refine wpL_has hH ?_
     clear hH
     refine q0 (vb (((r4 == 0) && (aA == 7)) && (aB == 0))) ?_
     refine wpL_join 4 (fun ρ wJ => ∃ b8'0 : Bool, ∃ HJ : Nat → Prop, ((((r4 == 0) && (aA == 7)) && (aB == 0)) = b8'0) ∧ Hst w0 None w10 HJ wJ ∧ HB HJ wJ [(p5, [(vi aA), (vi aB), (vi aC), (vu aD), (vs aE), (vi aF), (vi aG)], 105)] ∧ Has ρ [(8, (vi r8)), (83, (vb (b8'0 && (r7 == 90))))]) ?_ ?_
     ·clear hs hb
      rintro ρ w25 ⟨b8'0, H9, he0, hs, hb, hH⟩
      subst he0
      refine wpL_has hH ?_
      clear hH
      refine q0 (vb ((((r4 == 0) && (aA == 7)) && (aB == 0)) && (r7 == 90))) ?_
      refine wpL_join 3 (fun ρ wJ => ∃ b9'0 : Bool, ∃ HJ : Nat → Prop, (((((r4 == 0) && (aA == 7)) && (aB == 0)) && (r7 == 90)) = b9'0) ∧ Hst w0 None w10 HJ wJ ∧ HB HJ wJ [(p5, [(vi aA), (vi aB), (vi aC), (vu aD), (vs aE), (vi aF), (vi aG)], 105)] ∧ Has ρ [(87, (vb (b9'0 && (r8 == 1))))]) ?_ ?_
      ·clear hs hb
       rintro ρ w27 ⟨b9'0, H10, he0, hs, hb, hH⟩
       subst he0
       refine wpL_has hH ?_
       clear hH
       refine q0 (vb (((((r4 == 0) && (aA == 7)) && (aB == 0)) && (r7 == 90)) && (r8 == 1))) (wpL_nil (th_n ?_))
       exact ⟨_, hs, hb, Has.mk (by kernel_rfl)⟩
      ·skip
       rcases Bool.eq_false_or_eq_true ((((r4 == 0) && (aA == 7)) && (aB == 0)) && (r7 == 90)) with hg16 | hg16
       ·skip
        refine q1 (vi r8) (want1 rfl (yD 84 hg16)) (q1 (vb (r8 == 1)) (want1 rfl (yD 84 hg16)) (q2 (vb (r8 == 1)) (xT hg16) (wpL_nil ?_)))
        exact ⟨true, _, hg16, hs, hb, Has.mk (by kernel_rfl)⟩
       ·skip
        refine sk (yD 84 hg16) (sk (yD 84 hg16) (q2 (vb false) (xF hg16) (wpL_nil ?_)))
        exact ⟨false, _, hg16, hs, hb, Has.mk (by kernel_rfl)⟩
     ·skip
      rcases Bool.eq_false_or_eq_true (((r4 == 0) && (aA == 7)) && (aB == 0)) with hg14 | hg14
      ·skip
       refine q1 (vi r7) (want1 rfl (yD 79 hg14)) ?_
       refine st_call (want1 rfl (yD 79 hg14)) (xc Try.call19) ((p_law09_num r7 w23).mono ?_)
       rintro e w26 ⟨he, hE⟩
       refine ⟨(vi r7), he.trans (by kernel_rfl), ?_⟩
       replace hs := hs.pure hE
       replace hb := hb.pure hE
       clear hE he
       refine q1 (vb (r7 == 90)) (want1 rfl (yD 79 hg14)) (q2 (vb (r7 == 90)) (xT hg14) (wpL_nil ?_))
       exact ⟨true, _, hg14, hs, hb, Has.mk (by kernel_rfl)⟩
      ·skip
       refine sk (yD 79 hg14) (sk (yD 79 hg14) (sk (yD 79 hg14) (q2 (vb false) (xF hg14) (wpL_nil ?_))))
       exact ⟨false, _, hg14, hs, hb, Has.mk (by kernel_rfl)⟩
    ·skip
     rcases Bool.eq_false_or_eq_true ((r4 == 0) && (aA == 7)) with hg12 | hg12
     ·skip
      refine q1 (vp (some (p5.add 1))) (want1 rfl (yD 74 hg12)) (stp (v := (vi aB)) (want1 rfl (yD 74 hg12)) (xl (Try.isAgg3 _) (hb.c 0 1 gZ)) (q1 (vb (aB == 0)) (want1 rfl (yD 74 hg12)) (q2 (vb (aB == 0)) (xT hg12) (wpL_nil ?_))))
      exact ⟨true, _, hg12, hs, hb, Has.mk (by kernel_rfl)⟩
     ·skip
      refine sk (yD 74 hg12) (sk (yD 74 hg12) (sk (yD 74 hg12) (q2 (vb false) (xF hg12) (wpL_nil ?_))))
      exact ⟨false, _, hg12, hs, hb, Has.mk (by kernel_rfl)⟩
   ·skip
    rcases Bool.eq_false_or_eq_true (r4 == 0) with hg10 | hg10
    ·skip
     refine q1 (vp (some p5)) (want1 rfl (yD 69 hg10)) (stp (v := (vi aA)) (want1 rfl (yD 69 hg10)) (xl (Try.isAgg3 _) (hb.c0 0 gZ)) (q1 (vb (aA == 7)) (want1 rfl (yD 69 hg10)) (q2 (vb (aA == 7)) (xT hg10) (wpL_nil ?_))))
     exact ⟨true, _, hg10, hs, hb, Has.mk (by kernel_rfl)⟩
    ·skip
     refine sk (yD 69 hg10) (sk (yD 69 hg10) (sk (yD 69 hg10) (q2 (vb false) (xF hg10) (wpL_nil ?_))))
     exact ⟨false, _, hg10, hs, hb, Has.mk (by kernel_rfl)⟩
  ·clear hs hb
   rintro ρ w20 ⟨H6, hs, hb, hH⟩
   refine norm_has hH ?_
   clear hH
   refine th_n (wpE_ret ?_)
   replace h := h H6 w20 hs
   replace hs := hs.here
   refine res1 (.inl rfl) Try.results14 (v := (vb (((((r4 == 0) && (aA == 7)) && (aB == 0)) && (r7 == 90)) && (r8 == 1)))) (by kernel_rfl) ?_
   exact ⟨(((((r4 == 0) && (aA == 7)) && (aB == 0)) && (r7 == 90)) && (r8 == 1)), rfl, h⟩
def m_law09_RecipeSound_j3 (x2 : Bool) (H : Nat → Prop) (w : World) (K : Bool → World → Prop) : Prop :=
 Br x2
  (Calls Try.prog 14 #[] w (fun e w14 => ∃ r9 : Bool, e = .returned (vb r9) ∧ 
   Kept H w w14 ∧
   K r9 w14))
  (K false w)
def m_law09_RecipeSound_l2 (ops1 : Sl) (r2 : Option Addr) (r4 : Sl) (i1 : Int) (w0 : World) (Hl1 : Nat → Prop) (wl1 : World) (Kc2 : Int → (Nat → Prop) → World → Prop) (K : Bool → World → Prop) : Prop :=
 Br (decide (i1 < (r4.len : Int)))
  (∃ C2 : World → Prop, C2 wl1.drew ∧ ∀ w7, w7 = wl1.drew →
  ∃ a3 : Addr, r2 = some a3 ∧
  ∃ v3 : Option Addr, (∀ w', C2 w' → w'.cell? (a3.add 1) = some (vp v3)) ∧
  ∃ a4 : Addr, At r4 i1 1 a4 ∧
  ∃ v4 : Int, (∀ w', C2 w' → w'.cell? a4 = some (vi v4)) ∧
  Calls Try.prog 17 #[(vp v3), (vi v4)] w7 (fun e w8 => ∃ r5 : Bool, e = .returned (vb r5) ∧ C2 w8 ∧ 
   Kept Hl1 w7 w8 ∧
   Br (!r5)
    (K false w8)
    (Kc2 (IntKind.i64.wrap (i1 + 1)) Hl1 w8)))
  (∃ C3 : World → Prop, C3 wl1.drew ∧ ∀ w9, w9 = wl1.drew →
  ∃ a5 : Addr, r2 = some a5 ∧
  ∃ v5 : Option Addr, (∀ w', C3 w' → w'.cell? a5 = some (vp v5)) ∧
  ∃ a6 : Addr, r2 = some a6 ∧
  ∃ v6 : Option Addr, (∀ w', C3 w' → w'.cell? (a6.add 1) = some (vp v6)) ∧
  ∀ (p2 : Addr) (w10 : World), New w9 (.cells #[] 103) p2 w10 → C3 w10 ∧
  ∃ s2 : Sl, ∃ w11 : World, (Builtin.append_ #[23, 23] 23 #[(Sl.mk (some p2) 0 0).v, ops1.v]).run Try.prog w10 = .ok s2.v w11 ∧ C3 w11 ∧
  Kept Hl1 w10 w11 ∧
  Calls Try.prog 18 #[(vp v5), (vp v6), s2.v] w11 (fun e w12 => ∃ r6 r7 r8 : Int, e = .returned (.tuple #[(vi r6), (vi r7), (vi r8)]) ∧ C3 w12 ∧ 
   Kept Hl1 w11 w12 ∧
   Br (r7 != 0)
    (∀ (w13 : World), Hst w0 Hl1 w12 Hl1 w13 →
    m_law09_RecipeSound_j3 true Hl1 w13 K)
    (∃ a7 : Addr, r2 = some a7 ∧
    ∀ (w13 : World), Hst w0 Hl1 w12 Hl1 w13 →
    ∃ v7 : Option Addr, w13.cell? (a7.add 1) = some (vp v7) ∧
    Calls Try.prog 17 #[(vp v7), (vi r6)] w13 (fun e w15 => ∃ r10 : Bool, e = .returned (vb r10) ∧ 
     Kept Hl1 w13 w15 ∧
     m_law09_RecipeSound_j3 r10 Hl1 w15 K))))
def m_law09_RecipeSound_j1 (l1 ops1 : Sl) (x1 : Bool) (w0 : World) (H : Nat → Prop) (w : World) (K : Bool → World → Prop) : Prop :=
 Br x1
  (Calls Try.prog 14 #[] w (fun e w1 => ∃ r1 : Bool, e = .returned (vb r1) ∧ 
   Kept H w w1 ∧
   K r1 w1))
  (Calls Try.prog 15 #[l1.v] w (fun e w2 => ∃ r2 : Option Addr, ∃ r3 : Bool, e = .returned (.tuple #[(vp r2), (vb r3)]) ∧ 
   Kept H w w2 ∧
   Br (!r3)
    (K false w2)
    (∃ C1 : World → Prop, C1 w2.drew ∧ ∀ w3, w3 = w2.drew →
    ∃ a1 : Addr, r2 = some a1 ∧
    ∃ v1 : Option Addr, (∀ w', C1 w' → w'.cell? a1 = some (vp v1)) ∧
    ∃ a2 : Addr, r2 = some a2 ∧
    ∃ v2 : Option Addr, (∀ w', C1 w' → w'.cell? (a2.add 1) = some (vp v2)) ∧
    ∀ (p1 : Addr) (w4 : World), New w3 (.cells #[] 103) p1 w4 → C1 w4 ∧
    ∃ s1 : Sl, ∃ w5 : World, (Builtin.append_ #[23, 23] 23 #[(Sl.mk (some p1) 0 0).v, ops1.v]).run Try.prog w4 = .ok s1.v w5 ∧ C1 w5 ∧
    Kept H w4 w5 ∧
    Calls Try.prog 16 #[(vp v1), (vp v2), s1.v] w5 (fun e w6 => ∃ r4 : Sl, e = .returned r4.v ∧ C1 w6 ∧ 
     Kept H w5 w6 ∧
     ∃ (I1 : Int → (Nat → Prop) → World → Prop) (mu1 : Int → World → Nat), I1 0 H w6 ∧
      ∀ (i1 : Int) (Hl1 : Nat → Prop) (wl1 : World), Hst w0 Hl1 wl1 Hl1 wl1 → I1 i1 Hl1 wl1 → m_law09_RecipeSound_l2 ops1 r2 r4 i1 w0 Hl1 wl1 (fun y'0 H' w' => I1 y'0 H' w' ∧ mu1 y'0 w' < mu1 i1 wl1) K))))
def m_law09_RecipeSound (l1 ops1 : Sl) (w0 : World) (K : Bool → World → Prop) : Prop :=
 Calls Try.prog 12 #[l1.v] w0 (fun e w16 => ∃ r11 : Bool, e = .returned (vb r11) ∧ 
  Kept None w0 w16 ∧
  Br r11
   (m_law09_RecipeSound_j1 l1 ops1 true w0 None w16 K)
   (Calls Try.prog 13 #[ops1.v] w16 (fun e w17 => ∃ r12 : Bool, e = .returned (vb r12) ∧ 
    Kept None w16 w17 ∧
    m_law09_RecipeSound_j1 l1 ops1 r12 w0 None w17 K)))
theorem w_law09_RecipeSound (l1 ops1 : Sl) (w0 : World) (K : Bool → World → Prop) (h : m_law09_RecipeSound l1 ops1 w0 K) :
  Calls Try.prog 3 #[l1.v, ops1.v] w0 (fun e w' => ∃ r13 : Bool, e = .returned (vb r13) ∧ K r13 w') := by
 unfold m_law09_RecipeSound at h
 refine calls_of_wpE (args := [l1.v, ops1.v]) Try.func3 rfl Try.ntmps3 (Nat.le_of_ble_eq_true rfl) ?_
 have hs := Hst.start w0
 have hb := HB.nil None w0
 refine wpE_seq (rg (q0 (vb false) (wpL_nil (th_n (wpE_seq (wpE_seq ?_))))))
 refine wpE_joinT (fun ρ w => ∃ x1 : Bool, ∃ H : Nat → Prop, Has ρ [(0, l1.v), (1, ops1.v), (17, (vb x1))] ∧ Hst w0 H w H w ∧ HB H w [] ∧ m_law09_RecipeSound_j1 l1 ops1 x1 w0 H w K) ?_ ?_
 ·clear h hs hb
  rintro ρ w ⟨x1, H, hH, hs, hb, h⟩
  unfold m_law09_RecipeSound_j1 at h
  refine wpE_has hH ?_
  clear hH
  refine wpE_cond (t := x1) (by kernel_rfl) (fun hc1 => ?_) (fun hc1 => ?_)
  ·replace h := h.1 hc1
   refine wpE_seq (rg ?_)
   refine st_call (want0 rfl) (xc Try.call14) (h.mono ?_)
   rintro e w1 ⟨r1, rfl, hk, h⟩
   refine ⟨_, rfl, ?_⟩
   obtain ⟨hs, hb⟩ := hk.hh hs hb
   refine q0 (vb r1) (wpL_nil (th_n (wpE_ret (th_r (res1 (.inl rfl) Try.results3 (v := (vb r1)) (by kernel_rfl) ?_)))))
   exact ⟨r1, rfl, h⟩
  ·replace h := h.2 hc1
   refine wpE_skip (th_n (wpE_seq (rg (q0 l1.v ?_))))
   refine st_call (want0 rfl) (xc Try.call15) (h.mono ?_)
   rintro e w2 ⟨r2, r3, rfl, hk, h⟩
   refine ⟨_, rfl, ?_⟩
   obtain ⟨hs, hb⟩ := hk.hh hs hb
   refine q0 (.tuple #[(vp r2), (vb r3)]) (q0 (vp r2) (q0 (vb r3) (q0 (vp r2) (q0 (vb r3) (wpL_nil (th_n (wpE_seq (wpE_seq (rg (q0 (vb r3) (q0 (vb (!r3)) ?_)))))))))))
   refine wpL_nil (th_n ?_)
   refine wpE_cond (t := (!r3)) (by kernel_rfl) (fun hc2 => ?_) (fun hc2 => ?_)
   ·replace h := h.1 hc2
    refine wpE_seq (rg (q0 (vb false) (wpL_nil (th_n (wpE_ret (th_r (res1 (.inl rfl) Try.results3 (v := (vb false)) (by kernel_rfl) ?_)))))))
    exact ⟨false, rfl, h⟩
   ·replace h := h.2 hc2
    refine wpE_skip (th_n (wpE_seq ?_))
    obtain ⟨C1, hC, h⟩ := h
    refine wpE_drawnC C1 [8, 10, 11] [] (by kernel_rfl) (by kernel_rfl) (by kernel_rfl) (by kernel_rfl) hC ?_
    clear hC
    intro w3 hw3
    replace h := h w3 hw3
    replace hs : Hst w0 H w2 H w3 := by rw [hw3]; exact hs.drew
    replace hb : HB H w3 [] := by rw [hw3]; exact hb.drew
    replace hs := hs.here
    refine qx 0 (vp r2) Kp0 (qgo (k := 1) (by kernel_rfl) ?_)
    obtain ⟨a1, hp1, h⟩ := h
    refine sx (v := (vp (some a1))) Kp1 (want0 rfl) (by kernel_rfl) (fun w' hw' => (x_nilCheck (p := r2) (by kernel_rfl) hp1)) (qx 2 (vp (some a1)) Kp2 (qgo (k := 3) (by kernel_rfl) ?_))
    obtain ⟨v1, hv10, h⟩ := h
    refine sx (v := (vp v1)) Kp3 (want0 rfl) (by kernel_rfl) (fun w' hw' => (xl (Try.isAgg32 _) (hv10 w' hw'))) (qx 4 (vp r2) Kp4 (qgo (k := 5) (by kernel_rfl) ?_))
    obtain ⟨a2, hp2, h⟩ := h
    refine sx (v := (vp (some a2))) Kp5 (want0 rfl) (by kernel_rfl) (fun w' hw' => (x_nilCheck (p := r2) (by kernel_rfl) hp2)) (qx 6 (vp (some (a2.add 1))) Kp6 (qgo (k := 7) (by kernel_rfl) ?_))
    obtain ⟨v2, hv9, h⟩ := h
    refine sx (v := (vp v2)) Kp7 (want0 rfl) (by kernel_rfl) (fun w' hw' => (xl (Try.isAgg33 _) (hv9 w' hw'))) (qx 9 ops1.v Kp9 (lgo (k := 8) (by kernel_rfl) (sl_new (O := (.cells #[] 103)) (fun p => (Sl.mk (some p) 0 0).v) Kp8 (want0 rfl) (by kernel_rfl) (x_buildSlice (vs := #[]) (by kernel_rfl) (by kernel_rfl)) ?_)))
    intro p1 w4 hn2
    replace h := h p1 w4 hn2
    refine ⟨.inr h.1, ?_⟩
    replace h := h.2
    replace hs := hs.again (Ext.new (F := None) hn2).keptP
    replace hb := hb.kept (Ext.new (F := None) hn2).keptP
    refine lgo (k := 10) (by kernel_rfl) ?_
    obtain ⟨s1, w5, hv8, hC, hk, h⟩ := h
    refine sl (v := s1.v) (pickA (S8 (pickS (pickS pickZ)))) (want0 rfl) (by kernel_rfl) (x_builtin (args := #[(Sl.mk (some p1) 0 0).v, ops1.v]) (by kernel_rfl) (fun _ => rfl) hv8) (.inr hC) ?_
    clear hC
    obtain ⟨hs, hb⟩ := hk.hh hs hb
    refine lgo (k := 11) (by kernel_rfl) ?_
    refine sl_call (pickA (S8 (pickS (pickS (pickS pickZ))))) (want0 rfl) (by kernel_rfl) (xc Try.call16) (h.mono ?_)
    rintro e w6 ⟨r4, rfl, hC, hk, h⟩
    refine ⟨_, rfl, .inr hC, ?_⟩
    obtain ⟨hs, hb⟩ := hk.hh hs hb
    refine qx 12 r4.v (pickA (S8 (S4 pickZ))) (wpX_nil (by kernel_rfl) (th_n (wpE_seq (wpE_seq (rg (q0 (vi 0) (wpL_nil (th_n (wpE_block ?_)))))))))
    obtain ⟨I1, mu1, h0, hr⟩ := h
    refine wpE_loop (σ := Int × (Nat → Prop) × World) (fun s ρ w => w = s.2.2 ∧ Has ρ [(1, ops1.v), (5, (vp r2)), (7, r4.v), (8, (vi s.1))] ∧ Hst w0 s.2.1 w s.2.1 w ∧ HB s.2.1 w [] ∧ I1 s.1 s.2.1 s.2.2) (fun s => mu1 s.1 s.2.2) (0, H, w6) ⟨rfl, Has.mk (by kernel_rfl), hs, hb, h0⟩ ?_
    clear hs hb
    rintro ⟨i1, Hl1, wl1⟩ ρ w ⟨hw, hH, hs, hb, hI⟩
    obtain rfl : wl1 = w := (show w = wl1 from hw).symm
    replace hH : Has ρ [(1, ops1.v), (5, (vp r2)), (7, r4.v), (8, (vi i1))] := hH
    replace hs : Hst w0 Hl1 wl1 Hl1 wl1 := hs
    replace hb : HB Hl1 wl1 [] := hb
    have h := hr i1 Hl1 wl1 hs hI
    clear hr h0
    unfold m_law09_RecipeSound_l2 at h
    refine wpE_has hH ?_
    clear hH hI
    refine wpE_seq (wpE_seq (rg (q0 (vi i1) (q0 r4.v (q0 (vi (r4.len : Int)) (q0 (vb (decide (i1 < (r4.len : Int)))) (wpL_nil (th_n ?_))))))))
    refine wpE_cond (t := (decide (i1 < (r4.len : Int)))) (by kernel_rfl) (fun hc3 => ?_) (fun hc3 => ?_)
    ·replace h := h.1 hc3
     refine wpE_skip (th_n (wpE_seq (wpE_block (wpE_seq ?_))))
     obtain ⟨C2, hC, h⟩ := h
     refine wpE_drawnC C2 [8] [] (by kernel_rfl) (by kernel_rfl) (by kernel_rfl) (by kernel_rfl) hC ?_
     clear hC
     intro w7 hw7
     replace h := h w7 hw7
     replace hs : Hst w0 Hl1 wl1 Hl1 w7 := by rw [hw7]; exact hs.drew
     replace hb : HB Hl1 w7 [] := by rw [hw7]; exact hb.drew
     replace hs := hs.here
     refine qx 0 (vp r2) Kp0 (qgo (k := 1) (by kernel_rfl) ?_)
     obtain ⟨a3, hp3, h⟩ := h
     refine sx (v := (vp (some a3))) Kp1 (want0 rfl) (by kernel_rfl) (fun w' hw' => (x_nilCheck (p := r2) (by kernel_rfl) hp3)) (qx 2 (vp (some (a3.add 1))) Kp2 (qgo (k := 3) (by kernel_rfl) ?_))
     obtain ⟨v3, hv3, h⟩ := h
     refine sx (v := (vp v3)) Kp3 (want0 rfl) (by kernel_rfl) (fun w' hw' => (xl (Try.isAgg33 _) (hv3 w' hw'))) (qx 4 r4.v Kp4 (qx 5 (vi i1) Kp5 (qgo (k := 6) (by kernel_rfl) ?_)))
     obtain ⟨a4, hv2, h⟩ := h
     refine sx (v := (vp (some a4))) Kp6 (want0 rfl) (by kernel_rfl) (fun w' hw' => (x_indexAddr (s := r4) (k := .i64) (i := i1) (by kernel_rfl) (by kernel_rfl) (Try.runUnderlying30 _) (Try.sizeOf38 _) hv2)) (qgo (k := 7) (by kernel_rfl) ?_)
     obtain ⟨v4, hv1, h⟩ := h
     refine sx (v := (vi v4)) Kp7 (want0 rfl) (by kernel_rfl) (fun w' hw' => (xl (Try.isAgg38 _) (hv1 w' hw'))) (lgo (k := 8) (by kernel_rfl) ?_)
     refine sl_call Kp8 (want0 rfl) (by kernel_rfl) (xc Try.call17) (h.mono ?_)
     rintro e w8 ⟨r5, rfl, hC, hk, h⟩
     refine ⟨_, rfl, .inr hC, ?_⟩
     obtain ⟨hs, hb⟩ := hk.hh hs hb
     refine qx 9 (vb (!r5)) Kp9 (wpX_nil (by kernel_rfl) (th_n ?_))
     refine wpE_cond (t := (!r5)) (by kernel_rfl) (fun hc4 => ?_) (fun hc4 => ?_)
     ·replace h := h.1 hc4
      refine wpE_seq (rg (q0 (vb false) (wpL_nil (th_n (wpE_ret (bl_r (th_r (th_r (bl_r (th_r (res1 (.inl rfl) Try.results3 (v := (vb false)) (by kernel_rfl) ?_)))))))))))
      exact ⟨false, rfl, h⟩
     ·replace h := h.2 hc4
      refine wpE_skip (bl_n (th_n (rg (q0 (vi i1) (q0 (vi (IntKind.i64.wrap (i1 + 1))) (q0 (vi (IntKind.i64.wrap (i1 + 1))) (wpL_nil (th_n ?_))))))))
      exact ⟨((IntKind.i64.wrap (i1 + 1)), Hl1, w8), ⟨rfl, Has.mk (by kernel_rfl), hs, hb, h.1⟩, h.2⟩
    ·replace h := h.2 hc3
     refine wpE_exit (th_x (th_x (bl_eq (th_n (wpE_seq ?_)))))
     obtain ⟨C3, hC, h⟩ := h
     refine wpE_drawnC C3 [8, 10, 11] [] (by kernel_rfl) (by kernel_rfl) (by kernel_rfl) (by kernel_rfl) hC ?_
     clear hC
     intro w9 hw9
     replace h := h w9 hw9
     replace hs : Hst w0 Hl1 wl1 Hl1 w9 := by rw [hw9]; exact hs.drew
     replace hb : HB Hl1 w9 [] := by rw [hw9]; exact hb.drew
     replace hs := hs.here
     refine qx 0 (vp r2) Kp0 (qgo (k := 1) (by kernel_rfl) ?_)
     obtain ⟨a5, hp4, h⟩ := h
     refine sx (v := (vp (some a5))) Kp1 (want0 rfl) (by kernel_rfl) (fun w' hw' => (x_nilCheck (p := r2) (by kernel_rfl) hp4)) (qx 2 (vp (some a5)) Kp2 (qgo (k := 3) (by kernel_rfl) ?_))
     obtain ⟨v5, hv7, h⟩ := h
     refine sx (v := (vp v5)) Kp3 (want0 rfl) (by kernel_rfl) (fun w' hw' => (xl (Try.isAgg32 _) (hv7 w' hw'))) (qx 4 (vp r2) Kp4 (qgo (k := 5) (by kernel_rfl) ?_))
     obtain ⟨a6, hp5, h⟩ := h
     refine sx (v := (vp (some a6))) Kp5 (want0 rfl) (by kernel_rfl) (fun w' hw' => (x_nilCheck (p := r2) (by kernel_rfl) hp5)) (qx 6 (vp (some (a6.add 1))) Kp6 (qgo (k := 7) (by kernel_rfl) ?_))
     obtain ⟨v6, hv6, h⟩ := h
     refine sx (v := (vp v6)) Kp7 (want0 rfl) (by kernel_rfl) (fun w' hw' => (xl (Try.isAgg33 _) (hv6 w' hw'))) (qx 9 ops1.v Kp9 (lgo (k := 8) (by kernel_rfl) (sl_new (O := (.cells #[] 103)) (fun p => (Sl.mk (some p) 0 0).v) Kp8 (want0 rfl) (by kernel_rfl) (x_buildSlice (vs := #[]) (by kernel_rfl) (by kernel_rfl)) ?_)))
     intro p2 w10 hn1
     replace h := h p2 w10 hn1
     refine ⟨.inr h.1, ?_⟩
     replace h := h.2
     replace hs := hs.again (Ext.new (F := None) hn1).keptP
     replace hb := hb.kept (Ext.new (F := None) hn1).keptP
     refine lgo (k := 10) (by kernel_rfl) ?_
     obtain ⟨s2, w11, hv5, hC, hk, h⟩ := h
     refine sl (v := s2.v) (pickA (S8 (pickS (pickS pickZ)))) (want0 rfl) (by kernel_rfl) (x_builtin (args := #[(Sl.mk (some p2) 0 0).v, ops1.v]) (by kernel_rfl) (fun _ => rfl) hv5) (.inr hC) ?_
     clear hC
     obtain ⟨hs, hb⟩ := hk.hh hs hb
     refine lgo (k := 11) (by kernel_rfl) ?_
     refine sl_call (pickA (S8 (pickS (pickS (pickS pickZ))))) (want0 rfl) (by kernel_rfl) (xc Try.call18) (h.mono ?_)
     rintro e w12 ⟨r6, r7, r8, rfl, hC, hk, h⟩
     refine ⟨_, rfl, .inr hC, ?_⟩
     obtain ⟨hs, hb⟩ := hk.hh hs hb
     refine qx 12 (.tuple #[(vi r6), (vi r7), (vi r8)]) (pickA (S8 (S4 pickZ))) (qx 13 (vi r6) (pickA (S8 (S4 (pickS pickZ)))) (qx 14 (vi r7) (pickA (S8 (S4 (pickS (pickS pickZ))))) (qx 15 (vi r8) (pickA (S8 (S4 (pickS (pickS (pickS pickZ)))))) (qx 16 (vi r6) (pickA (S8 (S8 pickZ))) (qx 17 (vi r7) (pickA (S8 (S8 (pickS pickZ)))) (qx 18 (vi r8) (pickA (S8 (S8 (pickS (pickS pickZ))))) (wpX_nil (by kernel_rfl) (th_n (wpE_seq (rg (q0 (vi r7) ?_)))))))))))
     refine st_call (want0 rfl) (xc Try.call19) ((p_law09_num r7 w12).mono ?_)
     rintro e w13 ⟨he, hE⟩
     refine ⟨(vi r7), he.trans (by kernel_rfl), ?_⟩
     replace hs := hs.pure hE
     replace hb := hb.pure hE
     clear hE he
     refine q0 (vb (r7 != 0)) (q0 (vb (r7 != 0)) ?_)
     refine wpL_join 7 (fun ρ w => ∃ x2 : Bool, ∃ H : Nat → Prop, Has ρ [(80, (vb x2))] ∧ Hst w0 H w H w ∧ HB H w [] ∧ m_law09_RecipeSound_j3 x2 H w K) ?_ ?_
     ·clear h hs hb
      rintro ρ w ⟨x2, H, hH, hs, hb, h⟩
      unfold m_law09_RecipeSound_j3 at h
      refine wpL_has hH ?_
      clear hH
      refine q0 (vb x2) ?_
      rcases Bool.eq_false_or_eq_true x2 with hg1 | hg1
      ·replace h := h.1 hg1
       refine st_call (want1 rfl (yD 81 hg1)) (xc Try.call14) (h.mono ?_)
       rintro e w14 ⟨r9, rfl, hk, h⟩
       refine ⟨_, rfl, ?_⟩
       obtain ⟨hs, hb⟩ := hk.hh hs hb
       refine q2 (vb r9) (xT hg1) (q0 (vb r9) (wpL_nil (th_n (wpE_ret (res1 (.inl rfl) Try.results3 (v := (vb r9)) (by kernel_rfl) ?_)))))
       exact ⟨r9, rfl, h⟩
      ·replace h := h.2 hg1
       refine sk (yD 81 hg1) (q2 (vb false) (xF hg1) (q0 (vb false) (wpL_nil (th_n (wpE_ret (res1 (.inl rfl) Try.results3 (v := (vb false)) (by kernel_rfl) ?_))))))
       exact ⟨false, rfl, h⟩
     ·skip
      rcases Bool.eq_false_or_eq_true (r7 != 0) with hg2 | hg2
      ·replace h := h.1 hg2
       refine sk (yD 73 hg2) (sk (yD 73 hg2) (sk (yD 73 hg2) (sk (yD 73 hg2) (sk (yD 73 hg2) (sk (yD 73 hg2) (q2 (vb true) (xT hg2) (wpL_nil ?_)))))))
       replace h := h w13 hs
       replace hs := hs.here
       exact ⟨true, Hl1, Has.mk (by kernel_rfl), hs, hb, h⟩
      ·replace h := h.2 hg2
       refine q1 (vp r2) (want1 rfl (yD 73 hg2)) ?_
       obtain ⟨a7, hp6, h⟩ := h
       refine stp (v := (vp (some a7))) (want1 rfl (yD 73 hg2)) (x_nilCheck (p := r2) (by kernel_rfl) hp6) (q1 (vp (some (a7.add 1))) (want1 rfl (yD 73 hg2)) ?_)
       replace h := h w13 hs
       replace hs := hs.here
       obtain ⟨v7, hv4, h⟩ := h
       refine stp (v := (vp v7)) (want1 rfl (yD 73 hg2)) (xl (Try.isAgg33 _) hv4) (q1 (vi r6) (want1 rfl (yD 73 hg2)) ?_)
       refine st_call (want1 rfl (yD 73 hg2)) (xc Try.call17) (h.mono ?_)
       rintro e w15 ⟨r10, rfl, hk, h⟩
       refine ⟨_, rfl, ?_⟩
       obtain ⟨hs, hb⟩ := hk.hh hs hb
       refine q2 (vb r10) (xF hg2) (wpL_nil ?_)
       exact ⟨r10, Hl1, Has.mk (by kernel_rfl), hs, hb, h⟩
 ·skip
  refine rg (q0 l1.v ?_)
  refine st_call (want0 rfl) (xc Try.call12) (h.mono ?_)
  rintro e w16 ⟨r11, rfl, hk, h⟩
  refine ⟨_, rfl, ?_⟩
  obtain ⟨hs, hb⟩ := hk.hh hs hb
  refine q0 (vb r11) ?_
  rcases Bool.eq_false_or_eq_true r11 with hg3 | hg3
  ·replace h := h.1 hg3
   refine sk (yD 14 hg3) (sk (yD 14 hg3) (q2 (vb true) (xT hg3) (wpL_nil (th_n ?_))))
   exact ⟨true, None, Has.mk (by kernel_rfl), hs, hb, h⟩
  ·replace h := h.2 hg3
   refine q1 ops1.v (want1 rfl (yD 14 hg3)) ?_
   refine st_call (want1 rfl (yD 14 hg3)) (xc Try.call13) (h.mono ?_)
   rintro e w17 ⟨r12, rfl, hk, h⟩
   refine ⟨_, rfl, ?_⟩
   obtain ⟨hs, hb⟩ := hk.hh hs hb
   refine q2 (vb r12) (xF hg3) (wpL_nil (th_n ?_))
   exact ⟨r12, None, Has.mk (by kernel_rfl), hs, hb, h⟩
end Go.Proofs
end
section
open Go Go.SE
namespace Go.Sp
theorem KnowOk.nil (L : Pool) : KnowOk L [] [] := ⟨⟨by simp [wkeys], by simp [wkeys], fun i hi => by simp at hi⟩, by simp [wkeys], by simp, by simp⟩
end Go.Sp
end
section
open Go Go.SE
namespace Go.Proofs
attribute [local irreducible] Calls
theorem c_law09_large {S : Nat → Prop} (ts : List Sp.Tree) (s : Sl) (w0 : World) (hT : TreeAt S w0 s (.mk 0 0 0 0 ⟨#[]⟩ ts)) (hS : ∀ b, S b → b < w0.heap.size) :
  Calls Try.prog 12 #[s.v] w0 (fun e w' => ∃ r : Bool, e = .returned (.bool r) ∧ ((r = false → ts.length ≤ 300 ∧ Sp.cntAll ts ≤ 6000) ∧ Pure w0 w')) := by
 refine w_law09_large _ w0 (fun r w' => (r = false → ts.length ≤ 300 ∧ Sp.cntAll ts ≤ 6000) ∧ Pure w0 w') ?_
 unfold m_law09_large
 have hlen : s.len = ts.length := by cases hT; assumption
 refine ⟨fun h => ⟨fun h => (by cases h), Ext.refl _⟩, fun h => ?_⟩
 have hle : ts.length ≤ 300 := by have := of_decide_eq_false h; omega
 refine (c_ref05_Parts (.mk 0 0 0 0 ⟨#[]⟩ ts) s 6000 w0 (by omega) (by omega) hT hS).mono ?_
 rintro _ w1 ⟨r, rfl, hr, E⟩
 refine ⟨_, rfl, fun h => ⟨hle, ?_⟩, E⟩
 have h := of_decide_eq_false h
 have hp := (Sp.parts_facts (.mk 0 0 0 0 ⟨#[]⟩ ts) 6000 (by omega)).2.2 (by omega)
 rw [Sp.cnt] at hp
 omega
theorem c_law09_long {S : Nat → Prop} (l : List Sp.Op) (s : Sl) (w0 : World) (hl : Lst S w0 5 s (l.map oprow)) :
  Calls Try.prog 13 #[s.v] w0 (fun e w' => ∃ r : Bool, e = .returned (.bool r) ∧ ((r = false → l.length ≤ 300) ∧ Pure w0 w')) := by
 refine w_law09_long _ w0 (fun r w' => (r = false → l.length ≤ 300) ∧ Pure w0 w') ?_
 unfold m_law09_long
 have hll : s.len = l.length := by rw [hl.len]; simp
 refine ⟨fun _ i w => (∃ j : Nat, i = j ∧ j ≤ 301) ∧ w = w0, fun _ i _ => ((301 : Int) - i).toNat, ⟨⟨0, rfl, by omega⟩, rfl⟩, ?_⟩
 rintro n _ _ ⟨⟨j, rfl, hj⟩, rfl⟩
 unfold m_law09_long_l1
 refine ⟨fun h => ?_, fun h => ⟨fun h => ?_, Ext.refl _⟩⟩
 ·rw [Bool.and_eq_true] at h
  have hlt := lt_of_dec hll h.1
  have h3 := of_decide_eq_true h.2
  obtain ⟨a, hat, _, hrow⟩ := hl.nth hlt
  refine ⟨a, hat, l[j].text, by simpa [oprow] using hrow 4 (by simp [oprow]), ⟨⟨j + 1, ?_, by omega⟩, rfl⟩, ?_⟩
  ·rw [IntWalk.i64_in _ (by omega)]; omega
  ·show (301 - IntKind.i64.wrap ((j : Int) + 1)).toNat < (301 - (j : Int)).toNat
   rw [IntWalk.i64_in _ (by omega)]; omega
 ·rw [Bool.or_eq_false_iff] at h
  have := of_decide_eq_false h.1
  omega
structure SideAt (w0 : World) (H : Nat → Prop) (w : World) (s p k q : Addr) (sg : Sl) (L1 L2 : Sp.Pool) (GK G : List Int) (S : List Sp.Way) (FP FK FR : Nat → Prop) : Prop where
 box : Box w s [.pointer (some p), .pointer (some k), .pointer (some q), sg.v] 36
 pool : PoolAt w p L1 FP
 know : KnowAt w k p GK S FK
 ref : PoolR w q L2 FR
 giv : Rws w 38 1 sg (tmr G)
 pure : Pure w0 w
 hs : Hst w0 H w H w
 oP : ∀ b, FP b → w0.heap.size ≤ b ∧ ¬ H b ∧ b ≠ s.block ∧ ¬ FK b ∧ ¬ FR b ∧ ¬ sg.blk b
 oK : ∀ b, FK b → w0.heap.size ≤ b ∧ ¬ H b ∧ b ≠ s.block ∧ ¬ FR b ∧ ¬ sg.blk b
 oR : ∀ b, FR b → w0.heap.size ≤ b ∧ ¬ H b ∧ b ≠ s.block ∧ ¬ sg.blk b
 oG : ∀ b, sg.blk b → w0.heap.size ≤ b ∧ ¬ H b ∧ b ≠ s.block
 oS : w0.heap.size ≤ s.block ∧ ¬ H s.block
section
variable {w0 w w' : World} {H H' : Nat → Prop} {s p k q : Addr} {sg : Sl} {L1 L2 L' : Sp.Pool} {GK G G' : List Int} {S S' : List Sp.Way} {FP FK FR F' : Nat → Prop}
theorem SideAt.pureE (h : SideAt w0 H w s p k q sg L1 L2 GK G S FP FK FR) (E : Pure w w') : SideAt w0 H w' s p k q sg L1 L2 GK G S FP FK FR :=
 ⟨h.box.pure E, h.pool.pure E, h.know.pure E, h.ref.pure E, h.giv.pure E, h.pure.trans E, h.hs.again E.keptP, h.oP, h.oK, h.oR, h.oG, h.oS⟩
theorem SideAt.hst (h : SideAt w0 H w s p k q sg L1 L2 GK G S FP FK FR) (hs : Hst w0 H w H' w') : SideAt w0 H' w' s p k q sg L1 L2 GK G S FP FK FR := by
 have xP := hs.disj (G := FP) (fun b hb => ⟨h.pool.lt hb, (h.oP b hb).2.1⟩)
 have xK := hs.disj (G := FK) (fun b hb => ⟨h.know.lt hb, (h.oK b hb).2.1⟩)
 have xR := hs.disj (G := FR) (fun b hb => ⟨h.ref.lt hb, (h.oR b hb).2.1⟩)
 have xG := hs.disj (G := sg.blk) (fun b hb => ⟨h.giv.lt hb, (h.oG b hb).2.1⟩)
 have xS := hs.disj (G := (· = s.block)) (fun b hb => by subst hb; exact ⟨h.box.lt, h.oS.2⟩) _ rfl
 exact ⟨h.box.ext hs.ext xS, h.pool.ext hs.ext xP, h.know.ext hs.ext xK, h.ref.ext hs.ext xR, h.giv.ext hs.ext xG, h.pure.hst hs, hs.here, fun b hb => ⟨(h.oP b hb).1, xP b hb, (h.oP b hb).2.2⟩, fun b hb => ⟨(h.oK b hb).1, xK b hb, (h.oK b hb).2.2⟩, fun b hb => ⟨(h.oR b hb).1, xR b hb, (h.oR b hb).2.2⟩, fun b hb => ⟨(h.oG b hb).1, xG b hb, (h.oG b hb).2.2⟩, ⟨h.oS.1, xS⟩⟩
theorem SideAt.prog (h : SideAt w0 H w s p k q sg L1 L2 GK G S FP FK FR) (hP : PoolAt w' p L' F') (E : Ext FP w w') (hF : ∀ b, F' b → FP b ∨ w.heap.size ≤ b) : Kept H w w' ∧ SideAt w0 H w' s p k q sg L' L2 GK G S F' FK FR := by
 have hk : Kept H w w' := E.kept (fun b hb hf => (h.oP b hf).2.1 hb)
 have z := h.pure.size
 have zb := h.box.lt
 refine ⟨hk, h.box.ext E (fun hf => (h.oP _ hf).2.2.1 rfl), hP, h.know.ext E (fun b hb hf => (h.oP b hf).2.2.2.1 hb), h.ref.ext E (fun b hb hf => (h.oP b hf).2.2.2.2.1 hb), h.giv.ext E (fun b hb hf => (h.oP b hf).2.2.2.2.2 hb), h.pure.trans' E (fun i hi hb => by have := (h.oP i hb).1; omega), h.hs.again hk, fun b hb => ?_, h.oK, h.oR, h.oG, h.oS⟩
 rcases hF b hb with h1 | h1
 ·exact h.oP b h1
 ·exact ⟨by omega, fun hh => by have := h.hs.lt b hh; omega, by omega, fun hh => by have := h.know.lt hh; omega, fun hh => by have := h.ref.lt hh; omega, fun hh => by have := h.giv.lt hh; omega⟩
theorem SideAt.doc (h : SideAt w0 H w s p k q sg L1 L2 GK G S FP FK FR) (hP : PoolR w' q L' F') (E : Ext FR w w') (hF : ∀ b, F' b → FR b ∨ w.heap.size ≤ b) : Kept H w w' ∧ SideAt w0 H w' s p k q sg L1 L' GK G S FP FK F' := by
 have hk : Kept H w w' := E.kept (fun b hb hf => (h.oR b hf).2.1 hb)
 have z := h.pure.size
 have zb := h.box.lt
 have nf : ∀ b, b < w.heap.size → ¬ FR b → ¬ F' b := fun b hb h1 h2 => (hF b h2).elim h1 (fun h3 => by omega)
 refine ⟨hk, h.box.ext E (fun hf => (h.oR _ hf).2.2.1 rfl), h.pool.ext E (fun b hb => (h.oP b hb).2.2.2.2.1), h.know.ext E (fun b hb => (h.oK b hb).2.2.2.1), hP, h.giv.ext E (fun b hb hf => (h.oR b hf).2.2.2 hb), h.pure.trans' E (fun i hi hb => by have := (h.oR i hb).1; omega), h.hs.again hk, fun b hb => ⟨(h.oP b hb).1, (h.oP b hb).2.1, (h.oP b hb).2.2.1, (h.oP b hb).2.2.2.1, nf b (h.pool.lt hb) (h.oP b hb).2.2.2.2.1, (h.oP b hb).2.2.2.2.2⟩, fun b hb => ⟨(h.oK b hb).1, (h.oK b hb).2.1, (h.oK b hb).2.2.1, nf b (h.know.lt hb) (h.oK b hb).2.2.2.1, (h.oK b hb).2.2.2.2⟩, fun b hb => ?_, h.oG, h.oS⟩
 rcases hF b hb with h1 | h1
 ·exact h.oR b h1
 ·exact ⟨by omega, fun hh => by have := h.hs.lt b hh; omega, by omega, fun hh => by have := h.giv.lt hh; omega⟩
theorem SideAt.add (h : SideAt w0 H w s p k q sg L1 L2 GK G S FP FK FR) (hK : KnowAt w' k p G' S' F') (E : Ext FK w w') (hF : ∀ b, F' b → FK b ∨ w.heap.size ≤ b) : Kept H w w' ∧ SideAt w0 H w' s p k q sg L1 L2 G' G S' FP F' FR := by
 have hk : Kept H w w' := E.kept (fun b hb hf => (h.oK b hf).2.1 hb)
 have z := h.pure.size
 have zb := h.box.lt
 refine ⟨hk, h.box.ext E (fun hf => (h.oK _ hf).2.2.1 rfl), h.pool.ext E (fun b hb => (h.oP b hb).2.2.2.1), hK, h.ref.ext E (fun b hb hf => (h.oK b hf).2.2.2.1 hb), h.giv.ext E (fun b hb hf => (h.oK b hf).2.2.2.2 hb), h.pure.trans' E (fun i hi hb => by have := (h.oK i hb).1; omega), h.hs.again hk, fun b hb => ⟨(h.oP b hb).1, (h.oP b hb).2.1, (h.oP b hb).2.2.1, fun hf => (hF b hf).elim (h.oP b hb).2.2.2.1 (fun hh => by have := h.pool.lt hb; omega), (h.oP b hb).2.2.2.2⟩, fun b hb => ?_, h.oR, h.oG, h.oS⟩
 rcases hF b hb with h1 | h1
 ·exact h.oK b h1
 ·exact ⟨by omega, fun hh => by have := h.hs.lt b hh; omega, by omega, fun hh => by have := h.ref.lt hh; omega, fun hh => by have := h.giv.lt hh; omega⟩
theorem SideAt.app (h : SideAt w0 H w s p k q sg L1 L2 GK G S FP FK FR) {t : Int} {a : Addr} {w1 : World} (hq : New w (.cells #[.int .i64 t] 38) a w1) (hn : G.length ≤ 1000000) : ∃ s1 w2, (Builtin.append_ #[30, 30] 30 #[sg.v, (Sl.mk (some a) 1 1).v]).run Try.prog w1 = .ok s1.v w2 ∧ Kept H w1 w2 ∧ CanW w2 (s.add 3) ∧
  SideAt w0 H (w2.setCell (s.add 3) s1.v) s p k q s1 L1 L2 GK (G ++ [t]) S FP FK FR := by
 have E1 : Pure w w1 := Ext.new hq
 obtain ⟨s1, w2, hr, hR, hE, hb⟩ := (h.giv.pure E1).append (P := Try.prog) (ty := 30) (c := 1) slT_tm (r := [.int .i64 t]) (Box.of_new hq).row rfl rfl (by rw [tmr_len]; omega) (by rw [tmr_len]; simp [maxLen]; omega)
 have hk : Kept H w1 w2 := hE.kept (fun b hb hs => (h.oG b hs).2.1 hb)
 have hbx := (h.box.pure E1).ext hE (fun hs => (h.oG _ hs).2.2 rfl)
 have z1 := E1.size
 have z2 := hE.size
 have z := h.pure.size
 have zb := h.box.lt
 have E3 := Ext.setCell (w := w2) (s.add 3) s1.v
 rw [add_block] at E3
 have hb' : ∀ b, s1.blk b → sg.blk b ∨ w.heap.size ≤ b := fun b h => (hb b h).imp_right (fun h => by omega)
 have nb : ∀ b, w.heap.size ≤ b → ¬ H b := fun b hb hh => by have := h.hs.lt b hh; omega
 refine ⟨s1, w2, hr, hk, hbx.canW (by simp), hbx.set 3 s1.v, ((h.pool.pure E1).ext hE (fun b hb => (h.oP b hb).2.2.2.2.2)).ext E3 (fun b hb => (h.oP b hb).2.2.1), ((h.know.pure E1).ext hE (fun b hb => (h.oK b hb).2.2.2.2)).ext E3 (fun b hb => (h.oK b hb).2.2.1), ((h.ref.pure E1).ext hE (fun b hb => (h.oR b hb).2.2.2)).ext E3 (fun b hb => (h.oR b hb).2.2.1), ?_, ?_, ((h.hs.again E1.keptP).again hk).again (E3.kept (fun b hb e => h.oS.2 (e ▸ hb))),
  fun b hb => ⟨(h.oP b hb).1, (h.oP b hb).2.1, (h.oP b hb).2.2.1, (h.oP b hb).2.2.2.1, (h.oP b hb).2.2.2.2.1, fun hh => (hb' b hh).elim (h.oP b hb).2.2.2.2.2 (fun h3 => by have := h.pool.lt hb; omega)⟩, fun b hb => ⟨(h.oK b hb).1, (h.oK b hb).2.1, (h.oK b hb).2.2.1, (h.oK b hb).2.2.2.1, fun hh => (hb' b hh).elim (h.oK b hb).2.2.2.2 (fun h3 => by have := h.know.lt hb; omega)⟩, fun b hb => ⟨(h.oR b hb).1, (h.oR b hb).2.1, (h.oR b hb).2.2.1, fun hh => (hb' b hh).elim (h.oR b hb).2.2.2 (fun h3 => by have := h.ref.lt hb; omega)⟩, fun b hb => ?_, h.oS⟩
 ·rw [show tmr (G ++ [t]) = tmr G ++ [[.int .i64 t]] by simp [tmr]]
  refine hR.ext E3 (fun b hb' e => ?_)
  rcases hb b hb' with h1 | h1
  ·exact (h.oG b h1).2.2 e
  ·omega
 ·exact ((h.pure.trans E1).trans' hE (fun i hi hs => by have := (h.oG i hs).1; omega)).trans' E3 (fun i hi e => by have := h.oS.1; omega)
 ·rcases hb' b hb with h1 | h1
  ·exact h.oG b h1
  ·exact ⟨by omega, nb b (by omega), by omega⟩
end
theorem c_law09_given {ST : Nat → Prop} (ts : List Sp.Tree) (sT : Sl) (w0 : World) (hT : TreeAt ST w0 sT (.mk 0 0 0 0 ⟨#[]⟩ ts)) (hS : ∀ b, ST b → b < w0.heap.size) (hn : ts.length ≤ 1000) (hc : Sp.cntAll ts ≤ 900000) :
  Calls Try.prog 15 #[sT.v] w0 (fun e w' => ∃ r1 : Option Addr, ∃ r2 : Bool, e = .returned (.tuple #[.pointer r1, .bool r2]) ∧ ∃ s p k q sg S FP FK FR, r1 = some s ∧ r2 = true ∧ SideAt w0 None w' s p k q sg (Sp.sideAll ts).1 (Sp.sideAll ts).1 (Sp.sideAll ts).2 (Sp.sideAll ts).2 S FP FK FR ∧ Sp.KnowOk (Sp.sideAll ts).1 (Sp.sideAll ts).2 S) := by
 suffices key : ∀ K : Option Addr → Bool → World → Prop, (∀ s p k q sg S FP FK FR H w', SideAt w0 H w' s p k q sg (Sp.sideAll ts).1 (Sp.sideAll ts).1 (Sp.sideAll ts).2 (Sp.sideAll ts).2 S FP FK FR → Sp.KnowOk (Sp.sideAll ts).1 (Sp.sideAll ts).2 S → K (some s) true w') → m_law09_given sT w0 K by
  refine (w_law09_given _ w0 (fun r1 r2 w' => ∃ s p k q sg S FP FK FR H, r1 = some s ∧ r2 = true ∧ SideAt w0 H w' s p k q sg (Sp.sideAll ts).1 (Sp.sideAll ts).1 (Sp.sideAll ts).2 (Sp.sideAll ts).2 S FP FK FR ∧ Sp.KnowOk (Sp.sideAll ts).1 (Sp.sideAll ts).2 S) (key _ (fun s p k q sg S FP FK FR H w' h hk => ⟨s, p, k, q, sg, S, FP, FK, FR, H, rfl, rfl, h, hk⟩))).mono ?_
  rintro _ w' ⟨r1, r2, rfl, s, p, k, q, sg, S, FP, FK, FR, H, rfl, rfl, h, hk⟩
  exact ⟨_, _, rfl, s, p, k, q, sg, S, FP, FK, FR, rfl, rfl, ⟨h.box, h.pool, h.know, h.ref, h.giv, h.pure, (Hst.start w0).again (h.pure.keptP), fun b hb => ⟨(h.oP b hb).1, id, (h.oP b hb).2.2⟩, fun b hb => ⟨(h.oK b hb).1, id, (h.oK b hb).2.2⟩, fun b hb => ⟨(h.oR b hb).1, id, (h.oR b hb).2.2⟩, fun b hb => ⟨(h.oG b hb).1, id, (h.oG b hb).2.2⟩, ⟨h.oS.1, id⟩⟩, hk⟩
 intro K hK
 have hnil : ∀ b, ¬ Sl.nil.blk b := fun b hb => by obtain ⟨a, h, _⟩ := hb; cases h
 cases hT with
 | mk _ _ _ _ _ _ _ rs len fit row kid =>
 unfold m_law09_given
 refine (c_New w0).mono ?_
 rintro _ w1 ⟨_, rfl, p, rfl, E1, FP, hP1, hFP⟩
 refine ⟨_, rfl, E1.keptP, ?_⟩
 refine (c_ref05_New w1).mono ?_
 rintro _ w2 ⟨_, rfl, q, FR, rfl, hR2, E2, hFR⟩
 refine ⟨_, rfl, E2.keptP, ?_⟩
 intro s w3 n3
 have E3 : Pure w2 w3 := Ext.new n3
 have B3 := Box.of_new n3
 refine ⟨some p, B3.cell0, ?_⟩
 refine (c_ded_New p w3).mono ?_
 rintro _ w4 ⟨_, rfl, k, FK, rfl, hK4, E4, hFK⟩
 have B4 := B3.pure E4
 refine ⟨_, rfl, E4.keptP, B4.canW (by simp), id, ?_⟩
 intro w5 hw5
 have X5 : Ext (· = s.block) w4 w5 := by rw [hw5, ← add_block s 1]; exact Ext.setCell (s.add 1) _
 have B5 : Box w5 s [.pointer (some p), .pointer (some k), .pointer (some q), Sl.nil.v] 36 := by rw [hw5]; exact B4.set 1 (.pointer (some k))
 clear hw5
 have z1 := E1.size
 have z2 := E2.size
 have z3 := E3.size
 have z4 := E4.size
 have zs := n3.at_size
 have zl := B3.lt
 have lP := fun b (hb : FP b) => hP1.lt hb
 have lR := fun b (hb : FR b) => hR2.lt hb
 have E04 : Pure w0 w4 := ((E1.trans E2).trans E3).trans E4
 have E05 : Pure w0 w5 := E04.own (by omega) X5
 have S0 : SideAt w0 None w5 s p k q Sl.nil [] [] [] [] [] FP FK FR :=
  ⟨B5, ((hP1.pure ((E2.trans E3).trans E4)).ext X5 (fun b hb e => by have := lP b hb; omega)), hK4.ext X5 (fun b hb e => by have := hFK b hb; omega), ((hR2.pure (E3.trans E4)).ext X5 (fun b hb e => by have := lR b hb; omega)), Rws.nil _ _ _, E05, (Hst.start w0).again E05.keptP,
   fun b hb => ⟨hFP b hb, id, by have := lP b hb; omega, fun h => by have := lP b hb; have := hFK b h; omega, fun h => by have := lP b hb; have := hFR b h; omega, hnil b⟩, fun b hb => ⟨by have := hFK b hb; omega, id, by have := hFK b hb; omega, fun h => by have := hFK b hb; have := lR b h; omega, hnil b⟩, fun b hb => ⟨by have := hFR b hb; omega, id, by have := lR b hb; omega, hnil b⟩, fun b hb => (hnil b hb).elim, ⟨by omega, id⟩⟩
 refine ⟨some p, B5.cell0, Br.f rfl ⟨some k, B5.cell rfl, ?_⟩⟩
 unfold m_law09_given_j1
 refine Br.f rfl ?_
 refine ⟨fun i H w => ∃ (j : Nat) (sg : Sl) (S : List Sp.Way) (FP FK FR : Nat → Prop), i = j ∧ j ≤ ts.length ∧ SideAt w0 H w s p k q sg (Sp.sideAll (ts.take j)).1 (Sp.sideAll (ts.take j)).1 (Sp.sideAll (ts.take j)).2 (Sp.sideAll (ts.take j)).2 S FP FK FR ∧ Sp.KnowOk (Sp.sideAll (ts.take j)).1 (Sp.sideAll (ts.take j)).2 S, fun i _ => ((ts.length : Int) - i).toNat, ⟨0, Sl.nil, [], FP, FK, FR, rfl, Nat.zero_le _, S0, Sp.KnowOk.nil _⟩, ?_⟩
 clear S0 B5 E05 E04 lP lR X5 B4 B3 hK4 hR2 hP1 hFK hFR hFP FP FK FR
 rintro _ H wl hl ⟨j, sg, S, FP, FK, FR, rfl, hj, hA, hk⟩
 unfold m_law09_given_l2
 refine ⟨fun h => ?_, fun h => ?_⟩
 ·have hlt := lt_of_dec len h
  have htk : ts.take (j + 1) = ts.take j ++ [ts[j]] := List.take_succ_eq_append_getElem hlt
  have hstep : Sp.sideAll (ts.take (j + 1)) = Sp.sideStep (Sp.sideAll (ts.take j)) ts[j] := by rw [htk, Sp.sideAll_snoc]
  have hW := Sp.sideAll_wf (ts.take j)
  have hgl := Sp.sideAll_len (ts.take j)
  rw [List.length_take, Nat.min_eq_left (by omega)] at hgl
  have hcx : Sp.cnt ts[j] ≤ 900000 := by
   have h1 : ∀ (ts : List Sp.Tree) (i : Nat) (hi : i < ts.length), Sp.cnt ts[i] ≤ Sp.cntAll ts := by
    intro ts
    induction ts with
    | nil => intro i hi; simp at hi
    | cons t ts ih =>
     intro i hi
     rw [Sp.cntAll]
     cases i with
     | zero => simp
     | succ i => have := ih i (by simpa using hi); simp; omega
   have := h1 ts j hlt; omega
  generalize Sp.sideAll (ts.take j) = Q at *
  obtain ⟨L, G⟩ := Q
  simp only at hA hk hW hgl
  obtain ⟨a, hat, hSa, hrow⟩ := row j hlt
  have hkid := kid j hlt
  generalize ts[j] = x at *
  generalize rs j = sx at *
  have hrowT : ∀ {w}, Pure w0 w → Row w a (trow x sx) := fun E => E.row hrow (fun h => h)
  obtain ⟨xk, xf, xt, xu, xx, xks⟩ := x
  have hAd := hA.pureE (Ext.drew wl)
  refine ⟨fun w => Box w s [.pointer (some p), .pointer (some k), .pointer (some q), sg.v] 36 ∧ Row w a (trow (.mk xk xf xt xu xx xks) sx), ⟨hAd.box, hrowT hAd.pure⟩, ?_⟩
  rintro _ rfl
  refine ⟨some p, fun _ h => h.1.cell0, a, hat, _, _, _, _, _, sx, fun _ h => h.2, ?_⟩
  refine (c_ref05_Lent (.mk xk xf xt xu xx xks) sx wl.drew (by omega) (hkid.pure hAd.pure) (fun b hb => by have := hS b hb; have := hAd.pure.size; omega)).mono ?_
  rintro _ w7 ⟨s', rfl, hT7, E7⟩
  have A7 := hAd.pureE E7
  refine ⟨_, _, _, _, _, s', rfl, ⟨A7.box, hrowT A7.pure⟩, E7.keptP, ?_⟩
  refine (c_Of (S := fun b => wl.drew.heap.size ≤ b ∧ b < w7.heap.size) p (.mk xk xf xt xu xx xks) s' w7 hT7.lt A7.pool hW.ok (fun b hb hh => by have := hAd.pool.lt hb; omega) (fun b hb => hb.2)).mono ?_
  rintro _ w8 ⟨r4, r5, rfl, h45, FP', hP8, X8, hF8⟩
  obtain ⟨k8, A8⟩ := A7.prog hP8 X8 hF8
  refine ⟨_, _, rfl, ⟨A8.box, hrowT A8.pure⟩, k8, ?_⟩
  have A9 := A8.pureE (Ext.drew w8)
  refine ⟨fun w => Box w s [.pointer (some p), .pointer (some k), .pointer (some q), sg.v] 36 ∧ Row w a (trow (.mk xk xf xt xu xx xks) sx), ⟨A9.box, hrowT A9.pure⟩, ?_⟩
  rintro _ rfl
  refine ⟨some q, fun _ h => h.1.cell rfl, a, hat, _, _, _, _, _, sx, fun _ h => h.2, ?_⟩
  refine (c_ref05_Of (S := ST) q (.mk xk xf xt xu xx xks) sx w8.drew (hkid.pure A9.pure) A9.ref hW.ok (fun b hb hh => by have := (A9.oR b hb).1; have := hS b hh; omega) (fun b hb => by have := hS b hb; have := A9.pure.size; omega)).mono ?_
  rintro _ w10 ⟨r6, r7, rfl, h67, FR', hR10, X10, hF10⟩
  obtain ⟨k10, A10⟩ := A9.doc hR10 X10 hF10
  refine ⟨_, _, rfl, ⟨A10.box, hrowT A10.pure⟩, k10, ?_⟩
  obtain ⟨M, hM⟩ := Sp.of_grows hW.ok (.mk xk xf xt xu xx xks)
  have hWx := Sp.of_wf hW (.mk xk xf xt xu xx xks)
  have htr := Sp.of_tree hW (x := .mk xk xf xt xu xx xks)
  rw [Sp.sideStep] at hstep
  simp only at hstep
  have hkM : Sp.KnowOk (Sp.of L (.mk xk xf xt xu xx xks)).2.2 G S := by rw [hM]; exact hk.app
  generalize Sp.of L (.mk xk xf xt xu xx xks) = R at *
  obtain ⟨t, er, L'⟩ := R
  simp only at h45 h67 hM hWx htr hstep hkM A10
  cases h45
  cases h67
  refine Br.f (by simp) ⟨fun h => ?_, fun h => ?_⟩
  ·intro H1 w12 hs12
   rw [if_pos (by simpa using h)] at hstep
   rw [wrap_succ hlt (by omega)]
   refine ⟨⟨j + 1, sg, S, FP', FK, FR', rfl, hlt, ?_, ?_⟩, lt_dec hlt⟩
   ·rw [hstep]; exact A10.hst hs12
   ·rw [hstep]; exact hkM
  ·intro H1 w12 hs12
   have her : r5 = 0 := by simpa using h
   rw [if_neg (by simpa using her)] at hstep
   have A12 := A10.hst hs12
   have hin := (htr her).1
   have hgT := Sp.giveT_in (G := G) hin
   refine ⟨fun there i H w => ∃ n : Nat, i = n ∧ n ≤ G.length ∧ there = decide (r4 ∈ G.take n) ∧ SideAt w0 H w s p k q sg L' L' G G S FP' FK FR', fun _ i _ => ((G.length : Int) - i).toNat, ⟨0, rfl, Nat.zero_le _, by simp, A12⟩, ?_⟩
   rintro there _ H2 w2 hs2 ⟨n, rfl, hnG, hth, B⟩
   unfold m_law09_given_l3
   have hsl : sg.len = G.length := by rw [B.giv.len, tmr_len]
   refine ⟨sg, B.box.cell rfl, fun h => ?_, fun h => ?_⟩
   ·have hltn := lt_of_dec hsl h
    have htk : G.take (n + 1) = G.take n ++ [G[n]] := List.take_succ_eq_append_getElem hltn
    refine ⟨fun h => ?_, fun h => ?_⟩
    ·unfold m_law09_given_j4
     rw [wrap_succ hltn (by omega)]
     refine ⟨⟨n + 1, rfl, hltn, ?_, B⟩, lt_dec hltn⟩
     rw [h] at hth
     rw [htk, eq_comm, decide_eq_true_eq]
     exact List.mem_append_left _ (by simpa using hth.symm)
    ·obtain ⟨ad, had, _, hcell⟩ := tm_nth B.giv.lst hltn
     refine ⟨sg, B.box.cell rfl, ad, had, _, hcell, ?_⟩
     unfold m_law09_given_j4
     rw [wrap_succ hltn (by omega)]
     refine ⟨⟨n + 1, rfl, hltn, ?_, B⟩, lt_dec hltn⟩
     rw [h] at hth
     have hnot : r4 ∉ G.take n := by simpa using hth.symm
     rw [htk, Bool.eq_iff_iff]
     simp only [beq_iff_eq, decide_eq_true_eq, List.mem_append, List.mem_singleton]
     exact ⟨fun e => .inr e.symm, fun e => e.elim (fun h => absurd h hnot) (fun h => h.symm)⟩
   ·have hge := eq_of_dec hsl hnG h
    subst hge
    rw [List.take_length] at hth
    have fin : ∀ {sg' : Sl} {w : World} {G' : List Int}, Sp.addT G r4 = G' → SideAt w0 H2 w s p k q sg' L' L' G G' S FP' FK FR' → ∃ v : Option Addr, w.cell? (s.add 1) = some (.pointer v) ∧ Calls Try.prog 56 #[.pointer v, .int .i64 r4] w (fun e w' => ∃ r : Int, e = .returned (.int .i64 r) ∧ Kept H2 w w' ∧ ((∃ (j' : Nat) (sg : Sl) (S : List Sp.Way) (FP FK FR : Nat → Prop), IntKind.i64.wrap ((j : Int) + 1) = j' ∧ j' ≤ ts.length ∧ SideAt w0 H2 w' s p k q sg (Sp.sideAll (ts.take j')).1 (Sp.sideAll (ts.take j')).1 (Sp.sideAll (ts.take j')).2 (Sp.sideAll (ts.take j')).2 S FP FK FR ∧ Sp.KnowOk (Sp.sideAll (ts.take j')).1 (Sp.sideAll (ts.take j')).2 S) ∧ ((ts.length : Int) - IntKind.i64.wrap ((j : Int) + 1)).toNat < ((ts.length : Int) - j).toNat)) := by
     intro sg' w G' hG C
     refine ⟨some k, C.box.cell rfl, ?_⟩
     refine (c_ded_Add k p r4 w C.know C.pool hWx (fun b hb hf => (C.oP b hf).2.2.2.1 hb) hkM).mono ?_
     rintro _ w' ⟨r, rfl, _, S', F', hK', ok', X', hF'⟩
     obtain ⟨kk, D⟩ := C.add hK' X' hF'
     rw [wrap_succ hlt (by omega)]
     rw [hgT] at D ok'
     refine ⟨r, rfl, kk, ⟨j + 1, sg', S', FP', F', FR', rfl, hlt, ?_, ?_⟩, lt_dec hlt⟩
     ·rw [hstep]; subst hG; exact D
     ·rw [hstep]; exact ok'
    refine ⟨fun h => ?_, fun h => ?_⟩
    ·have hnot : r4 ∉ G := by rw [hth] at h; simpa using h
     refine ⟨sg, B.box.cell rfl, ?_⟩
     intro p2 w14 n14
     obtain ⟨s1, w15, hr15, k15, cw, C⟩ := B.app n14 (by omega)
     refine ⟨s1, w15, hr15, k15, cw, by rw [add_block]; exact B.oS.2, ?_⟩
     rintro _ rfl
     exact fin (by unfold Sp.addT; rw [if_neg hnot]) C
    ·have hyes : r4 ∈ G := by rw [hth] at h; simpa using h
     exact fin (by unfold Sp.addT; rw [if_pos hyes]) B
 ·have hge := eq_of_dec len hj h
  subst hge
  rw [List.take_length] at hA hk
  exact hK _ _ _ _ _ _ _ _ _ _ _ hA hk
end Go.Proofs
end
section
open Go Go.SE
namespace Go.Proofs
attribute [local irreducible] Calls
def dishes (c c1 c2 : Addr) : List (Int × Value) :=
 [(0, .func (.func 138) #[] #[.pointer (some c1)]), (1, .func (.func 139) #[] #[.pointer (some c2)]), (2, .func (.func 140) #[] #[.pointer (some c2)]),
  (3, .func (.func 141) #[] #[.pointer (some c2)]), (4, .func (.func 143) #[] #[.pointer (some c1), .pointer (some c2)]), (5, .func (.func 145) #[] #[.pointer (some c1), .pointer (some c2)]),
  (6, .func (.func 146) #[] #[.pointer (some c1)]), (7, .func (.func 148) #[] #[.pointer (some c1)]), (8, .func (.func 149) #[.pointer (some c)] #[]),
  (9, .func (.func 150) #[] #[.pointer (some c1), .pointer (some c2)]), (10, .func (.func 152) #[] #[.pointer (some c1), .pointer (some c2)]), (11, .func (.func 155) #[] #[.pointer (some c1), .pointer (some c2)])]
section
variable {w0 : World} {c p c1 c2 : Addr} {sg sm : Sl} {G M : List Int} (hC : CookS w0 c p sg sm G M)
variable (h1 : w0.cell? c1 = some (.pointer (some c))) (h2 : w0.cell? c2 = some (.pointer (some p)))
variable {L : Sp.Pool} {F : Nat → Prop} (hP : PoolAt w0 p L F) (hok : Sp.Ok L)
abbrev DoK (p : Addr) (F : Nat → Prop) (w : World) (R : Sp.Res) (r1 r2 : Int) (w' : World) : Prop := (r1, r2) = (R.1, R.2.1) ∧ ∃ F', PoolAt w' p R.2.2 F' ∧ Ext F w w' ∧ ∀ b, F' b → F b ∨ w.heap.size ≤ b
theorem DoK.pre {p : Addr} {F : Nat → Prop} {w w1 w' : World} {R : Sp.Res} {r1 r2 : Int} (E : Pure w w1) (h : DoK p F w1 R r1 r2 w') : DoK p F w R r1 r2 w' := by
 obtain ⟨h1, F', h2, h3, h4⟩ := h
 exact ⟨h1, F', h2, E.pure.trans h3, fun b hb => (h4 b hb).imp_right (fun h => by have := E.size; omega)⟩
include hC h1 hP in
theorem c_dish0 (o : Sp.Op) : Calls Try.prog 138 #[opv o, .pointer (some c1)] w0 (DoPost p F w0 (Sp.knownOp L G o)) := by
 obtain ⟨co, oa, ob, on, ox⟩ := o
 refine w_recipe_cook_kitchen_1 co oa ob on ox _ w0 (DoK p F w0 (Sp.knownOp L G ⟨co, oa, ob, on, ox⟩)) ?_
 unfold m_recipe_cook_kitchen_1
 have hl : sg.len = G.length := by rw [hC.giv.len, tmr_len]
 have no : ∀ H w, Hst w0 None w0 H w → Sp.atM G oa = none → DoK p F w0 (Sp.knownOp L G ⟨co, oa, ob, on, ox⟩) 0 90 w := fun H w hs hn => by
  have e : Sp.knownOp L G ⟨co, oa, ob, on, ox⟩ = Sp.noOp L := by unfold Sp.knownOp; simp only; rw [hn]
  rw [e]
  exact ⟨rfl, F, hP.pure hs.first, hs.first.pure, fun b hb => .inl hb⟩
 refine ⟨fun h => fun H w hs => ?_, fun h => fun H w hs => ?_⟩
 ·unfold m_recipe_cook_kitchen_1_j1
  exact Br.t rfl (no H w hs (Sp.atM_out (.inl (of_decide_eq_true h))))
 ·have h := of_decide_eq_false h
  have C := hC.pure hs.first
  refine ⟨some c, (hs.first).cell h1 (fun h => h), c, rfl, sg, C.box.cell rfl, ?_⟩
  unfold m_recipe_cook_kitchen_1_j1
  refine ⟨fun h3 => no H w hs (Sp.atM_out (.inr (by have := of_decide_eq_true h3; omega))), fun h3 => ?_⟩
  have h3 := of_decide_eq_false h3
  intro w2 hs2
  have E2 := hs.first.hst hs2
  have C2 := hC.pure E2
  have e : Sp.atM G oa = some (G[oa.toNat]'(by omega)) := Sp.atM_in (by omega) (by omega)
  obtain ⟨a, ha, hc⟩ := tms_nth C2.giv e
  refine ⟨some c, E2.cell h1 (fun h => h), c, rfl, sg, C2.box.cell rfl, a, ha, _, hc, ?_⟩
  have e2 : Sp.knownOp L G ⟨co, oa, ob, on, ox⟩ = (G[oa.toNat]'(by omega), 0, L) := by unfold Sp.knownOp; simp only; rw [e]
  rw [e2]
  exact ⟨rfl, F, hP.pure E2, E2.pure, fun b hb => .inl hb⟩
include h2 hP hok in
theorem c_dish1 (o : Sp.Op) : Calls Try.prog 139 #[opv o, .pointer (some c2)] w0 (DoPost p F w0 (Sp.make L ⟨1, o.a, 0, 0, ⟨#[]⟩, 0, 0⟩)) := by
 obtain ⟨co, oa, ob, on, ox⟩ := o
 refine w_recipe_cook_kitchen_2 _ _ _ _ _ _ w0 (DoK p F w0 (Sp.make L ⟨1, oa, 0, 0, ⟨#[]⟩, 0, 0⟩)) ?_
 unfold m_recipe_cook_kitchen_2
 intro H1 w1 hs1
 refine ⟨some p, hs1.first.cell h2 (fun h => h), ?_⟩
 refine (c_Name p w1 (hP.pure hs1.first) hok oa).mono ?_
 rintro _ w2 ⟨r1, r2, rfl, h⟩
 exact ⟨r1, r2, rfl, h.2.elim (fun F' h => h.2.1.kept (fun b hb hx => by have := hs1.old b hb; have := hP.lt hx; omega)), DoK.pre hs1.first h⟩
include h2 hP hok in
theorem c_dish2 (o : Sp.Op) : Calls Try.prog 140 #[opv o, .pointer (some c2)] w0 (DoPost p F w0 (Sp.make L ⟨2, 0, 0, o.num, ⟨#[]⟩, 0, 0⟩)) := by
 obtain ⟨co, oa, ob, on, ox⟩ := o
 refine w_recipe_cook_kitchen_3 _ _ _ _ _ _ w0 (DoK p F w0 (Sp.make L ⟨2, 0, 0, on, ⟨#[]⟩, 0, 0⟩)) ?_
 unfold m_recipe_cook_kitchen_3
 intro H1 w1 hs1
 refine ⟨some p, hs1.first.cell h2 (fun h => h), ?_⟩
 refine (c_Num p w1 (hP.pure hs1.first) hok on).mono ?_
 rintro _ w2 ⟨r1, r2, rfl, h⟩
 exact ⟨r1, r2, rfl, h.2.elim (fun F' h => h.2.1.kept (fun b hb hx => by have := hs1.old b hb; have := hP.lt hx; omega)), DoK.pre hs1.first h⟩
include h2 hP hok in
theorem c_dish3 (o : Sp.Op) : Calls Try.prog 141 #[opv o, .pointer (some c2)] w0 (DoPost p F w0 (Sp.make L ⟨3, 0, 0, 0, o.text, 0, 0⟩)) := by
 obtain ⟨co, oa, ob, on, ox⟩ := o
 refine w_recipe_cook_kitchen_4 _ _ _ _ _ _ w0 (DoK p F w0 (Sp.make L ⟨3, 0, 0, 0, ox, 0, 0⟩)) ?_
 unfold m_recipe_cook_kitchen_4
 intro H1 w1 hs1
 refine ⟨some p, hs1.first.cell h2 (fun h => h), ?_⟩
 refine (c_Data p w1 (hP.pure hs1.first) hok ox).mono ?_
 rintro _ w2 ⟨r1, r2, rfl, h⟩
 exact ⟨r1, r2, rfl, h.2.elim (fun F' h => h.2.1.kept (fun b hb hx => by have := hs1.old b hb; have := hP.lt hx; omega)), DoK.pre hs1.first h⟩
include hC h1 h2 hP hok in
theorem c_dish4 (o : Sp.Op) : Calls Try.prog 143 #[opv o, .pointer (some c1), .pointer (some c2)] w0 (DoPost p F w0 (Sp.pairOp L M o)) := by
 obtain ⟨co, oa, ob, on, ox⟩ := o
 refine w_recipe_cook_kitchen_5 _ _ _ _ _ _ _ w0 (DoK p F w0 (Sp.pairOp L M ⟨co, oa, ob, on, ox⟩)) ?_
 unfold m_recipe_cook_kitchen_5
 intro H1 w1 hs1
 have E1 := hs1.first
 refine ⟨some c, E1.cell h1 (fun h => h), ?_⟩
 refine (c_cook_at (hC.pure E1) oa).mono ?_
 rintro _ w1 ⟨ra, oka, rfl, hra, rfl⟩
 refine ⟨_, _, rfl, Kept.refl _, some c, E1.cell h1 (fun h => h), ?_⟩
 refine (c_cook_at (hC.pure E1) ob).mono ?_
 rintro _ w1 ⟨rb, okb, rfl, hrb, rfl⟩
 refine ⟨_, _, rfl, Kept.refl _, ?_⟩
 unfold Sp.pairOp
 simp only
 have no : ∀ H w, Hst w0 H1 w1 H w → DoK p F w0 (Sp.noOp L) 0 90 w := fun H w hs => ⟨rfl, F, hP.pure (E1.hst hs), (E1.hst hs).pure, fun b hb => .inl hb⟩
 cases hta : Sp.atM M oa with
 | none =>
  rw [hta] at hra; obtain ⟨rfl, rfl⟩ := hra
  exact Br.t (by simp) (fun H w hs => no H w hs)
 | some a =>
  rw [hta] at hra; obtain ⟨rfl, rfl⟩ := hra
  simp only
  cases htb : Sp.atM M ob with
  | none =>
   rw [htb] at hrb; obtain ⟨rfl, rfl⟩ := hrb
   exact Br.t (by simp) (fun H w hs => no H w hs)
  | some b =>
   rw [htb] at hrb; obtain ⟨rfl, rfl⟩ := hrb
   simp only
   refine Br.f rfl (fun H w hs => ⟨some p, (E1.hst hs).cell h2 (fun h => h), ?_⟩)
   refine (c_Pair p w (hP.pure (E1.hst hs)) hok ra rb).mono ?_
   rintro _ w2 ⟨r1, r2, rfl, h⟩
   exact ⟨r1, r2, rfl, h.2.elim (fun F' h => h.2.1.kept (fun b hb hx => by have := hs.old b hb; have := hP.lt hx; omega)), DoK.pre (E1.hst hs) h⟩
include hC h1 h2 hP hok in
theorem c_dish5 (o : Sp.Op) : Calls Try.prog 145 #[opv o, .pointer (some c1), .pointer (some c2)] w0 (DoPost p F w0 (Sp.hashOp L M o)) := by
 obtain ⟨co, oa, ob, on, ox⟩ := o
 refine w_recipe_cook_kitchen_6 _ _ _ _ _ _ _ w0 (DoK p F w0 (Sp.hashOp L M ⟨co, oa, ob, on, ox⟩)) ?_
 unfold m_recipe_cook_kitchen_6
 intro H1 w1 hs1
 have E1 := hs1.first
 refine ⟨some c, E1.cell h1 (fun h => h), ?_⟩
 refine (c_cook_at (hC.pure E1) oa).mono ?_
 rintro _ w1 ⟨ra, oka, rfl, hra, rfl⟩
 refine ⟨_, _, rfl, Kept.refl _, ?_⟩
 unfold Sp.hashOp
 simp only
 cases hta : Sp.atM M oa with
 | none =>
  rw [hta] at hra; obtain ⟨rfl, rfl⟩ := hra
  exact Br.t rfl ⟨rfl, F, hP.pure E1, E1.pure, fun b hb => .inl hb⟩
 | some a =>
  rw [hta] at hra; obtain ⟨rfl, rfl⟩ := hra
  simp only
  refine Br.f rfl ⟨some p, E1.cell h2 (fun h => h), ?_⟩
  refine (c_Hash p _ (hP.pure E1) hok ra).mono ?_
  rintro _ w2 ⟨r1, r2, rfl, h⟩
  exact ⟨r1, r2, rfl, h.2.elim (fun F' h => h.2.1.kept (fun b hb hx => by have := hs1.old b hb; have := hP.lt hx; omega)), DoK.pre E1 h⟩
include hC h1 hP hok in
theorem c_dish6 (o : Sp.Op) : Calls Try.prog 146 #[opv o, .pointer (some c1)] w0 (DoPost p F w0 (Sp.partOp L M o false)) := by
 obtain ⟨co, oa, ob, on, ox⟩ := o
 refine w_recipe_cook_kitchen_7 _ _ _ _ _ _ w0 (DoK p F w0 (Sp.partOp L M ⟨co, oa, ob, on, ox⟩ false)) ?_
 unfold m_recipe_cook_kitchen_7
 intro H1 w1 hs1
 have E1 := hs1.first
 refine ⟨some c, E1.cell h1 (fun h => h), ?_⟩
 refine (c_cook_part (hC.pure E1) (hP.pure E1) hok ⟨co, oa, ob, on, ox⟩ false).mono ?_
 rintro _ w2 ⟨r1, r2, rfl, h⟩
 exact ⟨r1, r2, rfl, h.2.elim (fun F' h => h.2.1.kept (fun b hb hx => by have := hs1.old b hb; have := hP.lt hx; omega)), DoK.pre E1 h⟩
include hC h1 hP hok in
theorem c_dish7 (o : Sp.Op) : Calls Try.prog 148 #[opv o, .pointer (some c1)] w0 (DoPost p F w0 (Sp.partOp L M o true)) := by
 obtain ⟨co, oa, ob, on, ox⟩ := o
 refine w_recipe_cook_kitchen_8 _ _ _ _ _ _ w0 (DoK p F w0 (Sp.partOp L M ⟨co, oa, ob, on, ox⟩ true)) ?_
 unfold m_recipe_cook_kitchen_8
 intro H1 w1 hs1
 have E1 := hs1.first
 refine ⟨some c, E1.cell h1 (fun h => h), ?_⟩
 refine (c_cook_part (hC.pure E1) (hP.pure E1) hok ⟨co, oa, ob, on, ox⟩ true).mono ?_
 rintro _ w2 ⟨r1, r2, rfl, h⟩
 exact ⟨r1, r2, rfl, h.2.elim (fun F' h => h.2.1.kept (fun b hb hx => by have := hs1.old b hb; have := hP.lt hx; omega)), DoK.pre E1 h⟩
include hC h1 h2 hP hok in
theorem c_dish9 (o : Sp.Op) : Calls Try.prog 150 #[opv o, .pointer (some c1), .pointer (some c2)] w0 (DoPost p F w0 (Sp.keyedOp L M o (fun k a => ⟨7, k, 0, 0, ⟨#[]⟩, a, 0⟩))) := by
 obtain ⟨co, oa, ob, on, ox⟩ := o
 refine w_recipe_cook_kitchen_9 _ _ _ _ _ _ _ w0 (DoK p F w0 (Sp.keyedOp L M ⟨co, oa, ob, on, ox⟩ (fun k a => ⟨7, k, 0, 0, ⟨#[]⟩, a, 0⟩))) ?_
 unfold m_recipe_cook_kitchen_9
 intro H1 w1 hs1
 have E1 := hs1.first
 refine ⟨some c, E1.cell h1 (fun h => h), some p, E1.cell h2 (fun h => h), ?_⟩
 refine (c_cook_keyed (hC.pure E1) (hP.pure E1) hok ⟨co, oa, ob, on, ox⟩ 101 #[.pointer (some p)] #[] (fun k a => ⟨7, k, 0, 0, ⟨#[]⟩, a, 0⟩) Try.call101 (fun k a w' E' => ?_)).mono ?_
 ·exact c_Sign p w' ((hP.pure E1).pure E') hok k a
 rintro _ w2 ⟨r1, r2, rfl, h⟩
 exact ⟨r1, r2, rfl, h.2.elim (fun F' h => h.2.1.kept (fun b hb hx => by have := hs1.old b hb; have := hP.lt hx; omega)), DoK.pre E1 h⟩
variable (hd : ¬ F c2.block)
include hC h1 h2 hP hok hd in
theorem c_dish10 (o : Sp.Op) : Calls Try.prog 152 #[opv o, .pointer (some c1), .pointer (some c2)] w0 (DoPost p F w0 (Sp.keyedOp L M o (fun k a => ⟨8, k, Sp.nameOf o.num, 0, ⟨#[]⟩, a, 0⟩))) := by
 obtain ⟨co, oa, ob, on, ox⟩ := o
 refine w_recipe_cook_kitchen_10 co oa ob on ox _ _ w0 (DoK p F w0 (Sp.keyedOp L M ⟨co, oa, ob, on, ox⟩ (fun k a => ⟨8, k, Sp.nameOf on, 0, ⟨#[]⟩, a, 0⟩))) ?_
 unfold m_recipe_cook_kitchen_10
 intro p1 w1 hn1
 have E1 : Pure w0 w1 := Ext.new hn1
 have B1 := Box.of_new hn1
 refine ⟨some c, E1.cell h1 (fun h => h), _, _, _, _, _, B1.row, ?_⟩
 refine (c_cook_keyed (hC.pure E1) (hP.pure E1) hok ⟨co, oa, ob, on, ox⟩ 153 #[] #[.pointer (some c2), .pointer (some p1)] (fun k a => ⟨8, k, Sp.nameOf on, 0, ⟨#[]⟩, a, 0⟩) Try.call153 (fun k a w' E' => ?_)).mono ?_
 ·refine w_recipe_cook_kitchen_10_1 k a _ _ w' (DoK p F w' (Sp.make L ⟨8, k, Sp.nameOf on, 0, ⟨#[]⟩, a, 0⟩)) ?_
  unfold m_recipe_cook_kitchen_10_1
  have hcc : w'.cell? c2 = some (.pointer (some p)) := (E1.trans E').cell h2 (fun h => h)
  have hcp : w'.cell? (p1.add 3) = some (.int .u64 on) := (B1.pure E').cell rfl
  have hpf : ¬ F (p1.add 3).block := fun h => by rw [add_block] at h; have := hP.lt h; have := hn1.at_size; omega
  have Ed : Pure w' w'.drew := Ext.drew w'
  have keep : ∀ {X : Nat → Prop} {a b : World}, (a.cell? c2 = some (.pointer (some p)) ∧ a.cell? (p1.add 3) = some (.int .u64 on)) → Ext X a b → (∀ b, X b → F b) → b.cell? c2 = some (.pointer (some p)) ∧ b.cell? (p1.add 3) = some (.int .u64 on) := fun h E hx => ⟨E.cell h.1 (fun hh => hd (hx _ hh)), E.cell h.2 (fun hh => hpf (hx _ hh))⟩
  have C1 := keep ⟨hcc, hcp⟩ Ed (fun _ h => h.elim)
  refine ⟨fun w => w.cell? c2 = some (.pointer (some p)) ∧ w.cell? (p1.add 3) = some (.int .u64 on), C1, ?_⟩
  rintro _ rfl
  refine ⟨some p, fun _ h => h.1, on, fun _ h => h.2, ?_⟩
  refine (p_recipe_name on _).mono ?_
  rintro _ w2 ⟨rfl, E2⟩
  have C2 := keep C1 E2 (fun _ h => h.elim)
  refine ⟨_, rfl, C2, E2.keptP, ?_⟩
  refine (c_Prom p w2 (hP.pure (((E1.trans E').trans Ed).trans E2)) hok k (s_recipe_name on) a).mono ?_
  rintro _ w3 ⟨r1, r2, rfl, h⟩
  exact ⟨r1, r2, rfl, h.2.elim (fun F' h => keep C2 h.2.1 (fun _ h => h)), h.2.elim (fun F' h => h.2.1.kept (fun b hb hx => hb.elim)), DoK.pre (Ed.trans E2) h⟩
 rintro _ w2 ⟨r1, r2, rfl, h⟩
 exact ⟨r1, r2, rfl, DoK.pre E1 h⟩
include hC h1 h2 hP hok hd in
theorem c_dish11 (o : Sp.Op) : Calls Try.prog 155 #[opv o, .pointer (some c1), .pointer (some c2)] w0 (DoPost p F w0 (Sp.keyedOp L M o (fun k a => ⟨9, Sp.nameOf o.num, k, 0, ⟨#[]⟩, a, 0⟩))) := by
 obtain ⟨co, oa, ob, on, ox⟩ := o
 refine w_recipe_cook_kitchen_11 co oa ob on ox _ _ w0 (DoK p F w0 (Sp.keyedOp L M ⟨co, oa, ob, on, ox⟩ (fun k a => ⟨9, Sp.nameOf on, k, 0, ⟨#[]⟩, a, 0⟩))) ?_
 unfold m_recipe_cook_kitchen_11
 intro p1 w1 hn1
 have E1 : Pure w0 w1 := Ext.new hn1
 have B1 := Box.of_new hn1
 refine ⟨some c, E1.cell h1 (fun h => h), _, _, _, _, _, B1.row, ?_⟩
 refine (c_cook_keyed (hC.pure E1) (hP.pure E1) hok ⟨co, oa, ob, on, ox⟩ 156 #[] #[.pointer (some c2), .pointer (some p1)] (fun k a => ⟨9, Sp.nameOf on, k, 0, ⟨#[]⟩, a, 0⟩) Try.call156 (fun k a w' E' => ?_)).mono ?_
 ·refine w_recipe_cook_kitchen_11_1 k a _ _ w' (DoK p F w' (Sp.make L ⟨9, Sp.nameOf on, k, 0, ⟨#[]⟩, a, 0⟩)) ?_
  unfold m_recipe_cook_kitchen_11_1
  have hcc : w'.cell? c2 = some (.pointer (some p)) := (E1.trans E').cell h2 (fun h => h)
  have hcp : w'.cell? (p1.add 3) = some (.int .u64 on) := (B1.pure E').cell rfl
  have hpf : ¬ F (p1.add 3).block := fun h => by rw [add_block] at h; have := hP.lt h; have := hn1.at_size; omega
  have Ed : Pure w' w'.drew := Ext.drew w'
  have keep : ∀ {X : Nat → Prop} {a b : World}, (a.cell? c2 = some (.pointer (some p)) ∧ a.cell? (p1.add 3) = some (.int .u64 on)) → Ext X a b → (∀ b, X b → F b) → b.cell? c2 = some (.pointer (some p)) ∧ b.cell? (p1.add 3) = some (.int .u64 on) := fun h E hx => ⟨E.cell h.1 (fun hh => hd (hx _ hh)), E.cell h.2 (fun hh => hpf (hx _ hh))⟩
  have C1 := keep ⟨hcc, hcp⟩ Ed (fun _ h => h.elim)
  refine ⟨fun w => w.cell? c2 = some (.pointer (some p)) ∧ w.cell? (p1.add 3) = some (.int .u64 on), C1, ?_⟩
  rintro _ rfl
  refine ⟨some p, fun _ h => h.1, on, fun _ h => h.2, ?_⟩
  refine (p_recipe_name on _).mono ?_
  rintro _ w2 ⟨rfl, E2⟩
  have C2 := keep C1 E2 (fun _ h => h.elim)
  refine ⟨_, rfl, C2, E2.keptP, ?_⟩
  refine (c_Fake p w2 (hP.pure (((E1.trans E').trans Ed).trans E2)) hok (s_recipe_name on) k a).mono ?_
  rintro _ w3 ⟨r1, r2, rfl, h⟩
  exact ⟨r1, r2, rfl, h.2.elim (fun F' h => keep C2 h.2.1 (fun _ h => h)), h.2.elim (fun F' h => h.2.1.kept (fun b hb hx => hb.elim)), DoK.pre (Ed.trans E2) h⟩
 rintro _ w2 ⟨r1, r2, rfl, h⟩
 exact ⟨r1, r2, rfl, DoK.pre E1 h⟩
include hC h1 h2 hP hok hd in
theorem c_dish (o : Sp.Op) : (SE.look (dishes c c1 c2) o.code = none → Sp.doOp L G M o = Sp.noOp L) ∧
  ∀ v, SE.look (dishes c c1 c2) o.code = some v → ∃ (f : FuncId) (fs cs : Array Value), v = .func (.func f) fs cs ∧ (∀ args w, (callFunc f args).run Try.prog w = .ok (.enter f args) w) ∧ Calls Try.prog f (fs ++ #[opv o] ++ cs) w0 (DoPost p F w0 (Sp.doOp L G M o)) := by
 have d0 := c_dish0 hC h1 hP o
 have d1 := c_dish1 h2 hP hok o
 have d2 := c_dish2 h2 hP hok o
 have d3 := c_dish3 h2 hP hok o
 have d4 := c_dish4 hC h1 h2 hP hok o
 have d5 := c_dish5 hC h1 h2 hP hok o
 have d6 := c_dish6 hC h1 hP hok o
 have d7 := c_dish7 hC h1 hP hok o
 have d8 := c_cook_shown hC hP hok o
 have d9 := c_dish9 hC h1 h2 hP hok o
 have d10 := c_dish10 hC h1 h2 hP hok hd o
 have d11 := c_dish11 hC h1 h2 hP hok hd o
 generalize hk : o.code = k
 unfold Sp.doOp dishes
 rw [hk]
 have step : ∀ (n : Int) (u : Value) (M' : List (Int × Value)) (R R' : Sp.Res), (∃ (f : FuncId) (fs cs : Array Value), u = .func (.func f) fs cs ∧ (∀ args w, (callFunc f args).run Try.prog w = .ok (.enter f args) w) ∧ Calls Try.prog f (fs ++ #[opv o] ++ cs) w0 (DoPost p F w0 R)) →
   ((SE.look M' k = none → R' = Sp.noOp L) ∧ ∀ v, SE.look M' k = some v → ∃ (f : FuncId) (fs cs : Array Value), v = .func (.func f) fs cs ∧ (∀ args w, (callFunc f args).run Try.prog w = .ok (.enter f args) w) ∧ Calls Try.prog f (fs ++ #[opv o] ++ cs) w0 (DoPost p F w0 R')) →
   ((SE.look ((n, u) :: M') k = none → (if k = n then R else R') = Sp.noOp L) ∧ ∀ v, SE.look ((n, u) :: M') k = some v → ∃ (f : FuncId) (fs cs : Array Value), v = .func (.func f) fs cs ∧ (∀ args w, (callFunc f args).run Try.prog w = .ok (.enter f args) w) ∧ Calls Try.prog f (fs ++ #[opv o] ++ cs) w0 (DoPost p F w0 (if k = n then R else R'))) := by
  intro n u M' R R' h h'
  rw [SE.look]
  by_cases e : k = n
  ·rw [if_pos e.symm, if_pos e]
   exact ⟨fun h => (by cases h), fun v hv => by cases hv; exact h⟩
  ·rw [if_neg (fun e' => e e'.symm), if_neg e]
   exact h'
 refine step 0 _ _ _ _ ⟨_, _, _, rfl, Try.call138, d0⟩ ?_
 refine step 1 _ _ _ _ ⟨_, _, _, rfl, Try.call139, d1⟩ ?_
 refine step 2 _ _ _ _ ⟨_, _, _, rfl, Try.call140, d2⟩ ?_
 refine step 3 _ _ _ _ ⟨_, _, _, rfl, Try.call141, d3⟩ ?_
 refine step 4 _ _ _ _ ⟨_, _, _, rfl, Try.call143, d4⟩ ?_
 refine step 5 _ _ _ _ ⟨_, _, _, rfl, Try.call145, d5⟩ ?_
 refine step 6 _ _ _ _ ⟨_, _, _, rfl, Try.call146, d6⟩ ?_
 refine step 7 _ _ _ _ ⟨_, _, _, rfl, Try.call148, d7⟩ ?_
 refine step 8 _ _ _ _ ⟨_, _, _, rfl, Try.call149, d8⟩ ?_
 refine step 9 _ _ _ _ ⟨_, _, _, rfl, Try.call150, d9⟩ ?_
 refine step 10 _ _ _ _ ⟨_, _, _, rfl, Try.call152, d10⟩ ?_
 refine step 11 _ _ _ _ ⟨_, _, _, rfl, Try.call155, d11⟩ ?_
 exact ⟨fun _ => rfl, fun v hv => by cases hv⟩
end
theorem c_cook_kitchen {w0 : World} {c p : Addr} {sg sm : Sl} {G M : List Int} (hC : CookS w0 c p sg sm G M) : Calls Try.prog 114 #[.pointer (some c)] w0
  (fun e w' => ∃ r : Option Nat, e = .returned (.map r) ∧ ∃ m c1 c2, r = some m ∧ IMap id w' m (dishes c c1 c2) ∧ Box w' c1 [.pointer (some c)] 169 ∧ Box w' c2 [.pointer (some p)] 32 ∧ m ≠ c1.block ∧ m ≠ c2.block ∧ w0.heap.size ≤ m ∧ w0.heap.size ≤ c1.block ∧ w0.heap.size ≤ c2.block ∧ Pure w0 w') := by
 refine w_recipe_cook_kitchen _ w0 (fun r w' => ∃ m c1 c2, r = some m ∧ IMap id w' m (dishes c c1 c2) ∧ Box w' c1 [.pointer (some c)] 169 ∧ Box w' c2 [.pointer (some p)] 32 ∧ m ≠ c1.block ∧ m ≠ c2.block ∧ w0.heap.size ≤ m ∧ w0.heap.size ≤ c1.block ∧ w0.heap.size ≤ c2.block ∧ Pure w0 w') ?_
 unfold m_recipe_cook_kitchen
 intro p1 w1 n1
 have E1 : Pure w0 w1 := Ext.new n1
 have B1 := Box.of_new n1
 refine ⟨some c, B1.cell0, c, rfl, some p, (hC.pure E1).box.cell0, ?_⟩
 intro p2 w2 n2
 have E2 : Pure w1 w2 := Ext.new n2
 have B2 := Box.of_new n2
 refine ⟨B2.canW0 (by simp), ?_⟩
 intro w3 hw3
 have E3 : Ext (· = p2.block) w2 w3 := by rw [hw3]; exact Ext.setCell p2 _
 have B2' : Box w3 p2 [.pointer (some p)] 32 := by rw [hw3]; exact B2.set0
 clear hw3
 have z1 := n1.at_size
 have z2 := n2.at_size
 have s1 := E1.size
 have s2 := E2.size
 have s3 := E3.size
 have l1 := B1.lt
 have l2 := B2.lt
 have B1' := (B1.pure E2).ext E3 (show ¬ p1.block = p2.block by omega)
 have E03 : Pure w0 w3 := (E1.trans E2).own (by omega) E3
 intro p3 w4 n4
 have E4 : Pure w3 w4 := Ext.new n4
 have z4 := n4.at_size
 have M0 : IMap id w4 p3.block [] := IMap.of_new n4
 have put : ∀ {w : World} {M : List (Int × Value)} (k : Int) (v : Value), IMap id w p3.block M → SE.look M k = none → ∃ w', (Instr.mapUpdate 172 (.map (some p3.block)) (.int .i64 k) v).run Try.prog w = .ok () w' ∧ IMap id w' p3.block (M ++ [(k, v)]) ∧ Ext (· = p3.block) w w' := fun k v h hn => h.put (P := Try.prog) (T := 172) (K := 3) Try.underlying172 Try.underlying3 hn v
 obtain ⟨w5, r5, M5, X5⟩ := put 0 (.func (.func 138) #[] #[.pointer (some p1)]) M0 rfl
 refine ⟨w5, r5, ?_⟩
 obtain ⟨w6, r6, M6, X6⟩ := put 1 (.func (.func 139) #[] #[.pointer (some p2)]) M5 rfl
 refine ⟨w6, r6, ?_⟩
 obtain ⟨w7, r7, M7, X7⟩ := put 2 (.func (.func 140) #[] #[.pointer (some p2)]) M6 rfl
 refine ⟨w7, r7, ?_⟩
 obtain ⟨w8, r8, M8, X8⟩ := put 3 (.func (.func 141) #[] #[.pointer (some p2)]) M7 rfl
 refine ⟨w8, r8, ?_⟩
 obtain ⟨w9, r9, M9, X9⟩ := put 4 (.func (.func 143) #[] #[.pointer (some p1), .pointer (some p2)]) M8 rfl
 refine ⟨w9, r9, ?_⟩
 obtain ⟨w10, r10, M10, X10⟩ := put 5 (.func (.func 145) #[] #[.pointer (some p1), .pointer (some p2)]) M9 rfl
 refine ⟨w10, r10, ?_⟩
 obtain ⟨w11, r11, M11, X11⟩ := put 6 (.func (.func 146) #[] #[.pointer (some p1)]) M10 rfl
 refine ⟨w11, r11, ?_⟩
 obtain ⟨w12, r12, M12, X12⟩ := put 7 (.func (.func 148) #[] #[.pointer (some p1)]) M11 rfl
 have X4 : Ext (· = p3.block) w4 w12 := ((((((X5.trans X6).trans X7).trans X8).trans X9).trans X10).trans X11).trans X12
 have B12 := (B1'.pure E4).ext X4 (show ¬ p1.block = p3.block by omega)
 refine ⟨w12, r12, some c, B12.cell0, ?_⟩
 obtain ⟨w13, r13, M13, X13⟩ := put 8 (.func (.func 149) #[.pointer (some c)] #[]) M12 rfl
 refine ⟨w13, r13, ?_⟩
 obtain ⟨w14, r14, M14, X14⟩ := put 9 (.func (.func 150) #[] #[.pointer (some p1), .pointer (some p2)]) M13 rfl
 refine ⟨w14, r14, ?_⟩
 obtain ⟨w15, r15, M15, X15⟩ := put 10 (.func (.func 152) #[] #[.pointer (some p1), .pointer (some p2)]) M14 rfl
 refine ⟨w15, r15, ?_⟩
 obtain ⟨w16, r16, M16, X16⟩ := put 11 (.func (.func 155) #[] #[.pointer (some p1), .pointer (some p2)]) M15 rfl
 have X := ((X4.trans X13).trans X14).trans (X15.trans X16)
 refine ⟨w16, r16, p3.block, p1, p2, rfl, M16, (B1'.pure E4).ext X (show ¬ p1.block = p3.block by omega), (B2'.pure E4).ext X (show ¬ p2.block = p3.block by omega), by omega, by omega, by omega, by omega, by omega, (E03.trans E4).own (by omega) X⟩
end Go.Proofs
end
section
open Go Go.SE
namespace Go.Proofs
attribute [local irreducible] Calls
structure RunS (w0 : World) (H : Nat → Prop) (w : World) (c p c1 c2 : Addr) (m : Nat) (sg sm : Sl) (G M : List Int) (L : Sp.Pool) (F F1 : Nat → Prop) : Prop where
 ck : CookS w c p sg sm G M
 mp : IMap id w m (dishes c c1 c2)
 b1 : Box w c1 [.pointer (some c)] 169
 b2 : Box w c2 [.pointer (some p)] 32
 pool : PoolAt w p L F1
 fr : Ext F w0 w
 hs : Hst w0 H w H w
 oP : ∀ b, F1 b → (F b ∨ w0.heap.size ≤ b) ∧ ¬ H b
 oc : w0.heap.size ≤ c.block ∧ ¬ H c.block ∧ ¬ F1 c.block
 o1 : w0.heap.size ≤ c1.block ∧ ¬ H c1.block ∧ ¬ F1 c1.block ∧ c1.block ≠ c.block
 o2 : w0.heap.size ≤ c2.block ∧ ¬ H c2.block ∧ ¬ F1 c2.block ∧ c2.block ≠ c.block
 om : w0.heap.size ≤ m ∧ ¬ H m ∧ ¬ F1 m ∧ m ≠ c.block
 og : ∀ b, sg.blk b → w0.heap.size ≤ b ∧ ¬ H b ∧ ¬ F1 b ∧ b ≠ c.block
 os : ∀ b, sm.blk b → w0.heap.size ≤ b ∧ ¬ H b ∧ ¬ F1 b ∧ b ≠ c.block ∧ b ≠ c1.block ∧ b ≠ c2.block ∧ b ≠ m ∧ ¬ sg.blk b
section
variable {w0 w w' : World} {H H' : Nat → Prop} {c p c1 c2 : Addr} {m : Nat} {sg sm : Sl} {G M : List Int} {L L' : Sp.Pool} {F F1 F2 : Nat → Prop}
theorem RunS.hst (h : RunS w0 H w c p c1 c2 m sg sm G M L F F1) (hs : Hst w0 H w H' w') : RunS w0 H' w' c p c1 c2 m sg sm G M L F F1 := by
 have xc := hs.disj (G := fun b => CookF c sg sm b) (fun b hb => ⟨h.ck.lt hb, by rcases hb with rfl | hb | hb; exact h.oc.2.1; exact (h.og b hb).2.1; exact (h.os b hb).2.1⟩)
 have xP := hs.disj (G := F1) (fun b hb => ⟨h.pool.lt hb, (h.oP b hb).2⟩)
 have x1 := hs.disj (G := (· = c1.block)) (fun b hb => by subst hb; exact ⟨h.b1.lt, h.o1.2.1⟩) _ rfl
 have x2 := hs.disj (G := (· = c2.block)) (fun b hb => by subst hb; exact ⟨h.b2.lt, h.o2.2.1⟩) _ rfl
 have xm := hs.disj (G := (· = m)) (fun b hb => by subst hb; exact ⟨h.mp.lt, h.om.2.1⟩) _ rfl
 exact ⟨h.ck.ext hs.ext xc, h.mp.ext hs.ext xm, h.b1.ext hs.ext x1, h.b2.ext hs.ext x2, h.pool.ext hs.ext xP, h.fr.hst hs, hs.here, fun b hb => ⟨(h.oP b hb).1, xP b hb⟩, ⟨h.oc.1, xc _ (.inl rfl), h.oc.2.2⟩, ⟨h.o1.1, x1, h.o1.2.2⟩, ⟨h.o2.1, x2, h.o2.2.2⟩, ⟨h.om.1, xm, h.om.2.2⟩,
  fun b hb => ⟨(h.og b hb).1, xc b (.inr (.inl hb)), (h.og b hb).2.2⟩, fun b hb => ⟨(h.os b hb).1, xc b (.inr (.inr hb)), (h.os b hb).2.2⟩⟩
theorem RunS.make (h : RunS w0 H w c p c1 c2 m sg sm G M L F F1) (hP : PoolAt w' p L' F2) (E : Ext F1 w w') (hF : ∀ b, F2 b → F1 b ∨ w.heap.size ≤ b) : Kept H w w' ∧ RunS w0 H w' c p c1 c2 m sg sm G M L' F F2 := by
 have hk : Kept H w w' := E.kept (fun b hb hf => (h.oP b hf).2 hb)
 have z : w0.heap.size ≤ w.heap.size := h.fr.size
 have nf : ∀ b, b < w.heap.size → ¬ F1 b → ¬ F2 b := fun b hb h1 h2 => (hF b h2).elim h1 (fun h3 => by omega)
 refine ⟨hk, h.ck.ext E (fun b hb => by rcases hb with rfl | hb | hb; exact h.oc.2.2; exact (h.og b hb).2.2.1; exact (h.os b hb).2.2.1), h.mp.ext E h.om.2.2.1, h.b1.ext E h.o1.2.2.1, h.b2.ext E h.o2.2.2.1, hP, ?_, h.hs.again hk, fun b hb => ?_, ⟨h.oc.1, h.oc.2.1, nf _ h.ck.box.lt h.oc.2.2⟩, ⟨h.o1.1, h.o1.2.1, nf _ h.b1.lt h.o1.2.2.1, h.o1.2.2.2⟩, ⟨h.o2.1, h.o2.2.1, nf _ h.b2.lt h.o2.2.2.1, h.o2.2.2.2⟩, ⟨h.om.1, h.om.2.1, nf _ h.mp.lt h.om.2.2.1, h.om.2.2.2⟩,
  fun b hb => ⟨(h.og b hb).1, (h.og b hb).2.1, nf _ (h.ck.giv.lt hb) (h.og b hb).2.2.1, (h.og b hb).2.2.2⟩, fun b hb => ⟨(h.os b hb).1, (h.os b hb).2.1, nf _ (h.ck.made.lt hb) (h.os b hb).2.2.1, (h.os b hb).2.2.2⟩⟩
 ·exact h.fr.trans' E (fun i hi hb => (h.oP i hb).1.elim id (fun h => by omega))
 ·rcases hF b hb with h1 | h1
  ·exact h.oP b h1
  ·exact ⟨.inr (by omega), fun hh => by have := h.hs.lt b hh; omega⟩
theorem RunS.app (h : RunS w0 H w c p c1 c2 m sg sm G M L F F1) {t : Int} {q : Addr} {w1 : World} (hq : New w (.cells #[.int .i64 t] 38) q w1) (hn : M.length ≤ 1000000) : ∃ s1 w2, (Builtin.append_ #[30, 30] 30 #[sm.v, (Sl.mk (some q) 1 1).v]).run Try.prog w1 = .ok s1.v w2 ∧ Kept H w1 w2 ∧ CanW w2 (c.add 2) ∧
  RunS w0 H (w2.setCell (c.add 2) s1.v) c p c1 c2 m sg s1 G (M ++ [t]) L F F1 := by
 have E1 : Pure w w1 := Ext.new hq
 obtain ⟨s1, w2, hr, hR, hE, hb⟩ := (h.ck.made.pure E1).append (P := Try.prog) (ty := 30) (c := 1) slT_tm (r := [.int .i64 t]) (Box.of_new hq).row rfl rfl (by rw [tmr_len]; omega) (by rw [tmr_len]; simp [maxLen]; omega)
 have hk : Kept H w1 w2 := hE.kept (fun b hb hs => (h.os b hs).2.1 hb)
 have hbx := (h.ck.box.pure E1).ext hE (fun hs => (h.os _ hs).2.2.2.1 rfl)
 have z1 := E1.size
 have z2 := hE.size
 have z : w0.heap.size ≤ w.heap.size := h.fr.size
 have E3 := Ext.setCell (w := w2) (c.add 2) s1.v
 rw [add_block] at E3
 have hs1 : ∀ b, s1.blk b → w0.heap.size ≤ b ∧ ¬ H b ∧ ¬ F1 b ∧ b ≠ c.block ∧ b ≠ c1.block ∧ b ≠ c2.block ∧ b ≠ m ∧ ¬ sg.blk b := fun b hb' => by
  rcases hb b hb' with h1 | h1
  ·exact h.os b h1
  ·have a0 := h.ck.box.lt; have a1 := h.b1.lt; have a2 := h.b2.lt; have a3 := h.mp.lt
   exact ⟨by omega, fun hh => by have := h.hs.lt b hh; omega, fun hh => by have := h.pool.lt hh; omega, by omega, by omega, by omega, by omega, fun hh => by have := h.ck.giv.lt hh; omega⟩
 refine ⟨s1, w2, hr, hk, hbx.canW (by simp), ⟨hbx.set 2 s1.v, ((h.ck.giv.pure E1).ext hE (fun b hb hs => (h.os b hs).2.2.2.2.2.2.2 hb)).ext E3 (fun b hb e => (h.og b hb).2.2.2 e), ?_⟩, ((h.mp.pure E1).ext hE (fun hs => (h.os _ hs).2.2.2.2.2.2.1 rfl)).ext E3 h.om.2.2.2, ((h.b1.pure E1).ext hE (fun hs => (h.os _ hs).2.2.2.2.1 rfl)).ext E3 h.o1.2.2.2, ((h.b2.pure E1).ext hE (fun hs => (h.os _ hs).2.2.2.2.2.1 rfl)).ext E3 h.o2.2.2.2,
  ((h.pool.pure E1).ext hE (fun b hb hs => (h.os b hs).2.2.1 hb)).ext E3 (fun b hb e => h.oc.2.2 (e ▸ hb)), ?_, (h.hs.again (E1.keptP)).again hk |>.again (E3.kept (fun b hb e => h.oc.2.1 (e ▸ hb))), h.oP, h.oc, h.o1, h.o2, h.om, h.og, hs1⟩
 ·rw [show tmr (M ++ [t]) = tmr M ++ [[.int .i64 t]] by simp [tmr]]
  exact hR.ext E3 (fun b hb e => (hs1 b hb).2.2.2.1 e)
 ·exact ((h.fr.thenPure E1).trans' hE (fun i hi hs => by have := (h.os i hs).1; omega)).trans' E3 (fun i hi e => by have := h.oc.1; omega)
end
structure RanK (w0 : World) (p : Addr) (F : Nat → Prop) (R : List Int × Int × Sp.Pool) (s : Sl) (r2 : Int) (w' : World) : Prop where
 err : r2 = R.2.1
 pool : ∃ F', PoolAt w' p R.2.2 F' ∧ (∀ b, F' b → F b ∨ w0.heap.size ≤ b) ∧ ∀ b, s.blk b → ¬ F' b
 rows : Rws w' 38 1 s (tmr R.1)
 own : ∀ b, s.blk b → w0.heap.size ≤ b
 fr : Ext F w0 w'
theorem RunS.done {w0 w : World} {H : Nat → Prop} {c p c1 c2 : Addr} {m : Nat} {sg sm : Sl} {G M : List Int} {L : Sp.Pool} {F F1 : Nat → Prop} (h : RunS w0 H w c p c1 c2 m sg sm G M L F F1) {R : List Int × Int × Sp.Pool} {e : Int} (hR : R = (M, e, L)) : RanK w0 p F R sm e w := by
 subst hR
 exact ⟨rfl, ⟨F1, h.pool, fun b hb => (h.oP b hb).1, fun b hb => (h.os b hb).2.2.1⟩, h.ck.made, fun b hb => (h.os b hb).1, h.fr⟩
theorem c_recipe_run {Sl0 : Nat → Prop} (p k : Addr) (sl : Sl) (l : List Sp.Op) (w0 : World) {L : Sp.Pool} {G : List Int} {S : List Sp.Way} {F FK : Nat → Prop} (hW : Sp.Wf L) (hP : PoolAt w0 p L F) (hK : KnowAt w0 k p G S FK) (hl : Lst Sl0 w0 5 sl (l.map oprow)) (hS0 : ∀ b, Sl0 b → b < w0.heap.size ∧ ¬ F b) (hG : G.length ≤ 1000000) (hn : l.length ≤ 1000) :
  Calls Try.prog 66 #[.pointer (some p), .pointer (some k), sl.v] w0 (fun e w' => ∃ s : Sl, ∃ r2 : Int, e = .returned (.tuple #[s.v, .int .i64 r2]) ∧ RanK w0 p F (Sp.runOps L G [] l) s r2 w') := by
 refine w_recipe_run _ _ _ w0 (fun s r2 w' => RanK w0 p F (Sp.runOps L G [] l) s r2 w') ?_
 unfold m_recipe_run
 refine (c_ded_Given k p w0 hK hG).mono ?_
 rintro _ w1 ⟨sg, rfl, hg⟩
 refine ⟨sg, rfl, hg.kept, ?_⟩
 intro c w2 n2
 have E2 : Pure w1 w2 := Ext.new n2
 have B2 := Box.of_new n2
 have hnil : ∀ b, ¬ Sl.nil.blk b := fun b hb => by obtain ⟨a, h, _⟩ := hb; cases h
 have C2 : CookS w2 c p sg Sl.nil G [] := ⟨B2, hg.rows.pure E2, Rws.nil _ _ _⟩
 refine (c_cook_kitchen C2).mono ?_
 rintro _ w3 ⟨_, rfl, m, c1, c2, rfl, hM, hb1, hb2, hm1, hm2, z1, z2, z3, E3⟩
 refine ⟨_, rfl, E3.keptP, ?_⟩
 have E03 : Pure w0 w3 := (hg.pure.trans E2).trans E3
 have q0 := hg.pure.size
 have q1 := n2.at_size
 have q2 := E2.size
 have q3 := E3.size
 have q4 := B2.lt
 have R3 : RunS w0 None w3 c p c1 c2 m sg Sl.nil G [] L F F := by
  refine ⟨C2.pure E3, hM, hb1, hb2, hP.pure E03, E03.pure, (Hst.start w0).again E03.keptP, fun b hb => ⟨.inl hb, fun h => h⟩, ⟨by omega, fun h => h, fun h => by have := hP.lt h; omega⟩, ⟨by omega, fun h => h, fun h => by have := hP.lt h; omega, by omega⟩, ⟨by omega, fun h => h, fun h => by have := hP.lt h; omega, by omega⟩, ⟨by omega, fun h => h, fun h => by have := hP.lt h; omega, by omega⟩, fun b hb => ⟨hg.own b hb, fun h => h, fun h => by have := hP.lt h; have := hg.own b hb; omega, ?_⟩, fun b hb => (hnil b hb).elim⟩
  have := hg.rows.lt hb; omega
 refine ⟨fun x H w => ∃ (j : Nat) (M : List Int) (L1 : Sp.Pool) (sm : Sl) (F1 : Nat → Prop), x = j ∧ j ≤ l.length ∧ M.length = j ∧ Sp.Wf L1 ∧ Sp.runOps L G [] l = Sp.runOps L1 G M (l.drop j) ∧ RunS w0 H w c p c1 c2 m sg sm G M L1 F F1, fun x _ => ((l.length : Int) - x).toNat, ⟨0, [], L, Sl.nil, F, rfl, Nat.zero_le _, rfl, hW, rfl, R3⟩, ?_⟩
 rintro _ H w _ ⟨j, M, L1, sm, F1, rfl, hj, hMj, hW1, hrun, R⟩
 unfold m_recipe_run_l1
 have hll : sl.len = l.length := by rw [hl.len]; simp
 refine ⟨fun h => ?_, fun h => ?_⟩
 ·have hlt := lt_of_dec hll h
  obtain ⟨a, hat, hSa, hrow⟩ := hl.nth hlt
  have hrow' : Row w a (oprow l[j]) := R.fr.row hrow (hS0 _ hSa).2
  refine ⟨a, hat, l[j].code, l[j].a, l[j].b, l[j].num, l[j].text, hrow', ?_⟩
  intro H1 w5 hs5
  have R5 := R.hst hs5
  rw [Sp.runOps_step hlt] at hrun
  have hok1 := hW1.ok
  have dish := c_dish R5.ck R5.b1.cell0 R5.b2.cell0 R5.pool hok1 R5.o2.2.2.1 l[j]
  generalize l[j] = o at *
  rcases R5.mp.get (P := Try.prog) (T := 172) Try.underlying172 Try.underlying3 (Try.zeroValue175 _) o.code true with ⟨g1, g2⟩ | ⟨v, g1, g2⟩
  ·refine ⟨_, _, g2, Br.t rfl ⟨sm, R5.ck.box.cell rfl, ?_⟩⟩
   rw [dish.1 g1] at hrun
   exact R5.done hrun
  ·obtain ⟨f1, fs, cs, rfl, hf, hc⟩ := dish.2 v g1
   refine ⟨_, _, g2, Br.f rfl ⟨f1, fs, cs, rfl, hf, ?_⟩⟩
   refine hc.mono ?_
   rintro _ w6 ⟨r3, r4, rfl, hr, F2, hP2, X2, hF2⟩
   obtain ⟨k6, R6⟩ := R5.make hP2 X2 hF2
   have hW2 := Sp.doOp_wf hW1 G M o
   generalize Sp.doOp L1 G M o = D at *
   obtain ⟨d1, d2, L2⟩ := D
   simp only [Prod.mk.injEq] at hr
   obtain ⟨rfl, rfl⟩ := hr
   simp only at hrun R6 hW2
   refine ⟨_, _, rfl, k6, fun h => ?_, fun h => ?_⟩
   ·rw [if_pos (by simpa using h)] at hrun
    exact ⟨sm, R6.ck.box.cell rfl, R6.done hrun⟩
   ·rw [if_neg (by simpa using h)] at hrun
    refine ⟨sm, R6.ck.box.cell rfl, ?_⟩
    intro q w7 n7
    obtain ⟨s1, w8, hr8, k8, cw, R9⟩ := R6.app n7 (by omega)
    refine ⟨s1, w8, hr8, k8, cw, by rw [add_block]; exact R6.oc.2.1, ?_⟩
    rintro _ rfl
    rw [wrap_succ hlt (by omega)]
    exact ⟨⟨j + 1, M ++ [_], L2, s1, F2, rfl, hlt, by simp [hMj], hW2, hrun, R9⟩, lt_dec hlt⟩
 ·have hge := eq_of_dec hll hj h
  subst hge
  refine ⟨sm, R.ck.box.cell rfl, R.done ?_⟩
  rw [hrun, List.drop_length]; rfl
theorem refuses_eq {p k : Addr} {sl : Sl} {n : Nat} (h : sl.len = n) : s_recipe_refuses (some p) (some k) sl = (if n > 256 then 6 else if n = 0 then 3 else 0) := by
 unfold s_recipe_refuses
 rw [h]
 simp only [Option.isNone_some, Bool.or_self, cond_false]
 by_cases h1 : n > 256
 ·rw [if_pos h1, decide_eq_true (by omega)]; rfl
 ·rw [if_neg h1, decide_eq_false (by omega)]
  by_cases h2 : n = 0
  ·subst h2; rfl
  ·rw [if_neg h2, show (((n : Int) == 0) = false) from by simpa using h2]; rfl
abbrev EvalK (w0 : World) (p : Addr) (F : Nat → Prop) (R : Int × Int × Int × Sp.Pool) (r1 r2 r3 : Int) (w' : World) : Prop := (r1, r2, r3) = (R.1, R.2.1, R.2.2.1) ∧ ∃ F', PoolAt w' p R.2.2.2 F' ∧ Ext F w0 w' ∧ ∀ b, F' b → F b ∨ w0.heap.size ≤ b
section
variable {Sl0 : Nat → Prop} (p k : Addr) (sl : Sl) (l : List Sp.Op) (w0 : World) {L : Sp.Pool} {G : List Int} {S : List Sp.Way} {F FK : Nat → Prop} (hW : Sp.Wf L) (hP : PoolAt w0 p L F) (hK : KnowAt w0 k p G S FK) (hl : Lst Sl0 w0 5 sl (l.map oprow)) (hS0 : ∀ b, Sl0 b → b < w0.heap.size ∧ ¬ F b) (hG : G.length ≤ 1000000) (hn : l.length ≤ 1000)
include hW hP hK hl hS0 hG hn
theorem c_recipe_Eval : Calls Try.prog 18 #[.pointer (some p), .pointer (some k), sl.v] w0 (fun e w' => ∃ r1 : Int, ∃ r2 : Int, ∃ r3 : Int, e = .returned (.tuple #[.int .i64 r1, .int .i64 r2, .int .i64 r3]) ∧ EvalK w0 p F (Sp.evalOps L G l) r1 r2 r3 w') := by
 refine w_recipe_Eval _ _ _ w0 (EvalK w0 p F (Sp.evalOps L G l)) ?_
 unfold m_recipe_Eval
 have hll : sl.len = l.length := by rw [hl.len]; simp
 rw [refuses_eq hll]
 unfold Sp.evalOps
 by_cases h1 : l.length > 256
 ·rw [if_pos h1, if_pos h1]
  exact Br.t rfl (fun w1 hs1 => ⟨rfl, F, hP.pure hs1.first, hs1.first.pure, fun b hb => .inl hb⟩)
 rw [if_neg h1, if_neg h1]
 by_cases h2 : l.length = 0
 ·rw [if_pos h2, if_pos h2]
  exact Br.t rfl (fun w1 hs1 => ⟨rfl, F, hP.pure hs1.first, hs1.first.pure, fun b hb => .inl hb⟩)
 rw [if_neg h2, if_neg h2]
 refine Br.f rfl (fun w1 hs1 => ?_)
 have E1 := hs1.first
 refine (c_recipe_run p k sl l w1 hW (hP.pure E1) (hK.pure E1) (hl.pure E1) (fun b hb => ⟨by have := (hS0 b hb).1; have := E1.size; omega, (hS0 b hb).2⟩) hG hn).mono ?_
 rintro _ w2 ⟨s, r2, rfl, hR⟩
 obtain ⟨he, ⟨F', hP', hF', hdj⟩, hrows, hown, X⟩ := hR
 refine ⟨s, r2, rfl, X.kept (fun b hb => hb.elim), ?_⟩
 have hlen := Sp.runOps_len G l L []
 have fin : ∃ F', PoolAt w2 p (Sp.runOps L G [] l).2.2 F' ∧ Ext F w0 w2 ∧ ∀ b, F' b → F b ∨ w0.heap.size ≤ b := ⟨F', hP', E1.pure.trans X, fun b hb => (hF' b hb).imp_right (fun h => by have := E1.size; omega)⟩
 generalize Sp.runOps L G [] l = R at *
 obtain ⟨M, e, L2⟩ := R
 simp only at he hrows hlen fin hP'
 subst he
 simp only [List.length_nil, Nat.zero_add] at hlen
 have hsl : s.len = M.length := by rw [hrows.len, tmr_len]
 refine ⟨fun h => ?_, fun h => ?_⟩
 ·rw [if_pos (by simpa using h)]
  exact ⟨by rw [hsl], fin⟩
 ·have h0 : r2 = 0 := by simpa using h
  rw [if_neg (by simpa using h0)]
  have hM := hlen.2 h0
  have hne : M ≠ [] := fun e => by rw [e] at hM; simp at hM; omega
  rw [show IntKind.i64.wrap ((s.len : Int) - 1) = (((l.length - 1 : Nat)) : Int) by rw [hsl, hM, IntWalk.i64_in _ (by omega)]; omega]
  have hat : Sp.atM M ((l.length - 1 : Nat) : Int) = some (M.getLast hne) := by
   rw [Sp.atM_in (by omega) (by omega)]
   simp [List.getLast_eq_getElem, hM]
  obtain ⟨a, ha, hc⟩ := tms_nth hrows hat
  refine ⟨a, ha, _, hc, ?_, fin⟩
  rw [List.getLast?_eq_some_getLast hne]; rfl
theorem c_recipe_Trace : Calls Try.prog 16 #[.pointer (some p), .pointer (some k), sl.v] w0 (fun e w' => ∃ s : Sl, e = .returned s.v ∧ RanK w0 p F ((Sp.traceOps L G l).1, 0, (Sp.traceOps L G l).2) s 0 w') := by
 refine w_recipe_Trace _ _ _ w0 (fun s w' => RanK w0 p F ((Sp.traceOps L G l).1, 0, (Sp.traceOps L G l).2) s 0 w') ?_
 unfold m_recipe_Trace
 have hll : sl.len = l.length := by rw [hl.len]; simp
 have hnil : ∀ b, ¬ Sl.nil.blk b := fun b hb => by obtain ⟨a, h, _⟩ := hb; cases h
 have no : ∀ w1, Hst w0 None w0 None w1 → RanK w0 p F ([], 0, L) Sl.nil 0 w1 := fun w1 hs1 => ⟨rfl, ⟨F, hP.pure hs1.first, fun b hb => .inl hb, fun b hb => (hnil b hb).elim⟩, Rws.nil _ _ _, fun b hb => (hnil b hb).elim, hs1.first.pure⟩
 rw [refuses_eq hll]
 unfold Sp.traceOps
 by_cases h1 : l.length > 256
 ·rw [if_pos h1, if_pos h1]
  exact Br.t rfl no
 rw [if_neg h1, if_neg h1]
 by_cases h2 : l.length = 0
 ·rw [if_pos h2, if_pos h2]
  exact Br.t rfl no
 rw [if_neg h2, if_neg h2]
 refine Br.f rfl (fun w1 hs1 => ?_)
 have E1 := hs1.first
 refine (c_recipe_run p k sl l w1 hW (hP.pure E1) (hK.pure E1) (hl.pure E1) (fun b hb => ⟨by have := (hS0 b hb).1; have := E1.size; omega, (hS0 b hb).2⟩) hG hn).mono ?_
 rintro _ w2 ⟨s, r2, rfl, hR⟩
 obtain ⟨he, ⟨F', hP', hF', hdj⟩, hrows, hown, X⟩ := hR
 have z := E1.size
 exact ⟨s, r2, rfl, X.kept (fun b hb => hb.elim), rfl, ⟨F', hP', fun b hb => (hF' b hb).imp_right (fun h => by omega), hdj⟩, hrows, fun b hb => by have := hown b hb; omega, E1.pure.trans X⟩
end
end Go.Proofs
end
section
namespace Go.Sp
end Go.Sp
end
section
namespace Go.Sp
end Go.Sp
end
section
open Go Go.SE
namespace Go.Sp
def l9t : List Tree := [.mk 7 0 0 0 ⟨#[]⟩ [.mk 2 0 0 1 ⟨#[]⟩ []], .mk 6 0 0 0 ⟨#[]⟩ []]
def l9p : Pool := [⟨⟨2, 0, 0, 1, ⟨#[]⟩, 0, 0⟩, 1, 1⟩, ⟨⟨7, 0, 0, 0, ⟨#[]⟩, 1, 0⟩, 2, 2⟩, ⟨⟨6, 0, 0, 0, ⟨#[]⟩, 0, 0⟩, 1, 1⟩]
def l9a : List Op := [⟨0, 0, 0, 0, ⟨#[]⟩⟩, ⟨8, 0, 0, 0, ⟨#[]⟩⟩, ⟨5, 1, 0, 0, ⟨#[]⟩⟩, ⟨0, 1, 0, 0, ⟨#[]⟩⟩, ⟨9, 2, 3, 0, ⟨#[]⟩⟩]
def l9b : List Op := [⟨0, 0, 0, 0, ⟨#[]⟩⟩, ⟨6, 0, 0, 0, ⟨#[]⟩⟩]
def l9q : Pool := l9p ++ [⟨⟨5, 0, 0, 0, ⟨#[]⟩, 1, 0⟩, 2, 2⟩, ⟨⟨7, 0, 0, 0, ⟨#[]⟩, 4, 0⟩, 3, 3⟩]
theorem l9s : sideAll l9t = (l9p, [2, 3]) := by kernel_rfl
theorem l9e : evalOps l9p [2, 3] l9a = (5, 0, 0, l9q) := by kernel_rfl
theorem l9f : evalOps l9q [2, 3] l9b = (0, 90, 1, l9q) := by kernel_rfl
theorem l9n : nodeOf l9q 5 = ⟨7, 0, 0, 0, ⟨#[]⟩, 4, 0⟩ := by kernel_rfl
end Go.Sp
namespace Go.Proofs
attribute [local irreducible] Calls
theorem Lst.of_box {w : World} {p : Addr} {T : TypeId} {sz : Nat} (rs : List (List Value)) (hsz : ∀ r ∈ rs, r.length = sz) (h : Box w p rs.flatten T) : Lst (· = p.block) w sz ⟨some p, rs.length, rs.length⟩ rs := by
 refine ⟨rfl, fun i hi => ⟨p.add (i * sz), ⟨by omega, by show (i : Int) < (rs.length : Int); omega, p, rfl, rfl⟩, by rw [add_block], fun j hj => ?_⟩⟩
 have hl := hsz _ (List.getElem_mem hi)
 rw [add_add, List.getElem?_eq_getElem hj]
 refine h.cell ?_
 rw [flatten_get hsz hi (by omega), List.getElem?_eq_getElem hj]
theorem oprow_sz (l : List Sp.Op) : ∀ q ∈ l.map oprow, q.length = 5 := by intro q hq; obtain ⟨o, _, rfl⟩ := List.mem_map.1 hq; rfl
theorem oprow_one (l : List Sp.Op) : ∀ q ∈ l.map oprow, q.all oneCell = true := by intro q hq; obtain ⟨o, _, rfl⟩ := List.mem_map.1 hq; rfl
theorem c_live9 (w0 : World) : Calls Try.prog 14 #[] w0 (fun e w' => ∃ r : Bool, e = .returned (.bool r) ∧ (r = true ∧ Pure w0 w')) := by
 refine w_law09_live w0 (fun r w' => r = true ∧ Pure w0 w') ?_
 unfold m_law09_live
 intro p1 w1 n1 p2 w2 n2
 have E1 : Pure w0 w1 := Ext.new n1
 have E2 : Pure w1 w2 := Ext.new n2
 have hT : TreeAt (fun b => b = p1.block ∨ b = p2.block) w2 ⟨some p2, 2, 2⟩ (.mk 0 0 0 0 ⟨#[]⟩ Sp.l9t) :=
  TreeAt.pair (A := .mk 7 0 0 0 ⟨#[]⟩ [.mk 2 0 0 1 ⟨#[]⟩ []]) (B := .mk 6 0 0 0 ⟨#[]⟩ []) (sa := ⟨some p1, 1, 1⟩) (sb := Sl.nil) (Box.of_new n2) (.inr rfl) (TreeAt.one (A := .mk 2 0 0 1 ⟨#[]⟩ []) (sa := Sl.nil) ((Box.of_new n1).pure E2) (.inl rfl) TreeAt.leaf) TreeAt.leaf
 have z1 := (Box.of_new n1).lt
 have z2 := (Box.of_new n2).lt
 have y2 := E2.size
 refine (c_law09_given (ST := fun b => b = p1.block ∨ b = p2.block) Sp.l9t ⟨some p2, 2, 2⟩ w2 hT (fun b hb => by rcases hb with rfl | rfl <;> omega) (by decide) (by decide)).mono ?_
 rintro _ w3 ⟨_, _, rfl, s, p, k, q, sg, S, FP, FK, FR, rfl, rfl, A, hk⟩
 rw [Sp.l9s] at A hk
 simp only at A hk
 have hW : Sp.Wf Sp.l9p := by have := Sp.sideAll_wf Sp.l9t; rwa [Sp.l9s] at this
 have hWq : Sp.Wf Sp.l9q := by have := Sp.evalOps_wf hW [2, 3] Sp.l9a; rwa [Sp.l9e] at this
 refine ⟨_, _, rfl, A.pure.keptP, Br.f rfl ?_⟩
 have Ad := A.pureE (Ext.drew w3)
 refine ⟨fun w => Box w s [.pointer (some p), .pointer (some k), .pointer (some q), sg.v] 36, Ad.box, ?_⟩
 rintro _ rfl
 refine ⟨s, rfl, some p, fun _ h => h.cell0, s, rfl, some k, fun _ h => h.cell rfl, ?_⟩
 intro p3 w5 n5
 have E5 : Pure w3.drew w5 := Ext.new n5
 have A5 := Ad.pureE E5
 refine ⟨A5.box, ?_⟩
 have b3 := n5.at_size
 refine (c_recipe_Eval (Sl0 := (· = p3.block)) p k ⟨some p3, 5, 5⟩ Sp.l9a w5 hW A5.pool A5.know (Lst.of_box (Sp.l9a.map oprow) (oprow_sz _) (Box.of_new n5)) (fun b hb => by subst hb; exact ⟨(Box.of_new n5).lt, fun hf => by have := Ad.pool.lt hf; omega⟩) (by decide) (by decide)).mono ?_
 rintro _ w6 ⟨r3, r4, r5, rfl, hr, F', hP6, X6, hF6⟩
 rw [Sp.l9e] at hr hP6
 cases hr
 obtain ⟨k6, A6⟩ := A5.prog hP6 X6 hF6
 refine ⟨_, _, _, rfl, A6.box, k6, ?_⟩
 have Ae := A6.pureE (Ext.drew w6)
 refine ⟨fun w => Box w s [.pointer (some p), .pointer (some k), .pointer (some q), sg.v] 36, Ae.box, ?_⟩
 rintro _ rfl
 refine ⟨s, rfl, some p, fun _ h => h.cell0, s, rfl, some k, fun _ h => h.cell rfl, ?_⟩
 intro p4 w8 n8
 have E8 : Pure w6.drew w8 := Ext.new n8
 have A8 := Ae.pureE E8
 refine ⟨A8.box, ?_⟩
 have b4 := n8.at_size
 refine (c_recipe_Eval (Sl0 := (· = p4.block)) p k ⟨some p4, 2, 2⟩ Sp.l9b w8 hWq A8.pool A8.know (Lst.of_box (Sp.l9b.map oprow) (oprow_sz _) (Box.of_new n8)) (fun b hb => by subst hb; exact ⟨(Box.of_new n8).lt, fun hf => by have := Ae.pool.lt hf; omega⟩) (by decide) (by decide)).mono ?_
 rintro _ w9 ⟨r6, r7, r8, rfl, hr, F'', hP9, X9, hF9⟩
 rw [Sp.l9f] at hr hP9
 cases hr
 obtain ⟨k9, A9⟩ := A8.prog hP9 X9 hF9
 refine ⟨_, _, _, rfl, A9.box, k9, s, rfl, some p, A9.box.cell0, ?_⟩
 refine (c_Node p 5 w9 A9.pool hWq.ok).mono ?_
 rintro _ w10 ⟨nk, nf, nt, nu, nx, na, nb, r9, rfl, ⟨hn, _⟩, E10⟩
 rw [Sp.l9n] at hn
 cases hn
 refine ⟨_, _, _, _, _, _, _, _, rfl, E10.keptP, fun H w hs => ⟨rfl, ?_⟩⟩
 exact (((E1.trans E2).trans A9.pure).trans E10).trans' hs.ext (fun b hb hh => by have := hs.old b hh; omega)
end Go.Proofs
end
section
open Go Go.SE
namespace Go.Proofs
attribute [local irreducible] Calls
theorem slT_op : SlType Try.prog 23 103 5 48 := by
 refine ⟨Try.underlying23, ⟨Try.t103, _, by kernel_rfl, (by kernel_rfl : Try.t103.zero = some (.agg #[.int .i64 0, .int .i64 0, .int .i64 0, .int .u64 0, .string ⟨#[]⟩])), by kernel_rfl, by kernel_rfl, rfl⟩, by omega⟩
theorem SideAt.base {w0 w1 w : World} {s p k q : Addr} {sg : Sl} {L1 L2 : Sp.Pool} {GK G : List Int} {S : List Sp.Way} {FP FK FR : Nat → Prop} (h : SideAt w1 None w s p k q sg L1 L2 GK G S FP FK FR) (E : Pure w0 w1) : SideAt w0 None w s p k q sg L1 L2 GK G S FP FK FR := by
 have z := E.size
 have E2 := E.trans h.pure
 exact ⟨h.box, h.pool, h.know, h.ref, h.giv, E2, (Hst.start w0).again E2.keptP, fun b hb => ⟨by have := (h.oP b hb).1; omega, (h.oP b hb).2⟩, fun b hb => ⟨by have := (h.oK b hb).1; omega, (h.oK b hb).2⟩, fun b hb => ⟨by have := (h.oR b hb).1; omega, (h.oR b hb).2⟩, fun b hb => ⟨by have := (h.oG b hb).1; omega, (h.oG b hb).2⟩, ⟨by have := h.oS.1; omega, h.oS.2⟩⟩
theorem ops_copy {So : Nat → Prop} {so : Sl} {ops : List Sp.Op} {w w3 : World} {p1 : Addr} (ho : Lst So w 5 so (ops.map oprow)) (hn : ops.length ≤ 1000) (n3 : New w (.cells #[] 103) p1 w3) : ∃ s1 w4, (Builtin.append_ #[23, 23] 23 #[(Sl.mk (some p1) 0 0).v, so.v]).run Try.prog w3 = .ok s1.v w4 ∧ Rws w4 103 5 s1 (ops.map oprow) ∧ Pure w w4 ∧ Pure w w3 ∧ (∀ b, s1.blk b → w.heap.size ≤ b) ∧ ∀ H : Nat → Prop, (∀ b, H b → b < w.heap.size) → Kept H w3 w4 := by
 have E3 : Pure w w3 := Ext.new n3
 have hb := n3.at_size
 obtain ⟨s1, w4, hr, R, X, b4⟩ := (Rws.empty (sz := 5) n3).appendL (P := Try.prog) (ty := 23) slT_op (ho.pure E3) (oprow_sz _) (oprow_one _) (by simp; omega) (by simp [maxLen]; omega)
 have hx : ∀ b, (Sl.mk (some p1) 0 0).blk b → b = p1.block := fun b ⟨a, ha, e⟩ => by cases ha; exact e.symm
 refine ⟨s1, w4, hr, by simpa using R, E3.trans' X (fun i hi h => by have := hx i h; omega), E3, fun b h => (b4 b h).elim (fun h => by have := hx b h; omega) (fun h => by have := E3.size; omega), fun H hH => X.kept (fun b hb h => by have := hx b h; have := hH b hb; omega)⟩
end Go.Proofs
end
section
open Go Go.SE
namespace Go.Proofs
attribute [local irreducible] Calls
def strow (s : Sp.Step) : List Value := [.int .i64 s.rule, .int .i64 s.a, .int .i64 s.b, .int .i64 s.t]
theorem slT_step : SlType Try.prog 73 136 4 32 := by
 refine ⟨Try.underlying73, ⟨Try.t136, _, by kernel_rfl, (by kernel_rfl : Try.t136.zero = some (.agg #[.int .i64 0, .int .i64 0, .int .i64 0, .int .i64 0])), by kernel_rfl, by kernel_rfl, rfl⟩, by omega⟩
def tru (_ : Unit) : Value := .bool true
def bmap (B : List Int) : List (Int × Unit) := B.map fun t => (t, ())
theorem bmap_keys (B : List Int) : (bmap B).map Prod.fst = B := by
 unfold bmap; rw [List.map_map]; exact List.map_id' B
theorem bmap_snoc (B : List Int) (t : Int) : bmap (B ++ [t]) = bmap B ++ [(t, ())] := by simp [bmap]
def PW (ma mb : Nat) (c5 : Addr) (sl : Sl) (b : Nat) : Prop := b = ma ∨ b = mb ∨ b = c5.block ∨ sl.blk b
def says (f : FuncId) (c1 c2 c3 c4 c5 : Addr) : Value := .func (.func f) #[] #[.pointer (some c1), .pointer (some c2), .pointer (some c3), .pointer (some c4), .pointer (some c5)]
structure PrfAt (w : World) (k : Addr) (c1 c2 c3 c4 c5 : Addr) (ma mb : Nat) (sl : Sl) (l : List Sp.Step) (B : List Int) : Prop where
 a1 : w.cell? c1 = some (.map (some ma))
 a2 : w.cell? c2 = some (.map (some mb))
 a3 : w.cell? c3 = some (.pointer (some k))
 a4 : w.cell? c4 = some (says 84 c1 c2 c3 c4 c5)
 a5 : Box w c5 [sl.v] 73
 am : IMap ikey w ma (Sp.amap l)
 bm : IMap tru w mb (bmap B)
 ls : Rws w 136 4 sl (l.map strow)
 d : ∀ b, PW ma mb c5 sl b → b ≠ c1.block ∧ b ≠ c2.block ∧ b ≠ c3.block ∧ b ≠ c4.block
 n1 : ma ≠ mb
 n2 : ma ≠ c5.block
 n3 : mb ≠ c5.block
 n4 : ¬ sl.blk ma
 n5 : ¬ sl.blk mb
 n6 : ¬ sl.blk c5.block
structure SaysAt (w : World) (k p : Addr) (c1 c2 c3 c4 c5 : Addr) (ma mb : Nat) (L : Sp.Pool) (G : List Int) (S : List Sp.Way) (F FP : Nat → Prop) (sl : Sl) (l : List Sp.Step) (B : List Int) : Prop where
 prf : PrfAt w k c1 c2 c3 c4 c5 ma mb sl l B
 know : KnowAt w k p G S F
 pool : PoolAt w p L FP
 dF : ∀ b, F b → ¬ PW ma mb c5 sl b
 dP : ∀ b, FP b → ¬ PW ma mb c5 sl b
section
variable {w w' : World} {k p c1 c2 c3 c4 c5 : Addr} {ma mb : Nat} {L : Sp.Pool} {G : List Int} {S : List Sp.Way} {F FP : Nat → Prop} {sl : Sl} {l : List Sp.Step} {B : List Int}
theorem PrfAt.ext {X : Nat → Prop} (h : PrfAt w k c1 c2 c3 c4 c5 ma mb sl l B) (hE : Ext X w w') (h1 : ∀ b, PW ma mb c5 sl b → ¬ X b) (x1 : ¬ X c1.block) (x2 : ¬ X c2.block) (x3 : ¬ X c3.block) (x4 : ¬ X c4.block) : PrfAt w' k c1 c2 c3 c4 c5 ma mb sl l B :=
 ⟨hE.cell h.a1 x1, hE.cell h.a2 x2, hE.cell h.a3 x3, hE.cell h.a4 x4, h.a5.ext hE (h1 _ (.inr (.inr (.inl rfl)))), h.am.ext hE (h1 _ (.inl rfl)), h.bm.ext hE (h1 _ (.inr (.inl rfl))), h.ls.ext hE (fun b hb => h1 b (.inr (.inr (.inr hb)))), h.d, h.n1, h.n2, h.n3, h.n4, h.n5, h.n6⟩
theorem PrfAt.lt (h : PrfAt w k c1 c2 c3 c4 c5 ma mb sl l B) {b : Nat} (hb : PW ma mb c5 sl b) : b < w.heap.size := by
 rcases hb with rfl | rfl | rfl | hb
 ·exact h.am.lt
 ·exact h.bm.lt
 ·exact h.a5.lt
 ·exact h.ls.lt hb
theorem SaysAt.ext {X : Nat → Prop} {n : Nat} (h : SaysAt w k p c1 c2 c3 c4 c5 ma mb L G S F FP sl l B) (hE : Ext X w w') (hn : ∀ b, X b → n ≤ b) (z1 : ∀ b, PW ma mb c5 sl b → b < n ∨ ¬ X b) (zc : c1.block < n ∧ c2.block < n ∧ c3.block < n ∧ c4.block < n) (zF : ∀ b, F b → b < n) (zP : ∀ b, FP b → b < n) : SaysAt w' k p c1 c2 c3 c4 c5 ma mb L G S F FP sl l B := by
 have hx : ∀ b, b < n → ¬ X b := fun b hb hX => by have := hn b hX; omega
 exact ⟨h.prf.ext hE (fun b hb => (z1 b hb).elim (hx b) id) (hx _ zc.1) (hx _ zc.2.1) (hx _ zc.2.2.1) (hx _ zc.2.2.2), h.know.ext hE (fun b hb => hx b (zF b hb)), h.pool.ext hE (fun b hb => hx b (zP b hb)), h.dF, h.dP⟩
theorem SaysAt.pure (h : SaysAt w k p c1 c2 c3 c4 c5 ma mb L G S F FP sl l B) (E : Pure w w') : SaysAt w' k p c1 c2 c3 c4 c5 ma mb L G S F FP sl l B :=
 ⟨h.prf.ext E (fun _ _ h => h) (fun h => h) (fun h => h) (fun h => h) (fun h => h), h.know.pure E, h.pool.pure E, h.dF, h.dP⟩
theorem SaysAt.zc (h : SaysAt w k p c1 c2 c3 c4 c5 ma mb L G S F FP sl l B) : c1.block < w.heap.size ∧ c2.block < w.heap.size ∧ c3.block < w.heap.size ∧ c4.block < w.heap.size :=
 ⟨World.block_lt_of_cell? w _ h.prf.a1, World.block_lt_of_cell? w _ h.prf.a2, World.block_lt_of_cell? w _ h.prf.a3, World.block_lt_of_cell? w _ h.prf.a4⟩
theorem PrfAt.bar (h : PrfAt w k c1 c2 c3 c4 c5 ma mb sl l B) (t : Int) : ∃ w', (Instr.mapUpdate 132 (.map (some mb)) (.int .i64 t) (.bool true)).run Try.prog w = .ok () w' ∧ (∃ B', (B' = B ∨ B' = B ++ [t]) ∧ PrfAt w' k c1 c2 c3 c4 c5 ma mb sl l B') ∧ Ext (· = mb) w w' := by
 have hd := h.d mb (.inr (.inl rfl))
 have back : ∀ {w' : World} {B' : List Int}, IMap tru w' mb (bmap B') → Ext (· = mb) w w' → PrfAt w' k c1 c2 c3 c4 c5 ma mb sl l B' := fun hI hE =>
  ⟨hE.cell h.a1 (fun e => hd.1 e.symm), hE.cell h.a2 (fun e => hd.2.1 e.symm), hE.cell h.a3 (fun e => hd.2.2.1 e.symm), hE.cell h.a4 (fun e => hd.2.2.2 e.symm), h.a5.ext hE (fun e => h.n3 e.symm), h.am.ext hE h.n1, hI, h.ls.ext hE (fun b hb e => h.n5 (e ▸ hb)), h.d, h.n1, h.n2, h.n3, h.n4, h.n5, h.n6⟩
 cases hl : SE.look (bmap B) t with
 | none =>
  obtain ⟨w', h1, h2, h3⟩ := h.bm.put (P := Try.prog) (T := 132) Try.underlying132 Try.underlying38 hl ()
  exact ⟨w', h1, ⟨_, .inr rfl, back (by rw [bmap_snoc]; exact h2) h3⟩, h3⟩
 | some v =>
  cases v
  obtain ⟨w', h1, h2, h3⟩ := h.bm.again (P := Try.prog) (T := 132) Try.underlying132 Try.underlying38 hl
  exact ⟨w', h1, ⟨_, .inl rfl, back h2 h3⟩, h3⟩
theorem PrfAt.barred (h : PrfAt w k c1 c2 c3 c4 c5 ma mb sl l B) (t : Int) : (Instr.lookup 132 (.map (some mb)) (.int .i64 t) false).run Try.prog w = .ok (.bool (decide (t ∈ B))) w := by
 rcases h.bm.get (P := Try.prog) (T := 132) Try.underlying132 Try.underlying38 (Try.zeroValue4 _) t false with ⟨h1, h2⟩ | ⟨v, h1, h2⟩
 ·have hn : t ∉ B := by have := look_none.1 h1; rwa [bmap_keys] at this
  rw [decide_eq_false hn]; exact h2
 ·have hy : t ∈ B := by have := look_mem h1; rw [← bmap_keys B]; exact List.mem_map.2 ⟨_, this, rfl⟩
  rw [decide_eq_true hy]; exact h2
end
structure SaysRet (w0 : World) (k p : Addr) (c1 c2 c3 c4 c5 : Addr) (ma mb : Nat) (L : Sp.Pool) (G : List Int) (S : List Sp.Way) (F FP : Nat → Prop) (sl : Sl) (l : List Sp.Step) (t r : Int) (ok : Bool) (w' : World) (sl' : Sl) (M : List Sp.Step) (B' : List Int) : Prop where
 st : SaysAt w' k p c1 c2 c3 c4 c5 ma mb L G S F FP sl' (l ++ M) B'
 prf : Sp.PrfOk L G (fun x => x ∈ Sp.wkeys S) (l ++ M) B'
 new : ∀ s ∈ M, Sp.rank S s.t ≤ Sp.rank S t ∧ (Sp.Sub L t s.t ∨ s.t ∈ Sp.wkeys S)
 idx : ok = true → ∃ i, r = ((i : Nat) : Int) ∧ ∃ hi : i < (l ++ M).length, (l ++ M)[i].t = t
 drv : ok = true ↔ Sp.Drv L (fun x => x ∈ Sp.wkeys S) t
 ext : Ext (PW ma mb c5 sl) w0 w'
 own : ∀ b, sl'.blk b → sl.blk b ∨ w0.heap.size ≤ b
 last : ok = true → M = [] ∨ Sp.tAt (l ++ M) (((l ++ M).length : Int) - 1) = t
structure SaysCur (w0 : World) (H : Nat → Prop) (w : World) (k p : Addr) (c1 c2 c3 c4 c5 : Addr) (ma mb : Nat) (L : Sp.Pool) (G : List Int) (S : List Sp.Way) (F FP : Nat → Prop) (sl : Sl) (l : List Sp.Step) (t : Int) (sl1 : Sl) (M B : _) : Prop where
 st : SaysAt w k p c1 c2 c3 c4 c5 ma mb L G S F FP sl1 (l ++ M) B
 prf : Sp.PrfOk L G (fun x => x ∈ Sp.wkeys S) (l ++ M) B
 new : ∀ s ∈ M, Sp.rank S s.t < Sp.rank S t ∧ (Sp.Sub L t s.t ∨ s.t ∈ Sp.wkeys S)
 ext : Ext (PW ma mb c5 sl) w0 w
 own : ∀ b, sl1.blk b → sl.blk b ∨ w0.heap.size ≤ b
 vis : ∀ b, sl1.blk b → ¬ H b
 hs : Hst w0 H w H w
section
variable {w0 w w' : World} {H H' : Nat → Prop} {k p c1 c2 c3 c4 c5 : Addr} {ma mb : Nat} {L : Sp.Pool} {G : List Int} {S : List Sp.Way} {F FP : Nat → Prop} {sl sl1 sl2 : Sl} {l M M2 : List Sp.Step} {B0 B B2 : List Int} {t : Int}
theorem PW.old (h : SaysAt w0 k p c1 c2 c3 c4 c5 ma mb L G S F FP sl l B0) (ho : ∀ b, sl1.blk b → sl.blk b ∨ w0.heap.size ≤ b) : ∀ b, PW ma mb c5 sl1 b → b < w0.heap.size → PW ma mb c5 sl b := by
 rintro b (hb | hb | hb | hb) hlt
 ·exact .inl hb
 ·exact .inr (.inl hb)
 ·exact .inr (.inr (.inl hb))
 ·exact (ho b hb).elim (fun h => .inr (.inr (.inr h))) (fun h => by omega)
theorem SaysCur.nh (h : SaysCur w0 H w k p c1 c2 c3 c4 c5 ma mb L G S F FP sl l t sl1 M B) (h0 : SaysAt w0 k p c1 c2 c3 c4 c5 ma mb L G S F FP sl l B0) : ∀ b, PW ma mb c5 sl1 b → ¬ H b := by
 have old : ∀ b, b < w0.heap.size → ¬ H b := fun b hb hh => by have := h.hs.old b hh; omega
 rintro b (rfl | rfl | rfl | hb)
 ·exact old _ (h0.prf.lt (.inl rfl))
 ·exact old _ (h0.prf.lt (.inr (.inl rfl)))
 ·exact old _ (h0.prf.lt (.inr (.inr (.inl rfl))))
 ·exact h.vis b hb
theorem SaysCur.hst (h : SaysCur w0 H w k p c1 c2 c3 c4 c5 ma mb L G S F FP sl l t sl1 M B) (h0 : SaysAt w0 k p c1 c2 c3 c4 c5 ma mb L G S F FP sl l B0) (hs : Hst w0 H w H' w') : SaysCur w0 H' w' k p c1 c2 c3 c4 c5 ma mb L G S F FP sl l t sl1 M B := by
 have dj := hs.disj (G := PW ma mb c5 sl1) (fun b hb => ⟨h.st.prf.lt hb, h.nh h0 b hb⟩)
 exact ⟨h.st.ext hs.ext hs.old (fun b hb => .inr (dj b hb)) h0.zc (fun b hb => h0.know.lt hb) (fun b hb => h0.pool.lt hb), h.prf, h.new, h.ext.hst hs, h.own, fun b hb => dj b (.inr (.inr (.inr hb))), hs.here⟩
theorem SaysCur.step {u r : Int} {ok : Bool} (h : SaysCur w0 H w k p c1 c2 c3 c4 c5 ma mb L G S F FP sl l t sl1 M B) (h0 : SaysAt w0 k p c1 c2 c3 c4 c5 ma mb L G S F FP sl l B0) (hr : SaysRet w k p c1 c2 c3 c4 c5 ma mb L G S F FP sl1 (l ++ M) u r ok w' sl2 M2 B2) (hu : Sp.rank S u < Sp.rank S t) (hsub : Sp.Sub L t u ∨ u ∈ Sp.wkeys S) (hcl : ∀ x, u ∈ Sp.wkeys S → Sp.rank S x ≤ Sp.rank S u → x ∈ Sp.wkeys S) :
  Kept H w w' ∧ SaysCur w0 H w' k p c1 c2 c3 c4 c5 ma mb L G S F FP sl l t sl2 (M ++ M2) B2 := by
 have hk : Kept H w w' := hr.ext.kept (fun b hb hx => h.nh h0 b hx hb)
 refine ⟨hk, by rw [← List.append_assoc]; exact hr.st, by rw [← List.append_assoc]; exact hr.prf, fun s hs => ?_, h.ext.trans' hr.ext (fun i hi hb => PW.old h0 h.own i hb hi), fun b hb => ?_, fun b hb hh => ?_, h.hs.again hk⟩
 ·rcases List.mem_append.1 hs with hs | hs
  ·exact h.new s hs
  ·obtain ⟨q1, q2⟩ := hr.new s hs
   refine ⟨by omega, ?_⟩
   rcases q2 with q2 | q2
   ·rcases hsub with h1 | h1
    ·exact .inl (h1.trans q2)
    ·exact .inr (hcl _ h1 q1)
   ·exact .inr q2
 ·rcases hr.own b hb with h1 | h1
  ·exact h.own b h1
  ·right; have := h.ext.size; omega
 ·rcases hr.own b hb with h1 | h1
  ·exact h.vis b h1 hh
  ·have := h.hs.lt b hh; omega
end
theorem rank_seen_le {S : List Sp.Way} {u x : Int} (hu : u ∈ Sp.wkeys S) (h : Sp.rank S x ≤ Sp.rank S u) : x ∈ Sp.wkeys S := by
 refine Classical.byContradiction fun hx => ?_
 have := Sp.rank_seen hu
 rw [Sp.rank_un hx] at h
 omega
end Go.Proofs
end
section
open Go Go.SE
namespace Go.Proofs
attribute [local irreducible] Calls
theorem c_says (k p c1 c2 c3 c4 c5 : Addr) (ma mb : Nat) {L : Sp.Pool} {G : List Int} {S : List Sp.Way} {F FP : Nat → Prop} (hW : Sp.Wf L) (hk : Sp.KnowOk L G S) : ∀ (n : Nat) (t : Int) (w0 : World) (sl : Sl) (l : List Sp.Step) (B : List Int), Sp.rank S t < n →
  SaysAt w0 k p c1 c2 c3 c4 c5 ma mb L G S F FP sl l B → Sp.PrfOk L G (fun x => x ∈ Sp.wkeys S) l B →
  Calls Try.prog 84 #[.int .i64 t, .pointer (some c1), .pointer (some c2), .pointer (some c3), .pointer (some c4), .pointer (some c5)] w0 (fun e w' => ∃ r : Int, ∃ ok : Bool, e = .returned (.tuple #[.int .i64 r, .bool ok]) ∧ ∃ sl' M B', SaysRet w0 k p c1 c2 c3 c4 c5 ma mb L G S F FP sl l t r ok w' sl' M B') := by
 intro n
 induction n with
 | zero => intro t w0 sl l B h; omega
 | succ n ih =>
 intro t w0 sl l B hrk h0 hp0
 suffices key : ∀ K : Int → Bool → World → Prop, (∀ r ok w' sl' M B', SaysRet w0 k p c1 c2 c3 c4 c5 ma mb L G S F FP sl l t r ok w' sl' M B' → K r ok w') → m_deduce_Know_Proof_1 t c1 c2 c3 c4 c5 w0 K from
  w_deduce_Know_Proof_1 _ _ _ _ _ _ w0 _ (key _ (fun r ok w' sl' M B' h => ⟨sl', M, B', h⟩))
 intro K hK
 have hKs : ∀ r u t, u ∈ Sp.wkeys S → Sp.Arises L r u t → t ∈ Sp.wkeys S := fun r u t hu ha => hk.closed u hu r t ha
 unfold m_deduce_Know_Proof_1
 rcases h0.prf.am.get (P := Try.prog) (T := 131) Try.underlying131 Try.underlying38 (Try.zeroValue3 _) t true with ⟨hl, hrun⟩ | ⟨v, hl, hrun⟩
 case inr =>
  obtain ⟨i, hi, rfl, hit⟩ := Sp.amap_look hl
  refine ⟨_, h0.prf.a1, _, true, hrun, Br.t rfl (hK _ _ w0 sl [] B ⟨by simpa using h0, by simpa using hp0, by simp, fun _ => ⟨i, rfl, by simpa using hi, by simpa using hit⟩, ⟨fun _ => hit ▸ hp0.drv _ (List.getElem_mem hi), fun _ => rfl⟩, Ext.refl _, fun b hb => .inl hb, fun _ => .inl rfl⟩)⟩
 case inl =>
 have htl : t ∉ l.map Sp.Step.t := Sp.amap_none.1 hl
 refine ⟨_, h0.prf.a1, _, false, hrun, Br.f rfl ?_⟩
 intro H1 w2 hs2
 have old : ∀ {H : Nat → Prop} {w : World}, Hst w0 H w H w → ∀ b, b < w0.heap.size → ¬ H b := fun hs b hb hh => by have := hs.old b hh; omega
 have C0 : SaysCur w0 None w0 k p c1 c2 c3 c4 c5 ma mb L G S F FP sl l t sl [] B := ⟨by simpa using h0, by simpa using hp0, by simp, Ext.refl _, fun b hb => .inl hb, fun b _ h => h, Hst.start w0⟩
 have C2 := C0.hst h0 hs2
 have c5h : ∀ {H : Nat → Prop} {w : World} {sl1 : Sl} {M B1 : _}, SaysCur w0 H w k p c1 c2 c3 c4 c5 ma mb L G S F FP sl l t sl1 M B1 → ¬ H c5.block := fun C => C.nh h0 _ (.inr (.inr (.inl rfl)))
 have J1f : ∀ (r a b : Int) (H : Nat → Prop) (w : World) (sl1 : Sl) (M : List Sp.Step) (B1 : List Int), SaysCur w0 H w k p c1 c2 c3 c4 c5 ma mb L G S F FP sl l t sl1 M B1 → ¬ Sp.Drv L (fun x => x ∈ Sp.wkeys S) t → m_deduce_Know_Proof_1_j1 t c1 c2 c5 false r a b t H w K := by
  intro r a b H w sl1 M B1 C hnd
  unfold m_deduce_Know_Proof_1_j1
  refine Br.t rfl ?_
  obtain ⟨w5, hr5, ⟨B', hB', P5⟩, E5⟩ := C.st.prf.bar t
  have hmb := C.nh h0 mb (.inr (.inl rfl))
  have hpb : Sp.PrfOk L G (fun x => x ∈ Sp.wkeys S) (l ++ M) B' := by
   rcases hB' with rfl | rfl
   ·exact C.prf
   ·exact C.prf.bars hnd
  refine ⟨_, C.st.prf.a2, w5, hr5, E5.kept (fun b hb e => hmb (e ▸ hb)), hK 0 false w5 sl1 M B' ⟨⟨P5, C.st.know.ext E5 (fun b hb e => C.st.dF b hb (.inr (.inl e))), C.st.pool.ext E5 (fun b hb e => C.st.dP b hb (.inr (.inl e))), C.st.dF, C.st.dP⟩, hpb, fun s hs => ⟨Nat.le_of_lt (C.new s hs).1, (C.new s hs).2⟩, (fun h => by cases h), ⟨(fun h => by cases h), fun h => absurd h hnd⟩, C.ext.trans' E5 (fun i hi e => .inr (.inl e)), C.own, (fun h => by cases h)⟩⟩
 have J1t : ∀ (r a b : Int) (H : Nat → Prop) (w : World) (sl1 : Sl) (M : List Sp.Step) (B1 : List Int), SaysCur w0 H w k p c1 c2 c3 c4 c5 ma mb L G S F FP sl l t sl1 M B1 → Sp.fol L G (l ++ M) ⟨r, a, b, t⟩ = true → Sp.Drv L (fun x => x ∈ Sp.wkeys S) t → m_deduce_Know_Proof_1_j1 t c1 c2 c5 true r a b t H w K := by
  intro r a b H w sl1 M B1 C hfol hdt
  unfold m_deduce_Know_Proof_1_j1
  refine Br.f rfl ?_
  have hsl : sl1.len = (l ++ M).length := by rw [C.st.prf.ls.len]; simp
  have hfew := C.prf.few
  have hL6 := hW.ok.few
  have htn : t ∉ (l ++ M).map Sp.Step.t := by
   rw [List.map_append, List.mem_append]
   rintro (h | h)
   ·exact htl h
   ·obtain ⟨s, hs, e⟩ := List.mem_map.1 h
    have := (C.new s hs).1
    rw [e] at this; omega
  have hlk := Sp.amap_none.2 htn
  obtain ⟨w5, hr5, I5, E5⟩ := C.st.prf.am.put (P := Try.prog) (T := 131) Try.underlying131 Try.underlying38 hlk ((l ++ M).length : Int)
  have hma := C.nh h0 ma (.inl rfl)
  have da := C.st.prf.d ma (.inl rfl)
  have b5 : Box w5 c5 [sl1.v] 73 := C.st.prf.a5.ext E5 (fun e => C.st.prf.n2 e.symm)
  refine ⟨_, C.st.prf.a1, sl1, C.st.prf.a5.cell0, w5, by rw [hsl]; exact hr5, E5.kept (fun b hb e => hma (e ▸ hb)), sl1, b5.cell0, ?_⟩
  intro p3 w7 h7
  have E7 : Pure w5 w7 := Ext.new h7
  have ls7 := (C.st.prf.ls.ext E5 (fun b hb e => C.st.prf.n4 (e ▸ hb))).pure E7
  obtain ⟨s1, w8, hr8, R8, X8, f8⟩ := ls7.append (P := Try.prog) (ty := 73) (c := 1) slT_step (r := strow ⟨r, a, b, t⟩) (Box.of_new h7).row rfl rfl (by simp at hfew ⊢; omega) (by simp [maxLen] at hfew ⊢; omega)
  have b8 : Box w8 c5 [sl1.v] 73 := (b5.pure E7).ext X8 C.st.prf.n6
  refine ⟨s1, w8, hr8, X8.kept (fun b hb hx => C.vis b hx hb), b8.canW0 (by simp), c5h C, ?_⟩
  rintro _ rfl
  have E9 := Ext.setCell (w := w8) c5 s1.v
  have z5 : w.heap.size ≤ w7.heap.size := by have := E5.size; have := E7.size; omega
  have f8' : ∀ b, s1.blk b → sl1.blk b ∨ w.heap.size ≤ b := fun b hb => (f8 b hb).imp_right (fun h => by omega)
  have X : Ext (PW ma mb c5 sl1) w (w8.setCell c5 s1.v) := (((E5.mono (fun b _ e => .inl e)).trans (E7.pure (F := PW ma mb c5 sl1))).trans (X8.mono (fun b _ h => .inr (.inr (.inr h))))).trans (E9.mono (fun b _ e => .inr (.inr (.inl e))))
  have nx : ∀ {b}, (b = c1.block ∨ b = c2.block ∨ b = c3.block ∨ b = c4.block) → ¬ PW ma mb c5 sl1 b := fun hb hx => by
   obtain ⟨d1, d2, d3, d4⟩ := C.st.prf.d _ hx
   rcases hb with h | h | h | h
   ·exact d1 h
   ·exact d2 h
   ·exact d3 h
   ·exact d4 h
  have lt1 : ∀ {b}, PW ma mb c5 sl1 b → b < w.heap.size := fun hb => C.st.prf.lt hb
  have I9 : IMap ikey (w8.setCell c5 s1.v) ma (Sp.amap ((l ++ M) ++ [⟨r, a, b, t⟩])) := by
   rw [Sp.amap_snoc]
   exact ((I5.pure E7).ext X8 C.st.prf.n4).ext E9 C.st.prf.n2
  have P9 : PrfAt (w8.setCell c5 s1.v) k c1 c2 c3 c4 c5 ma mb s1 ((l ++ M) ++ [⟨r, a, b, t⟩]) B1 := by
   refine ⟨X.cell C.st.prf.a1 (nx (.inl rfl)), X.cell C.st.prf.a2 (nx (.inr (.inl rfl))), X.cell C.st.prf.a3 (nx (.inr (.inr (.inl rfl)))), X.cell C.st.prf.a4 (nx (.inr (.inr (.inr rfl)))), b8.set0, I9, ?_, ?_, ?_, C.st.prf.n1, C.st.prf.n2, C.st.prf.n3, ?_, ?_, ?_⟩
   ·have := ((C.st.prf.bm.ext E5 (fun e => C.st.prf.n1 e.symm)).pure E7).ext X8 C.st.prf.n5
    exact this.ext E9 C.st.prf.n3
   ·have hne : ∀ b, s1.blk b → b ≠ c5.block := fun b hb e => by
     rcases f8' b hb with h | h
     ·exact C.st.prf.n6 (e ▸ h)
     ·have := lt1 (.inr (.inr (.inl rfl))); omega
    have := R8.ext E9 hne
    simpa using this
   ·rintro b (hb | hb | hb | hb)
    ·exact C.st.prf.d b (.inl hb)
    ·exact C.st.prf.d b (.inr (.inl hb))
    ·exact C.st.prf.d b (.inr (.inr (.inl hb)))
    ·rcases f8' b hb with h | h
     ·exact C.st.prf.d b (.inr (.inr (.inr h)))
     ·have := C.st.zc; omega
   ·intro hb; rcases f8' _ hb with h | h
    ·exact C.st.prf.n4 h
    ·have := lt1 (.inl rfl); omega
   ·intro hb; rcases f8' _ hb with h | h
    ·exact C.st.prf.n5 h
    ·have := lt1 (.inr (.inl rfl)); omega
   ·intro hb; rcases f8' _ hb with h | h
    ·exact C.st.prf.n6 h
    ·have := lt1 (.inr (.inr (.inl rfl))); omega
  have hlk9 : SE.look (Sp.amap ((l ++ M) ++ [⟨r, a, b, t⟩])) t = some ((l ++ M).length : Int) := by
   rw [Sp.amap_snoc, look_snoc (by rw [Sp.amap_keys]; exact htn), if_pos rfl]
  rcases I9.get (P := Try.prog) (T := 131) Try.underlying131 Try.underlying38 (Try.zeroValue3 _) t false with ⟨hx, _⟩ | ⟨v, hv, hrun9⟩
  ·rw [hx] at hlk9; cases hlk9
  ·rw [hv] at hlk9; cases hlk9
   have dg : ∀ {Z : Nat → Prop}, (∀ b, Z b → b < w.heap.size) → (∀ b, Z b → ¬ PW ma mb c5 sl1 b) → ∀ b, Z b → ¬ PW ma mb c5 s1 b := fun hz h b hb hx => by
    rcases hx with hx | hx | hx | hx
    ·exact h b hb (.inl hx)
    ·exact h b hb (.inr (.inl hx))
    ·exact h b hb (.inr (.inr (.inl hx)))
    ·rcases f8' b hx with h' | h'
     ·exact h b hb (.inr (.inr (.inr h')))
     ·have := hz b hb; omega
   refine ⟨_, P9.a1, _, hrun9, hK _ true _ s1 (M ++ [⟨r, a, b, t⟩]) B1 ⟨⟨by rw [← List.append_assoc]; exact P9, C.st.know.ext X (fun b hb => C.st.dF b hb), C.st.pool.ext X (fun b hb => C.st.dP b hb), dg (fun b hb => C.st.know.lt hb) C.st.dF, dg (fun b hb => C.st.pool.lt hb) C.st.dP⟩, by rw [← List.append_assoc]; exact C.prf.snoc hfol htn hdt, fun s hs => ?_, fun _ => ⟨(l ++ M).length, rfl, by simp, by simp⟩, ⟨fun _ => hdt, fun _ => rfl⟩, C.ext.trans' X (fun i hi hb => PW.old h0 C.own i hb hi), fun b hb => ?_, fun _ => .inr ?_⟩⟩
   ·rcases List.mem_append.1 hs with hs | hs
    ·exact ⟨Nat.le_of_lt (C.new s hs).1, (C.new s hs).2⟩
    ·simp at hs; subst hs; exact ⟨Nat.le_refl _, .inl (.refl t)⟩
   ·rcases f8' b hb with h | h
    ·exact C.own b h
    ·right; have := C.ext.size; omega
   ·rw [← List.append_assoc]
    have e : ((((l ++ M) ++ [(⟨r, a, b, t⟩ : Sp.Step)]).length : Int) - 1) = ((l ++ M).length : Int) := by simp; omega
    rw [e, Sp.tAt_of (by simp)]
    simp
 have hcall : ∀ (u : Int) (H : Nat → Prop) (w : World) (sl1 : Sl) (M : List Sp.Step) (B1 : List Int), SaysCur w0 H w k p c1 c2 c3 c4 c5 ma mb L G S F FP sl l t sl1 M B1 → Sp.rank S u < Sp.rank S t → (Sp.Sub L t u ∨ u ∈ Sp.wkeys S) → ∀ (Q : Int → Bool → World → Prop),
   (∀ (r : Int) (ok : Bool) (w' : World) (sl2 : Sl) (M2 : List Sp.Step) (B2 : List Int), SaysCur w0 H w' k p c1 c2 c3 c4 c5 ma mb L G S F FP sl l t sl2 (M ++ M2) B2 → (ok = true ↔ Sp.Drv L (fun x => x ∈ Sp.wkeys S) u) → (ok = true → ∃ i, r = ((i : Nat) : Int) ∧ ∃ hi : i < (l ++ (M ++ M2)).length, (l ++ (M ++ M2))[i].t = u) → Kept H w w' → Q r ok w') →
   ∃ v13 : Value, w.cell? c4 = some v13 ∧ ∃ (f1 : FuncId) (fs1 cs1 : Array Value), v13 = .func (.func f1) fs1 cs1 ∧ (∀ args w, (callFunc f1 args).run Try.prog w = .ok (.enter f1 args) w) ∧ Calls Try.prog f1 (fs1 ++ #[(.int .i64 u)] ++ cs1) w (fun e w' => ∃ r1 : Int, ∃ r2 : Bool, e = .returned (.tuple #[(.int .i64 r1), (.bool r2)]) ∧ Kept H w w' ∧ Q r1 r2 w') := by
  intro u H w sl1 M B1 C hu hsub Q hQ
  refine ⟨_, C.st.prf.a4, 84, #[], _, rfl, Try.call84, ?_⟩
  refine (ih u w sl1 (l ++ M) B1 (by omega) C.st C.prf).mono ?_
  rintro _ w' ⟨r, ok, rfl, sl2, M2, B2, hret⟩
  obtain ⟨hkp, C2⟩ := C.step h0 hret hu hsub (fun x hu hx => rank_seen_le hu hx)
  refine ⟨r, ok, rfl, hkp, hQ r ok w' sl2 M2 B2 C2 hret.drv (fun h => ?_) hkp⟩
  obtain ⟨i, e, hi, hit⟩ := hret.idx h
  refine ⟨i, e, by rw [← List.append_assoc]; exact hi, ?_⟩
  simpa [List.append_assoc] using hit
 obtain ⟨sg, m, sk, k2, hF2⟩ := C2.st.know
 obtain ⟨vr, vf, hlook, hway⟩ := k2.look t
 refine ⟨_, C2.st.prf.a2, _, C2.st.prf.barred t, _, C2.st.prf.a3, k, rfl, _, k2.box.cell rfl, vr, vf, _, hlook, fun hc => ?_, fun hc => ?_⟩
 ·-- it is seen
  have hts : t ∈ Sp.wkeys S := by simpa using hc
  have hdt : Sp.Drv L (fun x => x ∈ Sp.wkeys S) t := .seen hts
  have hnB : decide (t ∈ B) = false := decide_eq_false (fun hb => hp0.bar t hb hdt)
  have hin := hk.inp t hts
  have hin' : ¬ Sp.inP L t = false := by simp [hin]
  rw [hnB]
  rcases Sp.way_of hk.toWaysOk (look_mem (hway hts)) with ⟨rfl, rfl, hg⟩ | ⟨hne, hari, hfs, hrf⟩
  ·refine ⟨fun h => by simp at h, fun _ => ?_⟩
   intro H2 w10 hs10
   have C10 := C2.hst h0 hs10
   refine J1t 0 0 0 H2 w10 sl [] B C10 ?_ hdt
   unfold Sp.fol; rw [if_neg hin', if_pos rfl]; simp [hg]
  ·refine ⟨fun _ => ?_, fun h => absurd (by simpa using h) hne⟩
   intro H2 w10 hs10
   have C10 := C2.hst h0 hs10
   refine hcall vf H2 w10 sl [] B C10 hrf (.inr hfs) _ ?_
   intro r1 ok w11 sl2 M2 B2 C11 hd11 hi11 _ w12 hs12
   have C12 := C11.hst h0 hs12
   obtain ⟨i, rfl, hi, hit⟩ := hi11 (hd11.2 (.seen hfs))
   refine J1t vr i 0 H2 w12 sl2 _ B2 C12 ?_ hdt
   have hr := hari.rule
   unfold Sp.fol
   rw [if_neg hin', if_neg hne, if_pos hr]
   have h1 := Sp.ahead_of hi
   have h2 := Sp.tAt_of hi
   rw [hit] at h2
   simp only [h1, h2, Bool.true_and, Bool.and_eq_true, beq_iff_eq, true_and]
   exact (Sp.arisesB_iff hr).2 hari
 ·-- it is not
  have hts : t ∉ Sp.wkeys S := by simpa using hc
  refine ⟨fun hb => ?_, fun hb => ?_⟩
  ·intro H2 w4 hs4
   have C4 := C2.hst h0 hs4
   refine ⟨_, C4.st.prf.a3, ?_⟩
   refine (c_ded_made k p t w4 C4.st.know C4.st.pool hW).mono ?_
   rintro _ w13 ⟨r3, r4, r5, r6, rfl, hmade, E13⟩
   refine ⟨r3, r4, r5, r6, rfl, E13.keptP, ?_⟩
   have C13 : SaysCur w0 H2 w13 k p c1 c2 c3 c4 c5 ma mb L G S F FP sl l t sl [] B := ⟨C4.st.pure E13, C4.prf, C4.new, C4.ext.thenPure E13, C4.own, C4.vis, C4.hs.again E13.keptP⟩
   have J2 : ∀ (H : Nat → Prop) (w : World) (sl1 : Sl) (M : List Sp.Step) (B1 : List Int) (ok4 : Bool) (rl a : Int), SaysCur w0 H w k p c1 c2 c3 c4 c5 ma mb L G S F FP sl l t sl1 M B1 →
     (ok4 = false → ¬ Sp.Drv L (fun x => x ∈ Sp.wkeys S) t) →
     (ok4 = true → r4 ≤ 0 → Sp.fol L G (l ++ M) ⟨rl, a, 0, t⟩ = true ∧ Sp.Drv L (fun x => x ∈ Sp.wkeys S) t) →
     (ok4 = true → 0 < r4 → Sp.rank S r4 < Sp.rank S t ∧ (Sp.Sub L t r4 ∨ r4 ∈ Sp.wkeys S) ∧ (Sp.Drv L (fun x => x ∈ Sp.wkeys S) r4 → Sp.Drv L (fun x => x ∈ Sp.wkeys S) t) ∧ (Sp.Drv L (fun x => x ∈ Sp.wkeys S) t → Sp.Drv L (fun x => x ∈ Sp.wkeys S) r4) ∧
      ∀ M2 (i : Nat) (hi : i < (l ++ (M ++ M2)).length), (l ++ (M ++ M2))[i].t = r4 → Sp.fol L G (l ++ (M ++ M2)) ⟨rl, a, i, t⟩ = true) →
     m_deduce_Know_Proof_1_j2 t c1 c2 c4 c5 r4 ok4 rl a 0 t w0 H w K := by
    intro H w sl1 M B1 ok4 rl a C h1 h2 h3
    unfold m_deduce_Know_Proof_1_j2
    refine ⟨fun hc => ?_, fun hc => ?_⟩
    ·rw [Bool.and_eq_true] at hc
     obtain ⟨hok, hpos⟩ := hc
     have hpos := of_decide_eq_true hpos
     obtain ⟨g1, g2, g3, g4, g5⟩ := h3 hok hpos
     intro H5 w19 hs19
     have C19 := C.hst h0 hs19
     refine hcall r4 H5 w19 sl1 M B1 C19 g1 g2 _ ?_
     intro r7 r8 w20 sl2 M2 B2 C20 hd20 hi20 _ w21 hs21
     have C21 := C20.hst h0 hs21
     cases r8 with
     | false => exact J1f _ _ _ H5 w21 sl2 _ B2 C21 (fun hd => by have := hd20.2 (g4 hd); cases this)
     | true =>
      obtain ⟨i, rfl, hi, hit⟩ := hi20 rfl
      exact J1t _ _ _ H5 w21 sl2 _ B2 C21 (g5 M2 i hi hit) (g3 (hd20.1 rfl))
    ·intro H5 w19 hs19
     have C19 := C.hst h0 hs19
     cases ok4 with
     | false => exact J1f _ _ _ H5 w19 sl1 M B1 C19 (h1 rfl)
     | true =>
      have hle : r4 ≤ 0 := by simpa using hc
      obtain ⟨q1, q2⟩ := h2 rfl hle
      exact J1t _ _ _ H5 w19 sl1 M B1 C19 q1 q2
   cases hin : Sp.inP L t with
   | false =>
    have hm : Sp.madeS L S t = (0, 0, false, false) := by unfold Sp.madeS; rw [if_pos hin]
    rw [hm] at hmade; cases hmade
    have hnd : ¬ Sp.Drv L (fun x => x ∈ Sp.wkeys S) t := fun hd => by
     have hnode : Sp.nodeOf L t = Sp.noNode := by unfold Sp.nodeOf; rw [Sp.get_none hin]; rfl
     rcases hd.inv with h | h | ⟨h, _⟩ | ⟨h, _⟩ | ⟨h, _⟩
     ·exact hts h
     all_goals (rw [hnode] at h; exact absurd h (by decide))
    refine ⟨fun h => by simp at h, fun _ => ?_⟩
    intro H4 w18 hs18
    exact J2 H4 w18 sl [] B false _ _ (C13.hst h0 hs18) (fun _ => hnd) (fun h => by cases h) (fun h => by cases h)
   | true =>
   have hin' : ¬ Sp.inP L t = false := by simp [hin]
   have ht1 := (Sp.inP_iff.1 hin).1
   generalize hn : Sp.nodeOf L t = n at *
   have hm := hmade
   unfold Sp.madeS at hm
   rw [if_neg hin', hn] at hm
   have kx : ∀ x ∈ Sp.kidsOf n, Sp.inP L x = true ∧ x < t := by have := (hW.node hin).2.2.2.2.1; rw [hn] at this; exact this
   rcases Sp.kind_cases hW hin with hk1 | hk4 | hk5 | hk6 | hk7
   ·rw [hn] at hk1
    rw [if_pos hk1] at hm; cases hm
    refine ⟨fun h => by simp at h, fun _ => ?_⟩
    intro H4 w18 hs18
    have hd : Sp.Drv L (fun x => x ∈ Sp.wkeys S) t := .free (by rw [hn]; exact hk1)
    refine J2 H4 w18 sl [] B true _ _ (C13.hst h0 hs18) (fun h => by cases h) (fun _ _ => ⟨?_, hd⟩) (fun _ h => by omega)
    unfold Sp.fol; rw [if_neg hin', hn]; simp [hk1]
   ·rw [hn] at hk4
    rw [if_neg (by rw [hk4]; decide), if_pos hk4] at hm; cases hm
    have ha := kx n.a (Sp.kids_a (.inl hk4))
    have hb' := kx n.b (Sp.kids_b hk4)
    have ha1 := (Sp.inP_iff.1 ha.1).1
    have hb1 := (Sp.inP_iff.1 hb'.1).1
    have sa : Sp.Sub L t n.a := .kid (.refl t) (by rw [hn]; exact Sp.kids_a (.inl hk4))
    have sb : Sp.Sub L t n.b := .kid (.refl t) (by rw [hn]; exact Sp.kids_b hk4)
    have inv : Sp.Drv L (fun x => x ∈ Sp.wkeys S) t → Sp.Drv L (fun x => x ∈ Sp.wkeys S) n.a ∧ Sp.Drv L (fun x => x ∈ Sp.wkeys S) n.b := fun hd => by
     rcases hd.inv with h | h | ⟨_, h1, h2⟩ | ⟨h, _⟩ | ⟨h, _⟩
     ·exact absurd h hts
     ·rw [hn, hk4] at h; exact absurd h (by decide)
     ·rw [hn] at h1 h2; exact ⟨h1, h2⟩
     ·rw [hn, hk4] at h; cases h
     ·rw [hn, hk4] at h; exact absurd h (by decide)
    refine ⟨fun _ => ?_, fun h => by simp at h; omega⟩
    intro H4 w18 hs18
    refine hcall n.a H4 w18 sl [] B (C13.hst h0 hs18) (Sp.rank_kid hts ha1 ha.2) (.inl sa) _ ?_
    intro r9 r10 w22 sl2 M2 B2 C22 hd22 hi22 _ w23 hs23
    have C23 := C22.hst h0 hs23
    refine J2 H4 w23 sl2 _ B2 r10 _ _ C23 (fun h hd => by have := hd22.2 (inv hd).1; rw [h] at this; cases this) (fun _ h => by omega) (fun h _ => ⟨Sp.rank_kid hts hb1 hb'.2, .inl sb, fun hd => .pair (by rw [hn]; exact hk4) (by rw [hn]; exact hd22.1 h) (by rw [hn]; exact hd), fun hd => (inv hd).2, ?_⟩)
    intro M3 i hi hit
    obtain ⟨i1, rfl, hi1, hit1⟩ := hi22 h
    have hi1' : i1 < (l ++ (([] ++ M2) ++ M3)).length := by simp at hi1 ⊢; omega
    have e1 : Sp.tAt (l ++ (([] ++ M2) ++ M3)) (i1 : Int) = n.a := by
     rw [← List.append_assoc, Sp.tAt_app hi1]; exact hit1
    have e2 := Sp.tAt_of hi
    rw [hit] at e2
    clear hit
    generalize l ++ (([] ++ M2) ++ M3) = l' at *
    unfold Sp.fol; rw [if_neg hin', hn]
    simp [hk4, Sp.ahead_of hi, Sp.ahead_of hi1', e1, e2]
   ·rw [hn] at hk5
    rw [if_neg (by rw [hk5]; decide), if_neg (by rw [hk5]; decide), if_pos hk5] at hm; cases hm
    have ha := kx n.a (Sp.kids_a (.inr (.inl hk5)))
    have ha1 := (Sp.inP_iff.1 ha.1).1
    have sa : Sp.Sub L t n.a := .kid (.refl t) (by rw [hn]; exact Sp.kids_a (.inr (.inl hk5)))
    have inv : Sp.Drv L (fun x => x ∈ Sp.wkeys S) t → Sp.Drv L (fun x => x ∈ Sp.wkeys S) n.a := fun hd => by
     rcases hd.inv with h | h | ⟨h, _⟩ | ⟨_, h⟩ | ⟨h, _⟩
     ·exact absurd h hts
     ·rw [hn, hk5] at h; exact absurd h (by decide)
     ·rw [hn, hk5] at h; cases h
     ·rw [hn] at h; exact h
     ·rw [hn, hk5] at h; exact absurd h (by decide)
    refine ⟨fun _ => ?_, fun h => by simp at h; omega⟩
    intro H4 w18 hs18
    refine hcall n.a H4 w18 sl [] B (C13.hst h0 hs18) (Sp.rank_kid hts ha1 ha.2) (.inl sa) _ ?_
    intro r9 r10 w22 sl2 M2 B2 C22 hd22 hi22 _ w23 hs23
    have C23 := C22.hst h0 hs23
    refine J2 H4 w23 sl2 _ B2 r10 _ _ C23 (fun h hd => by have := hd22.2 (inv hd); rw [h] at this; cases this) (fun h _ => ⟨?_, .hash (by rw [hn]; exact hk5) (by rw [hn]; exact hd22.1 h)⟩) (fun _ h => by omega)
    obtain ⟨i1, rfl, hi1, hit1⟩ := hi22 h
    have e1 := Sp.tAt_of hi1
    rw [hit1] at e1
    clear hit1
    have q1 := Sp.ahead_of hi1
    generalize l ++ ([] ++ M2) = l' at *
    unfold Sp.fol; rw [if_neg hin', hn]
    simp [hk5, q1, e1]
   ·rw [hn] at hk6
    rw [if_neg (by rw [hk6]; decide), if_neg (by rw [hk6]; decide), if_neg (by rw [hk6]; decide), if_pos hk6] at hm; cases hm
    have hnd : ¬ Sp.Drv L (fun x => x ∈ Sp.wkeys S) t := fun hd => by
     rcases hd.inv with h | h | ⟨h, _⟩ | ⟨h, _⟩ | ⟨h, _⟩
     ·exact hts h
     all_goals (rw [hn, hk6] at h; exact absurd h (by decide))
    refine ⟨fun h => by simp at h, fun _ => ?_⟩
    intro H4 w18 hs18
    exact J2 H4 w18 sl [] B false _ _ (C13.hst h0 hs18) (fun _ => hnd) (fun h => by cases h) (fun h => by cases h)
   ·rw [hn] at hk7
    obtain ⟨x4, x5, x6, xf⟩ := Sp.shows_ne hk7
    rw [if_neg (by rw [xf]; decide), if_neg x4, if_neg x5, if_neg x6] at hm
    generalize hko : Sp.keyOf L (Sp.whoOf n) = ko at *
    obtain ⟨key, kok⟩ := ko
    simp only [Prod.mk.injEq] at hm
    obtain ⟨rfl, rfl, rfl, rfl⟩ := hm
    have ha := kx n.a (Sp.kids_a (.inr (.inr hk7)))
    have ha1 := (Sp.inP_iff.1 ha.1).1
    have sa : Sp.Sub L t n.a := .kid (.refl t) (by rw [hn]; exact Sp.kids_a (.inr (.inr hk7)))
    have inv : Sp.Drv L (fun x => x ∈ Sp.wkeys S) t → Sp.Drv L (fun x => x ∈ Sp.wkeys S) n.a ∧ kok = true ∧ r4 ∈ Sp.wkeys S := fun hd => by
     rcases hd.inv with h | h | ⟨h, _⟩ | ⟨h, _⟩ | ⟨_, h1, h2, h3⟩
     ·exact absurd h hts
     ·rw [hn, xf] at h; cases h
     ·rw [hn] at h; exact absurd h x4
     ·rw [hn] at h; exact absurd h x5
     ·rw [hn] at h1 h2 h3; rw [hko] at h2 h3; exact ⟨h1, h2, h3⟩
    refine ⟨fun hc => ?_, fun hc => ?_⟩
    ·rw [Bool.and_eq_true, Bool.and_eq_true] at hc
     obtain ⟨⟨hkok, hkey⟩, _⟩ := hc
     have hkey := of_decide_eq_true hkey
     have hkn := Sp.keyOf_ok (L := L) (n := Sp.whoOf n) (by rw [hko]; exact hkok)
     rw [hko] at hkn
     have hk1 := (Sp.inP_iff.1 hkn.1).1
     intro H4 w18 hs18
     refine hcall n.a H4 w18 sl [] B (C13.hst h0 hs18) (Sp.rank_kid hts ha1 ha.2) (.inl sa) _ ?_
     intro r9 r10 w22 sl2 M2 B2 C22 hd22 hi22 _ w23 hs23
     have C23 := C22.hst h0 hs23
     refine J2 H4 w23 sl2 _ B2 r10 _ _ C23 (fun h hd => by have := hd22.2 (inv hd).1; rw [h] at this; cases this) (fun _ h => by simp only at hk1; omega) (fun h _ => ⟨Sp.rank_key hts ht1 hkey, .inr hkey, fun _ => .signed (by rw [hn]; exact hk7) (by rw [hn]; exact hd22.1 h) (by rw [hn, hko]; exact hkok) (by rw [hn, hko]; exact hkey), fun _ => .seen hkey, ?_⟩)
     intro M3 i hi hit
     obtain ⟨i1, rfl, hi1, hit1⟩ := hi22 h
     have hi1' : i1 < (l ++ (([] ++ M2) ++ M3)).length := by simp at hi1 ⊢; omega
     have e1 : Sp.tAt (l ++ (([] ++ M2) ++ M3)) (i1 : Int) = n.a := by
      rw [← List.append_assoc, Sp.tAt_app hi1]; exact hit1
     have e2 : Sp.tAt (l ++ (([] ++ M2) ++ M3)) (i : Int) = r4 := by rw [Sp.tAt_of hi]; exact hit
     clear hit
     generalize l ++ (([] ++ M2) ++ M3) = l' at *
     unfold Sp.fol; rw [if_neg hin', hn]
     have hkey2 := hkn.2.1
     simp only at hkey2
     simp [hk7, x4, x5, Sp.ahead_of hi, Sp.ahead_of hi1', e1, e2, hkey2, Sp.keyNode]
    ·intro H4 w18 hs18
     have hnk : (kok && decide (r4 ∈ Sp.wkeys S)) = false := by
      have : decide (n.a > 0) = true := by simp; omega
      rw [this] at hc; simpa using hc
     refine J2 H4 w18 sl [] B _ _ _ (C13.hst h0 hs18) (fun _ hd => ?_) (fun h => by rw [hnk] at h; cases h) (fun h => by rw [hnk] at h; cases h)
     obtain ⟨_, i2, i3⟩ := inv hd
     rw [i2, decide_eq_true i3] at hnk; cases hnk
  ·have htB : t ∈ B := by simpa using hb
   intro H2 w4 hs4
   have C4 := C2.hst h0 hs4
   have hnB : (!decide (t ∈ B)) = false := by simp [htB]
   rw [hnB]
   exact J1f 0 0 0 H2 w4 sl [] B C4 (hp0.bar t htB)
theorem c_ded_Proof (k p : Addr) (t : Int) (w0 : World) {L : Sp.Pool} {G : List Int} {S : List Sp.Way} {F FP : Nat → Prop} (hW : Sp.Wf L) (hk : Sp.KnowOk L G S) (h : KnowAt w0 k p G S F) (hP : PoolAt w0 p L FP) :
  Calls Try.prog 37 #[.pointer (some k), .int .i64 t] w0 (fun e w' => ∃ r : Sl, ∃ ok : Bool, e = .returned (.tuple #[r.v, .bool ok]) ∧ ∃ l : List Sp.Step, RetO w0 136 4 (l.map strow) r w' ∧ (ok = true ↔ Sp.Drv L (fun x => x ∈ Sp.wkeys S) t) ∧ (ok = false → l = []) ∧ (ok = true → l ≠ [] ∧ (∀ i (hi : i < l.length), Sp.fol L G (l.take i) l[i] = true) ∧ (l.map Sp.Step.t).Nodup ∧ Sp.tAt l ((l.length : Int) - 1) = t ∧ ∀ s ∈ l, Sp.Sub L t s.t ∨ s.t ∈ Sp.wkeys S)) := by
 suffices key : ∀ K : Sl → Bool → World → Prop, (∀ r ok w' l, RetO w0 136 4 (l.map strow) r w' → (ok = true ↔ Sp.Drv L (fun x => x ∈ Sp.wkeys S) t) → (ok = false → l = []) → (ok = true → l ≠ [] ∧ (∀ i (hi : i < l.length), Sp.fol L G (l.take i) l[i] = true) ∧ (l.map Sp.Step.t).Nodup ∧ Sp.tAt l ((l.length : Int) - 1) = t ∧ ∀ s ∈ l, Sp.Sub L t s.t ∨ s.t ∈ Sp.wkeys S) → K r ok w') → m_deduce_Know_Proof (some k) t w0 K from
  w_deduce_Know_Proof _ _ w0 _ (key _ (fun r ok w' l a b c d => ⟨l, a, b, c, d⟩))
 intro K hK
 unfold m_deduce_Know_Proof
 intro p1 w1 h1
 have B1 := Box.of_new h1
 refine ⟨_, B1.cell0, Br.f rfl ?_⟩
 intro p2 w2 h2 p3 w3 h3 p4 w4 h4
 have B4 := Box.of_new h4
 refine ⟨B4.canW0 (by simp), ?_⟩
 rintro _ rfl
 have X4 := Ext.setCell (w := w4) p4 (.map (some p3.block))
 have B4' := B4.set0 (v := .map (some p3.block))
 have s1 := h1.at_size; have s2 := h2.at_size; have s3 := h3.at_size; have s4 := h4.at_size
 have E1 : Pure w0 w1 := Ext.new h1
 have E2 : Pure w1 w2 := Ext.new h2
 have E3 : Pure w2 w3 := Ext.new h3
 have E4 : Pure w3 w4 := Ext.new h4
 have l1 := B1.lt
 have l2 := (Box.of_new h2).lt
 have l3 := (IMap.of_new (f := ikey) h3).lt
 have l4 := B4.lt
 have z4 := X4.size
 generalize hw5 : w4.setCell p4 (.map (some p3.block)) = w5 at *
 intro p5 w6 h6 p6 w7 h7
 have B7 := Box.of_new h7
 refine ⟨B7.canW0 (by simp), ?_⟩
 rintro _ rfl
 have X7 := Ext.setCell (w := w7) p6 (.map (some p5.block))
 have B7' := B7.set0 (v := .map (some p5.block))
 have s6 := h6.at_size; have s7 := h7.at_size
 have E6 : Pure w5 w6 := Ext.new h6
 have E7 : Pure w6 w7 := Ext.new h7
 have l6 := (IMap.of_new (f := tru) h6).lt
 have l7 := B7.lt
 have z7 := X7.size
 generalize hw8 : w7.setCell p6 (.map (some p5.block)) = w8 at *
 intro p7 w9 h9
 have B9 := Box.of_new h9
 refine ⟨B9.canW0 (by simp), ?_⟩
 rintro _ rfl
 have X9 := Ext.setCell (w := w9) p7 (.func (.func 84) #[] #[.pointer (some p4), .pointer (some p6), .pointer (some p1), .pointer (some p7), .pointer (some p2)])
 have B9' := B9.set0 (v := .func (.func 84) #[] #[.pointer (some p4), .pointer (some p6), .pointer (some p1), .pointer (some p7), .pointer (some p2)])
 have s9 := h9.at_size
 have E9 : Pure w8 w9 := Ext.new h9
 have l9 := B9.lt
 have z9 := X9.size
 have g1 := E1.size; have g2 := E2.size; have g3 := E3.size; have g4 := E4.size; have g6 := E6.size; have g7 := E7.size; have g9 := E9.size
 generalize hw10 : w9.setCell p7 (.func (.func 84) #[] #[.pointer (some p4), .pointer (some p6), .pointer (some p1), .pointer (some p7), .pointer (some p2)]) = w10 at *
 have hnil : ∀ b, ¬ Sl.nil.blk b := fun b hb => by obtain ⟨a, h, _⟩ := hb; cases h
 have T5 : Pure w0 w5 := (((E1.trans E2).trans E3).trans E4).trans' X4 (fun i hi e => by omega)
 have T8 : Pure w5 w8 := (E6.trans E7).trans' X7 (fun i hi e => by omega)
 have T10 : Pure w8 w10 := E9.trans' X9 (fun i hi e => by omega)
 have T : Pure w0 w10 := (T5.trans T8).trans T10
 have T2 : Pure w2 w5 := (E3.trans E4).trans' X4 (fun i hi e => by omega)
 have T1 : Pure w1 w5 := E2.trans T2
 have T3 : Pure w3 w5 := E4.trans' X4 (fun i hi e => by omega)
 have T6 : Pure w6 w8 := E7.trans' X7 (fun i hi e => by omega)
 have T5' : Pure w5 w10 := T8.trans T10
 have h0 : SaysAt w10 k p p4 p6 p1 p7 p2 p3.block p5.block L G S F FP Sl.nil [] [] := by
  refine ⟨⟨(B4'.pure T5').cell0, (B7'.pure T10).cell0, (B1.pure (T1.trans T5')).cell0, B9'.cell0, (Box.of_new h2).pure (T2.trans T5'), (IMap.of_new h3).pure (T3.trans T5'), (IMap.of_new h6).pure (T6.trans T10), Rws.nil _ _ _, ?_, by omega, by omega, by omega, hnil _, hnil _, hnil _⟩, h.pure T, hP.pure T, ?_, ?_⟩
  ·rintro b (rfl | rfl | rfl | hb)
   ·omega
   ·omega
   ·omega
   ·exact (hnil b hb).elim
  ·rintro b hb (rfl | rfl | rfl | hx)
   ·have := h.lt hb; omega
   ·have := h.lt hb; omega
   ·have := h.lt hb; omega
   ·exact hnil b hx
  ·rintro b hb (rfl | rfl | rfl | hx)
   ·have := hP.lt hb; omega
   ·have := hP.lt hb; omega
   ·have := hP.lt hb; omega
   ·exact hnil b hx
 refine ⟨_, h0.prf.a4, 84, #[], _, rfl, Try.call84, ?_⟩
 refine (c_says k p p4 p6 p1 p7 p2 p3.block p5.block hW hk _ t w10 Sl.nil [] [] (Nat.lt_succ_self _) h0 (Sp.PrfOk.nil _ _ _)).mono ?_
 rintro _ w11 ⟨r1, ok, rfl, sl', M, B', hret⟩
 refine ⟨r1, ok, rfl, fun hc => ?_, fun hc => ?_⟩
 ·have hf : ok = false := by simpa using hc
  subst hf
  refine hK Sl.nil false w11 [] ⟨Rws.nil _ _ _, fun b hb => (hnil b hb).elim, T.trans' hret.ext (fun i hi hx => ?_)⟩ hret.drv (fun _ => rfl) (fun h => by cases h)
  rcases hx with rfl | rfl | rfl | hx
  ·omega
  ·omega
  ·omega
  ·exact (hnil _ hx).elim
 ·have ht : ok = true := by simpa using hc
  subst ht
  have hst := hret.st
  have hpf := hret.prf
  have hidx := hret.idx rfl
  simp only [List.nil_append] at hst hpf hidx
  obtain ⟨i, _, hi, hit⟩ := hidx
  refine ⟨sl', hst.prf.a5.cell0, ?_⟩
  refine hK sl' true w11 M ⟨hst.prf.ls, fun b hb => ?_, T.trans' hret.ext (fun i hi hx => ?_)⟩ hret.drv (fun h => by cases h) (fun _ => ⟨?_, hpf.fol, hpf.nd, ?_, fun s hs => (hret.new s hs).2⟩)
  ·rcases hret.own b hb with h | h
   ·exact (hnil b h).elim
   ·have := T.size; omega
  ·rcases hx with rfl | rfl | rfl | hx
   ·omega
   ·omega
   ·omega
   ·exact (hnil _ hx).elim
  ·intro e; subst e; simp at hi
  ·have := hret.last rfl
   simp only [List.nil_append] at this
   rcases this with rfl | h
   ·simp at hi
   ·exact h
theorem c_ded_Derives (k p : Addr) (t : Int) (w0 : World) {L : Sp.Pool} {G : List Int} {S : List Sp.Way} {F FP : Nat → Prop} (hW : Sp.Wf L) (hk : Sp.KnowOk L G S) (h : KnowAt w0 k p G S F) (hP : PoolAt w0 p L FP) :
  Calls Try.prog 17 #[.pointer (some k), .int .i64 t] w0 (fun e w' => ∃ r : Bool, e = .returned (.bool r) ∧ ((r = true ↔ Sp.Drv L (fun x => x ∈ Sp.wkeys S) t) ∧ Pure w0 w')) := by
 refine w_deduce_Know_Derives _ _ w0 (fun r w' => (r = true ↔ Sp.Drv L (fun x => x ∈ Sp.wkeys S) t) ∧ Pure w0 w') ?_
 unfold m_deduce_Know_Derives
 refine (c_ded_Proof k p t w0 hW hk h hP).mono ?_
 rintro _ w1 ⟨r, ok, rfl, l, hr, hd, _, _⟩
 exact ⟨r, ok, rfl, hd, hr.pure⟩
end Go.Proofs
end
section
namespace Go.Sp
theorem inP_of_kind {L : Pool} {t : Int} (h : (nodeOf L t).kind ≠ 0) : inP L t = true := by
 cases hi : inP L t with
 | true => rfl
 | false => rw [nodeOf_out hi] at h; exact absurd rfl h
theorem find_app {L M : Pool} {n : Node} {i : Nat} (h : find L n = some i) : find (L ++ M) n = some i := by
 unfold find at h ⊢
 rw [List.findIdx?_append, h]; rfl
theorem freeK_ne {k : Int} (h : freeK k = true) : k ≠ 0 := by
 rintro rfl; cases h
theorem Drv.app {L M : Pool} {K : Int → Prop} {t : Int} (h : Drv L K t) : Drv (L ++ M) K t := by
 induction h with
 | seen h => exact .seen h
 | free h => exact .free (by rw [nodeOf_app (inP_of_kind (freeK_ne h))]; exact h)
 | @pair t h _ _ ih1 ih2 =>
  have e : nodeOf (L ++ M) t = nodeOf L t := nodeOf_app (inP_of_kind (by omega))
  exact .pair (by rw [e]; exact h) (by rw [e]; exact ih1) (by rw [e]; exact ih2)
 | @hash t h _ ih =>
  have e : nodeOf (L ++ M) t = nodeOf L t := nodeOf_app (inP_of_kind (by omega))
  exact .hash (by rw [e]; exact h) (by rw [e]; exact ih)
 | @sign t i h _ hf hK ih =>
  have e : nodeOf (L ++ M) t = nodeOf L t := nodeOf_app (inP_of_kind (fun h0 => by rw [h0] at h; cases h))
  exact .sign (by rw [e]; exact h) (by rw [e]; exact ih) (by rw [e]; exact find_app hf) hK
theorem node_key {L : Pool} (hW : Wf L) {t : Int} (hk : (nodeOf L t).kind = 6) : nodeOf L t = keyNode (nodeOf L t).frm := by
 have ht := inP_of_kind (L := L) (t := t) (by omega)
 obtain ⟨h1, h2, h3, _⟩ := hW.node ht
 generalize nodeOf L t = n at *
 obtain ⟨k, f, to, u, x, a, b⟩ := n
 simp only at hk
 subst hk
 unfold plainErr at h1
 simp [shapeOf, isKind] at h1
 simp [shapeOf] at h2 h3
 unfold keyNode
 simp only [Node.mk.injEq, true_and]
 exact ⟨h1.1.1, h1.1.2, h1.2, h2, h3⟩
theorem find_key {L : Pool} (hW : Wf L) {t : Int} (hk : (nodeOf L t).kind = 6) : ∃ i : Nat, find L (keyNode (nodeOf L t).frm) = some i ∧ t = (i : Int) + 1 := by
 have ht := inP_of_kind (L := L) (t := t) (by omega)
 obtain ⟨i, hi, rfl⟩ := inP_at ht
 refine ⟨i, ?_, rfl⟩
 rw [← node_key hW hk, nodeOf_lt hi]
 exact Go.Proofs.find_of hW.ok (List.getElem?_eq_getElem hi)
section
variable {L : Pool} {G M : List Int} {S : List Way}
theorem doOp_drv (hW : Wf L) (hk : KnowOk L G S) (hM : ∀ t ∈ M, Drv L (· ∈ wkeys S) t) (o : Op) (h0 : (doOp L G M o).2.1 = 0) : Drv (doOp L G M o).2.2 (· ∈ wkeys S) (doOp L G M o).1 := by
 have hat : ∀ {i t}, atM M i = some t → Drv L (· ∈ wkeys S) t := fun h => by
  obtain ⟨_, h1, rfl⟩ := atM_some h; exact hM _ (List.getElem_mem h1)
 have hcl : ∀ r u t, u ∈ wkeys S → Arises L r u t → t ∈ wkeys S := fun r u t hu ha => hk.closed u hu r t ha
 have hno : (noOp L).2.1 = 0 → False := fun h => by simp [noOp] at h
 have hmk : ∀ n, (make L n).2.1 = 0 → (∀ X, nodeOf (L ++ X) (make L n).1 = n → Drv (L ++ X) (· ∈ wkeys S) (make L n).1) → Drv (make L n).2.2 (· ∈ wkeys S) (make L n).1 := fun n h hh => by
  obtain ⟨X, hX⟩ := make_app L n
  have := make_node h
  rw [hX] at this ⊢
  exact hh X this.2.1
 have hkey : ∀ mk : Int → Int → Node, (∀ k a, showsK (mk k a).kind = true ∧ (mk k a).a = a ∧ whoOf (mk k a) = k) → (keyedOp L M o mk).2.1 = 0 → Drv (keyedOp L M o mk).2.2 (· ∈ wkeys S) (keyedOp L M o mk).1 := fun mk hmkk h => by
  unfold keyedOp at h ⊢
  cases ha : atM M o.a with
  | none => rw [ha] at h; exact (hno h).elim
  | some a =>
   rw [ha] at h
   simp only at h ⊢
   by_cases h6 : (nodeAt L M o.b).kind = 6
   ·rw [if_pos h6] at h ⊢
    cases hb : atM M o.b with
    | none => rw [nodeAt_none hb] at h6; simp [noNode] at h6
    | some b =>
     have hnb : nodeAt L M o.b = nodeOf L b := by unfold nodeAt; rw [hb]
     rw [hnb] at h6 h ⊢
     obtain ⟨i, hf, rfl⟩ := find_key hW h6
     have hKb : ((i : Int) + 1) ∈ wkeys S := by
      rcases (hat hb).inv with h | h | ⟨h, _⟩ | ⟨h, _⟩ | ⟨h, _⟩
      ·exact h
      ·rw [h6] at h; cases h
      ·omega
      ·omega
      ·rw [h6] at h; cases h
     obtain ⟨s1, s2, s3⟩ := hmkk (nodeOf L ((i : Int) + 1)).frm a
     exact hmk _ h (fun X hn => .sign (by rw [hn]; exact s1) (by rw [hn, s2]; exact (hat ha).app) (by rw [hn, s3]; exact find_app hf) hKb)
   ·rw [if_neg h6] at h; exact (hno h).elim
 have hpart : ∀ s, (partOp L M o s).2.1 = 0 → Drv (partOp L M o s).2.2 (· ∈ wkeys S) (partOp L M o s).1 := fun s h => by
  unfold partOp at h ⊢
  by_cases h4 : (nodeAt L M o.a).kind = 4
  ·rw [if_pos h4]
   cases ha : atM M o.a with
   | none => rw [nodeAt_none ha] at h4; simp [noNode] at h4
   | some a =>
    have hna : nodeAt L M o.a = nodeOf L a := by unfold nodeAt; rw [ha]
    rw [hna] at h4 ⊢
    cases s with
    | false => exact (hat ha).shown hcl (r := 1) (.inl ⟨rfl, h4, rfl⟩)
    | true => exact (hat ha).shown hcl (r := 2) (.inr (.inl ⟨rfl, h4, rfl⟩))
  ·rw [if_neg h4] at h; exact (hno h).elim
 by_cases hin : o.code < 0 ∨ 11 < o.code
 ·rw [doOp_out hin] at h0; exact (hno h0).elim
 rcases (show o.code = 0 ∨ o.code = 1 ∨ o.code = 2 ∨ o.code = 3 ∨ o.code = 4 ∨ o.code = 5 ∨ o.code = 6 ∨ o.code = 7 ∨ o.code = 8 ∨ o.code = 9 ∨ o.code = 10 ∨ o.code = 11 by omega) with e | e | e | e | e | e | e | e | e | e | e | e
 ·rw [doOp0 e] at h0 ⊢
  unfold knownOp at h0 ⊢
  cases ha : atM G o.a with
  | none => rw [ha] at h0; exact (hno h0).elim
  | some a =>
   obtain ⟨_, h1, rfl⟩ := atM_some ha
   exact .seen (hk.giv _ (List.getElem_mem h1))
 ·rw [doOp1 e] at h0 ⊢
  exact hmk _ h0 (fun X hn => .free (by rw [hn]; rfl))
 ·rw [doOp2 e] at h0 ⊢
  exact hmk _ h0 (fun X hn => .free (by rw [hn]; rfl))
 ·rw [doOp3 e] at h0 ⊢
  exact hmk _ h0 (fun X hn => .free (by rw [hn]; rfl))
 ·rw [doOp4 e] at h0 ⊢
  unfold pairOp at h0 ⊢
  cases ha : atM M o.a with
  | none => rw [ha] at h0; exact (hno h0).elim
  | some a =>
   rw [ha] at h0
   cases hb : atM M o.b with
   | none => simp only [hb] at h0; exact (hno h0).elim
   | some b =>
    simp only [hb] at h0
    exact hmk _ h0 (fun X hn => .pair (by rw [hn]) (by rw [hn]; exact (hat ha).app) (by rw [hn]; exact (hat hb).app))
 ·rw [doOp5 e] at h0 ⊢
  unfold hashOp at h0 ⊢
  cases ha : atM M o.a with
  | none => rw [ha] at h0; exact (hno h0).elim
  | some a =>
   rw [ha] at h0
   exact hmk _ h0 (fun X hn => .hash (by rw [hn]) (by rw [hn]; exact (hat ha).app))
 ·rw [doOp6 e] at h0 ⊢; exact hpart _ h0
 ·rw [doOp7 e] at h0 ⊢; exact hpart _ h0
 ·rw [doOp8 e] at h0 ⊢
  unfold shownOp at h0 ⊢
  by_cases hs : showsK (nodeAt L M o.a).kind = true
  ·rw [if_pos hs]
   cases ha : atM M o.a with
   | none => rw [nodeAt_none ha] at hs; cases hs
   | some a =>
    have hna : nodeAt L M o.a = nodeOf L a := by unfold nodeAt; rw [ha]
    rw [hna] at hs ⊢
    exact (hat ha).shown hcl (r := 3) (.inr (.inr ⟨rfl, hs, rfl⟩))
  ·rw [if_neg hs] at h0; exact (hno h0).elim
 ·rw [doOp9 e] at h0 ⊢; exact hkey _ (fun k a => ⟨rfl, rfl, rfl⟩) h0
 ·rw [doOp10 e] at h0 ⊢; exact hkey _ (fun k a => ⟨rfl, rfl, rfl⟩) h0
 ·rw [doOp11 e] at h0 ⊢; exact hkey _ (fun k a => ⟨rfl, rfl, rfl⟩) h0
end
theorem runOps_drv {G : List Int} {S : List Way} : ∀ (l : List Op) (L : Pool) (M : List Int), Wf L → KnowOk L G S → (∀ t ∈ M, Drv L (· ∈ wkeys S) t) → ∀ t ∈ (runOps L G M l).1, Drv (runOps L G M l).2.2 (· ∈ wkeys S) t
 | [], _, _, _, _, hM => hM
 | o :: os, L, M, hW, hk, hM => by
  obtain ⟨X, hX⟩ := doOp_app L G M o
  have hM' : ∀ t ∈ M, Drv (doOp L G M o).2.2 (· ∈ wkeys S) t := fun t ht => by rw [hX]; exact (hM t ht).app
  unfold runOps
  split
  ·exact hM'
  ·rename_i h0
   refine runOps_drv os _ _ (doOp_wf hW G M o) (by rw [hX]; exact hk.app) (fun t ht => ?_)
   rcases List.mem_append.1 ht with h | h
   ·exact hM' t h
   ·rw [List.mem_singleton] at h; subst h
    exact doOp_drv hW hk hM o (by simpa using h0)
theorem traceOps_app (L : Pool) (G : List Int) (l : List Op) : ∃ X, (traceOps L G l).2 = L ++ X := by
 unfold traceOps
 split
 ·exact ⟨[], by simp⟩
 ·split
  ·exact ⟨[], by simp⟩
  ·exact runOps_app G l L []
theorem evalOps_app (L : Pool) (G : List Int) (l : List Op) : ∃ X, (evalOps L G l).2.2.2 = L ++ X := by
 unfold evalOps
 split
 ·exact ⟨[], by simp⟩
 ·split
  ·exact ⟨[], by simp⟩
  ·split <;> exact runOps_app G l L []
theorem traceOps_drv {L : Pool} {G : List Int} {S : List Way} (hW : Wf L) (hk : KnowOk L G S) (l : List Op) : ∀ t ∈ (traceOps L G l).1, Drv (traceOps L G l).2 (· ∈ wkeys S) t := by
 unfold traceOps
 split
 ·exact fun t h => by cases h
 ·split
  ·exact fun t h => by cases h
  ·exact runOps_drv l L [] hW hk (fun t h => by cases h)
theorem evalOps_drv {L : Pool} {G : List Int} {S : List Way} (hW : Wf L) (hk : KnowOk L G S) (l : List Op) (h0 : (evalOps L G l).2.1 = 0) : Drv (evalOps L G l).2.2.2 (· ∈ wkeys S) (evalOps L G l).1 := by
 have hr := runOps_drv l L [] hW hk (fun t h => by cases h)
 have hl := (runOps_len G l L []).2
 unfold evalOps at h0 ⊢
 by_cases h1 : l.length > 256
 ·rw [if_pos h1] at h0; simp at h0
 ·rw [if_neg h1] at h0 ⊢
  by_cases h2 : l.length = 0
  ·rw [if_pos h2] at h0; simp at h0
  ·rw [if_neg h2] at h0 ⊢
   by_cases h3 : (runOps L G [] l).2.1 ≠ 0
   ·rw [if_pos h3] at h0; exact absurd h0 h3
   ·rw [if_neg h3]
    have hlen := hl (by simpa using h3)
    have hne : (runOps L G [] l).1 ≠ [] := fun e => by rw [e] at hlen; simp at hlen; omega
    simp only
    rw [List.getLast?_eq_some_getLast hne]
    exact hr _ (List.getLast_mem hne)
theorem traceOps_len (L : Pool) (G : List Int) (l : List Op) : (traceOps L G l).1.length ≤ l.length := by
 have := (runOps_len G l L []).1
 unfold traceOps
 split
 ·simp
 ·split
  ·simp
  ·simpa using this
end Go.Sp
end
section
open Go Go.SE
namespace Go.Proofs
attribute [local irreducible] Calls
theorem c_law09_RecipeSound {ST So : Nat → Prop} (ts : List Sp.Tree) (ops : List Sp.Op) (sT so : Sl) (w0 : World) (hT : TreeAt ST w0 sT (.mk 0 0 0 0 ⟨#[]⟩ ts)) (hS : ∀ b, ST b → b < w0.heap.size) (ho : Lst So w0 5 so (ops.map oprow)) :
  Calls Try.prog 3 #[sT.v, so.v] w0 (fun e w' => ∃ r : Bool, e = .returned (.bool r) ∧ (r = true ∧ Pure w0 w')) := by
 refine w_law09_RecipeSound _ _ w0 (fun r w' => r = true ∧ Pure w0 w') ?_
 unfold m_law09_RecipeSound
 have J1t : ∀ w, Pure w0 w → m_law09_RecipeSound_j1 sT so true w0 None w (fun r w' => r = true ∧ Pure w0 w') := by
  intro w E
  unfold m_law09_RecipeSound_j1
  refine Br.t rfl ?_
  refine (c_live9 w).mono ?_
  rintro _ w3 ⟨r2, rfl, hr2, E3⟩
  exact ⟨_, rfl, E3.keptP, hr2, E.trans E3⟩
 refine (c_law09_large ts sT w0 hT hS).mono ?_
 rintro _ w25 ⟨r18, rfl, hlg, E25⟩
 refine ⟨_, rfl, E25.keptP, fun _ => J1t w25 E25, fun h1 => ?_⟩
 obtain ⟨hn1, hc1⟩ := hlg h1
 refine (c_law09_long ops so w25 (ho.pure E25)).mono ?_
 rintro _ w26 ⟨r19, rfl, hlo, E26'⟩
 have E26 := E25.trans E26'
 refine ⟨_, rfl, E26'.keptP, ?_⟩
 cases r19 with
 | true => exact J1t w26 E26
 | false =>
 have hn2 := hlo rfl
 unfold m_law09_RecipeSound_j1
 refine Br.f rfl ?_
 refine (c_law09_given ts sT w26 (hT.pure E26) (fun b hb => by have := hS b hb; have := E26.size; omega) (by omega) (by omega)).mono ?_
 rintro _ w2 ⟨_, _, rfl, s, p, k, q, sg, S, FP, FK, FR, rfl, rfl, A2', hk⟩
 refine ⟨_, _, rfl, A2'.pure.keptP, Br.f rfl ?_⟩
 have A2 := A2'.base E26
 have hW := Sp.sideAll_wf ts
 have hGn := Sp.sideAll_len ts
 generalize Sp.sideAll ts = Q at *
 obtain ⟨L, G⟩ := Q
 simp only at A2 hk hW hGn
 have Ad2 := A2.pureE (Ext.drew w2)
 refine ⟨fun w => Box w s [.pointer (some p), .pointer (some k), .pointer (some q), sg.v] 36, Ad2.box, ?_⟩
 rintro _ rfl
 refine ⟨s, rfl, some p, fun _ h => h.cell0, s, rfl, some k, fun _ h => h.cell rfl, ?_⟩
 intro p1 w4 n4
 obtain ⟨s1, w5, hr5, R5, E25', E24, hs1, hk5⟩ := ops_copy (ho.pure Ad2.pure) (by omega) n4
 have A5 := Ad2.pureE E25'
 refine ⟨Ad2.box.pure E24, s1, w5, hr5, A5.box, hk5 _ (fun b hb => hb.elim), ?_⟩
 have hP1 : ∀ b, s1.blk b → ¬ FP b := fun b hb hf => by have := hs1 b hb; have := Ad2.pool.lt hf; omega
 refine (c_recipe_Trace (Sl0 := s1.blk) p k s1 ops w5 hW A5.pool A5.know R5.lst (fun b hb => ⟨R5.lt hb, hP1 b hb⟩) (by omega) (by omega)).mono ?_
 rintro _ w6 ⟨sm, rfl, _, ⟨FP6, hP6, hF6, hd6⟩, rows6, own6, X6⟩
 obtain ⟨k6, A6⟩ := A5.prog hP6 X6 hF6
 refine ⟨_, rfl, A6.box, k6, ?_⟩
 have hW1 := Sp.traceOps_wf hW G ops
 have hdv := Sp.traceOps_drv hW hk ops
 have hlt := Sp.traceOps_len L G ops
 have hk1 : Sp.KnowOk (Sp.traceOps L G ops).2 G S := by obtain ⟨X, hX⟩ := Sp.traceOps_app L G ops; rw [hX]; exact hk.app
 generalize Sp.traceOps L G ops = TR at *
 obtain ⟨M, L1⟩ := TR
 simp only at hW1 hdv hlt hk1 A6 rows6
 have hk2 : Sp.KnowOk (Sp.evalOps L1 G ops).2.2.2 G S := by obtain ⟨X, hX⟩ := Sp.evalOps_app L1 G ops; rw [hX]; exact hk1.app
 have hW2 := Sp.evalOps_wf hW1 G ops
 have hdv2 := Sp.evalOps_drv hW1 hk1 ops
 have O6 : Own None w6 38 1 sm (tmr M) := ⟨rows6, fun _ _ h => h⟩
 refine ⟨fun i H' w' => ∃ j : Nat, i = j ∧ j ≤ M.length ∧ SideAt w0 H' w' s p k q sg L1 L G G S FP6 FK FR ∧ Own H' w' 38 1 sm (tmr M), fun i _ => ((M.length : Int) - i).toNat, ⟨0, rfl, Nat.zero_le _, A6, O6⟩, ?_⟩
 rintro _ H' w' hs' ⟨j, rfl, hj, B, O⟩
 unfold m_law09_RecipeSound_l2
 have hml : sm.len = M.length := by rw [O.len, tmr_len]
 have Bd := B.pureE (Ext.drew w')
 refine ⟨fun h => ?_, fun h => ?_⟩
 ·have hltj := lt_of_dec hml h
  obtain ⟨a4, h4, b4, c4⟩ := tm_nth (O.pure (Ext.drew w')).rows.lst hltj
  refine ⟨fun w => Box w s [.pointer (some p), .pointer (some k), .pointer (some q), sg.v] 36 ∧ w.cell? a4 = some (.int .i64 M[j]), ⟨Bd.box, c4⟩, ?_⟩
  rintro _ rfl
  refine ⟨s, rfl, some k, fun _ h => h.1.cell rfl, a4, h4, _, fun _ h => h.2, ?_⟩
  refine (c_ded_Derives k p M[j] w'.drew hW1 hk1 Bd.know Bd.pool).mono ?_
  rintro _ w8 ⟨r5, rfl, hr5, E8⟩
  have : r5 = true := hr5.2 (hdv _ (List.getElem_mem hltj))
  subst this
  refine ⟨_, rfl, ⟨Bd.box.pure E8, E8.cell c4 (fun h => h)⟩, E8.keptP, Br.f rfl ?_⟩
  rw [wrap_succ hltj (by omega)]
  exact ⟨⟨j + 1, rfl, hltj, Bd.pureE E8, (O.pure (Ext.drew w')).pure E8⟩, lt_dec hltj⟩
 ·refine ⟨fun w => Box w s [.pointer (some p), .pointer (some k), .pointer (some q), sg.v] 36, Bd.box, ?_⟩
  rintro _ rfl
  refine ⟨s, rfl, some p, fun _ h => h.cell0, s, rfl, some k, fun _ h => h.cell rfl, ?_⟩
  intro p2 w10 n10
  obtain ⟨s2, w11, hr11, R11, E11, E10, hs2, hk11⟩ := ops_copy (ho.pure Bd.pure) (by omega) n10
  have B11 := Bd.pureE E11
  refine ⟨Bd.box.pure E10, s2, w11, hr11, B11.box, hk11 _ (fun b hb => Bd.hs.lt b hb), ?_⟩
  refine (c_recipe_Eval (Sl0 := s2.blk) p k s2 ops w11 hW1 B11.pool B11.know R11.lst (fun b hb => ⟨R11.lt hb, fun hf => by have := hs2 b hb; have := Bd.pool.lt hf; omega⟩) (by omega) (by omega)).mono ?_
  rintro _ w12 ⟨r6, r7, r8, rfl, hr, FP12, hP12, X12, hF12⟩
  obtain ⟨k12, B12⟩ := B11.prog hP12 X12 hF12
  refine ⟨_, _, _, rfl, B12.box, k12, ?_⟩
  generalize Sp.evalOps L1 G ops = EV at *
  obtain ⟨t, er, pl, L2⟩ := EV
  simp only at hr hk2 hW2 hdv2 B12
  cases hr
  have J3 : ∀ {w : World}, Pure w0 w → ∀ H, m_law09_RecipeSound_j3 true H w (fun r w' => r = true ∧ Pure w0 w') := fun {w} E H => by
   unfold m_law09_RecipeSound_j3
   refine Br.t rfl ?_
   refine (c_live9 w).mono ?_
   rintro _ w14 ⟨_, rfl, rfl, E14⟩
   exact ⟨_, rfl, E14.keptP, rfl, E.trans E14⟩
  refine ⟨fun h => fun w13 hs13 => J3 (B12.hst hs13).pure _, fun h => ⟨s, rfl, fun w13 hs13 => ?_⟩⟩
  have B13 := B12.hst hs13
  refine ⟨some k, B13.box.cell rfl, ?_⟩
  refine (c_ded_Derives k p r6 w13 hW2 hk2 B13.know B13.pool).mono ?_
  rintro _ w15 ⟨r10, rfl, hr10, E15⟩
  have : r10 = true := hr10.2 (hdv2 (by simpa using h))
  subst this
  exact ⟨_, rfl, E15.keptP, J3 (B13.pure.trans E15) _⟩
end Go.Proofs
end
section
namespace Go.SE
open Go.ChangeShapes Go.WideShapes Go.ChangeAt Go.RowKit
section
variable {H : Type} {enc : TypeId × Value → H} {P : Program}
theorem below_trodAll (hl : laidOutB P = true) {W W' : World} (hb : Below W.heap.size W W') : ∀ (ts : List TypeId) (vs : List Value) (ds : List (DataW H)) (ps : List MemPlace), (ts.all fun t => P.readableRec t && decide (t < P.types.size)) = true →
  DataW.TrodAll enc P W 0 (fun _ => true) true ts vs ds ps → (∀ x ∈ ps, x.block < W.heap.size) → DataW.TrodAll enc P W' 0 (fun b => decide (b < W.heap.size)) true ts vs ds ps
 | [], _, _, _, _, h, _ => by
  obtain ⟨rfl, rfl, rfl⟩ := trodAll_nil h
  exact h
 | t :: ts, _, _, _, hr, h, hlt => by
  obtain ⟨v, vs1, d, ds1, a, b, rfl, rfl, rfl, h1, h2⟩ := trodAll_cons h
  simp only [List.all_cons, Bool.and_eq_true, decide_eq_true_eq] at hr
  exact ⟨a, b, Below.trod hl hr.1.1 hr.1.2 h1 hb (fun x hx => hlt x (by simp [hx])), below_trodAll hl hb ts vs1 ds1 b (by simpa using hr.2) h2 (fun x hx => hlt x (by simp [hx])), rfl⟩
theorem law_post {f : Func} {s : ChangeSpec} {W W' : World} {args : Array Value} {ds gs : List (DataW H)} {before : List MemPlace} {t : TypeId} (hl : laidOutB P = true)
  (hv : s.vars = []) (hf : ∀ ds : List (DataW H), ds.length = f.params.size → s.fn H ds = { results := [.lit (.bool true)], args := ds }) (hrt : f.resultTypes = #[t]) (ht : P.underlying t = some .bool)
  (hr : (f.params.toList.all fun t => P.readableRec t && decide (t < P.types.size)) = true)
  (hW : DataW.Whole enc P f.params.toList s.vars false W args.toList ds gs before) (E : Pure W W') :
  s.post enc P f false true false false W args (.bool true) W' := by
 have hW' := hW
 obtain ⟨p, q, hA, hV, rfl, hfz, hnd⟩ := hW
 rw [hv] at hV
 obtain ⟨rfl, rfl⟩ := trodVars_none hV
 have hlen : ds.length = f.params.size := by
  have : ∀ (ts : List TypeId) (vs : List Value) (ds : List (DataW H)) (ps : List MemPlace), DataW.TrodAll enc P W 0 (fun _ => true) true ts vs ds ps → ds.length = ts.length := by
   intro ts
   induction ts with
   | nil => intro vs ds ps h; obtain ⟨_, rfl, _⟩ := trodAll_nil h; rfl
   | cons t ts ih =>
    intro vs ds ps h
    obtain ⟨v, vs1, d, ds1, a, b, _, rfl, _, _, h2⟩ := trodAll_cons h
    simp [ih _ _ _ h2]
  simpa using this _ _ _ _ hA
 have hfn := hf ds hlen
 have hfn' : s.fn H (ds ++ []) = { results := [.lit (.bool true)], args := ds } := by rw [List.append_nil]; exact hfn
 have hlt : ∀ x ∈ p, x.block < W.heap.size := fun x hx => by simpa using hW'.lt x (by simp [hx])
 have bel := E.below
 refine ⟨ds, [], p ++ [], [], p, [], hW', ?_, ?_, ?_, bel.frame _, fun h => by cases h⟩
 ·rw [hfn', hrt]; exact trodAll_mk1 (shut_bool ht _)
 ·rw [hfn']; exact below_trodAll hl bel _ _ _ _ hr hA hlt
 ·rw [hfn', hv]; exact hV
theorem law_lifted {C : Checked} {os : Os} {f : FuncId} {fn : Func} {s : ChangeSpec} {t : TypeId} (hl : laidOutB C.prog = true)
  (hv : s.vars = []) (hf : ∀ ds : List (DataW H), ds.length = fn.params.size → s.fn H ds = { results := [.lit (.bool true)], args := ds }) (hrt : fn.resultTypes = #[t]) (ht : C.prog.underlying t = some .bool)
  (hr : (fn.params.toList.all fun t => C.prog.readableRec t && decide (t < C.prog.types.size)) = true)
  (own : ownKnob C.prog.godebug = none) (started : os.Started) (noInit : C.prog.inits.idxOf? f = none) (hfn : C.prog.funcs[f]? = some fn)
  (witness : ∃ (w : World) (tape : Tape) (i : Input), w.os = os ∧ (w.forCall tape i).Shaped C.prog ∧ i.vars = [] ∧ Input.okWide C.prog (w.forCall tape i) .any w.heap.size f i ∧
   s.pre6 enc C.prog fn [] false (w.forCall tape i).memory i.args ∧ ({} : Assume).holds C.prog (lone (Frame.enter C.prog f i.args .normal) [] (w.forCall tape i)))
  (contract : ∀ (W : World) (base : Nat) (args : Array Value) (ds : List (DataW H)) (p : List MemPlace),
   (∀ (j : Nat) t v, fn.params[j]? = some t → args[j]? = some v → Value.okWide C.prog W .any base t v) →
   DataW.TrodAll enc C.prog W 0 (fun _ => true) true fn.params.toList args.toList ds p → (∀ x ∈ p, x.block < W.heap.size) →
   Calls C.prog f args W (fun e W' => ∃ r : Bool, e = .returned (.bool r) ∧ (r = true ∧ Pure W W'))) :
  ReturnsInHanded {} C os f .any (s.pre6 enc C.prog fn [] false) (s.post enc C.prog fn false true false false) := by
 refine returnsInHanded_of_change own started noInit hfn witness ?_
 intro W base args ds gs before hval hW _ _
 have hW' := hW
 obtain ⟨p, q, hA, hV, rfl, hfz, hnd⟩ := hW
 refine (contract W base args ds p hval hA (fun x hx => by simpa using hW'.lt x (by simp [hx]))).mono fun e W' ⟨r, he, h1, h2⟩ => ?_
 subst h1
 exact ⟨_, he, law_post hl hv hf hrt ht hr hW' h2⟩
end
end Go.SE
namespace Go.SE
open Go.ChangeShapes Go.WideShapes Go.ChangeAt Go.RowKit
section
variable {P : Program} {W : World} {r : Reach} {b0 : Nat} {t : TypeId} {v : Value}
theorem okWide_sl {e : TypeId} (ht : P.underlying t = some (.slice e)) (h : Value.okWide P W r b0 t v) : ∃ a n c, v = .slice a n c := by
 unfold Value.okWide at h
 rw [ht] at h
 simp only at h
 unfold Cell.okWide at h
 rw [ht] at h
 cases v <;> simp [Cell.ok, ht] at h
 exact ⟨_, _, _, rfl⟩
end
end Go.SE
end
section
open Go Go.SE
namespace Go.Proofs
theorem mapM_facts {α β : Type} {f : α → Option β} : ∀ {l : List α} {r : List β}, l.mapM f = some r → r.length = l.length ∧ ∀ (i : Nat) (a : α), l[i]? = some a → ∃ b, f a = some b ∧ r[i]? = some b
 | [], r, h => by
  have : r = [] := by simpa using h.symm
  subst this
  exact ⟨rfl, fun i a h => by simp at h⟩
 | x :: xs, r, h => by
  rw [List.mapM_cons] at h
  cases hx : f x with
  | none => simp [hx] at h
  | some y =>
   cases hxs : xs.mapM f with
   | none => simp [hx, hxs] at h
   | some ys =>
    have : r = y :: ys := by simpa [hx, hxs] using h.symm
    subst this
    obtain ⟨h1, h2⟩ := mapM_facts hxs
    refine ⟨by simp [h1], fun i a ha => ?_⟩
    cases i with
    | zero => cases ha; exact ⟨y, hx, rfl⟩
    | succ i => exact h2 i a (by simpa using ha)
theorem cells_row {w : World} {base : Nat} {a : Addr} {n : Nat} {cs : List Value} (h : w.cells? base a n = some cs) : cs.length = n ∧ Row w a cs := by
 obtain ⟨_, h1, h2⟩ := World.cells?_some h
 exact ⟨h1, fun j hj => h2 j (by omega)⟩
section
variable {H : Type} {enc : TypeId × Value → H} {P : Program} {W : World} {base : Nat} {sp : Nat → Bool} {held : Bool}
theorem trod_int1 {t : TypeId} {k : IntKind} (ht : P.underlying t = some (.int k)) {n : Nat} {c : Value} {x : DataW H × List MemPlace} (h : DataW.trod enc P W base sp held n t [c] = some x) : ∃ m, c = .int k m := by
 cases n with
 | zero => cases h
 | succ n =>
  rw [DataW.trod_step] at h
  unfold DataW.trodStep at h
  rw [ht] at h
  cases c <;> simp at h
  obtain ⟨⟨rfl, _⟩, _⟩ := h
  exact ⟨_, rfl⟩
theorem trod_str1 {t : TypeId} (ht : P.underlying t = some .string) {n : Nat} {c : Value} {x : DataW H × List MemPlace} (h : DataW.trod enc P W base sp held n t [c] = some x) : ∃ m, c = .string m := by
 cases n with
 | zero => cases h
 | succ n =>
  rw [DataW.trod_step] at h
  unfold DataW.trodStep at h
  rw [ht] at h
  cases c <;> simp at h
  exact ⟨_, rfl⟩
theorem trod_slice1 {t e : TypeId} (ht : P.underlying t = some (.slice e)) {n : Nat} {c : Value} {x : DataW H × List MemPlace} (h : DataW.trod enc P W base sp held (n + 1) t [c] = some x) :
  c = .slice none 0 0 ∨ ∃ a len cap, c = .slice (some a) len cap ∧ len ≤ cap ∧ cap ≤ maxLen ∧ ∀ i, i < len → ∃ cs y, W.cells? base (a.add (i * P.cellsOf e)) (P.cellsOf e) = some cs ∧ DataW.trod enc P W base sp held n e cs = some y := by
 rw [DataW.trod_step] at h
 unfold DataW.trodStep at h
 rw [ht] at h
 cases c with
 | slice a len cap =>
  cases a with
  | none =>
   cases len with
   | zero => cases cap with
    | zero => exact .inl rfl
    | succ c => simp at h
   | succ l => simp at h
  | some a =>
   right
   simp only at h
   split at h
   ·rename_i hc
    refine ⟨a, len, cap, rfl, hc.2.1, hc.2.2, fun i hi => ?_⟩
    cases hm : (List.range len).mapM fun i => (W.cells? base (a.add (i * P.cellsOf e)) (P.cellsOf e)).bind (DataW.trod enc P W base sp held n e) with
    | none => rw [hm] at h; cases h
    | some r =>
     obtain ⟨b, hb, _⟩ := (mapM_facts hm).2 i i (by simp [hi])
     obtain ⟨cs, h1, h2⟩ := Option.bind_eq_some_iff.1 hb
     exact ⟨cs, b, h1, h2⟩
   ·cases h
 | _ => simp at h
structure TreeTypes (P : Program) (tS tT : TypeId) : Prop where
 ex : ∃ ti tu ts : TypeId, ∃ f0 f1 f2 f3 f4 f5 : Field, P.underlying tS = some (.slice tT) ∧ P.underlying tT = some (.struct #[f0, f1, f2, f3, f4, f5]) ∧ P.cellsOf tT = 6 ∧
  (f0.type = ti ∧ f1.type = ti ∧ f2.type = ti ∧ f3.type = tu ∧ f4.type = ts ∧ f5.type = tS) ∧ (f0.offset = 0 ∧ f1.offset = 1 ∧ f2.offset = 2 ∧ f3.offset = 3 ∧ f4.offset = 4 ∧ f5.offset = 5) ∧
  P.underlying ti = some (.int .i64) ∧ P.underlying tu = some (.int .u64) ∧ P.underlying ts = some .string ∧ P.cellsOf ti = 1 ∧ P.cellsOf tu = 1 ∧ P.cellsOf ts = 1 ∧ P.cellsOf tS = 1
theorem trod_tree {tS tT : TypeId} (hTT : TreeTypes P tS tT) : ∀ n : Nat,
  (∀ (c : Value) (x : DataW H × List MemPlace), DataW.trod enc P W base sp held n tS [c] = some x → ∃ s : Sl, ∃ ts : List Sp.Tree, c = s.v ∧ ∀ (k f t u : Int) (tx : ByteArray), TreeAt (fun _ => True) W s (.mk k f t u tx ts)) ∧
  (∀ (cs : List Value) (x : DataW H × List MemPlace), DataW.trod enc P W base sp held n tT cs = some x → ∃ t s, cs = trow t s ∧ TreeAt (fun _ => True) W s t) := by
 obtain ⟨ti, tu, tx, f0, f1, f2, f3, f4, f5, hS, hT, hc6, ⟨e0, e1, e2, e3, e4, e5⟩, ⟨o0, o1, o2, o3, o4, o5⟩, ui, uu, us, ci, cu, cs1, cS⟩ := hTT.ex
 intro n
 induction n with
 | zero => exact ⟨fun c x h => (by cases h), fun cs x h => (by cases h)⟩
 | succ n ih =>
  refine ⟨fun c x h => ?_, fun cs x h => ?_⟩
  ·rcases trod_slice1 hS h with rfl | ⟨a, len, cap, rfl, hle, hcm, hel⟩
   ·exact ⟨Sl.nil, [], rfl, fun k f t u tx => .mk k f t u tx [] Sl.nil (fun _ => Sl.nil) rfl (by simp) (fun i h => by simp at h) (fun i h => by simp at h)⟩
   ·rw [hc6] at hel
    have hex : ∀ i, ∃ q : Sp.Tree × Sl, i < len → Row W (a.add (i * 6)) (trow q.1 q.2) ∧ TreeAt (fun _ => True) W q.2 q.1 := by
     intro i
     by_cases hi : i < len
     ·obtain ⟨cs, y, h1, h2⟩ := hel i hi
      obtain ⟨tr, s, e, hTr⟩ := ih.2 cs y h2
      exact ⟨(tr, s), fun _ => ⟨e ▸ (cells_row h1).2, hTr⟩⟩
     ·exact ⟨(Sp.Tree.mk 0 0 0 0 ⟨#[]⟩ [], Sl.nil), fun h => absurd h hi⟩
    obtain ⟨q, hq⟩ := Classical.axiomOfChoice hex
    refine ⟨⟨some a, len, cap⟩, (List.range len).map fun i => (q i).1, rfl, fun k f t u tx => .mk k f t u tx _ _ (fun i => (q i).2) (by simp) (by simp only [maxLen] at hcm; simp; omega) (fun i h => ?_) (fun i h => ?_)⟩
    ·have hi : i < len := by simpa using h
     refine ⟨a.add (i * 6), ⟨by omega, by simpa using hi, a, rfl, by simp⟩, trivial, ?_⟩
     simpa using (hq i hi).1
    ·have hi : i < len := by simpa using h
     simpa using (hq i hi).2
  ·rw [DataW.trod_step] at h
   unfold DataW.trodStep at h
   rw [hT] at h
   simp only at h
   split at h
   ·rename_i hl
    rw [hc6] at hl
    match cs, hl with
    | [c0, c1, c2, c3, c4, c5], _ =>
     cases hm : ([f0, f1, f2, f3, f4, f5] : List Field).mapM (fun f => DataW.trod enc P W base sp held n f.type ((([c0, c1, c2, c3, c4, c5] : List Value).drop f.offset).take (P.cellsOf f.type))) with
     | none => rw [hm] at h; cases h
     | some r =>
      have hf := (mapM_facts hm).2
      obtain ⟨_, h0, _⟩ := hf 0 f0 rfl
      obtain ⟨_, h1, _⟩ := hf 1 f1 rfl
      obtain ⟨_, h2, _⟩ := hf 2 f2 rfl
      obtain ⟨_, h3, _⟩ := hf 3 f3 rfl
      obtain ⟨_, h4, _⟩ := hf 4 f4 rfl
      obtain ⟨_, h5, _⟩ := hf 5 f5 rfl
      rw [e0, o0, ci] at h0; rw [e1, o1, ci] at h1; rw [e2, o2, ci] at h2; rw [e3, o3, cu] at h3; rw [e4, o4, cs1] at h4; rw [e5, o5, cS] at h5
      obtain ⟨m0, rfl⟩ := trod_int1 ui h0
      obtain ⟨m1, rfl⟩ := trod_int1 ui h1
      obtain ⟨m2, rfl⟩ := trod_int1 ui h2
      obtain ⟨m3, rfl⟩ := trod_int1 uu h3
      obtain ⟨m4, rfl⟩ := trod_str1 us h4
      obtain ⟨s, ts, rfl, hTr⟩ := ih.1 c5 _ h5
      exact ⟨.mk m0 m1 m2 m3 m4 ts, s, rfl, hTr m0 m1 m2 m3 m4⟩
   ·cases h
theorem trees_of_trod {tS tT : TypeId} (hTT : TreeTypes P tS tT) {v : Value} {d : DataW H} {ps : List MemPlace} (h : DataW.Trod enc P W base sp held tS v d ps) (hv : ∃ a n c, v = .slice a n c) :
  ∃ s : Sl, ∃ ts : List Sp.Tree, v = s.v ∧ TreeAt (fun b => b < W.heap.size) W s (.mk 0 0 0 0 ⟨#[]⟩ ts) := by
 obtain ⟨n, h⟩ := h
 obtain ⟨a, m, c, rfl⟩ := hv
 obtain ⟨s, ts, e, hT⟩ := (trod_tree hTT n).1 _ _ h
 exact ⟨s, ts, e, (hT 0 0 0 0 ⟨#[]⟩).lt.mono (fun b hb => hb.2)⟩
end
theorem treeTypes : TreeTypes Try.prog 22 46 :=
 ⟨3, 44, 9, _, _, _, _, _, _, Try.underlying22, Try.underlying46, by kernel_rfl, ⟨rfl, rfl, rfl, rfl, rfl, rfl⟩, ⟨rfl, rfl, rfl, rfl, rfl, rfl⟩, Try.underlying3, Try.underlying44, Try.underlying9, by kernel_rfl, by kernel_rfl, by kernel_rfl, by kernel_rfl⟩
end Go.Proofs
end
section
open Go Go.SE
namespace Go.Proofs
section
variable {H : Type} {enc : TypeId × Value → H} {P : Program} {W : World} {base : Nat} {sp : Nat → Bool} {held : Bool}
theorem row_lt {a : Addr} {v : Value} {vs : List Value} (h : Row W a (v :: vs)) : a.block < W.heap.size := by
 have := h 0 (by simp)
 have := World.block_lt_of_cell? W (a.add 0) this
 rwa [add_block] at this
theorem list_of_trod {α : Type} {tS e : TypeId} {sz : Nat} {f : α → List Value} (hS : P.underlying tS = some (.slice e)) (hc : P.cellsOf e = sz) (hf : ∀ a, ∃ v vs, f a = v :: vs) (x0 : α)
  (hel : ∀ (n : Nat) (cs : List Value) (x : DataW H × List MemPlace), DataW.trod enc P W base sp held n e cs = some x → ∃ a, cs = f a) {n : Nat} {c : Value} {x : DataW H × List MemPlace} (h : DataW.trod enc P W base sp held n tS [c] = some x) :
  ∃ s : Sl, ∃ xs : List α, c = s.v ∧ Lst (fun b => b < W.heap.size) W sz s (xs.map f) := by
 cases n with
 | zero => cases h
 | succ n =>
  rcases trod_slice1 hS h with rfl | ⟨a, len, cap, rfl, hle, hcm, hall⟩
  ·exact ⟨Sl.nil, [], rfl, ⟨rfl, fun i hi => by simp at hi⟩⟩
  ·rw [hc] at hall
   have hex : ∀ i, ∃ q : α, i < len → Row W (a.add (i * sz)) (f q) := by
    intro i
    by_cases hi : i < len
    ·obtain ⟨cs, y, h1, h2⟩ := hall i hi
     obtain ⟨q, rfl⟩ := hel n cs y h2
     exact ⟨q, fun _ => (cells_row h1).2⟩
    ·exact ⟨x0, fun h => absurd h hi⟩
   obtain ⟨q, hq⟩ := Classical.axiomOfChoice hex
   refine ⟨⟨some a, len, cap⟩, (List.range len).map q, rfl, ⟨by simp, fun i hi => ?_⟩⟩
   have hi : i < len := by simpa using hi
   have hr := hq i hi
   obtain ⟨v, vs, e⟩ := hf (q i)
   refine ⟨a.add (i * sz), ⟨by omega, by simpa using hi, a, rfl, by simp⟩, ?_, by simpa using hr⟩
   rw [e] at hr; exact row_lt hr
theorem trod_fields {t : TypeId} {fs : Array Field} (ht : P.underlying t = some (.struct fs)) {n : Nat} {cs : List Value} {x : DataW H × List MemPlace} (h : DataW.trod enc P W base sp held n t cs = some x) :
  ∃ m, cs.length = P.cellsOf t ∧ ∀ (i : Nat) (f : Field), fs.toList[i]? = some f → ∃ y, DataW.trod enc P W base sp held m f.type ((cs.drop f.offset).take (P.cellsOf f.type)) = some y := by
 cases n with
 | zero => cases h
 | succ n =>
  rw [DataW.trod_step] at h
  unfold DataW.trodStep at h
  rw [ht] at h
  simp only at h
  split at h
  ·rename_i hl
   cases hm : fs.toList.mapM (fun f => DataW.trod enc P W base sp held n f.type ((cs.drop f.offset).take (P.cellsOf f.type))) with
   | none => rw [hm] at h; cases h
   | some r =>
    refine ⟨n, hl, fun i f hf => ?_⟩
    obtain ⟨b, hb, _⟩ := (mapM_facts hm).2 i f hf
    exact ⟨b, hb⟩
  ·cases h
end
section
variable {H : Type} {enc : TypeId × Value → H} {W : World} {base : Nat} {sp : Nat → Bool} {held : Bool}
end
end Go.Proofs
end
section
open Go Go.SE
namespace Go.Proofs
set_option maxRecDepth 100000 in
theorem op_of_trod {H : Type} {enc : TypeId × Value → H} {W : World} {base : Nat} {sp : Nat → Bool} {held : Bool} {n : Nat} {cs : List Value} {x : DataW H × List MemPlace} (h : DataW.trod enc Try.prog W base sp held n 103 cs = some x) : ∃ s, cs = oprow s := by
 obtain ⟨m, hl, hf⟩ := trod_fields Try.underlying103 h
 rw [show (Try.prog.cellsOf 103) = 5 by kernel_rfl] at hl
 match cs, hl with
 | [c0, c1, c2, c3, c4], _ =>
  obtain ⟨_, h0⟩ := hf 0 _ rfl
  obtain ⟨_, h1⟩ := hf 1 _ rfl
  obtain ⟨_, h2⟩ := hf 2 _ rfl
  obtain ⟨_, h3⟩ := hf 3 _ rfl
  obtain ⟨_, h4⟩ := hf 4 _ rfl
  simp only [show (Try.prog.cellsOf 3) = 1 by kernel_rfl, show (Try.prog.cellsOf 44) = 1 by kernel_rfl, show (Try.prog.cellsOf 9) = 1 by kernel_rfl] at h0 h1 h2 h3 h4
  obtain ⟨m0, rfl⟩ := trod_int1 Try.underlying3 h0
  obtain ⟨m1, rfl⟩ := trod_int1 Try.underlying3 h1
  obtain ⟨m2, rfl⟩ := trod_int1 Try.underlying3 h2
  obtain ⟨m3, rfl⟩ := trod_int1 Try.underlying44 h3
  obtain ⟨m4, rfl⟩ := trod_str1 Try.underlying9 h4
  exact ⟨⟨m0, m1, m2, m3, m4⟩, rfl⟩
set_option maxRecDepth 100000 in
theorem ops_in {H : Type} {enc : TypeId × Value → H} {W : World} {base : Nat} {sp : Nat → Bool} {held : Bool} {n : Nat} {c : Value} {x : DataW H × List MemPlace} (h : DataW.trod enc Try.prog W base sp held n 23 [c] = some x) : ∃ s : Sl, ∃ l : List Sp.Op, c = s.v ∧ Lst (fun b => b < W.heap.size) W 5 s (l.map oprow) :=
 list_of_trod (sz := 5) (f := oprow) Try.underlying23 (by kernel_rfl) (fun a => ⟨_, _, rfl⟩) ⟨0, 0, 0, 0, ⟨#[]⟩⟩ (fun _ _ _ h => op_of_trod h) h
end Go.Proofs
end
