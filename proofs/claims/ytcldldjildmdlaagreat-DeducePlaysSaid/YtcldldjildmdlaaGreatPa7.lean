import Derived.Test.YtcldldjildmdlaaGreatProg
import Derived.KernelRfl
import Derived.Test.YtcldldjildmdlaaGreatPa2
import Derived.Test.YtcldldjildmdlaaGreatPa6
import Derived.Test.YtcldldjildmdlaaGreatPa4
section
open Go Go.SE
open Go.IntKind renaming i64 → q6
namespace Go.Proofs
set_option maxRecDepth 100000
set_option maxHeartbeats 4000000
attribute [local irreducible] wpL wpX opE wpE Calls
def m_L3 (seq1 : Value) (w0 : World) (K : Sl → WP) : Prop :=
 Calls Tryz.prog 153 #[Sl.nil.v, seq1] w0 (fun e w1 => ∃ r1 : Sl, e = .returned r1.v ∧ 
  K r1 w1)
theorem w_L3 (seq1 : Value) (w0 : World) (K : Sl → WP) (h : m_L3 seq1 w0 K) :
  Calls Tryz.prog 139 #[seq1] w0 (fun e w' => ∃ r2 : Sl, e = .returned r2.v ∧ K r2 w') := by
 unfold m_L3 at h
 refine cw (args := [seq1]) Tryz.func139 Tryz.ntmps139 (wpE_seq (rg (q0 Sl.nil.v (wpL_nil (th_n (wpE_seq (rg (q0 seq1 ?_))))))))
 refine sc Tryz.call153 (h.mono ?_)
 rintro e w1 ⟨r1, rfl, h⟩
 refine ⟨_, rfl, ?_⟩
 refine q0 r1.v (wpL_nil (th_n (wpE_ret (rs1 Tryz.results139 (v := r1.v) ?_))))
 exact ⟨r1, rfl, h⟩
def m_M3 (x1 : Int) (w0 : World) (K : Int → WP) : Prop :=
 Calls Tryz.prog 167 #[(vu x1)] w0 (fun e w1 => ∃ r1 : Int, e = .returned (vi r1) ∧ 
  K r1 w1)
theorem w_M3 (x1 : Int) (w0 : World) (K : Int → WP) (h : m_M3 x1 w0 K) :
  Calls Tryz.prog 155 #[(vu x1)] w0 (fun e w' => ∃ r2 : Int, e = .returned (vi r2) ∧ K r2 w') := by
 unfold m_M3 at h
 refine cw (args := [(vu x1)]) Tryz.func155 Tryz.ntmps155 (wpE_seq (rg (q0 (vi 0) (wpL_nil (th_n (wpE_seq (wpE_condF (by kernel_rfl) (wpE_skip (th_n (wpE_seq (rg ?_)))))))))))
 refine q0 (vu x1) ?_
 refine sc Tryz.call167 (h.mono ?_)
 rintro e w1 ⟨r1, rfl, h⟩
 refine ⟨_, rfl, ?_⟩
 refine q0 (vi r1) (wpL_nil (th_n (wpE_ret (rs1 Tryz.results155 (v := (vi r1)) ?_))))
 exact ⟨r1, rfl, h⟩
def s_D2 (x1 : Int) : Bool :=
 (x1 != x1)
theorem pw_D2 (x1 : Int) (w0 : World) :
  Calls Tryz.prog 173 #[(vi x1)] w0 (fun e w' => (e = .returned (vb (x1 != x1))) ∧ Pure w0 w') := by
 refine cw (args := [(vi x1)]) Tryz.func173 Tryz.ntmps173 (wpE_seq (rg (q0 (vb false) (wpL_nil (th_n (wpE_seq (rg (q0 (vi x1) (q0 (vi x1) (q0 (vb (x1 != x1)) (q0 (vb (x1 != x1)) ?_)))))))))))
 refine wpL_nil (th_n (wpE_ret (rs1 Tryz.results173 (v := (vb (x1 != x1))) ?_)))
 exact ⟨by kernel_rfl, Ext.refl _⟩
theorem p_D2 (x1 : Int) (w0 : World) : Calls Tryz.prog 173 #[(.int .i64 x1)] w0 (fun e w' => e = .returned (.bool (s_D2 x1)) ∧ Pure w0 w') := pw_D2 x1 w0
def s_A (x1 y1 : Int) : Bool :=
 (((x1 != x1) && (!(y1 != y1))) || (decide (x1 < y1)))
theorem pw_A (x1 y1 : Int) (w0 : World) :
  Calls Tryz.prog 163 #[(vi x1), (vi y1)] w0 (fun e w' => (e = .returned (vb (((x1 != x1) && (!(y1 != y1))) || (decide (x1 < y1))))) ∧ Pure w0 w') := by
 refine cw (args := [(vi x1), (vi y1)]) Tryz.func163 Tryz.ntmps163 ?_
 have hs := Hst.start w0
 have hb := HB.nil None w0
 refine wpE_seq (rg (q0 (vb false) (wpL_nil (th_n (wpE_seq ?_)))))
 refine wpE_via (fun ρ wJ => ∃ HJ : NP, Hst w0 None w0 HJ wJ ∧ HB HJ wJ [] ∧ Has ρ [(4, (vb (((x1 != x1) && (!(y1 != y1))) || (decide (x1 < y1)))))]) ?_ ?_
 ·refine rg (q0 (vi x1) ?_)
  refine sc Tryz.call173 ((p_D2 x1 w0).mono ?_)
  rintro e w7 ⟨he, hE⟩
  refine ⟨(vb (x1 != x1)), he.trans (by kernel_rfl), ?_⟩
  have hs := hs.pure hE
  have hb := hb.pure hE
  refine q0 (vb (x1 != x1)) ?_
  refine wpL_join 4 (fun ρ wJ => ∃ b4'0 : Bool, ∃ HJ : NP, ((x1 != x1) = b4'0) ∧ Hst w0 None w0 HJ wJ ∧ HB HJ wJ [] ∧ Has ρ [(0, (vi x1)), (1, (vi y1)), (11, (vb (b4'0 && (!(y1 != y1)))))]) ?_ ?_
  ·rintro ρ w9 ⟨b4'0, H4, he0, hs, hb, hH⟩
   subst he0
   refine wpL_has hH ?_
   refine q0 (vb ((x1 != x1) && (!(y1 != y1)))) ?_
   refine wpL_join 4 (fun ρ wJ => ∃ b5'0 : Bool, ∃ HJ : NP, (((x1 != x1) && (!(y1 != y1))) = b5'0) ∧ Hst w0 None w0 HJ wJ ∧ HB HJ wJ [] ∧ Has ρ [(16, (vb (b5'0 || (decide (x1 < y1)))))]) ?_ ?_
   ·rintro ρ w11 ⟨b5'0, H5, he0, hs, hb, hH⟩
    subst he0
    refine wpL_has hH ?_
    refine q0 (vb (((x1 != x1) && (!(y1 != y1))) || (decide (x1 < y1)))) (wpL_nil (th_n ?_))
    exact ⟨_, hs, hb, hm⟩
   ·rcases Bool.eq_false_or_eq_true ((x1 != x1) && (!(y1 != y1))) with hg8 | hg8
    ·refine sk (yD 12 hg8) (sk (yD 12 hg8) (sk (yD 12 hg8) (q2 (vb true) (xT hg8) (wpL_nil ?_))))
     exact ⟨true, _, hg8, hs, hb, hm⟩
    ·refine q1 (vi x1) (want1 rfl (yD 12 hg8)) (q1 (vi y1) (want1 rfl (yD 12 hg8)) (q1 (vb (decide (x1 < y1))) (want1 rfl (yD 12 hg8)) (q2 (vb (decide (x1 < y1))) (xF hg8) (wpL_nil ?_))))
     exact ⟨false, _, hg8, hs, hb, hm⟩
  ·rcases Bool.eq_false_or_eq_true (x1 != x1) with hg6 | hg6
   ·refine q1 (vi y1) (want1 rfl (yD 7 hg6)) ?_
    refine st_call (want1 rfl (yD 7 hg6)) (xc Tryz.call173) ((p_D2 y1 w7).mono ?_)
    rintro e w10 ⟨he, hE⟩
    refine ⟨(vb (y1 != y1)), he.trans (by kernel_rfl), ?_⟩
    have hs := hs.pure hE
    have hb := hb.pure hE
    refine q1 (vb (!(y1 != y1))) (want1 rfl (yD 7 hg6)) (q2 (vb (!(y1 != y1))) (xT hg6) (wpL_nil ?_))
    exact ⟨true, _, hg6, hs, hb, hm⟩
   ·refine sk (yD 7 hg6) (sk (yD 7 hg6) (sk (yD 7 hg6) (q2 (vb false) (xF hg6) (wpL_nil ?_))))
    exact ⟨false, _, hg6, hs, hb, hm⟩
 ·rintro ρ w6 ⟨H3, hs, hb, hH⟩
  refine norm_has hH ?_
  refine th_n (wpE_ret (rs1 Tryz.results163 (v := (vb (((x1 != x1) && (!(y1 != y1))) || (decide (x1 < y1))))) ?_))
  exact ⟨by kernel_rfl, (Ext.refl (F := None) _).hst hs⟩
theorem p_A (x1 y1 : Int) (w0 : World) : Calls Tryz.prog 163 #[(.int .i64 x1), (.int .i64 y1)] w0 (fun e w' => e = .returned (.bool (s_A x1 y1)) ∧ Pure w0 w') := pw_A x1 y1 w0
def m_W_l2 (data1 : Sl) (a1 i1 j1 : Int) (w0 : World) (Hl2 : NP) (wl2 : World) (Kc1 : Int → NP → WP) (Kc2 : Int → NP → WP) (_K : WP) : Prop :=
 Br (decide (j1 > a1))
  (∃ a2 : Addr, At data1 j1 1 a2 ∧
  ∃ v1 : Int, wl2.cell? a2 = some (vi v1) ∧ ¬ Hl2 a2.block ∧
  ∃ a3 : Addr, At data1 (q6.wrap (j1 - 1)) 1 a3 ∧
  ∃ v2 : Int, wl2.cell? a3 = some (vi v2) ∧ ¬ Hl2 a3.block ∧
  Br (s_A v1 v2)
   (∀ (H1 : NP) (w3 : World), Hst w0 Hl2 wl2 H1 w3 →
   ∃ C2 : WP, C2 w3.drew ∧ ∀ w5, w5 = w3.drew →
   ∃ a4 : Addr, At data1 (q6.wrap (j1 - 1)) 1 a4 ∧
   ∃ v3 : Int, w5.cell? a4 = some (vi v3) ∧
   ∃ a5 : Addr, At data1 j1 1 a5 ∧
   ∃ v4 : Int, w5.cell? a5 = some (vi v4) ∧
   ∃ a6 : Addr, At data1 j1 1 a6 ∧
   CanW w5 a6 ∧ ¬ H1 a6.block ∧ ∀ w6 : World, w6 = w5.setCell a6 (vi v3) → C2 w6 ∧
   ∃ a7 : Addr, At data1 (q6.wrap (j1 - 1)) 1 a7 ∧
   CanW w6 a7 ∧ ¬ H1 a7.block ∧ ∀ w7 : World, w7 = w6.setCell a7 (vi v4) →
   Kc2 (q6.wrap (j1 - 1)) H1 w7)
   (∀ (H1 : NP) (w3 : World), Hst w0 Hl2 wl2 H1 w3 →
   Kc1 (q6.wrap (i1 + 1)) H1 w3))
  (∀ (H2 : NP) (w8 : World), Hst w0 Hl2 wl2 H2 w8 →
  Kc1 (q6.wrap (i1 + 1)) H2 w8)
def m_W_l1 (data1 : Sl) (a1 b1 i1 : Int) (w0 : World) (Hl1 : NP) (wl1 : World) (Kc1 : Int → NP → WP) (K : WP) : Prop :=
 Br (decide (i1 < b1))
  (∃ (I2 : Int → NP → WP) (mu2 : Int → World → Nat), I2 i1 Hl1 wl1 ∧
   ∀ (j1 : Int) (Hl2 : NP) (wl2 : World), Hst w0 Hl2 wl2 Hl2 wl2 → I2 j1 Hl2 wl2 → m_W_l2 data1 a1 i1 j1 w0 Hl2 wl2 Kc1 (fun y'0 H' w' => I2 y'0 H' w' ∧ mu2 y'0 w' < mu2 j1 wl2) K)
  (K wl1)
def m_W (data1 : Sl) (a1 b1 : Int) (w0 : World) (K : WP) : Prop :=
 ∃ (I1 : Int → NP → WP) (mu1 : Int → World → Nat), I1 (q6.wrap (a1 + 1)) None w0 ∧
  ∀ (i1 : Int) (Hl1 : NP) (wl1 : World), Hst w0 Hl1 wl1 Hl1 wl1 → I1 i1 Hl1 wl1 → m_W_l1 data1 a1 b1 i1 w0 Hl1 wl1 (fun y'0 H' w' => I1 y'0 H' w' ∧ mu1 y'0 w' < mu1 i1 wl1) K
theorem w_W (data1 : Sl) (a1 b1 : Int) (w0 : World) (K : WP) (h : m_W data1 a1 b1 w0 K) :
  Calls Tryz.prog 157 #[data1.v, (vi a1), (vi b1)] w0 (fun e w' => e = .returned (.tuple #[]) ∧ K  w') := by
 unfold m_W at h
 refine cw (args := [data1.v, (vi a1), (vi b1)]) Tryz.func157 Tryz.ntmps157 ?_
 have hs := Hst.start w0
 have hb := HB.nil None w0
 refine wpE_seq (rg (q0 (vi a1) (q0 (vi (q6.wrap (a1 + 1))) (q0 (vi (q6.wrap (a1 + 1))) (wpL_nil (th_n (wpE_block ?_)))))))
 obtain ⟨I1, mu1, h0, hr⟩ := h
 refine wpE_loop (σ := Int × NP × World) (fun s ρ w => w = s.2.2 ∧ Has ρ [(0, data1.v), (1, (vi a1)), (2, (vi b1)), (6, (vi s.1))] ∧ Hst w0 s.2.1 w s.2.1 w ∧ HB s.2.1 w [] ∧ I1 s.1 s.2.1 s.2.2) (fun s => mu1 s.1 s.2.2) ((q6.wrap (a1 + 1)), None, w0) ⟨rfl, hm, hs, hb, h0⟩ ?_
 rintro ⟨i1, Hl1, wl1⟩ ρ w ⟨hw, hH, hs, hb, hI⟩
 obtain rfl : wl1 = w := (show w = wl1 from hw).symm
 have hH : Has ρ [(0, data1.v), (1, (vi a1)), (2, (vi b1)), (6, (vi i1))] := hH
 have hs : Hst w0 Hl1 wl1 Hl1 wl1 := hs
 have hb : HB Hl1 wl1 [] := hb
 have h := hr i1 Hl1 wl1 hs hI
 unfold m_W_l1 at h
 refine wpE_has hH ?_
 refine wpE_seq (wpE_seq (rg (q0 (vi i1) (q0 (vi b1) (q0 (vb (decide (i1 < b1))) (wpL_nil (th_n ?_)))))))
 refine wpE_cond (t := (decide (i1 < b1))) (by kernel_rfl) (fun hc1 => ?_) (fun hc1 => ?_)
 ·have h := h.1 hc1
  refine wpE_skip (th_n (wpE_seq (wpE_block (wpE_seq (rg (q0 (vi i1) (q0 (vi i1) (wpL_nil (th_n (wpE_block ?_))))))))))
  obtain ⟨I2, mu2, h0, hr⟩ := h
  refine wpE_loop (σ := Int × NP × World) (fun s ρ w => w = s.2.2 ∧ Has ρ [(0, data1.v), (1, (vi a1)), (2, (vi b1)), (6, (vi i1)), (7, (vi s.1))] ∧ Hst w0 s.2.1 w s.2.1 w ∧ HB s.2.1 w [] ∧ I2 s.1 s.2.1 s.2.2) (fun s => mu2 s.1 s.2.2) (i1, Hl1, wl1) ⟨rfl, hm, hs, hb, h0⟩ ?_
  rintro ⟨j1, Hl2, wl2⟩ ρ w ⟨hw, hH, hs, hb, hI⟩
  obtain rfl : wl2 = w := (show w = wl2 from hw).symm
  have hH : Has ρ [(0, data1.v), (1, (vi a1)), (2, (vi b1)), (6, (vi i1)), (7, (vi j1))] := hH
  have hs : Hst w0 Hl2 wl2 Hl2 wl2 := hs
  have hb : HB Hl2 wl2 [] := hb
  have h := hr j1 Hl2 wl2 hs hI
  unfold m_W_l2 at h
  refine wpE_has hH ?_
  refine wpE_seq (wpE_seq (wpE_drawnC (fun x => ∃ H', Hst w0 Hl2 wl2 H' x ∧ HB H' x []) [13] [] (by kernel_rfl) (by kernel_rfl) (by kernel_rfl) (by kernel_rfl) ⟨_, hs.drew, hb.drew⟩ ?_))
  intro w1 hw1
  have hs : Hst w0 Hl2 wl2 Hl2 w1 := by rw [hw1]; exact hs.drew
  have hb : HB Hl2 w1 [] := by rw [hw1]; exact hb.drew
  refine qx 0 (vi j1) Kp0 (qx 1 (vi a1) Kp1 (qx 2 (vb (decide (j1 > a1))) Kp2 (qx 3 (vb (decide (j1 > a1))) Kp3 (qg 4 ?_))))
  rcases Bool.eq_false_or_eq_true (decide (j1 > a1)) with hg1 | hg1
  ·have h := h.1 hg1
   refine sz (v := data1.v) Kp4 (want1 rfl (yD 19 hg1)) (fun _ _ => (by kernel_rfl)) (qw 5 (vi j1) Kp5 (want1 rfl (yD 19 hg1)) (qg 6 ?_))
   obtain ⟨a2, hv10, h⟩ := h
   refine sz (v := (vp (some a2))) Kp6 (want1 rfl (yD 19 hg1)) (fun _ _ => (xi (Tryz.runUnderlying52 _) (Tryz.sizeOf30 _) hv10)) (qg 7 ?_)
   obtain ⟨v1, hv9, hnh, h⟩ := h
   refine sz (v := (vi v1)) Kp7 (want1 rfl (yD 19 hg1)) (fun w' hw' => by obtain ⟨H', hs', hb'⟩ := hw'; exact (xl (Tryz.isAgg30 _) (cell_hst hv9 hnh hs'))) ?_
   refine qw 8 data1.v Kp8 (want1 rfl (yD 19 hg1)) (qw 9 (vi j1) Kp9 (want1 rfl (yD 19 hg1)) (qw 10 (vi (q6.wrap (j1 - 1))) (pickA (S8 (pickS (pickS pickZ)))) (want1 rfl (yD 19 hg1)) (qg 11 ?_)))
   obtain ⟨a3, hv8, h⟩ := h
   refine sz (v := (vp (some a3))) (pickA (S8 (pickS (pickS (pickS pickZ))))) (want1 rfl (yD 19 hg1)) (fun _ _ => (xi (Tryz.runUnderlying52 _) (Tryz.sizeOf30 _) hv8)) (qg 12 ?_)
   obtain ⟨v2, hv7, hnh, h⟩ := h
   refine sz (v := (vi v2)) (pickA (S8 (S4 pickZ))) (want1 rfl (yD 19 hg1)) (fun w' hw' => by obtain ⟨H', hs', hb'⟩ := hw'; exact (xl (Tryz.isAgg30 _) (cell_hst hv7 hnh hs'))) ?_
   refine wpX_via (fun ρ wJ => ∃ HJ : NP, Hst w0 Hl2 wl2 HJ wJ ∧ HB HJ wJ [] ∧ Has ρ [(0, data1.v), (1, (vi a1)), (2, (vi b1)), (6, (vi i1)), (7, (vi j1)), (30, (vb (s_A v1 v2)))]) ?_ ?_
   ·refine lg 13 ?_
    refine sl_call (pickA (S8 (S4 (pickS pickZ)))) (want1 rfl (yD 19 hg1)) (by kernel_rfl) (xc Tryz.call163) ((p_A v1 v2 w1).mono ?_)
    rintro e w4 ⟨he, hE⟩
    have hs := hs.pure hE
    have hb := hb.pure hE
    refine ⟨(vb (s_A v1 v2)), he.trans (by kernel_rfl), .inr ⟨_, hs, hb⟩, ?_⟩
    refine qz 14 (vb (s_A v1 v2)) (pickA (S8 (S4 (pickS (pickS pickZ))))) (fun _ _ => (xT hg1)) (wn ?_)
    exact ⟨_, hs, hb, hm⟩
   ·rintro ρ w3 ⟨H1, hs, hb, hH⟩
    refine q_has hH ?_
    refine th_n ?_
    refine wpE_cond (t := (s_A v1 v2)) (by kernel_rfl) (fun hc2 => ?_) (fun hc2 => ?_)
    ·have h := h.1 hc2
     refine wpE_skip (th_n (wpE_seq (wpE_block ?_)))
     have h := h H1 w3 hs
     have hs := hs.here
     obtain ⟨C2, hC, h⟩ := h
     refine wpE_drawnC C2 [15, 17] [17] (by kernel_rfl) (by kernel_rfl) (by kernel_rfl) (by kernel_rfl) hC ?_
     intro w5 hw5
     have h := h w5 hw5
     have hs : Hst w0 H1 w3 H1 w5 := by rw [hw5]; exact hs.drew
     have hb : HB H1 w5 [] := by rw [hw5]; exact hb.drew
     have hs := hs.here
     refine qx 0 data1.v Kp0 (qx 1 (vi j1) Kp1 (qx 2 data1.v Kp2 (qx 3 (vi j1) Kp3 (qx 4 (vi (q6.wrap (j1 - 1))) Kp4 (qx 5 data1.v Kp5 (qx 6 (vi j1) Kp6 (qx 7 (vi (q6.wrap (j1 - 1))) Kp7 (qg 8 ?_))))))))
     obtain ⟨a4, hv6, h⟩ := h
     refine sy (v := (vp (some a4))) Kp8 (fun _ _ => (xi (Tryz.runUnderlying52 _) (Tryz.sizeOf30 _) hv6)) (qg 9 ?_)
     obtain ⟨v3, hv5, h⟩ := h
     refine sye Kp9 (xl (Tryz.isAgg30 _) hv5) (qx 10 data1.v (pickA (S8 (pickS (pickS pickZ)))) (qx 11 (vi j1) (pickA (S8 (pickS (pickS (pickS pickZ))))) (qg 12 ?_)))
     obtain ⟨a5, hv4, h⟩ := h
     refine sy (v := (vp (some a5))) (pickA (S8 (S4 pickZ))) (fun _ _ => (xi (Tryz.runUnderlying52 _) (Tryz.sizeOf30 _) hv4)) (qg 13 ?_)
     obtain ⟨v4, hv3, h⟩ := h
     refine sye (pickA (S8 (S4 (pickS pickZ)))) (xl (Tryz.isAgg30 _) hv3) (qg 14 ?_)
     obtain ⟨a6, hv2, h⟩ := h
     refine sy (v := (vp (some a6))) (pickA (S8 (S4 (pickS (pickS pickZ))))) (fun _ _ => (xi (Tryz.runUnderlying52 _) (Tryz.sizeOf30 _) hv2)) (lg 15 ?_)
     obtain ⟨hp1, hnh, h⟩ := h
     refine sl_t (pickA (S8 (S4 (pickS (pickS (pickS pickZ)))))) (xs (v := (vi v3)) (Tryz.sizeOf30 _) hp1) ?_
     intro w6 hn1
     have h := h w6 hn1
     refine ⟨.inr h.1, ?_⟩
     have h := h.2
     have hk := Kept.sc hnh hn1
     obtain ⟨hs, hb⟩ := hk.hh hs hb
     refine qg 16 ?_
     obtain ⟨a7, hv1, h⟩ := h
     refine sy (v := (vp (some a7))) (pickA (S8 (S8 pickZ))) (fun _ _ => (xi (Tryz.runUnderlying52 _) (Tryz.sizeOf30 _) hv1)) (lg 17 ?_)
     obtain ⟨hp2, hnh, h⟩ := h
     refine sl_t (pickA (S8 (S8 (pickS pickZ)))) (xs (v := (vi v4)) (Tryz.sizeOf30 _) hp2) ?_
     intro w7 hn2
     have h := h w7 hn2
     refine ⟨.inl (by kernel_rfl), ?_⟩
     have hk := Kept.sc hnh hn2
     obtain ⟨hs, hb⟩ := hk.hh hs hb
     refine wn (bl_n (th_n (rg (q0 (vi j1) (q0 (vi (q6.wrap (j1 - 1))) (q0 (vi (q6.wrap (j1 - 1))) (wpL_nil (th_n ?_))))))))
     exact ⟨((q6.wrap (j1 - 1)), H1, w7), ⟨rfl, hm, hs, hb, h.1⟩, h.2⟩
    ·have h := h.2 hc2
     refine wpE_exit (th_x (th_x (bl_eq (bl_n (th_n (rg (q0 (vi i1) (q0 (vi (q6.wrap (i1 + 1))) (q0 (vi (q6.wrap (i1 + 1))) (wpL_nil ?_))))))))))
     have h := h H1 w3 hs
     have hs := hs.here
     refine th_n ?_
     exact ⟨((q6.wrap (i1 + 1)), H1, w3), ⟨rfl, hm, hs, hb, h.1⟩, h.2⟩
  ·have h := h.2 hg1
   refine sx_not Kp4 (unwant rfl (yD 19 hg1) rfl) (qn 5 Kp5 (unwant rfl (yD 19 hg1) rfl) (qn 6 Kp6 (unwant rfl (yD 19 hg1) rfl) (qn 7 Kp7 (unwant rfl (yD 19 hg1) rfl) (qn 8 Kp8 (unwant rfl (yD 19 hg1) rfl) (qn 9 Kp9 (unwant rfl (yD 19 hg1) rfl) (qn 10 (pickA (S8 (pickS (pickS pickZ)))) (unwant rfl (yD 19 hg1) rfl) (qn 11 (pickA (S8 (pickS (pickS (pickS pickZ))))) (unwant rfl (yD 19 hg1) rfl) (qn 12 (pickA (S8 (S4 pickZ))) (unwant rfl (yD 19 hg1) rfl) ?_))))))))
   refine wpX_via (fun ρ wJ => ∃ HJ : NP, Hst w0 Hl2 wl2 HJ wJ ∧ HB HJ wJ [] ∧ Has ρ [(0, data1.v), (1, (vi a1)), (2, (vi b1)), (6, (vi i1)), (7, (vi j1)), (30, (vb false))]) ?_ ?_
   ·refine lg 13 (sx_not (pickA (S8 (S4 (pickS pickZ)))) (unwant rfl (yD 19 hg1) rfl) (qz 14 (vb false) (pickA (S8 (S4 (pickS (pickS pickZ))))) (fun _ _ => (xF hg1)) (wn ?_)))
    exact ⟨_, hs, hb, hm⟩
   ·rintro ρ w8 ⟨H2, hs, hb, hH⟩
    refine q_has hH ?_
    refine th_n (wpE_condF (by kernel_rfl) (wpE_exit (th_x (th_x (bl_eq (bl_n (th_n (rg (q0 (vi i1) (q0 (vi (q6.wrap (i1 + 1))) (q0 (vi (q6.wrap (i1 + 1))) ?_)))))))))))
    refine wpL_nil ?_
    have h := h H2 w8 hs
    have hs := hs.here
    refine th_n ?_
    exact ⟨((q6.wrap (i1 + 1)), H2, w8), ⟨rfl, hm, hs, hb, h.1⟩, h.2⟩
 ·have h := h.2 hc1
  refine wpE_exit (th_x (th_x (bl_eq (res0 (.inr rfl) Tryz.results157 ?_))))
  exact ⟨rfl, h⟩
def m_S1_l1 (data1 : Sl) (hi1 first1 root1 : Int) (w0 : World) (Hl1 : NP) (wl1 : World) (Kc1 : Int → NP → WP) (K : WP) : Prop :=
 Br (decide ((q6.wrap ((q6.wrap (2 * root1)) + 1)) ≥ hi1))
  (K wl1)
  (Br (decide ((q6.wrap ((q6.wrap ((q6.wrap (2 * root1)) + 1)) + 1)) < hi1))
   (∃ a1 : Addr, At data1 (q6.wrap (first1 + (q6.wrap ((q6.wrap (2 * root1)) + 1)))) 1 a1 ∧
   ∃ v1 : Int, wl1.cell? a1 = some (vi v1) ∧ ¬ Hl1 a1.block ∧
   ∃ a2 : Addr, At data1 (q6.wrap ((q6.wrap (first1 + (q6.wrap ((q6.wrap (2 * root1)) + 1)))) + 1)) 1 a2 ∧
   ∃ v2 : Int, wl1.cell? a2 = some (vi v2) ∧ ¬ Hl1 a2.block ∧
   ∀ y1 : Int, y1 = (cond (s_A v1 v2) (q6.wrap ((q6.wrap ((q6.wrap (2 * root1)) + 1)) + 1)) (q6.wrap ((q6.wrap (2 * root1)) + 1))) →
   ∀ (H2 : NP) (w5 : World), Hst w0 Hl1 wl1 H2 w5 →
   ∃ a3 : Addr, At data1 (q6.wrap (first1 + root1)) 1 a3 ∧
   ∃ v3 : Int, w5.cell? a3 = some (vi v3) ∧ ¬ H2 a3.block ∧
   ∃ a4 : Addr, At data1 (q6.wrap (first1 + y1)) 1 a4 ∧
   ∃ v4 : Int, w5.cell? a4 = some (vi v4) ∧ ¬ H2 a4.block ∧
   Br (!(s_A v3 v4))
    (∀ (H3 : NP) (w8 : World), Hst w0 H2 w5 H3 w8 →
    K w8)
    (∀ (H3 : NP) (w8 : World), Hst w0 H2 w5 H3 w8 →
    ∃ C3 : WP, C3 w8.drew ∧ ∀ w10, w10 = w8.drew →
    ∃ a5 : Addr, At data1 (q6.wrap (first1 + y1)) 1 a5 ∧
    ∃ v5 : Int, w10.cell? a5 = some (vi v5) ∧
    ∃ a6 : Addr, At data1 (q6.wrap (first1 + root1)) 1 a6 ∧
    ∃ v6 : Int, w10.cell? a6 = some (vi v6) ∧
    ∃ a7 : Addr, At data1 (q6.wrap (first1 + root1)) 1 a7 ∧
    CanW w10 a7 ∧ ¬ H3 a7.block ∧ ∀ w11 : World, w11 = w10.setCell a7 (vi v5) → C3 w11 ∧
    ∃ a8 : Addr, At data1 (q6.wrap (first1 + y1)) 1 a8 ∧
    CanW w11 a8 ∧ ¬ H3 a8.block ∧ ∀ w12 : World, w12 = w11.setCell a8 (vi v6) →
    Kc1 y1 H3 w12))
   (∀ (H4 : NP) (w13 : World), Hst w0 Hl1 wl1 H4 w13 →
   ∃ a9 : Addr, At data1 (q6.wrap (first1 + root1)) 1 a9 ∧
   ∃ v7 : Int, w13.cell? a9 = some (vi v7) ∧ ¬ H4 a9.block ∧
   ∃ a10 : Addr, At data1 (q6.wrap (first1 + (q6.wrap ((q6.wrap (2 * root1)) + 1)))) 1 a10 ∧
   ∃ v8 : Int, w13.cell? a10 = some (vi v8) ∧ ¬ H4 a10.block ∧
   Br (!(s_A v7 v8))
    (∀ (H5 : NP) (w16 : World), Hst w0 H4 w13 H5 w16 →
    K w16)
    (∀ (H5 : NP) (w16 : World), Hst w0 H4 w13 H5 w16 →
    ∃ C5 : WP, C5 w16.drew ∧ ∀ w18, w18 = w16.drew →
    ∃ a11 : Addr, At data1 (q6.wrap (first1 + (q6.wrap ((q6.wrap (2 * root1)) + 1)))) 1 a11 ∧
    ∃ v9 : Int, w18.cell? a11 = some (vi v9) ∧
    ∃ a12 : Addr, At data1 (q6.wrap (first1 + root1)) 1 a12 ∧
    ∃ v10 : Int, w18.cell? a12 = some (vi v10) ∧
    ∃ a13 : Addr, At data1 (q6.wrap (first1 + root1)) 1 a13 ∧
    CanW w18 a13 ∧ ¬ H5 a13.block ∧ ∀ w19 : World, w19 = w18.setCell a13 (vi v9) → C5 w19 ∧
    ∃ a14 : Addr, At data1 (q6.wrap (first1 + (q6.wrap ((q6.wrap (2 * root1)) + 1)))) 1 a14 ∧
    CanW w19 a14 ∧ ¬ H5 a14.block ∧ ∀ w20 : World, w20 = w19.setCell a14 (vi v10) →
    Kc1 (q6.wrap ((q6.wrap (2 * root1)) + 1)) H5 w20)))
def m_S1 (data1 : Sl) (lo1 hi1 first1 : Int) (w0 : World) (K : WP) : Prop :=
 ∃ (I1 : Int → NP → WP) (mu1 : Int → World → Nat), I1 lo1 None w0 ∧
  ∀ (root1 : Int) (Hl1 : NP) (wl1 : World), Hst w0 Hl1 wl1 Hl1 wl1 → I1 root1 Hl1 wl1 → m_S1_l1 data1 hi1 first1 root1 w0 Hl1 wl1 (fun y'0 H' w' => I1 y'0 H' w' ∧ mu1 y'0 w' < mu1 root1 wl1) K
theorem w_S1 (data1 : Sl) (lo1 hi1 first1 : Int) (w0 : World) (K : WP) (h : m_S1 data1 lo1 hi1 first1 w0 K) :
  Calls Tryz.prog 168 #[data1.v, (vi lo1), (vi hi1), (vi first1)] w0 (fun e w' => e = .returned (.tuple #[]) ∧ K  w') := by
 unfold m_S1 at h
 refine cw (args := [data1.v, (vi lo1), (vi hi1), (vi first1)]) Tryz.func168 Tryz.ntmps168 ?_
 have hs := Hst.start w0
 have hb := HB.nil None w0
 refine wpE_seq (rg (q0 (vi lo1) (q0 (vi lo1) (wpL_nil (th_n (wpE_block ?_))))))
 obtain ⟨I1, mu1, h0, hr⟩ := h
 refine wpE_loop (σ := Int × NP × World) (fun s ρ w => w = s.2.2 ∧ Has ρ [(0, data1.v), (2, (vi hi1)), (3, (vi first1)), (8, (vi s.1))] ∧ Hst w0 s.2.1 w s.2.1 w ∧ HB s.2.1 w [] ∧ I1 s.1 s.2.1 s.2.2) (fun s => mu1 s.1 s.2.2) (lo1, None, w0) ⟨rfl, hm, hs, hb, h0⟩ ?_
 rintro ⟨root1, Hl1, wl1⟩ ρ w ⟨hw, hH, hs, hb, hI⟩
 obtain rfl : wl1 = w := (show w = wl1 from hw).symm
 have hH : Has ρ [(0, data1.v), (2, (vi hi1)), (3, (vi first1)), (8, (vi root1))] := hH
 have hs : Hst w0 Hl1 wl1 Hl1 wl1 := hs
 have hb : HB Hl1 wl1 [] := hb
 have h := hr root1 Hl1 wl1 hs hI
 unfold m_S1_l1 at h
 refine wpE_has hH ?_
 refine wpE_block (wpE_seq (rg (q0 (vi root1) (q0 (vi (q6.wrap (2 * root1))) (q0 (vi (q6.wrap ((q6.wrap (2 * root1)) + 1))) (q0 (vi (q6.wrap ((q6.wrap (2 * root1)) + 1))) (wpL_nil (th_n (wpE_seq (wpE_seq (rg ?_)))))))))))
 refine q0 (vi (q6.wrap ((q6.wrap (2 * root1)) + 1))) (q0 (vi hi1) (q0 (vb (decide ((q6.wrap ((q6.wrap (2 * root1)) + 1)) ≥ hi1))) (wpL_nil (th_n ?_))))
 refine wpE_cond (t := (decide ((q6.wrap ((q6.wrap (2 * root1)) + 1)) ≥ hi1))) (by kernel_rfl) (fun hc1 => ?_) (fun hc1 => ?_)
 ·have h := h.1 hc1
  refine wpE_exit (th_x (bl_ne rfl (th_x (bl_eq (res0 (.inr rfl) Tryz.results168 ?_)))))
  exact ⟨rfl, h⟩
 ·have h := h.2 hc1
  refine wpE_skip (th_n (wpE_seq (wpE_seq (wpE_drawnC (fun x => ∃ H', Hst w0 Hl1 wl1 H' x ∧ HB H' x []) [18] [] (by kernel_rfl) (by kernel_rfl) (by kernel_rfl) (by kernel_rfl) ⟨_, hs.drew, hb.drew⟩ ?_))))
  intro w1 hw1
  have hs : Hst w0 Hl1 wl1 Hl1 w1 := by rw [hw1]; exact hs.drew
  have hb : HB Hl1 w1 [] := by rw [hw1]; exact hb.drew
  refine qx 0 (vi (q6.wrap ((q6.wrap (2 * root1)) + 1))) Kp0 (qx 1 (vi (q6.wrap ((q6.wrap ((q6.wrap (2 * root1)) + 1)) + 1))) Kp1 (qx 2 (vi hi1) Kp2 (qx 3 (vb (decide ((q6.wrap ((q6.wrap ((q6.wrap (2 * root1)) + 1)) + 1)) < hi1))) Kp3 (qx 4 (vb (decide ((q6.wrap ((q6.wrap ((q6.wrap (2 * root1)) + 1)) + 1)) < hi1))) Kp4 (qg 5 ?_)))))
  rcases Bool.eq_false_or_eq_true (decide ((q6.wrap ((q6.wrap ((q6.wrap (2 * root1)) + 1)) + 1)) < hi1)) with hg1 | hg1
  ·have h := h.1 hg1
   refine sz (v := data1.v) Kp5 (want1 rfl (yD 21 hg1)) (fun _ _ => (by kernel_rfl)) (qw 6 (vi first1) Kp6 (want1 rfl (yD 21 hg1)) (qw 7 (vi (q6.wrap ((q6.wrap (2 * root1)) + 1))) Kp7 (want1 rfl (yD 21 hg1)) (qw 8 (vi (q6.wrap (first1 + (q6.wrap ((q6.wrap (2 * root1)) + 1))))) Kp8 (want1 rfl (yD 21 hg1)) (qg 9 ?_))))
   obtain ⟨a1, hv14, h⟩ := h
   refine sz (v := (vp (some a1))) Kp9 (want1 rfl (yD 21 hg1)) (fun _ _ => (xi (Tryz.runUnderlying52 _) (Tryz.sizeOf30 _) hv14)) (qg 10 ?_)
   obtain ⟨v1, hv13, hnh, h⟩ := h
   refine sz (v := (vi v1)) (pickA (S8 (pickS (pickS pickZ)))) (want1 rfl (yD 21 hg1)) (fun w' hw' => by obtain ⟨H', hs', hb'⟩ := hw'; exact (xl (Tryz.isAgg30 _) (cell_hst hv13 hnh hs'))) ?_
   refine qw 11 data1.v (pickA (S8 (pickS (pickS (pickS pickZ))))) (want1 rfl (yD 21 hg1)) (qw 12 (vi first1) (pickA (S8 (S4 pickZ))) (want1 rfl (yD 21 hg1)) (qw 13 (vi (q6.wrap ((q6.wrap (2 * root1)) + 1))) (pickA (S8 (S4 (pickS pickZ)))) (want1 rfl (yD 21 hg1)) (qw 14 (vi (q6.wrap (first1 + (q6.wrap ((q6.wrap (2 * root1)) + 1))))) (pickA (S8 (S4 (pickS (pickS pickZ))))) (want1 rfl (yD 21 hg1)) (qw 15 (vi (q6.wrap ((q6.wrap (first1 + (q6.wrap ((q6.wrap (2 * root1)) + 1)))) + 1))) (pickA (S8 (S4 (pickS (pickS (pickS pickZ)))))) (want1 rfl (yD 21 hg1)) (qg 16 ?_)))))
   obtain ⟨a2, hv12, h⟩ := h
   refine sz (v := (vp (some a2))) (pickA (S8 (S8 pickZ))) (want1 rfl (yD 21 hg1)) (fun _ _ => (xi (Tryz.runUnderlying52 _) (Tryz.sizeOf30 _) hv12)) (qg 17 ?_)
   obtain ⟨v2, hv11, hnh, h⟩ := h
   refine sz (v := (vi v2)) (pickA (S8 (S8 (pickS pickZ)))) (want1 rfl (yD 21 hg1)) (fun w' hw' => by obtain ⟨H', hs', hb'⟩ := hw'; exact (xl (Tryz.isAgg30 _) (cell_hst hv11 hnh hs'))) ?_
   refine wpX_via (fun ρ wJ => ∃ HJ : NP, Hst w0 Hl1 wl1 HJ wJ ∧ HB HJ wJ [] ∧ Has ρ [(0, data1.v), (2, (vi hi1)), (3, (vi first1)), (8, (vi root1)), (9, (vi (q6.wrap ((q6.wrap (2 * root1)) + 1)))), (36, (vb (s_A v1 v2)))]) ?_ ?_
   ·refine lg 18 ?_
    refine sl_call (pickA (S8 (S8 (pickS (pickS pickZ))))) (want1 rfl (yD 21 hg1)) (by kernel_rfl) (xc Tryz.call163) ((p_A v1 v2 w1).mono ?_)
    rintro e w4 ⟨he, hE⟩
    have hs := hs.pure hE
    have hb := hb.pure hE
    refine ⟨(vb (s_A v1 v2)), he.trans (by kernel_rfl), .inr ⟨_, hs, hb⟩, ?_⟩
    refine qz 19 (vb (s_A v1 v2)) (pickA (S8 (S8 (pickS (pickS (pickS pickZ)))))) (fun _ _ => (xT hg1)) (wn ?_)
    exact ⟨_, hs, hb, hm⟩
   ·rintro ρ w3 ⟨H1, hs, hb, hH⟩
    refine q_has hH ?_
    refine th_n ?_
    refine wpE_via (fun ρ wJ => ∃ b2'0 : Bool, ∃ y1 : Int, ∃ HJ : NP, ((s_A v1 v2) = b2'0) ∧ (y1 = (cond b2'0 (q6.wrap ((q6.wrap ((q6.wrap (2 * root1)) + 1)) + 1)) (q6.wrap ((q6.wrap (2 * root1)) + 1)))) ∧ Hst w0 Hl1 wl1 HJ wJ ∧ HB HJ wJ [] ∧ Has ρ [(0, data1.v), (2, (vi hi1)), (3, (vi first1)), (8, (vi root1)), (9, (vi y1))]) ?_ ?_
    ·refine wpE_cond (t := (s_A v1 v2)) (by kernel_rfl) (fun hc3 => ?_) (fun hc3 => ?_)
     ·refine rg (q0 (vi (q6.wrap ((q6.wrap (2 * root1)) + 1))) (q0 (vi (q6.wrap ((q6.wrap ((q6.wrap (2 * root1)) + 1)) + 1))) (q0 (vi (q6.wrap ((q6.wrap ((q6.wrap (2 * root1)) + 1)) + 1))) (wpL_nil (th_n ?_)))))
      exact ⟨true, _, _, hc3, rfl, hs, hb, hm⟩
     ·refine wpE_skip (th_n ?_)
      exact ⟨false, _, _, hc3, rfl, hs, hb, hm⟩
    ·rintro ρ w5 ⟨b2'0, y1, H2, he0, hy1, hs, hb, hH⟩
     subst he0
     have h := h y1 hy1
     refine norm_has hH ?_
     refine th_n (wpE_seq (wpE_seq ?_))
     have h := h H2 w5 hs
     have hs := hs.here
     refine wpE_drawnC (fun x => ∃ H', Hst w0 H2 w5 H' x ∧ HB H' x []) [12] [] (by kernel_rfl) (by kernel_rfl) (by kernel_rfl) (by kernel_rfl) ⟨_, hs.drew, hb.drew⟩ ?_
     intro w6 hw6
     have hs : Hst w0 H2 w5 H2 w6 := by rw [hw6]; exact hs.drew
     have hb : HB H2 w6 [] := by rw [hw6]; exact hb.drew
     refine qx 0 data1.v Kp0 (qx 1 (vi first1) Kp1 (qx 2 (vi root1) Kp2 (qx 3 (vi (q6.wrap (first1 + root1))) Kp3 (qg 4 ?_))))
     obtain ⟨a3, hv10, h⟩ := h
     refine sy (v := (vp (some a3))) Kp4 (fun _ _ => (xi (Tryz.runUnderlying52 _) (Tryz.sizeOf30 _) hv10)) (qg 5 ?_)
     obtain ⟨v3, hv9, hnh, h⟩ := h
     refine sy (v := (vi v3)) Kp5 (fun w' hw' => by obtain ⟨H', hs', hb'⟩ := hw'; exact (xl (Tryz.isAgg30 _) (cell_hst hv9 hnh hs'))) ?_
     refine qx 6 data1.v Kp6 (qx 7 (vi first1) Kp7 (qx 8 (vi y1) Kp8 (qx 9 (vi (q6.wrap (first1 + y1))) Kp9 (qg 10 ?_))))
     obtain ⟨a4, hv8, h⟩ := h
     refine sy (v := (vp (some a4))) (pickA (S8 (pickS (pickS pickZ)))) (fun _ _ => (xi (Tryz.runUnderlying52 _) (Tryz.sizeOf30 _) hv8)) (qg 11 ?_)
     obtain ⟨v4, hv7, hnh, h⟩ := h
     refine sy (v := (vi v4)) (pickA (S8 (pickS (pickS (pickS pickZ))))) (fun w' hw' => by obtain ⟨H', hs', hb'⟩ := hw'; exact (xl (Tryz.isAgg30 _) (cell_hst hv7 hnh hs'))) ?_
     refine wpX_via (fun ρ wJ => ∃ HJ : NP, Hst w0 H2 w5 HJ wJ ∧ HB HJ wJ [] ∧ Has ρ [(0, data1.v), (2, (vi hi1)), (3, (vi first1)), (8, (vi root1)), (9, (vi y1)), (52, (vb (!(s_A v3 v4))))]) ?_ ?_
     ·refine lg 12 ?_
      refine sl_call (pickA (S8 (S4 pickZ))) (want0 rfl) (by kernel_rfl) (xc Tryz.call163) ((p_A v3 v4 w6).mono ?_)
      rintro e w9 ⟨he, hE⟩
      have hs := hs.pure hE
      have hb := hb.pure hE
      refine ⟨(vb (s_A v3 v4)), he.trans (by kernel_rfl), .inr ⟨_, hs, hb⟩, ?_⟩
      refine qx 13 (vb (!(s_A v3 v4))) (pickA (S8 (S4 (pickS pickZ)))) (wn ?_)
      exact ⟨_, hs, hb, hm⟩
     ·rintro ρ w8 ⟨H3, hs, hb, hH⟩
      refine q_has hH ?_
      refine th_n ?_
      refine wpE_cond (t := (!(s_A v3 v4))) (by kernel_rfl) (fun hc4 => ?_) (fun hc4 => ?_)
      ·have h := h.1 hc4
       refine wpE_ret (th_r (bl_r (th_r (bl_r ?_))))
       have h := h H3 w8 hs
       have hs := hs.here
       refine res0 (.inl rfl) Tryz.results168 ?_
       exact ⟨rfl, h⟩
      ·have h := h.2 hc4
       refine wpE_skip (th_n (wpE_seq ?_))
       have h := h H3 w8 hs
       have hs := hs.here
       obtain ⟨C3, hC, h⟩ := h
       refine wpE_drawnC C3 [21, 23] [23] (by kernel_rfl) (by kernel_rfl) (by kernel_rfl) (by kernel_rfl) hC ?_
       intro w10 hw10
       have h := h w10 hw10
       have hs : Hst w0 H3 w8 H3 w10 := by rw [hw10]; exact hs.drew
       have hb : HB H3 w10 [] := by rw [hw10]; exact hb.drew
       have hs := hs.here
       refine qx 0 data1.v Kp0 (qx 1 (vi first1) Kp1 (qx 2 (vi root1) Kp2 (qx 3 (vi (q6.wrap (first1 + root1))) Kp3 (qx 4 data1.v Kp4 (qx 5 (vi first1) Kp5 (qx 6 (vi y1) Kp6 (qx 7 (vi (q6.wrap (first1 + y1))) Kp7 (qx 8 data1.v Kp8 (qx 9 (vi first1) Kp9 (qx 10 (vi y1) (pickA (S8 (pickS (pickS pickZ)))) (qx 11 (vi (q6.wrap (first1 + y1))) (pickA (S8 (pickS (pickS (pickS pickZ))))) ?_)))))))))))
       refine qg 12 ?_
       obtain ⟨a5, hv6, h⟩ := h
       refine sy (v := (vp (some a5))) (pickA (S8 (S4 pickZ))) (fun _ _ => (xi (Tryz.runUnderlying52 _) (Tryz.sizeOf30 _) hv6)) (qg 13 ?_)
       obtain ⟨v5, hv5, h⟩ := h
       refine sye (pickA (S8 (S4 (pickS pickZ)))) (xl (Tryz.isAgg30 _) hv5) (qx 14 data1.v (pickA (S8 (S4 (pickS (pickS pickZ))))) (qx 15 (vi first1) (pickA (S8 (S4 (pickS (pickS (pickS pickZ)))))) (qx 16 (vi root1) (pickA (S8 (S8 pickZ))) (qx 17 (vi (q6.wrap (first1 + root1))) (pickA (S8 (S8 (pickS pickZ)))) (qg 18 ?_)))))
       obtain ⟨a6, hv4, h⟩ := h
       refine sy (v := (vp (some a6))) (pickA (S8 (S8 (pickS (pickS pickZ))))) (fun _ _ => (xi (Tryz.runUnderlying52 _) (Tryz.sizeOf30 _) hv4)) (qg 19 ?_)
       obtain ⟨v6, hv3, h⟩ := h
       refine sye (pickA (S8 (S8 (pickS (pickS (pickS pickZ)))))) (xl (Tryz.isAgg30 _) hv3) (qg 20 ?_)
       obtain ⟨a7, hv2, h⟩ := h
       refine sy (v := (vp (some a7))) (pickA (S8 (S8 (S4 pickZ)))) (fun _ _ => (xi (Tryz.runUnderlying52 _) (Tryz.sizeOf30 _) hv2)) (lg 21 ?_)
       obtain ⟨hp1, hnh, h⟩ := h
       refine sl_t (pickA (S8 (S8 (S4 (pickS pickZ))))) (xs (v := (vi v5)) (Tryz.sizeOf30 _) hp1) ?_
       intro w11 hn1
       have h := h w11 hn1
       refine ⟨.inr h.1, ?_⟩
       have h := h.2
       have hk := Kept.sc hnh hn1
       obtain ⟨hs, hb⟩ := hk.hh hs hb
       refine qg 22 ?_
       obtain ⟨a8, hv1, h⟩ := h
       refine sy (v := (vp (some a8))) (pickA (S8 (S8 (S4 (pickS (pickS pickZ)))))) (fun _ _ => (xi (Tryz.runUnderlying52 _) (Tryz.sizeOf30 _) hv1)) (lg 23 ?_)
       obtain ⟨hp2, hnh, h⟩ := h
       refine sl_t (pickA (S8 (S8 (S4 (pickS (pickS (pickS pickZ))))))) (xs (v := (vi v6)) (Tryz.sizeOf30 _) hp2) ?_
       intro w12 hn2
       have h := h w12 hn2
       refine ⟨.inl (by kernel_rfl), ?_⟩
       have hk := Kept.sc hnh hn2
       obtain ⟨hs, hb⟩ := hk.hh hs hb
       refine wn (th_n (rg (q0 (vi y1) (q0 (vi y1) (wpL_nil (bl_n (th_n ?_)))))))
       exact ⟨(y1, H3, w12), ⟨rfl, hm, hs, hb, h.1⟩, h.2⟩
  ·have h := h.2 hg1
   refine sx_not Kp5 (unwant rfl (yD 21 hg1) rfl) (qn 6 Kp6 (unwant rfl (yD 21 hg1) rfl) (qn 7 Kp7 (unwant rfl (yD 21 hg1) rfl) (qn 8 Kp8 (unwant rfl (yD 21 hg1) rfl) (qn 9 Kp9 (unwant rfl (yD 21 hg1) rfl) (qn 10 (pickA (S8 (pickS (pickS pickZ)))) (unwant rfl (yD 21 hg1) rfl) (qn 11 (pickA (S8 (pickS (pickS (pickS pickZ))))) (unwant rfl (yD 21 hg1) rfl) (qn 12 (pickA (S8 (S4 pickZ))) (unwant rfl (yD 21 hg1) rfl) (qn 13 (pickA (S8 (S4 (pickS pickZ)))) (unwant rfl (yD 21 hg1) rfl) (qn 14 (pickA (S8 (S4 (pickS (pickS pickZ))))) (unwant rfl (yD 21 hg1) rfl) (qn 15 (pickA (S8 (S4 (pickS (pickS (pickS pickZ)))))) (unwant rfl (yD 21 hg1) rfl) (qn 16 (pickA (S8 (S8 pickZ))) (unwant rfl (yD 21 hg1) rfl) ?_)))))))))))
   refine qn 17 (pickA (S8 (S8 (pickS pickZ)))) (unwant rfl (yD 21 hg1) rfl) ?_
   refine wpX_via (fun ρ wJ => ∃ HJ : NP, Hst w0 Hl1 wl1 HJ wJ ∧ HB HJ wJ [] ∧ Has ρ [(0, data1.v), (2, (vi hi1)), (3, (vi first1)), (8, (vi root1)), (9, (vi (q6.wrap ((q6.wrap (2 * root1)) + 1)))), (36, (vb false))]) ?_ ?_
   ·refine lg 18 (sx_not (pickA (S8 (S8 (pickS (pickS pickZ))))) (unwant rfl (yD 21 hg1) rfl) (qz 19 (vb false) (pickA (S8 (S8 (pickS (pickS (pickS pickZ)))))) (fun _ _ => (xF hg1)) (wn ?_)))
    exact ⟨_, hs, hb, hm⟩
   ·rintro ρ w13 ⟨H4, hs, hb, hH⟩
    refine q_has hH ?_
    refine th_n (wpE_condF (by kernel_rfl) (wpE_skip (th_n (wpE_seq (wpE_seq ?_)))))
    have h := h H4 w13 hs
    have hs := hs.here
    refine wpE_drawnC (fun x => ∃ H', Hst w0 H4 w13 H' x ∧ HB H' x []) [12] [] (by kernel_rfl) (by kernel_rfl) (by kernel_rfl) (by kernel_rfl) ⟨_, hs.drew, hb.drew⟩ ?_
    intro w14 hw14
    have hs : Hst w0 H4 w13 H4 w14 := by rw [hw14]; exact hs.drew
    have hb : HB H4 w14 [] := by rw [hw14]; exact hb.drew
    refine qx 0 data1.v Kp0 (qx 1 (vi first1) Kp1 (qx 2 (vi root1) Kp2 (qx 3 (vi (q6.wrap (first1 + root1))) Kp3 (qg 4 ?_))))
    obtain ⟨a9, hv24, h⟩ := h
    refine sy (v := (vp (some a9))) Kp4 (fun _ _ => (xi (Tryz.runUnderlying52 _) (Tryz.sizeOf30 _) hv24)) (qg 5 ?_)
    obtain ⟨v7, hv23, hnh, h⟩ := h
    refine sy (v := (vi v7)) Kp5 (fun w' hw' => by obtain ⟨H', hs', hb'⟩ := hw'; exact (xl (Tryz.isAgg30 _) (cell_hst hv23 hnh hs'))) ?_
    refine qx 6 data1.v Kp6 (qx 7 (vi first1) Kp7 (qx 8 (vi (q6.wrap ((q6.wrap (2 * root1)) + 1))) Kp8 (qx 9 (vi (q6.wrap (first1 + (q6.wrap ((q6.wrap (2 * root1)) + 1))))) Kp9 (qg 10 ?_))))
    obtain ⟨a10, hv22, h⟩ := h
    refine sy (v := (vp (some a10))) (pickA (S8 (pickS (pickS pickZ)))) (fun _ _ => (xi (Tryz.runUnderlying52 _) (Tryz.sizeOf30 _) hv22)) (qg 11 ?_)
    obtain ⟨v8, hv21, hnh, h⟩ := h
    refine sy (v := (vi v8)) (pickA (S8 (pickS (pickS (pickS pickZ))))) (fun w' hw' => by obtain ⟨H', hs', hb'⟩ := hw'; exact (xl (Tryz.isAgg30 _) (cell_hst hv21 hnh hs'))) ?_
    refine wpX_via (fun ρ wJ => ∃ HJ : NP, Hst w0 H4 w13 HJ wJ ∧ HB HJ wJ [] ∧ Has ρ [(0, data1.v), (2, (vi hi1)), (3, (vi first1)), (8, (vi root1)), (9, (vi (q6.wrap ((q6.wrap (2 * root1)) + 1)))), (52, (vb (!(s_A v7 v8))))]) ?_ ?_
    ·refine lg 12 ?_
     refine sl_call (pickA (S8 (S4 pickZ))) (want0 rfl) (by kernel_rfl) (xc Tryz.call163) ((p_A v7 v8 w14).mono ?_)
     rintro e w17 ⟨he, hE⟩
     have hs := hs.pure hE
     have hb := hb.pure hE
     refine ⟨(vb (s_A v7 v8)), he.trans (by kernel_rfl), .inr ⟨_, hs, hb⟩, ?_⟩
     refine qx 13 (vb (!(s_A v7 v8))) (pickA (S8 (S4 (pickS pickZ)))) (wn ?_)
     exact ⟨_, hs, hb, hm⟩
    ·rintro ρ w16 ⟨H5, hs, hb, hH⟩
     refine q_has hH ?_
     refine th_n ?_
     refine wpE_cond (t := (!(s_A v7 v8))) (by kernel_rfl) (fun hc5 => ?_) (fun hc5 => ?_)
     ·have h := h.1 hc5
      refine wpE_ret (th_r (bl_r (th_r (bl_r ?_))))
      have h := h H5 w16 hs
      have hs := hs.here
      refine res0 (.inl rfl) Tryz.results168 ?_
      exact ⟨rfl, h⟩
     ·have h := h.2 hc5
      refine wpE_skip (th_n (wpE_seq ?_))
      have h := h H5 w16 hs
      have hs := hs.here
      obtain ⟨C5, hC, h⟩ := h
      refine wpE_drawnC C5 [21, 23] [23] (by kernel_rfl) (by kernel_rfl) (by kernel_rfl) (by kernel_rfl) hC ?_
      intro w18 hw18
      have h := h w18 hw18
      have hs : Hst w0 H5 w16 H5 w18 := by rw [hw18]; exact hs.drew
      have hb : HB H5 w18 [] := by rw [hw18]; exact hb.drew
      have hs := hs.here
      refine qx 0 data1.v Kp0 (qx 1 (vi first1) Kp1 (qx 2 (vi root1) Kp2 (qx 3 (vi (q6.wrap (first1 + root1))) Kp3 (qx 4 data1.v Kp4 (qx 5 (vi first1) Kp5 (qx 6 (vi (q6.wrap ((q6.wrap (2 * root1)) + 1))) Kp6 (qx 7 (vi (q6.wrap (first1 + (q6.wrap ((q6.wrap (2 * root1)) + 1))))) Kp7 (qx 8 data1.v Kp8 (qx 9 (vi first1) Kp9 (qx 10 (vi (q6.wrap ((q6.wrap (2 * root1)) + 1))) (pickA (S8 (pickS (pickS pickZ)))) (qx 11 (vi (q6.wrap (first1 + (q6.wrap ((q6.wrap (2 * root1)) + 1))))) (pickA (S8 (pickS (pickS (pickS pickZ))))) ?_)))))))))))
      refine qg 12 ?_
      obtain ⟨a11, hv20, h⟩ := h
      refine sy (v := (vp (some a11))) (pickA (S8 (S4 pickZ))) (fun _ _ => (xi (Tryz.runUnderlying52 _) (Tryz.sizeOf30 _) hv20)) (qg 13 ?_)
      obtain ⟨v9, hv19, h⟩ := h
      refine sye (pickA (S8 (S4 (pickS pickZ)))) (xl (Tryz.isAgg30 _) hv19) (qx 14 data1.v (pickA (S8 (S4 (pickS (pickS pickZ))))) (qx 15 (vi first1) (pickA (S8 (S4 (pickS (pickS (pickS pickZ)))))) (qx 16 (vi root1) (pickA (S8 (S8 pickZ))) (qx 17 (vi (q6.wrap (first1 + root1))) (pickA (S8 (S8 (pickS pickZ)))) (qg 18 ?_)))))
      obtain ⟨a12, hv18, h⟩ := h
      refine sy (v := (vp (some a12))) (pickA (S8 (S8 (pickS (pickS pickZ))))) (fun _ _ => (xi (Tryz.runUnderlying52 _) (Tryz.sizeOf30 _) hv18)) (qg 19 ?_)
      obtain ⟨v10, hv17, h⟩ := h
      refine sye (pickA (S8 (S8 (pickS (pickS (pickS pickZ)))))) (xl (Tryz.isAgg30 _) hv17) (qg 20 ?_)
      obtain ⟨a13, hv16, h⟩ := h
      refine sy (v := (vp (some a13))) (pickA (S8 (S8 (S4 pickZ)))) (fun _ _ => (xi (Tryz.runUnderlying52 _) (Tryz.sizeOf30 _) hv16)) (lg 21 ?_)
      obtain ⟨hp3, hnh, h⟩ := h
      refine sl_t (pickA (S8 (S8 (S4 (pickS pickZ))))) (xs (v := (vi v9)) (Tryz.sizeOf30 _) hp3) ?_
      intro w19 hn3
      have h := h w19 hn3
      refine ⟨.inr h.1, ?_⟩
      have h := h.2
      have hk := Kept.sc hnh hn3
      obtain ⟨hs, hb⟩ := hk.hh hs hb
      refine qg 22 ?_
      obtain ⟨a14, hv15, h⟩ := h
      refine sy (v := (vp (some a14))) (pickA (S8 (S8 (S4 (pickS (pickS pickZ)))))) (fun _ _ => (xi (Tryz.runUnderlying52 _) (Tryz.sizeOf30 _) hv15)) (lg 23 ?_)
      obtain ⟨hp4, hnh, h⟩ := h
      refine sl_t (pickA (S8 (S8 (S4 (pickS (pickS (pickS pickZ))))))) (xs (v := (vi v10)) (Tryz.sizeOf30 _) hp4) ?_
      intro w20 hn4
      have h := h w20 hn4
      refine ⟨.inl (by kernel_rfl), ?_⟩
      have hk := Kept.sc hnh hn4
      obtain ⟨hs, hb⟩ := hk.hh hs hb
      refine wn (th_n (rg (q0 (vi (q6.wrap ((q6.wrap (2 * root1)) + 1))) (q0 (vi (q6.wrap ((q6.wrap (2 * root1)) + 1))) (wpL_nil (bl_n (th_n ?_)))))))
      exact ⟨((q6.wrap ((q6.wrap (2 * root1)) + 1)), H5, w20), ⟨rfl, hm, hs, hb, h.1⟩, h.2⟩
def m_X_l2 (data1 : Sl) (a1 i2 : Int) (Hl2 : NP) (wl2 : World) (Kc2 : Int → NP → WP) (K : WP) : Prop :=
 Br (decide (i2 ≥ 0))
  (∃ C1 : WP, C1 wl2.drew ∧ ∀ w2, w2 = wl2.drew →
  ∃ a2 : Addr, At data1 (q6.wrap (a1 + i2)) 1 a2 ∧
  ∃ v1 : Int, w2.cell? a2 = some (vi v1) ∧
  ∃ a3 : Addr, At data1 a1 1 a3 ∧
  ∃ v2 : Int, w2.cell? a3 = some (vi v2) ∧
  ∃ a4 : Addr, At data1 a1 1 a4 ∧
  CanW w2 a4 ∧ ¬ Hl2 a4.block ∧ ∀ w3 : World, w3 = w2.setCell a4 (vi v1) → C1 w3 ∧
  ∃ a5 : Addr, At data1 (q6.wrap (a1 + i2)) 1 a5 ∧
  CanW w3 a5 ∧ ¬ Hl2 a5.block ∧ ∀ w4 : World, w4 = w3.setCell a5 (vi v2) →
  Calls Tryz.prog 168 #[data1.v, (vi 0), (vi i2), (vi a1)] w4 (fun e w5 => e = .returned (.tuple #[]) ∧ 
   Kept Hl2 w4 w5 ∧
   Kc2 (q6.wrap (i2 - 1)) Hl2 w5))
  (K wl2)
def m_X_l1 (data1 : Sl) (a1 b1 i1 : Int) (w0 : World) (Hl1 : NP) (wl1 : World) (Kc1 : Int → NP → WP) (K : WP) : Prop :=
 Br (decide (i1 ≥ 0))
  (Calls Tryz.prog 168 #[data1.v, (vi i1), (vi (q6.wrap (b1 - a1))), (vi a1)] wl1 (fun e w1 => e = .returned (.tuple #[]) ∧ 
   Kept Hl1 wl1 w1 ∧
   Kc1 (q6.wrap (i1 - 1)) Hl1 w1))
  (∃ (I2 : Int → NP → WP) (mu2 : Int → World → Nat), I2 (q6.wrap ((q6.wrap (b1 - a1)) - 1)) Hl1 wl1 ∧
   ∀ (i2 : Int) (Hl2 : NP) (wl2 : World), Hst w0 Hl2 wl2 Hl2 wl2 → I2 i2 Hl2 wl2 → m_X_l2 data1 a1 i2 Hl2 wl2 (fun y'0 H' w' => I2 y'0 H' w' ∧ mu2 y'0 w' < mu2 i2 wl2) K)
def m_X (data1 : Sl) (a1 b1 : Int) (w0 : World) (K : WP) : Prop :=
 ∃ z1 : Int, (Go.binOp .quo 3 (vi (q6.wrap ((q6.wrap (b1 - a1)) - 1))) (vi 2)).run Tryz.prog w0 = .ok (vi z1) w0 ∧
 ∃ (I1 : Int → NP → WP) (mu1 : Int → World → Nat), I1 z1 None w0 ∧
  ∀ (i1 : Int) (Hl1 : NP) (wl1 : World), Hst w0 Hl1 wl1 Hl1 wl1 → I1 i1 Hl1 wl1 → m_X_l1 data1 a1 b1 i1 w0 Hl1 wl1 (fun y'0 H' w' => I1 y'0 H' w' ∧ mu1 y'0 w' < mu1 i1 wl1) K
theorem w_X (data1 : Sl) (a1 b1 : Int) (w0 : World) (K : WP) (h : m_X data1 a1 b1 w0 K) :
  Calls Tryz.prog 158 #[data1.v, (vi a1), (vi b1)] w0 (fun e w' => e = .returned (.tuple #[]) ∧ K  w') := by
 unfold m_X at h
 refine cw (args := [data1.v, (vi a1), (vi b1)]) Tryz.func158 Tryz.ntmps158 ?_
 have hs := Hst.start w0
 have hb := HB.nil None w0
 refine wpE_seq (rg (q0 (vi a1) (q0 (vi a1) (wpL_nil (th_n (wpE_seq (rg (q0 (vi 0) (wpL_nil (th_n (wpE_seq ?_)))))))))))
 refine rg (q0 (vi b1) (q0 (vi a1) (q0 (vi (q6.wrap (b1 - a1))) (q0 (vi (q6.wrap (b1 - a1))) (wpL_nil (th_n (wpE_seq (wpE_seq (rg (q0 (vi (q6.wrap (b1 - a1))) (q0 (vi (q6.wrap ((q6.wrap (b1 - a1)) - 1))) ?_)))))))))))
 obtain ⟨z1, hv7, h⟩ := h
 refine q2 (vi z1) (x_bin (by kernel_rfl) (by kernel_rfl) (by kernel_rfl) hv7) (q0 (vi z1) (wpL_nil (th_n (wpE_block ?_))))
 obtain ⟨I1, mu1, h0, hr⟩ := h
 refine wpE_loop (σ := Int × NP × World) (fun s ρ w => w = s.2.2 ∧ Has ρ [(0, data1.v), (6, (vi a1)), (7, (vi 0)), (8, (vi (q6.wrap (b1 - a1)))), (9, (vi s.1))] ∧ Hst w0 s.2.1 w s.2.1 w ∧ HB s.2.1 w [] ∧ I1 s.1 s.2.1 s.2.2) (fun s => mu1 s.1 s.2.2) (z1, None, w0) ⟨rfl, hm, hs, hb, h0⟩ ?_
 rintro ⟨i1, Hl1, wl1⟩ ρ w ⟨hw, hH, hs, hb, hI⟩
 obtain rfl : wl1 = w := (show w = wl1 from hw).symm
 have hH : Has ρ [(0, data1.v), (6, (vi a1)), (7, (vi 0)), (8, (vi (q6.wrap (b1 - a1)))), (9, (vi i1))] := hH
 have hs : Hst w0 Hl1 wl1 Hl1 wl1 := hs
 have hb : HB Hl1 wl1 [] := hb
 have h := hr i1 Hl1 wl1 hs hI
 unfold m_X_l1 at h
 refine wpE_has hH ?_
 refine wpE_seq (wpE_seq (rg (q0 (vi i1) (q0 (vb (decide (i1 ≥ 0))) (wpL_nil (th_n ?_))))))
 refine wpE_cond (t := (decide (i1 ≥ 0))) (by kernel_rfl) (fun hc1 => ?_) (fun hc1 => ?_)
 ·have h := h.1 hc1
  refine wpE_skip (th_n (wpE_seq (wpE_block (rg (q0 data1.v (q0 (vi i1) (q0 (vi (q6.wrap (b1 - a1))) (q0 (vi a1) ?_))))))))
  refine sc Tryz.call168 (h.mono ?_)
  rintro e w1 ⟨rfl, hk, h⟩
  refine ⟨_, rfl, ?_⟩
  obtain ⟨hs, hb⟩ := hk.hh hs hb
  refine wpL_nil (bl_n (th_n (rg (q0 (vi i1) (q0 (vi (q6.wrap (i1 - 1))) (q0 (vi (q6.wrap (i1 - 1))) (wpL_nil (th_n ?_))))))))
  exact ⟨((q6.wrap (i1 - 1)), Hl1, w1), ⟨rfl, hm, hs, hb, h.1⟩, h.2⟩
 ·have h := h.2 hc1
  refine wpE_exit (th_x (th_x (bl_eq (th_n (wpE_seq (rg (q0 (vi (q6.wrap (b1 - a1))) (q0 (vi (q6.wrap ((q6.wrap (b1 - a1)) - 1))) (q0 (vi (q6.wrap ((q6.wrap (b1 - a1)) - 1))) (wpL_nil (th_n ?_)))))))))))
  refine wpE_block ?_
  obtain ⟨I2, mu2, h0, hr⟩ := h
  refine wpE_loop (σ := Int × NP × World) (fun s ρ w => w = s.2.2 ∧ Has ρ [(0, data1.v), (6, (vi a1)), (7, (vi 0)), (10, (vi s.1))] ∧ Hst w0 s.2.1 w s.2.1 w ∧ HB s.2.1 w [] ∧ I2 s.1 s.2.1 s.2.2) (fun s => mu2 s.1 s.2.2) ((q6.wrap ((q6.wrap (b1 - a1)) - 1)), Hl1, wl1) ⟨rfl, hm, hs, hb, h0⟩ ?_
  rintro ⟨i2, Hl2, wl2⟩ ρ w ⟨hw, hH, hs, hb, hI⟩
  obtain rfl : wl2 = w := (show w = wl2 from hw).symm
  have hH : Has ρ [(0, data1.v), (6, (vi a1)), (7, (vi 0)), (10, (vi i2))] := hH
  have hs : Hst w0 Hl2 wl2 Hl2 wl2 := hs
  have hb : HB Hl2 wl2 [] := hb
  have h := hr i2 Hl2 wl2 hs hI
  unfold m_X_l2 at h
  refine wpE_has hH ?_
  refine wpE_seq (wpE_seq (rg (q0 (vi i2) (q0 (vb (decide (i2 ≥ 0))) (wpL_nil (th_n ?_))))))
  refine wpE_cond (t := (decide (i2 ≥ 0))) (by kernel_rfl) (fun hc2 => ?_) (fun hc2 => ?_)
  ·have h := h.1 hc2
   refine wpE_skip (th_n (wpE_seq (wpE_block (wpE_seq ?_))))
   obtain ⟨C1, hC, h⟩ := h
   refine wpE_drawnC C1 [17, 19] [19] (by kernel_rfl) (by kernel_rfl) (by kernel_rfl) (by kernel_rfl) hC ?_
   intro w2 hw2
   have h := h w2 hw2
   have hs : Hst w0 Hl2 wl2 Hl2 w2 := by rw [hw2]; exact hs.drew
   have hb : HB Hl2 w2 [] := by rw [hw2]; exact hb.drew
   have hs := hs.here
   refine qx 0 data1.v Kp0 (qx 1 (vi a1) Kp1 (qx 2 data1.v Kp2 (qx 3 (vi a1) Kp3 (qx 4 (vi i2) Kp4 (qx 5 (vi (q6.wrap (a1 + i2))) Kp5 (qx 6 data1.v Kp6 (qx 7 (vi a1) Kp7 (qx 8 (vi i2) Kp8 (qx 9 (vi (q6.wrap (a1 + i2))) Kp9 (qg 10 ?_))))))))))
   obtain ⟨a2, hv6, h⟩ := h
   refine sy (v := (vp (some a2))) (pickA (S8 (pickS (pickS pickZ)))) (fun _ _ => (xi (Tryz.runUnderlying52 _) (Tryz.sizeOf30 _) hv6)) (qg 11 ?_)
   obtain ⟨v1, hv5, h⟩ := h
   refine sye (pickA (S8 (pickS (pickS (pickS pickZ))))) (xl (Tryz.isAgg30 _) hv5) (qx 12 data1.v (pickA (S8 (S4 pickZ))) (qx 13 (vi a1) (pickA (S8 (S4 (pickS pickZ)))) (qg 14 ?_)))
   obtain ⟨a3, hv4, h⟩ := h
   refine sy (v := (vp (some a3))) (pickA (S8 (S4 (pickS (pickS pickZ))))) (fun _ _ => (xi (Tryz.runUnderlying52 _) (Tryz.sizeOf30 _) hv4)) (qg 15 ?_)
   obtain ⟨v2, hv3, h⟩ := h
   refine sye (pickA (S8 (S4 (pickS (pickS (pickS pickZ)))))) (xl (Tryz.isAgg30 _) hv3) (qg 16 ?_)
   obtain ⟨a4, hv2, h⟩ := h
   refine sy (v := (vp (some a4))) (pickA (S8 (S8 pickZ))) (fun _ _ => (xi (Tryz.runUnderlying52 _) (Tryz.sizeOf30 _) hv2)) (lg 17 ?_)
   obtain ⟨hp1, hnh, h⟩ := h
   refine sl_t (pickA (S8 (S8 (pickS pickZ)))) (xs (v := (vi v1)) (Tryz.sizeOf30 _) hp1) ?_
   intro w3 hn1
   have h := h w3 hn1
   refine ⟨.inr h.1, ?_⟩
   have h := h.2
   have hk := Kept.sc hnh hn1
   obtain ⟨hs, hb⟩ := hk.hh hs hb
   refine qg 18 ?_
   obtain ⟨a5, hv1, h⟩ := h
   refine sy (v := (vp (some a5))) (pickA (S8 (S8 (pickS (pickS pickZ))))) (fun _ _ => (xi (Tryz.runUnderlying52 _) (Tryz.sizeOf30 _) hv1)) (lg 19 ?_)
   obtain ⟨hp2, hnh, h⟩ := h
   refine sl_t (pickA (S8 (S8 (pickS (pickS (pickS pickZ)))))) (xs (v := (vi v2)) (Tryz.sizeOf30 _) hp2) ?_
   intro w4 hn2
   have h := h w4 hn2
   refine ⟨.inl (by kernel_rfl), ?_⟩
   have hk := Kept.sc hnh hn2
   obtain ⟨hs, hb⟩ := hk.hh hs hb
   refine wn (th_n (rg (q0 data1.v (q0 (vi 0) (q0 (vi i2) (q0 (vi a1) ?_))))))
   refine sc Tryz.call168 (h.mono ?_)
   rintro e w5 ⟨rfl, hk, h⟩
   refine ⟨_, rfl, ?_⟩
   obtain ⟨hs, hb⟩ := hk.hh hs hb
   refine wpL_nil (bl_n (th_n (rg (q0 (vi i2) (q0 (vi (q6.wrap (i2 - 1))) (q0 (vi (q6.wrap (i2 - 1))) (wpL_nil (th_n ?_))))))))
   exact ⟨((q6.wrap (i2 - 1)), Hl2, w5), ⟨rfl, hm, hs, hb, h.1⟩, h.2⟩
  ·have h := h.2 hc2
   refine wpE_exit (th_x (th_x (bl_eq (res0 (.inr rfl) Tryz.results158 ?_))))
   exact ⟨rfl, h⟩
def m_N3 (length1 : Int) (w0 : World) (K : Int → WP) : Prop :=
 Calls Tryz.prog 155 #[(vu (IntKind.u64.wrap length1))] w0 (fun e w1 => ∃ r1 : Int, e = .returned (vi r1) ∧ 
  ∃ z1 : Int, (Go.binOp .shl 194 (vu 1) (vi r1)).run Tryz.prog w1 = .ok (vu z1) w1 ∧
  K z1 w1)
theorem w_N3 (length1 : Int) (w0 : World) (K : Int → WP) (h : m_N3 length1 w0 K) :
  Calls Tryz.prog 169 #[(vi length1)] w0 (fun e w' => ∃ r2 : Int, e = .returned (vu r2) ∧ K r2 w') := by
 unfold m_N3 at h
 refine cw (args := [(vi length1)]) Tryz.func169 Tryz.ntmps169 (wpE_seq (rg (q0 (vu 0) (wpL_nil (th_n (wpE_seq (rg (q0 (vi length1) (q0 (vu (IntKind.u64.wrap length1)) ?_)))))))))
 refine sc Tryz.call155 (h.mono ?_)
 rintro e w1 ⟨r1, rfl, h⟩
 refine ⟨_, rfl, ?_⟩
 obtain ⟨z1, hv1, h⟩ := h
 refine q2 (vu z1) (x_bin (by kernel_rfl) (by kernel_rfl) (by kernel_rfl) hv1) (q0 (vu z1) (wpL_nil (th_n (wpE_ret (rs1 Tryz.results169 (v := (vu z1)) ?_)))))
 exact ⟨z1, rfl, h⟩
def m_O3 (r1 : Option Addr) (w0 : World) (K : Int → WP) : Prop :=
 ∃ C1 : WP, C1 w0.drew ∧ ∀ w1, w1 = w0.drew →
 ∃ a1 : Addr, r1 = some a1 ∧
 ∃ v1 : Int, w1.cell? a1 = some (vu v1) ∧
 ∃ a2 : Addr, r1 = some a2 ∧
 ∃ v2 : Int, w1.cell? a2 = some (vu v2) ∧
 ∃ z1 : Int, (Go.binOp .shl 217 (vu v2) (vu 13)).run Tryz.prog w1 = .ok (vu z1) w1 ∧
 ∃ z2 : Int, (Go.binOp .xor 217 (vu v1) (vu z1)).run Tryz.prog w1 = .ok (vu z2) w1 ∧
 ∃ a3 : Addr, r1 = some a3 ∧
 CanW w1 a3 ∧ ¬ None a3.block ∧ ∀ w2 : World, w2 = w1.setCell a3 (vu z2) →
 ∃ C2 : WP, C2 w2.drew ∧ ∀ w3, w3 = w2.drew →
 ∃ a4 : Addr, r1 = some a4 ∧
 ∃ v3 : Int, w3.cell? a4 = some (vu v3) ∧
 ∃ a5 : Addr, r1 = some a5 ∧
 ∃ v4 : Int, w3.cell? a5 = some (vu v4) ∧
 ∃ z3 : Int, (Go.binOp .shr 217 (vu v4) (vu 7)).run Tryz.prog w3 = .ok (vu z3) w3 ∧
 ∃ z4 : Int, (Go.binOp .xor 217 (vu v3) (vu z3)).run Tryz.prog w3 = .ok (vu z4) w3 ∧
 ∃ a6 : Addr, r1 = some a6 ∧
 CanW w3 a6 ∧ ¬ None a6.block ∧ ∀ w4 : World, w4 = w3.setCell a6 (vu z4) →
 ∃ C3 : WP, C3 w4.drew ∧ ∀ w5, w5 = w4.drew →
 ∃ a7 : Addr, r1 = some a7 ∧
 ∃ v5 : Int, w5.cell? a7 = some (vu v5) ∧
 ∃ a8 : Addr, r1 = some a8 ∧
 ∃ v6 : Int, w5.cell? a8 = some (vu v6) ∧
 ∃ z5 : Int, (Go.binOp .shl 217 (vu v6) (vu 17)).run Tryz.prog w5 = .ok (vu z5) w5 ∧
 ∃ z6 : Int, (Go.binOp .xor 217 (vu v5) (vu z5)).run Tryz.prog w5 = .ok (vu z6) w5 ∧
 ∃ a9 : Addr, r1 = some a9 ∧
 CanW w5 a9 ∧ ¬ None a9.block ∧ ∀ w6 : World, w6 = w5.setCell a9 (vu z6) →
 ∃ a10 : Addr, r1 = some a10 ∧
 ∃ v7 : Int, w6.cell? a10 = some (vu v7) ∧
 K v7 w6
theorem w_O3 (r1 : Option Addr) (w0 : World) (K : Int → WP) (h : m_O3 r1 w0 K) :
  Calls Tryz.prog 170 #[(vp r1)] w0 (fun e w' => ∃ r2 : Int, e = .returned (vu r2) ∧ K r2 w') := by
 unfold m_O3 at h
 refine cw (args := [(vp r1)]) Tryz.func170 Tryz.ntmps170 ?_
 have hs := Hst.start w0
 have hb := HB.nil None w0
 refine wpE_seq (rg (q0 (vu 0) (wpL_nil (th_n (wpE_seq ?_)))))
 obtain ⟨C1, hC, h⟩ := h
 refine wpE_drawnC C1 [9] [9] (by kernel_rfl) (by kernel_rfl) (by kernel_rfl) (by kernel_rfl) hC ?_
 intro w1 hw1
 have h := h w1 hw1
 have hs : Hst w0 None w0 None w1 := by rw [hw1]; exact hs.drew
 have hb : HB None w1 [] := by rw [hw1]; exact hb.drew
 have hs := hs.here
 refine qx 0 (vp r1) Kp0 (qg 1 ?_)
 obtain ⟨a1, hp1, h⟩ := h
 refine sy (v := (vp (some a1))) Kp1 (fun _ _ => (x_nilCheck (p := r1) (by kernel_rfl) hp1)) (qg 2 ?_)
 obtain ⟨v1, hv13, h⟩ := h
 refine sye Kp2 (xl (Tryz.isAgg217 _) hv13) (qx 3 (vp r1) Kp3 (qg 4 ?_))
 obtain ⟨a2, hp2, h⟩ := h
 refine sy (v := (vp (some a2))) Kp4 (fun _ _ => (x_nilCheck (p := r1) (by kernel_rfl) hp2)) (qg 5 ?_)
 obtain ⟨v2, hv12, h⟩ := h
 refine sye Kp5 (xl (Tryz.isAgg217 _) hv12) (qg 6 ?_)
 obtain ⟨z1, hv11, h⟩ := h
 refine sye (v := (vu z1)) Kp6 (x_bin (by kernel_rfl) (by kernel_rfl) (by kernel_rfl) hv11) (qg 7 ?_)
 obtain ⟨z2, hv10, h⟩ := h
 refine sye (v := (vu z2)) Kp7 (x_bin (by kernel_rfl) (by kernel_rfl) (by kernel_rfl) hv10) (qg 8 ?_)
 obtain ⟨a3, hp3, h⟩ := h
 refine sy (v := (vp (some a3))) Kp8 (fun _ _ => (x_nilCheck (p := r1) (by kernel_rfl) hp3)) (lg 9 ?_)
 obtain ⟨hp4, hnh, h⟩ := h
 refine sl_t Kp9 (xs (v := (vu z2)) (Tryz.sizeOf217 _) hp4) ?_
 intro w2 hn1
 have h := h w2 hn1
 refine ⟨.inl (by kernel_rfl), ?_⟩
 have hk := Kept.sc hnh hn1
 obtain ⟨hs, hb⟩ := hk.hh hs hb
 refine wn (th_n (wpE_seq ?_))
 obtain ⟨C2, hC, h⟩ := h
 refine wpE_drawnC C2 [9] [9] (by kernel_rfl) (by kernel_rfl) (by kernel_rfl) (by kernel_rfl) hC ?_
 intro w3 hw3
 have h := h w3 hw3
 have hs : Hst w0 None w2 None w3 := by rw [hw3]; exact hs.drew
 have hb : HB None w3 [] := by rw [hw3]; exact hb.drew
 have hs := hs.here
 refine qx 0 (vp r1) Kp0 (qg 1 ?_)
 obtain ⟨a4, hp5, h⟩ := h
 refine sy (v := (vp (some a4))) Kp1 (fun _ _ => (x_nilCheck (p := r1) (by kernel_rfl) hp5)) (qg 2 ?_)
 obtain ⟨v3, hv9, h⟩ := h
 refine sye Kp2 (xl (Tryz.isAgg217 _) hv9) (qx 3 (vp r1) Kp3 (qg 4 ?_))
 obtain ⟨a5, hp6, h⟩ := h
 refine sy (v := (vp (some a5))) Kp4 (fun _ _ => (x_nilCheck (p := r1) (by kernel_rfl) hp6)) (qg 5 ?_)
 obtain ⟨v4, hv8, h⟩ := h
 refine sye Kp5 (xl (Tryz.isAgg217 _) hv8) (qg 6 ?_)
 obtain ⟨z3, hv7, h⟩ := h
 refine sye (v := (vu z3)) Kp6 (x_bin (by kernel_rfl) (by kernel_rfl) (by kernel_rfl) hv7) (qg 7 ?_)
 obtain ⟨z4, hv6, h⟩ := h
 refine sye (v := (vu z4)) Kp7 (x_bin (by kernel_rfl) (by kernel_rfl) (by kernel_rfl) hv6) (qg 8 ?_)
 obtain ⟨a6, hp7, h⟩ := h
 refine sy (v := (vp (some a6))) Kp8 (fun _ _ => (x_nilCheck (p := r1) (by kernel_rfl) hp7)) (lg 9 ?_)
 obtain ⟨hp8, hnh, h⟩ := h
 refine sl_t Kp9 (xs (v := (vu z4)) (Tryz.sizeOf217 _) hp8) ?_
 intro w4 hn2
 have h := h w4 hn2
 refine ⟨.inl (by kernel_rfl), ?_⟩
 have hk := Kept.sc hnh hn2
 obtain ⟨hs, hb⟩ := hk.hh hs hb
 refine wn (th_n (wpE_seq ?_))
 obtain ⟨C3, hC, h⟩ := h
 refine wpE_drawnC C3 [9] [9] (by kernel_rfl) (by kernel_rfl) (by kernel_rfl) (by kernel_rfl) hC ?_
 intro w5 hw5
 have h := h w5 hw5
 have hs : Hst w0 None w4 None w5 := by rw [hw5]; exact hs.drew
 have hb : HB None w5 [] := by rw [hw5]; exact hb.drew
 have hs := hs.here
 refine qx 0 (vp r1) Kp0 (qg 1 ?_)
 obtain ⟨a7, hp9, h⟩ := h
 refine sy (v := (vp (some a7))) Kp1 (fun _ _ => (x_nilCheck (p := r1) (by kernel_rfl) hp9)) (qg 2 ?_)
 obtain ⟨v5, hv5, h⟩ := h
 refine sye Kp2 (xl (Tryz.isAgg217 _) hv5) (qx 3 (vp r1) Kp3 (qg 4 ?_))
 obtain ⟨a8, hp10, h⟩ := h
 refine sy (v := (vp (some a8))) Kp4 (fun _ _ => (x_nilCheck (p := r1) (by kernel_rfl) hp10)) (qg 5 ?_)
 obtain ⟨v6, hv4, h⟩ := h
 refine sye Kp5 (xl (Tryz.isAgg217 _) hv4) (qg 6 ?_)
 obtain ⟨z5, hv3, h⟩ := h
 refine sye (v := (vu z5)) Kp6 (x_bin (by kernel_rfl) (by kernel_rfl) (by kernel_rfl) hv3) (qg 7 ?_)
 obtain ⟨z6, hv2, h⟩ := h
 refine sye (v := (vu z6)) Kp7 (x_bin (by kernel_rfl) (by kernel_rfl) (by kernel_rfl) hv2) (qg 8 ?_)
 obtain ⟨a9, hp11, h⟩ := h
 refine sy (v := (vp (some a9))) Kp8 (fun _ _ => (x_nilCheck (p := r1) (by kernel_rfl) hp11)) (lg 9 ?_)
 obtain ⟨hp12, hnh, h⟩ := h
 refine sl_t Kp9 (xs (v := (vu z6)) (Tryz.sizeOf217 _) hp12) ?_
 intro w6 hn3
 have h := h w6 hn3
 refine ⟨.inl (by kernel_rfl), ?_⟩
 have hk := Kept.sc hnh hn3
 obtain ⟨hs, hb⟩ := hk.hh hs hb
 refine wn (th_n (wpE_seq (rg (q0 (vp r1) ?_))))
 obtain ⟨a10, hp13, h⟩ := h
 refine q2 (vp (some a10)) (x_nilCheck (p := r1) (by kernel_rfl) hp13) ?_
 obtain ⟨v7, hv1, h⟩ := h
 refine q2 (vu v7) (xl (Tryz.isAgg217 _) hv1) (q0 (vu v7) (wpL_nil (th_n (wpE_ret (rs1 Tryz.results170 (v := (vu v7)) ?_)))))
 exact ⟨v7, rfl, h⟩
def m_T1_l1 (data1 : Sl) (a1 b1 : Int) (p1 : Addr) (r1 idx1 : Int) (w0 : World) (Hl1 : NP) (wl1 : World) (Kc1 : Int → NP → WP) (K : WP) : Prop :=
 ∃ z2 : Int, (Go.binOp .quo 3 (vi (q6.wrap (b1 - a1))) (vi 4)).run Tryz.prog wl1 = .ok (vi z2) wl1 ∧
 Br (decide (idx1 ≤ (q6.wrap ((q6.wrap (a1 + (q6.wrap (z2 * 2)))) + 1))))
  (Calls Tryz.prog 170 #[(vp (some p1))] wl1 (fun e w4 => ∃ r2 : Int, e = .returned (vu r2) ∧ 
   Kept Hl1 wl1 w4 ∧
   ∃ z3 : Int, (Go.binOp .and 194 (vu r2) (vu (IntKind.u64.wrap (r1 - 1)))).run Tryz.prog w4 = .ok (vu z3) w4 ∧
   ∀ y1 : Int, y1 = (cond (decide ((q6.wrap z3) ≥ (q6.wrap (b1 - a1)))) (q6.wrap ((q6.wrap z3) - (q6.wrap (b1 - a1)))) (q6.wrap z3)) →
   ∀ (H1 : NP) (w5 : World), Hst w0 Hl1 w4 H1 w5 →
   ∃ C1 : WP, C1 w5.drew ∧ ∀ w6, w6 = w5.drew →
   ∃ a2 : Addr, At data1 (q6.wrap (a1 + y1)) 1 a2 ∧
   ∃ v1 : Int, w6.cell? a2 = some (vi v1) ∧
   ∃ a3 : Addr, At data1 idx1 1 a3 ∧
   ∃ v2 : Int, w6.cell? a3 = some (vi v2) ∧
   ∃ a4 : Addr, At data1 idx1 1 a4 ∧
   CanW w6 a4 ∧ ¬ H1 a4.block ∧ ∀ w7 : World, w7 = w6.setCell a4 (vi v1) → C1 w7 ∧
   ∃ a5 : Addr, At data1 (q6.wrap (a1 + y1)) 1 a5 ∧
   CanW w7 a5 ∧ ¬ H1 a5.block ∧ ∀ w8 : World, w8 = w7.setCell a5 (vi v2) →
   Kc1 (q6.wrap (idx1 + 1)) H1 w8))
  (K wl1)
def m_T1 (data1 : Sl) (a1 b1 : Int) (w0 : World) (K : WP) : Prop :=
 Br (decide ((q6.wrap (b1 - a1)) ≥ 8))
  (∀ (p1 : Addr) (w1 : World), New w0 (.cells #[(vu 0)] 217) p1 w1 →
  CanW w1 p1 ∧ ¬ None p1.block ∧ ∀ w2 : World, w2 = w1.setCell p1 (vu (IntKind.u64.wrap (q6.wrap (b1 - a1)))) →
  Calls Tryz.prog 169 #[(vi (q6.wrap (b1 - a1)))] w2 (fun e w3 => ∃ r1 : Int, e = .returned (vu r1) ∧ 
   Kept None w2 w3 ∧
   ∃ z1 : Int, (Go.binOp .quo 3 (vi (q6.wrap (b1 - a1))) (vi 4)).run Tryz.prog w3 = .ok (vi z1) w3 ∧
   ∃ (I1 : Int → NP → WP) (mu1 : Int → World → Nat), I1 (q6.wrap ((q6.wrap (a1 + (q6.wrap (z1 * 2)))) - 1)) None w3 ∧
    ∀ (idx1 : Int) (Hl1 : NP) (wl1 : World), Hst w0 Hl1 wl1 Hl1 wl1 → I1 idx1 Hl1 wl1 → m_T1_l1 data1 a1 b1 p1 r1 idx1 w0 Hl1 wl1 (fun y'0 H' w' => I1 y'0 H' w' ∧ mu1 y'0 w' < mu1 idx1 wl1) K))
  (K w0)
theorem w_T1 (data1 : Sl) (a1 b1 : Int) (w0 : World) (K : WP) (h : m_T1 data1 a1 b1 w0 K) :
  Calls Tryz.prog 159 #[data1.v, (vi a1), (vi b1)] w0 (fun e w' => e = .returned (.tuple #[]) ∧ K  w') := by
 unfold m_T1 at h
 refine cw (args := [data1.v, (vi a1), (vi b1)]) Tryz.func159 Tryz.ntmps159 ?_
 have hs := Hst.start w0
 have hb := HB.nil None w0
 refine wpE_seq (rg (q0 (vi b1) (q0 (vi a1) (q0 (vi (q6.wrap (b1 - a1))) (q0 (vi (q6.wrap (b1 - a1))) (wpL_nil (th_n (wpE_seq (rg (q0 (vi (q6.wrap (b1 - a1))) (q0 (vb (decide ((q6.wrap (b1 - a1)) ≥ 8))) ?_)))))))))))
 refine wpL_nil (th_n ?_)
 refine wpE_cond (t := (decide ((q6.wrap (b1 - a1)) ≥ 8))) (by kernel_rfl) (fun hc1 => ?_) (fun hc1 => ?_)
 ·have h := h.1 hc1
  refine wpE_seq (rg (q0 (vi (q6.wrap (b1 - a1))) (q0 (vu (IntKind.u64.wrap (q6.wrap (b1 - a1)))) (sn (O := (.cells #[(vu 0)] 217)) (x_alloc (Tryz.zeroValue217 _) rfl) ?_))))
  intro p1 w1 hn4
  have h := h p1 w1 hn4
  have hs := hs.again (Ext.new (F := None) hn4).keptP
  have hb := hb.kept (Ext.new (F := None) hn4).keptP
  obtain ⟨hp1, hnh, h⟩ := h
  refine st_set (want0 rfl) (x_store (a := p1) (v := (vu (IntKind.u64.wrap (q6.wrap (b1 - a1))))) (by kernel_rfl) (by kernel_rfl) rfl (Tryz.sizeOf217 _) hp1) ?_
  intro w2 hn1
  have h := h w2 hn1
  have hk := Kept.sc hnh hn1
  obtain ⟨hs, hb⟩ := hk.hh hs hb
  refine wpL_nil (th_n (wpE_seq (rg (q0 (vi (q6.wrap (b1 - a1))) ?_))))
  refine sc Tryz.call169 (h.mono ?_)
  rintro e w3 ⟨r1, rfl, hk, h⟩
  refine ⟨_, rfl, ?_⟩
  obtain ⟨hs, hb⟩ := hk.hh hs hb
  refine q0 (vu r1) (wpL_nil (th_n (wpE_seq (rg (q0 (vi a1) (q0 (vi (q6.wrap (b1 - a1))) ?_))))))
  obtain ⟨z1, hv9, h⟩ := h
  refine q2 (vi z1) (x_bin (by kernel_rfl) (by kernel_rfl) (by kernel_rfl) hv9) (q0 (vi (q6.wrap (z1 * 2))) (q0 (vi (q6.wrap (a1 + (q6.wrap (z1 * 2))))) (q0 (vi (q6.wrap ((q6.wrap (a1 + (q6.wrap (z1 * 2)))) - 1))) (q0 (vi (q6.wrap ((q6.wrap (a1 + (q6.wrap (z1 * 2)))) - 1))) (wpL_nil (th_n (wpE_block ?_)))))))
  obtain ⟨I1, mu1, h0, hr⟩ := h
  refine wpE_loop (σ := Int × NP × World) (fun s ρ w => w = s.2.2 ∧ Has ρ [(0, data1.v), (1, (vi a1)), (6, (vi (q6.wrap (b1 - a1)))), (7, (vp (some p1))), (8, (vu r1)), (9, (vi s.1))] ∧ Hst w0 s.2.1 w s.2.1 w ∧ HB s.2.1 w [] ∧ I1 s.1 s.2.1 s.2.2) (fun s => mu1 s.1 s.2.2) ((q6.wrap ((q6.wrap (a1 + (q6.wrap (z1 * 2)))) - 1)), None, w3) ⟨rfl, hm, hs, hb, h0⟩ ?_
  rintro ⟨idx1, Hl1, wl1⟩ ρ w ⟨hw, hH, hs, hb, hI⟩
  obtain rfl : wl1 = w := (show w = wl1 from hw).symm
  have hH : Has ρ [(0, data1.v), (1, (vi a1)), (6, (vi (q6.wrap (b1 - a1)))), (7, (vp (some p1))), (8, (vu r1)), (9, (vi idx1))] := hH
  have hs : Hst w0 Hl1 wl1 Hl1 wl1 := hs
  have hb : HB Hl1 wl1 [] := hb
  have h := hr idx1 Hl1 wl1 hs hI
  unfold m_T1_l1 at h
  refine wpE_has hH ?_
  refine wpE_seq (wpE_seq (rg (q0 (vi idx1) (q0 (vi a1) (q0 (vi (q6.wrap (b1 - a1))) ?_)))))
  obtain ⟨z2, hv8, h⟩ := h
  refine q2 (vi z2) (x_bin (by kernel_rfl) (by kernel_rfl) (by kernel_rfl) hv8) (q0 (vi (q6.wrap (z2 * 2))) (q0 (vi (q6.wrap (a1 + (q6.wrap (z2 * 2))))) (q0 (vi (q6.wrap ((q6.wrap (a1 + (q6.wrap (z2 * 2)))) + 1))) (q0 (vb (decide (idx1 ≤ (q6.wrap ((q6.wrap (a1 + (q6.wrap (z2 * 2)))) + 1))))) (wpL_nil (th_n ?_))))))
  refine wpE_cond (t := (decide (idx1 ≤ (q6.wrap ((q6.wrap (a1 + (q6.wrap (z2 * 2)))) + 1))))) (by kernel_rfl) (fun hc2 => ?_) (fun hc2 => ?_)
  ·have h := h.1 hc2
   refine wpE_skip (th_n (wpE_seq (wpE_block (wpE_seq (rg ?_)))))
   refine sc Tryz.call170 (h.mono ?_)
   rintro e w4 ⟨r2, rfl, hk, h⟩
   refine ⟨_, rfl, ?_⟩
   obtain ⟨hs, hb⟩ := hk.hh hs hb
   refine q0 (vu r1) (q0 (vu (IntKind.u64.wrap (r1 - 1))) ?_)
   obtain ⟨z3, hv7, h⟩ := h
   refine q2 (vu z3) (x_bin (by kernel_rfl) (by kernel_rfl) (by kernel_rfl) hv7) (q0 (vi (q6.wrap z3)) (q0 (vi (q6.wrap z3)) (wpL_nil (th_n (wpE_seq (wpE_seq (rg (q0 (vi (q6.wrap z3)) (q0 (vi (q6.wrap (b1 - a1))) (q0 (vb (decide ((q6.wrap z3) ≥ (q6.wrap (b1 - a1))))) (wpL_nil ?_)))))))))))
   refine th_n ?_
   refine wpE_via (fun ρ wJ => ∃ b2'0 : Bool, ∃ y1 : Int, ∃ HJ : NP, ((decide ((q6.wrap z3) ≥ (q6.wrap (b1 - a1)))) = b2'0) ∧ (y1 = (cond b2'0 (q6.wrap ((q6.wrap z3) - (q6.wrap (b1 - a1)))) (q6.wrap z3))) ∧ Hst w0 Hl1 w4 HJ wJ ∧ HB HJ wJ [] ∧ Has ρ [(0, data1.v), (1, (vi a1)), (6, (vi (q6.wrap (b1 - a1)))), (7, (vp (some p1))), (8, (vu r1)), (9, (vi idx1)), (10, (vi y1))]) ?_ ?_
   ·refine wpE_cond (t := (decide ((q6.wrap z3) ≥ (q6.wrap (b1 - a1))))) (by kernel_rfl) (fun hc4 => ?_) (fun hc4 => ?_)
    ·refine rg (q0 (vi (q6.wrap z3)) (q0 (vi (q6.wrap (b1 - a1))) (q0 (vi (q6.wrap ((q6.wrap z3) - (q6.wrap (b1 - a1))))) (q0 (vi (q6.wrap ((q6.wrap z3) - (q6.wrap (b1 - a1))))) (wpL_nil (th_n ?_))))))
     exact ⟨true, _, _, hc4, rfl, hs, hb, hm⟩
    ·refine wpE_skip (th_n ?_)
     exact ⟨false, _, _, hc4, rfl, hs, hb, hm⟩
   ·rintro ρ w5 ⟨b2'0, y1, H1, he0, hy1, hs, hb, hH⟩
    subst he0
    have h := h y1 hy1
    refine norm_has hH ?_
    refine th_n ?_
    have h := h H1 w5 hs
    have hs := hs.here
    obtain ⟨C1, hC, h⟩ := h
    refine wpE_drawnC C1 [17, 19] [19] (by kernel_rfl) (by kernel_rfl) (by kernel_rfl) (by kernel_rfl) hC ?_
    intro w6 hw6
    have h := h w6 hw6
    have hs : Hst w0 H1 w5 H1 w6 := by rw [hw6]; exact hs.drew
    have hb : HB H1 w6 [] := by rw [hw6]; exact hb.drew
    have hs := hs.here
    refine qx 0 data1.v Kp0 (qx 1 (vi idx1) Kp1 (qx 2 data1.v Kp2 (qx 3 (vi a1) Kp3 (qx 4 (vi y1) Kp4 (qx 5 (vi (q6.wrap (a1 + y1))) Kp5 (qx 6 data1.v Kp6 (qx 7 (vi a1) Kp7 (qx 8 (vi y1) Kp8 (qx 9 (vi (q6.wrap (a1 + y1))) Kp9 (qg 10 ?_))))))))))
    obtain ⟨a2, hv6, h⟩ := h
    refine sy (v := (vp (some a2))) (pickA (S8 (pickS (pickS pickZ)))) (fun _ _ => (xi (Tryz.runUnderlying52 _) (Tryz.sizeOf30 _) hv6)) (qg 11 ?_)
    obtain ⟨v1, hv5, h⟩ := h
    refine sye (pickA (S8 (pickS (pickS (pickS pickZ))))) (xl (Tryz.isAgg30 _) hv5) (qx 12 data1.v (pickA (S8 (S4 pickZ))) (qx 13 (vi idx1) (pickA (S8 (S4 (pickS pickZ)))) (qg 14 ?_)))
    obtain ⟨a3, hv4, h⟩ := h
    refine sy (v := (vp (some a3))) (pickA (S8 (S4 (pickS (pickS pickZ))))) (fun _ _ => (xi (Tryz.runUnderlying52 _) (Tryz.sizeOf30 _) hv4)) (qg 15 ?_)
    obtain ⟨v2, hv3, h⟩ := h
    refine sye (pickA (S8 (S4 (pickS (pickS (pickS pickZ)))))) (xl (Tryz.isAgg30 _) hv3) (qg 16 ?_)
    obtain ⟨a4, hv2, h⟩ := h
    refine sy (v := (vp (some a4))) (pickA (S8 (S8 pickZ))) (fun _ _ => (xi (Tryz.runUnderlying52 _) (Tryz.sizeOf30 _) hv2)) (lg 17 ?_)
    obtain ⟨hp2, hnh, h⟩ := h
    refine sl_t (pickA (S8 (S8 (pickS pickZ)))) (xs (v := (vi v1)) (Tryz.sizeOf30 _) hp2) ?_
    intro w7 hn2
    have h := h w7 hn2
    refine ⟨.inr h.1, ?_⟩
    have h := h.2
    have hk := Kept.sc hnh hn2
    obtain ⟨hs, hb⟩ := hk.hh hs hb
    refine qg 18 ?_
    obtain ⟨a5, hv1, h⟩ := h
    refine sy (v := (vp (some a5))) (pickA (S8 (S8 (pickS (pickS pickZ))))) (fun _ _ => (xi (Tryz.runUnderlying52 _) (Tryz.sizeOf30 _) hv1)) (lg 19 ?_)
    obtain ⟨hp3, hnh, h⟩ := h
    refine sl_t (pickA (S8 (S8 (pickS (pickS (pickS pickZ)))))) (xs (v := (vi v2)) (Tryz.sizeOf30 _) hp3) ?_
    intro w8 hn3
    have h := h w8 hn3
    refine ⟨.inl (by kernel_rfl), ?_⟩
    have hk := Kept.sc hnh hn3
    obtain ⟨hs, hb⟩ := hk.hh hs hb
    refine wn (bl_n (th_n (rg (q0 (vi idx1) (q0 (vi (q6.wrap (idx1 + 1))) (q0 (vi (q6.wrap (idx1 + 1))) (wpL_nil (th_n ?_))))))))
    exact ⟨((q6.wrap (idx1 + 1)), H1, w8), ⟨rfl, hm, hs, hb, h.1⟩, h.2⟩
  ·have h := h.2 hc2
   refine wpE_exit (th_x (th_x (bl_eq (res0 (.inr rfl) Tryz.results159 ?_))))
   exact ⟨rfl, h⟩
 ·have h := h.2 hc1
  refine wpE_skip (res0 (.inr rfl) Tryz.results159 ?_)
  exact ⟨rfl, h⟩
def m_P3 (data1 : Sl) (a1 b1 : Int) (swaps1 : Option Addr) (w0 : World) (K : Int → Int → WP) : Prop :=
 ∃ a2 : Addr, At data1 b1 1 a2 ∧
 ∃ v1 : Int, w0.cell? a2 = some (vi v1) ∧ ¬ None a2.block ∧
 ∃ a3 : Addr, At data1 a1 1 a3 ∧
 ∃ v2 : Int, w0.cell? a3 = some (vi v2) ∧ ¬ None a3.block ∧
 Br (s_A v1 v2)
  (∃ a4 : Addr, swaps1 = some a4 ∧
  ∀ (H1 : NP) (w3 : World), Hst w0 None w0 H1 w3 →
  ∃ v3 : Int, w3.cell? a4 = some (vi v3) ∧
  ∃ a5 : Addr, swaps1 = some a5 ∧
  CanW w3 a5 ∧ ¬ H1 a5.block ∧ ∀ w5 : World, w5 = w3.setCell a5 (vi (q6.wrap (v3 + 1))) →
  K b1 a1 w5)
  (∀ (H1 : NP) (w3 : World), Hst w0 None w0 H1 w3 →
  K a1 b1 w3)
theorem w_P3 (data1 : Sl) (a1 b1 : Int) (swaps1 : Option Addr) (w0 : World) (K : Int → Int → WP) (h : m_P3 data1 a1 b1 swaps1 w0 K) :
  Calls Tryz.prog 174 #[data1.v, (vi a1), (vi b1), (vp swaps1)] w0 (fun e w' => ∃ r1 r2 : Int, e = .returned (.tuple #[(vi r1), (vi r2)]) ∧ K r1 r2 w') := by
 unfold m_P3 at h
 refine cw (args := [data1.v, (vi a1), (vi b1), (vp swaps1)]) Tryz.func174 Tryz.ntmps174 ?_
 have hs := Hst.start w0
 have hb := HB.nil None w0
 refine wpE_seq (rg (q0 (vi 0) (q0 (vi 0) (wpL_nil (th_n (wpE_seq (wpE_seq (wpE_drawnC (fun x => ∃ H', Hst w0 None w0 H' x ∧ HB H' x []) [8] [8] (by kernel_rfl) (by kernel_rfl) (by kernel_rfl) (by kernel_rfl) ⟨_, hs.drew, hb.drew⟩ ?_))))))))
 intro w1 hw1
 have hs : Hst w0 None w0 None w1 := by rw [hw1]; exact hs.drew
 have hb : HB None w1 [] := by rw [hw1]; exact hb.drew
 refine qx 0 data1.v Kp0 (qx 1 (vi b1) Kp1 (qg 2 ?_))
 obtain ⟨a2, hv5, h⟩ := h
 refine sy (v := (vp (some a2))) Kp2 (fun _ _ => (xi (Tryz.runUnderlying52 _) (Tryz.sizeOf30 _) hv5)) (qg 3 ?_)
 obtain ⟨v1, hv4, hnh, h⟩ := h
 refine sy (v := (vi v1)) Kp3 (fun w' hw' => by obtain ⟨H', hs', hb'⟩ := hw'; exact (xl (Tryz.isAgg30 _) (cell_hst hv4 hnh hs'))) ?_
 refine qx 4 data1.v Kp4 (qx 5 (vi a1) Kp5 (qg 6 ?_))
 obtain ⟨a3, hv3, h⟩ := h
 refine sy (v := (vp (some a3))) Kp6 (fun _ _ => (xi (Tryz.runUnderlying52 _) (Tryz.sizeOf30 _) hv3)) (qg 7 ?_)
 obtain ⟨v2, hv2, hnh, h⟩ := h
 refine sy (v := (vi v2)) Kp7 (fun w' hw' => by obtain ⟨H', hs', hb'⟩ := hw'; exact (xl (Tryz.isAgg30 _) (cell_hst hv2 hnh hs'))) ?_
 refine wpX_via (fun ρ wJ => ∃ HJ : NP, Hst w0 None w0 HJ wJ ∧ HB HJ wJ [] ∧ Has ρ [(1, (vi a1)), (2, (vi b1)), (3, (vp swaps1)), (18, (vb (s_A v1 v2)))]) ?_ ?_
 ·refine lg 8 ?_
  refine sl_call Kp8 (want0 rfl) (by kernel_rfl) (xc Tryz.call163) ((p_A v1 v2 w1).mono ?_)
  rintro e w4 ⟨he, hE⟩
  have hs := hs.pure hE
  have hb := hb.pure hE
  refine ⟨(vb (s_A v1 v2)), he.trans (by kernel_rfl), .inl (by kernel_rfl), ?_⟩
  refine wn ?_
  exact ⟨_, hs, hb, hm⟩
 ·rintro ρ w3 ⟨H1, hs, hb, hH⟩
  refine q_has hH ?_
  refine th_n ?_
  refine wpE_cond (t := (s_A v1 v2)) (by kernel_rfl) (fun hc1 => ?_) (fun hc1 => ?_)
  ·have h := h.1 hc1
   refine wpE_seq (rg (q0 (vp swaps1) ?_))
   obtain ⟨a4, hp1, h⟩ := h
   refine q2 (vp (some a4)) (x_nilCheck (p := swaps1) (by kernel_rfl) hp1) ?_
   have h := h H1 w3 hs
   have hs := hs.here
   obtain ⟨v3, hv1, h⟩ := h
   refine q2 (vi v3) (xl (Tryz.isAgg3 _) hv1) (q0 (vi (q6.wrap (v3 + 1))) ?_)
   obtain ⟨a5, hp2, h⟩ := h
   refine q2 (vp (some a5)) (x_nilCheck (p := swaps1) (by kernel_rfl) hp2) ?_
   obtain ⟨hp3, hnh, h⟩ := h
   refine st_set (want0 rfl) (x_store (a := a5) (v := (vi (q6.wrap (v3 + 1)))) (by kernel_rfl) (by kernel_rfl) rfl (Tryz.sizeOf3 _) hp3) ?_
   intro w5 hn1
   have h := h w5 hn1
   have hk := Kept.sc hnh hn1
   obtain ⟨hs, hb⟩ := hk.hh hs hb
   refine wpL_nil (th_n (wpE_seq (rg (q0 (vi b1) (q0 (vi a1) (q0 (vi b1) (q0 (vi a1) (wpL_nil (th_n (wpE_ret (th_r ?_)))))))))))
   refine res2 (.inl rfl) Tryz.results174 (v := (vi b1)) (by kernel_rfl) (v' := (vi a1)) (by kernel_rfl) ?_
   exact ⟨b1, a1, rfl, h⟩
  ·have h := h.2 hc1
   refine wpE_skip (th_n (wpE_seq (rg (q0 (vi a1) (q0 (vi b1) (q0 (vi a1) (q0 (vi b1) (wpL_nil (th_n (wpE_ret ?_))))))))))
   have h := h H1 w3 hs
   have hs := hs.here
   refine res2 (.inl rfl) Tryz.results174 (v := (vi a1)) (by kernel_rfl) (v' := (vi b1)) (by kernel_rfl) ?_
   exact ⟨a1, b1, rfl, h⟩
def m_Q3 (data1 : Sl) (a1 b1 c1 : Int) (swaps1 : Option Addr) (w0 : World) (K : Int → WP) : Prop :=
 Calls Tryz.prog 174 #[data1.v, (vi a1), (vi b1), (vp swaps1)] w0 (fun e w1 => ∃ r1 r2 : Int, e = .returned (.tuple #[(vi r1), (vi r2)]) ∧ 
  Calls Tryz.prog 174 #[data1.v, (vi r2), (vi c1), (vp swaps1)] w1 (fun e w2 => ∃ r3 r4 : Int, e = .returned (.tuple #[(vi r3), (vi r4)]) ∧ 
   Calls Tryz.prog 174 #[data1.v, (vi r1), (vi r3), (vp swaps1)] w2 (fun e w3 => ∃ r5 r6 : Int, e = .returned (.tuple #[(vi r5), (vi r6)]) ∧ 
    K r6 w3)))
theorem w_Q3 (data1 : Sl) (a1 b1 c1 : Int) (swaps1 : Option Addr) (w0 : World) (K : Int → WP) (h : m_Q3 data1 a1 b1 c1 swaps1 w0 K) :
  Calls Tryz.prog 172 #[data1.v, (vi a1), (vi b1), (vi c1), (vp swaps1)] w0 (fun e w' => ∃ r7 : Int, e = .returned (vi r7) ∧ K r7 w') := by
 unfold m_Q3 at h
 refine cw (args := [data1.v, (vi a1), (vi b1), (vi c1), (vp swaps1)]) Tryz.func172 Tryz.ntmps172 (wpE_seq (rg (q0 (vi 0) (wpL_nil (th_n (wpE_seq (rg (q0 data1.v (q0 (vi a1) (q0 (vi b1) (q0 (vp swaps1) ?_)))))))))))
 refine sc Tryz.call174 (h.mono ?_)
 rintro e w1 ⟨r1, r2, rfl, h⟩
 refine ⟨_, rfl, ?_⟩
 refine q0 (.tuple #[(vi r1), (vi r2)]) (q0 (vi r1) (q0 (vi r2) (q0 (vi r1) (q0 (vi r2) (wpL_nil (th_n (wpE_seq (rg (q0 data1.v (q0 (vi r2) (q0 (vi c1) ?_)))))))))))
 refine q0 (vp swaps1) ?_
 refine sc Tryz.call174 (h.mono ?_)
 rintro e w2 ⟨r3, r4, rfl, h⟩
 refine ⟨_, rfl, ?_⟩
 refine q0 (.tuple #[(vi r3), (vi r4)]) (q0 (vi r3) (q0 (vi r4) (q0 (vi r3) (q0 (vi r4) (wpL_nil (th_n (wpE_seq (rg (q0 data1.v (q0 (vi r1) (q0 (vi r3) ?_)))))))))))
 refine q0 (vp swaps1) ?_
 refine sc Tryz.call174 (h.mono ?_)
 rintro e w3 ⟨r5, r6, rfl, h⟩
 refine ⟨_, rfl, ?_⟩
 refine q0 (.tuple #[(vi r5), (vi r6)]) (q0 (vi r5) (q0 (vi r6) (q0 (vi r5) (q0 (vi r6) (wpL_nil (th_n (wpE_seq (rg (q0 (vi r6) (q0 (vi r6) (wpL_nil ?_)))))))))))
 refine th_n (wpE_ret (rs1 Tryz.results172 (v := (vi r6)) ?_))
 exact ⟨r6, rfl, h⟩
def m_R3 (data1 : Sl) (a1 : Int) (swaps1 : Option Addr) (w0 : World) (K : Int → WP) : Prop :=
 Calls Tryz.prog 172 #[data1.v, (vi (q6.wrap (a1 - 1))), (vi a1), (vi (q6.wrap (a1 + 1))), (vp swaps1)] w0 (fun e w1 => ∃ r1 : Int, e = .returned (vi r1) ∧ 
  K r1 w1)
theorem w_R3 (data1 : Sl) (a1 : Int) (swaps1 : Option Addr) (w0 : World) (K : Int → WP) (h : m_R3 data1 a1 swaps1 w0 K) :
  Calls Tryz.prog 171 #[data1.v, (vi a1), (vp swaps1)] w0 (fun e w' => ∃ r2 : Int, e = .returned (vi r2) ∧ K r2 w') := by
 unfold m_R3 at h
 refine cw (args := [data1.v, (vi a1), (vp swaps1)]) Tryz.func171 Tryz.ntmps171 (wpE_seq (rg (q0 (vi 0) (wpL_nil (th_n (wpE_seq (rg (q0 data1.v (q0 (vi a1) (q0 (vi (q6.wrap (a1 - 1))) (q0 (vi a1) ?_)))))))))))
 refine q0 (vi a1) (q0 (vi (q6.wrap (a1 + 1))) (q0 (vp swaps1) ?_))
 refine sc Tryz.call172 (h.mono ?_)
 rintro e w1 ⟨r1, rfl, h⟩
 refine ⟨_, rfl, ?_⟩
 refine q0 (vi r1) (wpL_nil (th_n (wpE_ret (rs1 Tryz.results171 (v := (vi r1)) ?_))))
 exact ⟨r1, rfl, h⟩
def m_S3 (data1 : Sl) (a1 b1 : Int) (w0 : World) (K : Int → Int → WP) : Prop :=
 ∀ (p1 : Addr) (w1 : World), New w0 (.cells #[(vi 0)] 3) p1 w1 →
 ∃ z1 : Int, (Go.binOp .quo 3 (vi (q6.wrap (b1 - a1))) (vi 4)).run Tryz.prog w1 = .ok (vi z1) w1 ∧
 ∃ z2 : Int, (Go.binOp .quo 3 (vi (q6.wrap (b1 - a1))) (vi 4)).run Tryz.prog w1 = .ok (vi z2) w1 ∧
 ∃ z3 : Int, (Go.binOp .quo 3 (vi (q6.wrap (b1 - a1))) (vi 4)).run Tryz.prog w1 = .ok (vi z3) w1 ∧
 Br (decide ((q6.wrap (b1 - a1)) ≥ 8))
  (Br (decide ((q6.wrap (b1 - a1)) ≥ 50))
   (Calls Tryz.prog 171 #[data1.v, (vi (q6.wrap (a1 + (q6.wrap (z1 * 1))))), (vp (some p1))] w1 (fun e w2 => ∃ r1 : Int, e = .returned (vi r1) ∧ 
    Calls Tryz.prog 171 #[data1.v, (vi (q6.wrap (a1 + (q6.wrap (z2 * 2))))), (vp (some p1))] w2 (fun e w3 => ∃ r2 : Int, e = .returned (vi r2) ∧ 
     Calls Tryz.prog 171 #[data1.v, (vi (q6.wrap (a1 + (q6.wrap (z3 * 3))))), (vp (some p1))] w3 (fun e w4 => ∃ r3 : Int, e = .returned (vi r3) ∧ 
      Calls Tryz.prog 172 #[data1.v, (vi r1), (vi r2), (vi r3), (vp (some p1))] w4 (fun e w5 => ∃ r4 : Int, e = .returned (vi r4) ∧ 
       ∃ v1 : Int, w5.cell? p1 = some (vi v1) ∧
       Br (v1 == 0)
        (K r4 1 w5)
        (Br (v1 == 12)
         (K r4 2 w5)
         (K r4 0 w5)))))))
   (Calls Tryz.prog 172 #[data1.v, (vi (q6.wrap (a1 + (q6.wrap (z1 * 1))))), (vi (q6.wrap (a1 + (q6.wrap (z2 * 2))))), (vi (q6.wrap (a1 + (q6.wrap (z3 * 3))))), (vp (some p1))] w1 (fun e w6 => ∃ r5 : Int, e = .returned (vi r5) ∧ 
    ∃ v2 : Int, w6.cell? p1 = some (vi v2) ∧
    Br (v2 == 0)
     (K r5 1 w6)
     (Br (v2 == 12)
      (K r5 2 w6)
      (K r5 0 w6)))))
  (∃ v3 : Int, w1.cell? p1 = some (vi v3) ∧
  Br (v3 == 0)
   (K (q6.wrap (a1 + (q6.wrap (z2 * 2)))) 1 w1)
   (Br (v3 == 12)
    (K (q6.wrap (a1 + (q6.wrap (z2 * 2)))) 2 w1)
    (K (q6.wrap (a1 + (q6.wrap (z2 * 2)))) 0 w1)))
theorem w_S3 (data1 : Sl) (a1 b1 : Int) (w0 : World) (K : Int → Int → WP) (h : m_S3 data1 a1 b1 w0 K) :
  Calls Tryz.prog 160 #[data1.v, (vi a1), (vi b1)] w0 (fun e w' => ∃ r6 r7 : Int, e = .returned (.tuple #[(vi r6), (vi r7)]) ∧ K r6 r7 w') := by
 unfold m_S3 at h
 refine cw (args := [data1.v, (vi a1), (vi b1)]) Tryz.func160 Tryz.ntmps160 (wpE_seq (rg (q0 (vi 0) (q0 (vi 0) (wpL_nil (th_n (wpE_seq (rg (q0 (vi b1) (q0 (vi a1) (q0 (vi (q6.wrap (b1 - a1))) ?_)))))))))))
 refine q0 (vi (q6.wrap (b1 - a1))) (wpL_nil (th_n (wpE_seq (rg (sn (O := (.cells #[(vi 0)] 3)) (x_alloc (Tryz.zeroValue3 _) rfl) ?_)))))
 intro p1 w1 hn1
 have h := h p1 w1 hn1
 refine wpL_nil (th_n (wpE_seq (rg (q0 (vi a1) (q0 (vi (q6.wrap (b1 - a1))) ?_)))))
 obtain ⟨z1, hv6, h⟩ := h
 refine q2 (vi z1) (x_bin (by kernel_rfl) (by kernel_rfl) (by kernel_rfl) hv6) (q0 (vi (q6.wrap (z1 * 1))) (q0 (vi (q6.wrap (a1 + (q6.wrap (z1 * 1))))) (q0 (vi (q6.wrap (a1 + (q6.wrap (z1 * 1))))) (wpL_nil (th_n (wpE_seq (rg (q0 (vi a1) (q0 (vi (q6.wrap (b1 - a1))) ?_)))))))))
 obtain ⟨z2, hv5, h⟩ := h
 refine q2 (vi z2) (x_bin (by kernel_rfl) (by kernel_rfl) (by kernel_rfl) hv5) (q0 (vi (q6.wrap (z2 * 2))) (q0 (vi (q6.wrap (a1 + (q6.wrap (z2 * 2))))) (q0 (vi (q6.wrap (a1 + (q6.wrap (z2 * 2))))) (wpL_nil (th_n (wpE_seq (rg (q0 (vi a1) (q0 (vi (q6.wrap (b1 - a1))) ?_)))))))))
 obtain ⟨z3, hv4, h⟩ := h
 refine q2 (vi z3) (x_bin (by kernel_rfl) (by kernel_rfl) (by kernel_rfl) hv4) (q0 (vi (q6.wrap (z3 * 3))) (q0 (vi (q6.wrap (a1 + (q6.wrap (z3 * 3))))) (q0 (vi (q6.wrap (a1 + (q6.wrap (z3 * 3))))) (wpL_nil (th_n (wpE_seq (wpE_seq (rg (q0 (vi (q6.wrap (b1 - a1))) (q0 (vb (decide ((q6.wrap (b1 - a1)) ≥ 8))) (wpL_nil ?_)))))))))))
 refine th_n ?_
 refine wpE_cond (t := (decide ((q6.wrap (b1 - a1)) ≥ 8))) (by kernel_rfl) (fun hc1 => ?_) (fun hc1 => ?_)
 ·have h := h.1 hc1
  refine wpE_seq (wpE_seq (rg (q0 (vi (q6.wrap (b1 - a1))) (q0 (vb (decide ((q6.wrap (b1 - a1)) ≥ 50))) (wpL_nil (th_n ?_))))))
  refine wpE_cond (t := (decide ((q6.wrap (b1 - a1)) ≥ 50))) (by kernel_rfl) (fun hc2 => ?_) (fun hc2 => ?_)
  ·have h := h.1 hc2
   refine wpE_seq (rg (q0 data1.v (q0 (vi (q6.wrap (a1 + (q6.wrap (z1 * 1))))) ?_)))
   refine sc Tryz.call171 (h.mono ?_)
   rintro e w2 ⟨r1, rfl, h⟩
   refine ⟨_, rfl, ?_⟩
   refine q0 (vi r1) (wpL_nil (th_n (wpE_seq (rg (q0 data1.v (q0 (vi (q6.wrap (a1 + (q6.wrap (z2 * 2))))) ?_))))))
   refine sc Tryz.call171 (h.mono ?_)
   rintro e w3 ⟨r2, rfl, h⟩
   refine ⟨_, rfl, ?_⟩
   refine q0 (vi r2) (wpL_nil (th_n (rg (q0 data1.v (q0 (vi (q6.wrap (a1 + (q6.wrap (z3 * 3))))) ?_)))))
   refine sc Tryz.call171 (h.mono ?_)
   rintro e w4 ⟨r3, rfl, h⟩
   refine ⟨_, rfl, ?_⟩
   refine q0 (vi r3) (wpL_nil (th_n (rg (q0 data1.v (q0 (vi r1) (q0 (vi r2) (q0 (vi r3) ?_)))))))
   refine sc Tryz.call172 (h.mono ?_)
   rintro e w5 ⟨r4, rfl, h⟩
   refine ⟨_, rfl, ?_⟩
   refine q0 (vi r4) (wpL_nil (th_n (wpE_seq (rg ?_))))
   obtain ⟨v1, hv1, h⟩ := h
   refine q2 (vi v1) (xl (Tryz.isAgg3 _) hv1) (wpL_nil (th_n (wpE_block (wpE_seq (rg (q0 (vb (v1 == 0)) (q0 (vb (v1 == 0)) (wpL_nil (th_n ?_)))))))))
   refine wpE_cond (t := (v1 == 0)) (by kernel_rfl) (fun hc3 => ?_) (fun hc3 => ?_)
   ·have h := h.1 hc3
    refine wpE_seq (rg (q0 (vi r4) (q0 (vi r4) (q0 (vi 1) (wpL_nil (th_n (wpE_ret (bl_r (res2 (.inl rfl) Tryz.results160 (v := (vi r4)) (by kernel_rfl) (v' := (vi 1)) (by kernel_rfl) ?_)))))))))
    exact ⟨r4, 1, rfl, h⟩
   ·have h := h.2 hc3
    refine wpE_seq (rg (q0 (vb (v1 == 12)) (q0 (vb (v1 == 12)) (wpL_nil (th_n ?_)))))
    refine wpE_cond (t := (v1 == 12)) (by kernel_rfl) (fun hc4 => ?_) (fun hc4 => ?_)
    ·have h := h.1 hc4
     refine wpE_seq (rg (q0 (vi r4) (q0 (vi r4) (q0 (vi 2) (wpL_nil (th_n (wpE_ret (bl_r (res2 (.inl rfl) Tryz.results160 (v := (vi r4)) (by kernel_rfl) (v' := (vi 2)) (by kernel_rfl) ?_)))))))))
     exact ⟨r4, 2, rfl, h⟩
    ·have h := h.2 hc4
     refine wpE_seq (rg (q0 (vi r4) (q0 (vi r4) (q0 (vi 0) (wpL_nil (th_n (wpE_ret (bl_r (res2 (.inl rfl) Tryz.results160 (v := (vi r4)) (by kernel_rfl) (v' := (vi 0)) (by kernel_rfl) ?_)))))))))
     exact ⟨r4, 0, rfl, h⟩
  ·have h := h.2 hc2
   refine wpE_skip (th_n (rg (q0 data1.v (q0 (vi (q6.wrap (a1 + (q6.wrap (z1 * 1))))) (q0 (vi (q6.wrap (a1 + (q6.wrap (z2 * 2))))) (q0 (vi (q6.wrap (a1 + (q6.wrap (z3 * 3))))) ?_))))))
   refine sc Tryz.call172 (h.mono ?_)
   rintro e w6 ⟨r5, rfl, h⟩
   refine ⟨_, rfl, ?_⟩
   refine q0 (vi r5) (wpL_nil (th_n (wpE_seq (rg ?_))))
   obtain ⟨v2, hv2, h⟩ := h
   refine q2 (vi v2) (xl (Tryz.isAgg3 _) hv2) (wpL_nil (th_n (wpE_block (wpE_seq (rg (q0 (vb (v2 == 0)) (q0 (vb (v2 == 0)) (wpL_nil (th_n ?_)))))))))
   refine wpE_cond (t := (v2 == 0)) (by kernel_rfl) (fun hc5 => ?_) (fun hc5 => ?_)
   ·have h := h.1 hc5
    refine wpE_seq (rg (q0 (vi r5) (q0 (vi r5) (q0 (vi 1) (wpL_nil (th_n (wpE_ret (bl_r (res2 (.inl rfl) Tryz.results160 (v := (vi r5)) (by kernel_rfl) (v' := (vi 1)) (by kernel_rfl) ?_)))))))))
    exact ⟨r5, 1, rfl, h⟩
   ·have h := h.2 hc5
    refine wpE_seq (rg (q0 (vb (v2 == 12)) (q0 (vb (v2 == 12)) (wpL_nil (th_n ?_)))))
    refine wpE_cond (t := (v2 == 12)) (by kernel_rfl) (fun hc6 => ?_) (fun hc6 => ?_)
    ·have h := h.1 hc6
     refine wpE_seq (rg (q0 (vi r5) (q0 (vi r5) (q0 (vi 2) (wpL_nil (th_n (wpE_ret (bl_r (res2 (.inl rfl) Tryz.results160 (v := (vi r5)) (by kernel_rfl) (v' := (vi 2)) (by kernel_rfl) ?_)))))))))
     exact ⟨r5, 2, rfl, h⟩
    ·have h := h.2 hc6
     refine wpE_seq (rg (q0 (vi r5) (q0 (vi r5) (q0 (vi 0) (wpL_nil (th_n (wpE_ret (bl_r (res2 (.inl rfl) Tryz.results160 (v := (vi r5)) (by kernel_rfl) (v' := (vi 0)) (by kernel_rfl) ?_)))))))))
     exact ⟨r5, 0, rfl, h⟩
 ·have h := h.2 hc1
  refine wpE_skip (th_n (wpE_seq (rg ?_)))
  obtain ⟨v3, hv3, h⟩ := h
  refine q2 (vi v3) (xl (Tryz.isAgg3 _) hv3) (wpL_nil (th_n (wpE_block (wpE_seq (rg (q0 (vb (v3 == 0)) (q0 (vb (v3 == 0)) (wpL_nil (th_n ?_)))))))))
  refine wpE_cond (t := (v3 == 0)) (by kernel_rfl) (fun hc7 => ?_) (fun hc7 => ?_)
  ·have h := h.1 hc7
   refine wpE_seq (rg (q0 (vi (q6.wrap (a1 + (q6.wrap (z2 * 2))))) (q0 (vi (q6.wrap (a1 + (q6.wrap (z2 * 2))))) (q0 (vi 1) (wpL_nil (th_n (wpE_ret (bl_r (res2 (.inl rfl) Tryz.results160 (v := (vi (q6.wrap (a1 + (q6.wrap (z2 * 2)))))) (by kernel_rfl) (v' := (vi 1)) (by kernel_rfl) ?_)))))))))
   exact ⟨(q6.wrap (a1 + (q6.wrap (z2 * 2)))), 1, rfl, h⟩
  ·have h := h.2 hc7
   refine wpE_seq (rg (q0 (vb (v3 == 12)) (q0 (vb (v3 == 12)) (wpL_nil (th_n ?_)))))
   refine wpE_cond (t := (v3 == 12)) (by kernel_rfl) (fun hc8 => ?_) (fun hc8 => ?_)
   ·have h := h.1 hc8
    refine wpE_seq (rg (q0 (vi (q6.wrap (a1 + (q6.wrap (z2 * 2))))) (q0 (vi (q6.wrap (a1 + (q6.wrap (z2 * 2))))) (q0 (vi 2) (wpL_nil (th_n (wpE_ret (bl_r (res2 (.inl rfl) Tryz.results160 (v := (vi (q6.wrap (a1 + (q6.wrap (z2 * 2)))))) (by kernel_rfl) (v' := (vi 2)) (by kernel_rfl) ?_)))))))))
    exact ⟨(q6.wrap (a1 + (q6.wrap (z2 * 2)))), 2, rfl, h⟩
   ·have h := h.2 hc8
    refine wpE_seq (rg (q0 (vi (q6.wrap (a1 + (q6.wrap (z2 * 2))))) (q0 (vi (q6.wrap (a1 + (q6.wrap (z2 * 2))))) (q0 (vi 0) (wpL_nil (th_n (wpE_ret (bl_r (res2 (.inl rfl) Tryz.results160 (v := (vi (q6.wrap (a1 + (q6.wrap (z2 * 2)))))) (by kernel_rfl) (v' := (vi 0)) (by kernel_rfl) ?_)))))))))
    exact ⟨(q6.wrap (a1 + (q6.wrap (z2 * 2)))), 0, rfl, h⟩
def m_U1_l1 (data1 : Sl) (i1 j1 : Int) (Hl1 : NP) (wl1 : World) (Kc1 : Int → Int → NP → WP) (K : WP) : Prop :=
 Br (decide (i1 < j1))
  (∃ C1 : WP, C1 wl1.drew ∧ ∀ w1, w1 = wl1.drew →
  ∃ a2 : Addr, At data1 j1 1 a2 ∧
  ∃ v1 : Int, w1.cell? a2 = some (vi v1) ∧
  ∃ a3 : Addr, At data1 i1 1 a3 ∧
  ∃ v2 : Int, w1.cell? a3 = some (vi v2) ∧
  ∃ a4 : Addr, At data1 i1 1 a4 ∧
  CanW w1 a4 ∧ ¬ Hl1 a4.block ∧ ∀ w2 : World, w2 = w1.setCell a4 (vi v1) → C1 w2 ∧
  ∃ a5 : Addr, At data1 j1 1 a5 ∧
  CanW w2 a5 ∧ ¬ Hl1 a5.block ∧ ∀ w3 : World, w3 = w2.setCell a5 (vi v2) →
  Kc1 (q6.wrap (i1 + 1)) (q6.wrap (j1 - 1)) Hl1 w3)
  (K wl1)
def m_U1 (data1 : Sl) (a1 b1 : Int) (w0 : World) (K : WP) : Prop :=
 ∃ (I1 : Int → Int → NP → WP) (mu1 : Int → Int → World → Nat), I1 a1 (q6.wrap (b1 - 1)) None w0 ∧
  ∀ (i1 j1 : Int) (Hl1 : NP) (wl1 : World), Hst w0 Hl1 wl1 Hl1 wl1 → I1 i1 j1 Hl1 wl1 → m_U1_l1 data1 i1 j1 Hl1 wl1 (fun y'0 y'1 H' w' => I1 y'0 y'1 H' w' ∧ mu1 y'0 y'1 w' < mu1 i1 j1 wl1) K
theorem w_U1 (data1 : Sl) (a1 b1 : Int) (w0 : World) (K : WP) (h : m_U1 data1 a1 b1 w0 K) :
  Calls Tryz.prog 161 #[data1.v, (vi a1), (vi b1)] w0 (fun e w' => e = .returned (.tuple #[]) ∧ K  w') := by
 unfold m_U1 at h
 refine cw (args := [data1.v, (vi a1), (vi b1)]) Tryz.func161 Tryz.ntmps161 ?_
 have hs := Hst.start w0
 have hb := HB.nil None w0
 refine wpE_seq (rg (q0 (vi a1) (q0 (vi a1) (wpL_nil (th_n (wpE_seq (rg (q0 (vi b1) (q0 (vi (q6.wrap (b1 - 1))) (q0 (vi (q6.wrap (b1 - 1))) (wpL_nil ?_)))))))))))
 refine th_n (wpE_block ?_)
 obtain ⟨I1, mu1, h0, hr⟩ := h
 refine wpE_loop (σ := Int × Int × NP × World) (fun s ρ w => w = s.2.2.2 ∧ Has ρ [(0, data1.v), (6, (vi s.1)), (7, (vi s.2.1))] ∧ Hst w0 s.2.2.1 w s.2.2.1 w ∧ HB s.2.2.1 w [] ∧ I1 s.1 s.2.1 s.2.2.1 s.2.2.2) (fun s => mu1 s.1 s.2.1 s.2.2.2) (a1, (q6.wrap (b1 - 1)), None, w0) ⟨rfl, hm, hs, hb, h0⟩ ?_
 rintro ⟨i1, j1, Hl1, wl1⟩ ρ w ⟨hw, hH, hs, hb, hI⟩
 obtain rfl : wl1 = w := (show w = wl1 from hw).symm
 have hH : Has ρ [(0, data1.v), (6, (vi i1)), (7, (vi j1))] := hH
 have hs : Hst w0 Hl1 wl1 Hl1 wl1 := hs
 have hb : HB Hl1 wl1 [] := hb
 have h := hr i1 j1 Hl1 wl1 hs hI
 unfold m_U1_l1 at h
 refine wpE_has hH ?_
 refine wpE_seq (wpE_seq (rg (q0 (vi i1) (q0 (vi j1) (q0 (vb (decide (i1 < j1))) (wpL_nil (th_n ?_)))))))
 refine wpE_cond (t := (decide (i1 < j1))) (by kernel_rfl) (fun hc1 => ?_) (fun hc1 => ?_)
 ·have h := h.1 hc1
  refine wpE_skip (th_n (wpE_block (wpE_seq ?_)))
  obtain ⟨C1, hC, h⟩ := h
  refine wpE_drawnC C1 [13, 15] [15] (by kernel_rfl) (by kernel_rfl) (by kernel_rfl) (by kernel_rfl) hC ?_
  intro w1 hw1
  have h := h w1 hw1
  have hs : Hst w0 Hl1 wl1 Hl1 w1 := by rw [hw1]; exact hs.drew
  have hb : HB Hl1 w1 [] := by rw [hw1]; exact hb.drew
  have hs := hs.here
  refine qx 0 data1.v Kp0 (qx 1 (vi i1) Kp1 (qx 2 data1.v Kp2 (qx 3 (vi j1) Kp3 (qx 4 data1.v Kp4 (qx 5 (vi j1) Kp5 (qg 6 ?_))))))
  obtain ⟨a2, hv6, h⟩ := h
  refine sy (v := (vp (some a2))) Kp6 (fun _ _ => (xi (Tryz.runUnderlying52 _) (Tryz.sizeOf30 _) hv6)) (qg 7 ?_)
  obtain ⟨v1, hv5, h⟩ := h
  refine sye Kp7 (xl (Tryz.isAgg30 _) hv5) (qx 8 data1.v Kp8 (qx 9 (vi i1) Kp9 (qg 10 ?_)))
  obtain ⟨a3, hv4, h⟩ := h
  refine sy (v := (vp (some a3))) (pickA (S8 (pickS (pickS pickZ)))) (fun _ _ => (xi (Tryz.runUnderlying52 _) (Tryz.sizeOf30 _) hv4)) (qg 11 ?_)
  obtain ⟨v2, hv3, h⟩ := h
  refine sye (pickA (S8 (pickS (pickS (pickS pickZ))))) (xl (Tryz.isAgg30 _) hv3) (qg 12 ?_)
  obtain ⟨a4, hv2, h⟩ := h
  refine sy (v := (vp (some a4))) (pickA (S8 (S4 pickZ))) (fun _ _ => (xi (Tryz.runUnderlying52 _) (Tryz.sizeOf30 _) hv2)) (lg 13 ?_)
  obtain ⟨hp1, hnh, h⟩ := h
  refine sl_t (pickA (S8 (S4 (pickS pickZ)))) (xs (v := (vi v1)) (Tryz.sizeOf30 _) hp1) ?_
  intro w2 hn1
  have h := h w2 hn1
  refine ⟨.inr h.1, ?_⟩
  have h := h.2
  have hk := Kept.sc hnh hn1
  obtain ⟨hs, hb⟩ := hk.hh hs hb
  refine qg 14 ?_
  obtain ⟨a5, hv1, h⟩ := h
  refine sy (v := (vp (some a5))) (pickA (S8 (S4 (pickS (pickS pickZ))))) (fun _ _ => (xi (Tryz.runUnderlying52 _) (Tryz.sizeOf30 _) hv1)) (lg 15 ?_)
  obtain ⟨hp2, hnh, h⟩ := h
  refine sl_t (pickA (S8 (S4 (pickS (pickS (pickS pickZ)))))) (xs (v := (vi v2)) (Tryz.sizeOf30 _) hp2) ?_
  intro w3 hn2
  have h := h w3 hn2
  refine ⟨.inl (by kernel_rfl), ?_⟩
  have hk := Kept.sc hnh hn2
  obtain ⟨hs, hb⟩ := hk.hh hs hb
  refine wn (th_n (wpE_seq (rg (q0 (vi i1) (q0 (vi (q6.wrap (i1 + 1))) (q0 (vi (q6.wrap (i1 + 1))) (wpL_nil (th_n (rg (q0 (vi j1) (q0 (vi (q6.wrap (j1 - 1))) ?_)))))))))))
  refine q0 (vi (q6.wrap (j1 - 1))) (wpL_nil (bl_n (th_n ?_)))
  exact ⟨((q6.wrap (i1 + 1)), (q6.wrap (j1 - 1)), Hl1, w3), ⟨rfl, hm, hs, hb, h.1⟩, h.2⟩
 ·have h := h.2 hc1
  refine wpE_exit (th_x (th_x (bl_eq (res0 (.inr rfl) Tryz.results161 ?_))))
  exact ⟨rfl, h⟩
def m_I_l4 (data1 : Sl) (b1 j1 : Int) (i2 j2 : Int) (w0 : World) (Hl2 : NP) (wl2 : World) (Kc1 : Int → Int → NP → WP) (Kc4 : Int → NP → WP) (_K : Bool → WP) : Prop :=
 Br (decide (j2 < b1))
  (∃ a6 : Addr, At data1 j2 1 a6 ∧
  ∃ v3 : Int, wl2.cell? a6 = some (vi v3) ∧ ¬ Hl2 a6.block ∧
  ∃ a7 : Addr, At data1 (q6.wrap (j2 - 1)) 1 a7 ∧
  ∃ v4 : Int, wl2.cell? a7 = some (vi v4) ∧ ¬ Hl2 a7.block ∧
  Br (!(s_A v3 v4))
   (∀ (H1 : NP) (w6 : World), Hst w0 Hl2 wl2 H1 w6 →
   Kc1 i2 (q6.wrap (j1 + 1)) H1 w6)
   (∀ (H1 : NP) (w6 : World), Hst w0 Hl2 wl2 H1 w6 →
   ∃ C3 : WP, C3 w6.drew ∧ ∀ w8, w8 = w6.drew →
   ∃ a8 : Addr, At data1 (q6.wrap (j2 - 1)) 1 a8 ∧
   ∃ v5 : Int, w8.cell? a8 = some (vi v5) ∧
   ∃ a9 : Addr, At data1 j2 1 a9 ∧
   ∃ v6 : Int, w8.cell? a9 = some (vi v6) ∧
   ∃ a10 : Addr, At data1 j2 1 a10 ∧
   CanW w8 a10 ∧ ¬ H1 a10.block ∧ ∀ w9 : World, w9 = w8.setCell a10 (vi v5) → C3 w9 ∧
   ∃ a11 : Addr, At data1 (q6.wrap (j2 - 1)) 1 a11 ∧
   CanW w9 a11 ∧ ¬ H1 a11.block ∧ ∀ w10 : World, w10 = w9.setCell a11 (vi v6) →
   Kc4 (q6.wrap (j2 + 1)) H1 w10))
  (Kc1 i2 (q6.wrap (j1 + 1)) Hl2 wl2)
def m_I_j3 (data1 : Sl) (b1 j1 i2 : Int) (w0 : World) (H : NP) (w : World) (Kc1 : Int → Int → NP → WP) (K : Bool → WP) : Prop :=
 Br (decide ((q6.wrap (b1 - i2)) ≥ 2))
  (∃ (I2 : Int → NP → WP) (mu2 : Int → World → Nat), I2 (q6.wrap (i2 + 1)) H w ∧
   ∀ (j2 : Int) (Hl2 : NP) (wl2 : World), Hst w0 Hl2 wl2 Hl2 wl2 → I2 j2 Hl2 wl2 → m_I_l4 data1 b1 j1 i2 j2 w0 Hl2 wl2 Kc1 (fun y'0 H' w' => I2 y'0 H' w' ∧ mu2 y'0 w' < mu2 j2 wl2) K)
  (Kc1 i2 (q6.wrap (j1 + 1)) H w)
def m_I_l5 (data1 : Sl) (b1 j1 : Int) (i2 j3 : Int) (w0 : World) (Hl3 : NP) (wl3 : World) (Kc1 : Int → Int → NP → WP) (Kc5 : Int → NP → WP) (K : Bool → WP) : Prop :=
 Br (decide (j3 ≥ 1))
  (∃ a12 : Addr, At data1 j3 1 a12 ∧
  ∃ v7 : Int, wl3.cell? a12 = some (vi v7) ∧ ¬ Hl3 a12.block ∧
  ∃ a13 : Addr, At data1 (q6.wrap (j3 - 1)) 1 a13 ∧
  ∃ v8 : Int, wl3.cell? a13 = some (vi v8) ∧ ¬ Hl3 a13.block ∧
  Br (!(s_A v7 v8))
   (∀ (H2 : NP) (w13 : World), Hst w0 Hl3 wl3 H2 w13 →
   m_I_j3 data1 b1 j1 i2 w0 H2 w13 Kc1 K)
   (∀ (H2 : NP) (w13 : World), Hst w0 Hl3 wl3 H2 w13 →
   ∃ C5 : WP, C5 w13.drew ∧ ∀ w15, w15 = w13.drew →
   ∃ a14 : Addr, At data1 (q6.wrap (j3 - 1)) 1 a14 ∧
   ∃ v9 : Int, w15.cell? a14 = some (vi v9) ∧
   ∃ a15 : Addr, At data1 j3 1 a15 ∧
   ∃ v10 : Int, w15.cell? a15 = some (vi v10) ∧
   ∃ a16 : Addr, At data1 j3 1 a16 ∧
   CanW w15 a16 ∧ ¬ H2 a16.block ∧ ∀ w16 : World, w16 = w15.setCell a16 (vi v9) → C5 w16 ∧
   ∃ a17 : Addr, At data1 (q6.wrap (j3 - 1)) 1 a17 ∧
   CanW w16 a17 ∧ ¬ H2 a17.block ∧ ∀ w17 : World, w17 = w16.setCell a17 (vi v10) →
   Kc5 (q6.wrap (j3 - 1)) H2 w17))
  (m_I_j3 data1 b1 j1 i2 w0 Hl3 wl3 Kc1 K)
def m_I_j2 (data1 : Sl) (a1 b1 : Int) (j1 i2 : Int) (w0 : World) (H : NP) (w : World) (Kc1 : Int → Int → NP → WP) (K : Bool → WP) : Prop :=
 Br (i2 == b1)
  (K true w)
  (Br (decide ((q6.wrap (b1 - a1)) < 50))
   (K false w)
   (∃ C1 : WP, C1 w.drew ∧ ∀ w1, w1 = w.drew →
   ∃ a2 : Addr, At data1 (q6.wrap (i2 - 1)) 1 a2 ∧
   ∃ v1 : Int, w1.cell? a2 = some (vi v1) ∧
   ∃ a3 : Addr, At data1 i2 1 a3 ∧
   ∃ v2 : Int, w1.cell? a3 = some (vi v2) ∧
   ∃ a4 : Addr, At data1 i2 1 a4 ∧
   CanW w1 a4 ∧ ¬ H a4.block ∧ ∀ w2 : World, w2 = w1.setCell a4 (vi v1) → C1 w2 ∧
   ∃ a5 : Addr, At data1 (q6.wrap (i2 - 1)) 1 a5 ∧
   CanW w2 a5 ∧ ¬ H a5.block ∧ ∀ w3 : World, w3 = w2.setCell a5 (vi v2) →
   Br (decide ((q6.wrap (i2 - a1)) ≥ 2))
    (∃ (I3 : Int → NP → WP) (mu3 : Int → World → Nat), I3 (q6.wrap (i2 - 1)) H w3 ∧
     ∀ (j3 : Int) (Hl3 : NP) (wl3 : World), Hst w0 Hl3 wl3 Hl3 wl3 → I3 j3 Hl3 wl3 → m_I_l5 data1 b1 j1 i2 j3 w0 Hl3 wl3 Kc1 (fun y'0 H' w' => I3 y'0 H' w' ∧ mu3 y'0 w' < mu3 j3 wl3) K)
    (m_I_j3 data1 b1 j1 i2 w0 H w3 Kc1 K)))
def m_I_l6 (data1 : Sl) (a1 b1 : Int) (j1 i3 : Int) (w0 : World) (Hl4 : NP) (wl4 : World) (Kc1 : Int → Int → NP → WP) (Kc6 : Int → NP → WP) (K : Bool → WP) : Prop :=
 Br (decide (i3 < b1))
  (∃ a18 : Addr, At data1 i3 1 a18 ∧
  ∃ v11 : Int, wl4.cell? a18 = some (vi v11) ∧ ¬ Hl4 a18.block ∧
  ∃ a19 : Addr, At data1 (q6.wrap (i3 - 1)) 1 a19 ∧
  ∃ v12 : Int, wl4.cell? a19 = some (vi v12) ∧ ¬ Hl4 a19.block ∧
  Br (!(s_A v11 v12))
   (∀ (H3 : NP) (w20 : World), Hst w0 Hl4 wl4 H3 w20 →
   Kc6 (q6.wrap (i3 + 1)) H3 w20)
   (∀ (H3 : NP) (w20 : World), Hst w0 Hl4 wl4 H3 w20 →
   m_I_j2 data1 a1 b1 j1 i3 w0 H3 w20 Kc1 K))
  (∀ (H4 : NP) (w22 : World), Hst w0 Hl4 wl4 H4 w22 →
  m_I_j2 data1 a1 b1 j1 i3 w0 H4 w22 Kc1 K)
def m_I_l1 (data1 : Sl) (a1 b1 : Int) (i1 j1 : Int) (w0 : World) (Hl1 : NP) (wl1 : World) (Kc1 : Int → Int → NP → WP) (K : Bool → WP) : Prop :=
 Br (decide (j1 < 5))
  (∃ (I4 : Int → NP → WP) (mu4 : Int → World → Nat), I4 i1 Hl1 wl1 ∧
   ∀ (i3 : Int) (Hl4 : NP) (wl4 : World), Hst w0 Hl4 wl4 Hl4 wl4 → I4 i3 Hl4 wl4 → m_I_l6 data1 a1 b1 j1 i3 w0 Hl4 wl4 Kc1 (fun y'0 H' w' => I4 y'0 H' w' ∧ mu4 y'0 w' < mu4 i3 wl4) K)
  (K false wl1)
def m_I (data1 : Sl) (a1 b1 : Int) (w0 : World) (K : Bool → WP) : Prop :=
 ∃ (I1 : Int → Int → NP → WP) (mu1 : Int → Int → World → Nat), I1 (q6.wrap (a1 + 1)) 0 None w0 ∧
  ∀ (i1 j1 : Int) (Hl1 : NP) (wl1 : World), Hst w0 Hl1 wl1 Hl1 wl1 → I1 i1 j1 Hl1 wl1 → m_I_l1 data1 a1 b1 i1 j1 w0 Hl1 wl1 (fun y'0 y'1 H' w' => I1 y'0 y'1 H' w' ∧ mu1 y'0 y'1 w' < mu1 i1 j1 wl1) K
theorem w_I (data1 : Sl) (a1 b1 : Int) (w0 : World) (K : Bool → WP) (h : m_I data1 a1 b1 w0 K) :
  Calls Tryz.prog 162 #[data1.v, (vi a1), (vi b1)] w0 (fun e w' => ∃ r1 : Bool, e = .returned (vb r1) ∧ K r1 w') := by
 unfold m_I at h
 refine cw (args := [data1.v, (vi a1), (vi b1)]) Tryz.func162 Tryz.ntmps162 ?_
 have hs := Hst.start w0
 have hb := HB.nil None w0
 refine wpE_seq (rg (q0 (vb false) (wpL_nil (th_n (wpE_seq (rg (q0 (vi a1) (q0 (vi (q6.wrap (a1 + 1))) (q0 (vi (q6.wrap (a1 + 1))) (wpL_nil (th_n ?_)))))))))))
 refine wpE_seq (wpE_seq (rg (q0 (vi 0) (wpL_nil (th_n (wpE_block ?_))))))
 obtain ⟨I1, mu1, h0, hr⟩ := h
 refine wpE_loop (σ := Int × Int × NP × World) (fun s ρ w => w = s.2.2.2 ∧ Has ρ [(0, data1.v), (1, (vi a1)), (2, (vi b1)), (7, (vi s.1)), (8, (vi s.2.1))] ∧ Hst w0 s.2.2.1 w s.2.2.1 w ∧ HB s.2.2.1 w [] ∧ I1 s.1 s.2.1 s.2.2.1 s.2.2.2) (fun s => mu1 s.1 s.2.1 s.2.2.2) ((q6.wrap (a1 + 1)), 0, None, w0) ⟨rfl, hm, hs, hb, h0⟩ ?_
 rintro ⟨i1, j1, Hl1, wl1⟩ ρ w ⟨hw, hH, hs, hb, hI⟩
 obtain rfl : wl1 = w := (show w = wl1 from hw).symm
 have hH : Has ρ [(0, data1.v), (1, (vi a1)), (2, (vi b1)), (7, (vi i1)), (8, (vi j1))] := hH
 have hs : Hst w0 Hl1 wl1 Hl1 wl1 := hs
 have hb : HB Hl1 wl1 [] := hb
 have h := hr i1 j1 Hl1 wl1 hs hI
 unfold m_I_l1 at h
 refine wpE_has hH ?_
 refine wpE_seq (wpE_seq (rg (q0 (vi j1) (q0 (vb (decide (j1 < 5))) (wpL_nil (th_n ?_))))))
 refine wpE_cond (t := (decide (j1 < 5))) (by kernel_rfl) (fun hc1 => ?_) (fun hc1 => ?_)
 ·have h := h.1 hc1
  refine wpE_skip (th_n (wpE_seq (wpE_block (wpE_seq ?_))))
  refine wpE_joinT (fun ρ w => ∃ i2 : Int, ∃ H : NP, Has ρ [(0, data1.v), (1, (vi a1)), (2, (vi b1)), (7, (vi i2)), (8, (vi j1))] ∧ Hst w0 H w H w ∧ HB H w [] ∧ m_I_j2 data1 a1 b1 j1 i2 w0 H w (fun y'0 y'1 H' w' => I1 y'0 y'1 H' w' ∧ mu1 y'0 y'1 w' < mu1 i1 j1 wl1) K) ?_ ?_
  ·rintro ρ w ⟨i2, H, hH, hs, hb, h⟩
   unfold m_I_j2 at h
   refine wpE_has hH ?_
   refine wpE_seq (wpE_seq (rg (q0 (vi i2) (q0 (vi b1) (q0 (vb (i2 == b1)) (wpL_nil (th_n ?_)))))))
   refine wpE_cond (t := (i2 == b1)) (by kernel_rfl) (fun hc2 => ?_) (fun hc2 => ?_)
   ·have h := h.1 hc2
    refine wpE_seq (rg (q0 (vb true) (wpL_nil (th_n (wpE_ret (th_r (bl_r (th_r (th_r (bl_r (th_r ?_)))))))))))
    refine rs1 Tryz.results162 (v := (vb true)) ?_
    exact ⟨true, rfl, h⟩
   ·have h := h.2 hc2
    refine wpE_skip (th_n (wpE_seq (wpE_seq (rg (q0 (vi b1) (q0 (vi a1) (q0 (vi (q6.wrap (b1 - a1))) (q0 (vb (decide ((q6.wrap (b1 - a1)) < 50))) (wpL_nil (th_n ?_))))))))))
    refine wpE_cond (t := (decide ((q6.wrap (b1 - a1)) < 50))) (by kernel_rfl) (fun hc3 => ?_) (fun hc3 => ?_)
    ·have h := h.1 hc3
     refine wpE_seq (rg (q0 (vb false) (wpL_nil (th_n (wpE_ret (th_r (bl_r (th_r (th_r (bl_r (th_r ?_)))))))))))
     refine rs1 Tryz.results162 (v := (vb false)) ?_
     exact ⟨false, rfl, h⟩
    ·have h := h.2 hc3
     refine wpE_skip (th_n (wpE_seq ?_))
     obtain ⟨C1, hC, h⟩ := h
     refine wpE_drawnC C1 [15, 17] [17] (by kernel_rfl) (by kernel_rfl) (by kernel_rfl) (by kernel_rfl) hC ?_
     intro w1 hw1
     have h := h w1 hw1
     have hs : Hst w0 H w H w1 := by rw [hw1]; exact hs.drew
     have hb : HB H w1 [] := by rw [hw1]; exact hb.drew
     have hs := hs.here
     refine qx 0 data1.v Kp0 (qx 1 (vi i2) Kp1 (qx 2 data1.v Kp2 (qx 3 (vi i2) Kp3 (qx 4 (vi (q6.wrap (i2 - 1))) Kp4 (qx 5 data1.v Kp5 (qx 6 (vi i2) Kp6 (qx 7 (vi (q6.wrap (i2 - 1))) Kp7 (qg 8 ?_))))))))
     obtain ⟨a2, hv26, h⟩ := h
     refine sy (v := (vp (some a2))) Kp8 (fun _ _ => (xi (Tryz.runUnderlying52 _) (Tryz.sizeOf30 _) hv26)) (qg 9 ?_)
     obtain ⟨v1, hv25, h⟩ := h
     refine sye Kp9 (xl (Tryz.isAgg30 _) hv25) (qx 10 data1.v (pickA (S8 (pickS (pickS pickZ)))) (qx 11 (vi i2) (pickA (S8 (pickS (pickS (pickS pickZ))))) (qg 12 ?_)))
     obtain ⟨a3, hv24, h⟩ := h
     refine sy (v := (vp (some a3))) (pickA (S8 (S4 pickZ))) (fun _ _ => (xi (Tryz.runUnderlying52 _) (Tryz.sizeOf30 _) hv24)) (qg 13 ?_)
     obtain ⟨v2, hv23, h⟩ := h
     refine sye (pickA (S8 (S4 (pickS pickZ)))) (xl (Tryz.isAgg30 _) hv23) (qg 14 ?_)
     obtain ⟨a4, hv22, h⟩ := h
     refine sy (v := (vp (some a4))) (pickA (S8 (S4 (pickS (pickS pickZ))))) (fun _ _ => (xi (Tryz.runUnderlying52 _) (Tryz.sizeOf30 _) hv22)) (lg 15 ?_)
     obtain ⟨hp1, hnh, h⟩ := h
     refine sl_t (pickA (S8 (S4 (pickS (pickS (pickS pickZ)))))) (xs (v := (vi v1)) (Tryz.sizeOf30 _) hp1) ?_
     intro w2 hn1
     have h := h w2 hn1
     refine ⟨.inr h.1, ?_⟩
     have h := h.2
     have hk := Kept.sc hnh hn1
     obtain ⟨hs, hb⟩ := hk.hh hs hb
     refine qg 16 ?_
     obtain ⟨a5, hv21, h⟩ := h
     refine sy (v := (vp (some a5))) (pickA (S8 (S8 pickZ))) (fun _ _ => (xi (Tryz.runUnderlying52 _) (Tryz.sizeOf30 _) hv21)) (lg 17 ?_)
     obtain ⟨hp2, hnh, h⟩ := h
     refine sl_t (pickA (S8 (S8 (pickS pickZ)))) (xs (v := (vi v2)) (Tryz.sizeOf30 _) hp2) ?_
     intro w3 hn2
     have h := h w3 hn2
     refine ⟨.inl (by kernel_rfl), ?_⟩
     have hk := Kept.sc hnh hn2
     obtain ⟨hs, hb⟩ := hk.hh hs hb
     refine wn (th_n (wpE_seq (wpE_seq (rg (q0 (vi i2) (q0 (vi a1) (q0 (vi (q6.wrap (i2 - a1))) (q0 (vb (decide ((q6.wrap (i2 - a1)) ≥ 2))) (wpL_nil (th_n ?_))))))))))
     refine wpE_joinT (fun ρ w => ∃ H : NP, Has ρ [(0, data1.v), (1, (vi a1)), (2, (vi b1)), (7, (vi i2)), (8, (vi j1))] ∧ Hst w0 H w H w ∧ HB H w [] ∧ m_I_j3 data1 b1 j1 i2 w0 H w (fun y'0 y'1 H' w' => I1 y'0 y'1 H' w' ∧ mu1 y'0 y'1 w' < mu1 i1 j1 wl1) K) ?_ ?_
     ·rintro ρ w ⟨H, hH, hs, hb, h⟩
      unfold m_I_j3 at h
      refine wpE_has hH ?_
      refine wpE_seq (rg (q0 (vi b1) (q0 (vi i2) (q0 (vi (q6.wrap (b1 - i2))) (q0 (vb (decide ((q6.wrap (b1 - i2)) ≥ 2))) (wpL_nil (th_n ?_)))))))
      refine wpE_cond (t := (decide ((q6.wrap (b1 - i2)) ≥ 2))) (by kernel_rfl) (fun hc4 => ?_) (fun hc4 => ?_)
      ·have h := h.1 hc4
       refine wpE_seq (rg (q0 (vi i2) (q0 (vi (q6.wrap (i2 + 1))) (q0 (vi (q6.wrap (i2 + 1))) (wpL_nil (th_n (wpE_block ?_)))))))
       obtain ⟨I2, mu2, h0, hr⟩ := h
       refine wpE_loop (σ := Int × NP × World) (fun s ρ w => w = s.2.2 ∧ Has ρ [(0, data1.v), (1, (vi a1)), (2, (vi b1)), (7, (vi i2)), (8, (vi j1)), (10, (vi s.1))] ∧ Hst w0 s.2.1 w s.2.1 w ∧ HB s.2.1 w [] ∧ I2 s.1 s.2.1 s.2.2) (fun s => mu2 s.1 s.2.2) ((q6.wrap (i2 + 1)), H, w) ⟨rfl, hm, hs, hb, h0⟩ ?_
       rintro ⟨j2, Hl2, wl2⟩ ρ w ⟨hw, hH, hs, hb, hI⟩
       obtain rfl : wl2 = w := (show w = wl2 from hw).symm
       have hH : Has ρ [(0, data1.v), (1, (vi a1)), (2, (vi b1)), (7, (vi i2)), (8, (vi j1)), (10, (vi j2))] := hH
       have hs : Hst w0 Hl2 wl2 Hl2 wl2 := hs
       have hb : HB Hl2 wl2 [] := hb
       have h := hr j2 Hl2 wl2 hs hI
       unfold m_I_l4 at h
       refine wpE_has hH ?_
       refine wpE_seq (wpE_seq (rg (q0 (vi j2) (q0 (vi b1) (q0 (vb (decide (j2 < b1))) (wpL_nil (th_n ?_)))))))
       refine wpE_cond (t := (decide (j2 < b1))) (by kernel_rfl) (fun hc5 => ?_) (fun hc5 => ?_)
       ·have h := h.1 hc5
        refine wpE_skip (th_n (wpE_seq (wpE_block (wpE_seq (wpE_seq (wpE_drawnC (fun x => ∃ H', Hst w0 Hl2 wl2 H' x ∧ HB H' x []) [9] [] (by kernel_rfl) (by kernel_rfl) (by kernel_rfl) (by kernel_rfl) ⟨_, hs.drew, hb.drew⟩ ?_))))))
        intro w4 hw4
        have hs : Hst w0 Hl2 wl2 Hl2 w4 := by rw [hw4]; exact hs.drew
        have hb : HB Hl2 w4 [] := by rw [hw4]; exact hb.drew
        refine qx 0 data1.v Kp0 (qx 1 (vi j2) Kp1 (qg 2 ?_))
        obtain ⟨a6, hv10, h⟩ := h
        refine sy (v := (vp (some a6))) Kp2 (fun _ _ => (xi (Tryz.runUnderlying52 _) (Tryz.sizeOf30 _) hv10)) (qg 3 ?_)
        obtain ⟨v3, hv9, hnh, h⟩ := h
        refine sy (v := (vi v3)) Kp3 (fun w' hw' => by obtain ⟨H', hs', hb'⟩ := hw'; exact (xl (Tryz.isAgg30 _) (cell_hst hv9 hnh hs'))) ?_
        refine qx 4 data1.v Kp4 (qx 5 (vi j2) Kp5 (qx 6 (vi (q6.wrap (j2 - 1))) Kp6 (qg 7 ?_)))
        obtain ⟨a7, hv8, h⟩ := h
        refine sy (v := (vp (some a7))) Kp7 (fun _ _ => (xi (Tryz.runUnderlying52 _) (Tryz.sizeOf30 _) hv8)) (qg 8 ?_)
        obtain ⟨v4, hv7, hnh, h⟩ := h
        refine sy (v := (vi v4)) Kp8 (fun w' hw' => by obtain ⟨H', hs', hb'⟩ := hw'; exact (xl (Tryz.isAgg30 _) (cell_hst hv7 hnh hs'))) ?_
        refine wpX_via (fun ρ wJ => ∃ HJ : NP, Hst w0 Hl2 wl2 HJ wJ ∧ HB HJ wJ [] ∧ Has ρ [(0, data1.v), (1, (vi a1)), (2, (vi b1)), (7, (vi i2)), (8, (vi j1)), (10, (vi j2)), (116, (vb (!(s_A v3 v4))))]) ?_ ?_
        ·refine lg 9 ?_
         refine sl_call Kp9 (want0 rfl) (by kernel_rfl) (xc Tryz.call163) ((p_A v3 v4 w4).mono ?_)
         rintro e w7 ⟨he, hE⟩
         have hs := hs.pure hE
         have hb := hb.pure hE
         refine ⟨(vb (s_A v3 v4)), he.trans (by kernel_rfl), .inr ⟨_, hs, hb⟩, ?_⟩
         refine qx 10 (vb (!(s_A v3 v4))) (pickA (S8 (pickS (pickS pickZ)))) (wn ?_)
         exact ⟨_, hs, hb, hm⟩
        ·rintro ρ w6 ⟨H1, hs, hb, hH⟩
         refine q_has hH ?_
         refine th_n ?_
         refine wpE_cond (t := (!(s_A v3 v4))) (by kernel_rfl) (fun hc6 => ?_) (fun hc6 => ?_)
         ·have h := h.1 hc6
          refine wpE_exit (th_x (bl_ne rfl (th_x (th_x (bl_eq (bl_n (th_n (rg (q0 (vi j1) (q0 (vi (q6.wrap (j1 + 1))) (q0 (vi (q6.wrap (j1 + 1))) ?_)))))))))))
          refine wpL_nil ?_
          have h := h H1 w6 hs
          have hs := hs.here
          refine th_n ?_
          exact ⟨(i2, (q6.wrap (j1 + 1)), H1, w6), ⟨rfl, hm, hs, hb, h.1⟩, h.2⟩
         ·have h := h.2 hc6
          refine wpE_skip (th_n ?_)
          have h := h H1 w6 hs
          have hs := hs.here
          obtain ⟨C3, hC, h⟩ := h
          refine wpE_drawnC C3 [15, 17] [17] (by kernel_rfl) (by kernel_rfl) (by kernel_rfl) (by kernel_rfl) hC ?_
          intro w8 hw8
          have h := h w8 hw8
          have hs : Hst w0 H1 w6 H1 w8 := by rw [hw8]; exact hs.drew
          have hb : HB H1 w8 [] := by rw [hw8]; exact hb.drew
          have hs := hs.here
          refine qx 0 data1.v Kp0 (qx 1 (vi j2) Kp1 (qx 2 data1.v Kp2 (qx 3 (vi j2) Kp3 (qx 4 (vi (q6.wrap (j2 - 1))) Kp4 (qx 5 data1.v Kp5 (qx 6 (vi j2) Kp6 (qx 7 (vi (q6.wrap (j2 - 1))) Kp7 (qg 8 ?_))))))))
          obtain ⟨a8, hv6, h⟩ := h
          refine sy (v := (vp (some a8))) Kp8 (fun _ _ => (xi (Tryz.runUnderlying52 _) (Tryz.sizeOf30 _) hv6)) (qg 9 ?_)
          obtain ⟨v5, hv5, h⟩ := h
          refine sye Kp9 (xl (Tryz.isAgg30 _) hv5) (qx 10 data1.v (pickA (S8 (pickS (pickS pickZ)))) (qx 11 (vi j2) (pickA (S8 (pickS (pickS (pickS pickZ))))) (qg 12 ?_)))
          obtain ⟨a9, hv4, h⟩ := h
          refine sy (v := (vp (some a9))) (pickA (S8 (S4 pickZ))) (fun _ _ => (xi (Tryz.runUnderlying52 _) (Tryz.sizeOf30 _) hv4)) (qg 13 ?_)
          obtain ⟨v6, hv3, h⟩ := h
          refine sye (pickA (S8 (S4 (pickS pickZ)))) (xl (Tryz.isAgg30 _) hv3) (qg 14 ?_)
          obtain ⟨a10, hv2, h⟩ := h
          refine sy (v := (vp (some a10))) (pickA (S8 (S4 (pickS (pickS pickZ))))) (fun _ _ => (xi (Tryz.runUnderlying52 _) (Tryz.sizeOf30 _) hv2)) (lg 15 ?_)
          obtain ⟨hp3, hnh, h⟩ := h
          refine sl_t (pickA (S8 (S4 (pickS (pickS (pickS pickZ)))))) (xs (v := (vi v5)) (Tryz.sizeOf30 _) hp3) ?_
          intro w9 hn3
          have h := h w9 hn3
          refine ⟨.inr h.1, ?_⟩
          have h := h.2
          have hk := Kept.sc hnh hn3
          obtain ⟨hs, hb⟩ := hk.hh hs hb
          refine qg 16 ?_
          obtain ⟨a11, hv1, h⟩ := h
          refine sy (v := (vp (some a11))) (pickA (S8 (S8 pickZ))) (fun _ _ => (xi (Tryz.runUnderlying52 _) (Tryz.sizeOf30 _) hv1)) (lg 17 ?_)
          obtain ⟨hp4, hnh, h⟩ := h
          refine sl_t (pickA (S8 (S8 (pickS pickZ)))) (xs (v := (vi v6)) (Tryz.sizeOf30 _) hp4) ?_
          intro w10 hn4
          have h := h w10 hn4
          refine ⟨.inl (by kernel_rfl), ?_⟩
          have hk := Kept.sc hnh hn4
          obtain ⟨hs, hb⟩ := hk.hh hs hb
          refine wn (bl_n (th_n (rg (q0 (vi j2) (q0 (vi (q6.wrap (j2 + 1))) (q0 (vi (q6.wrap (j2 + 1))) (wpL_nil (th_n ?_))))))))
          exact ⟨((q6.wrap (j2 + 1)), H1, w10), ⟨rfl, hm, hs, hb, h.1⟩, h.2⟩
       ·have h := h.2 hc5
        refine wpE_exit (th_x (th_x (bl_eq (bl_n (th_n (rg (q0 (vi j1) (q0 (vi (q6.wrap (j1 + 1))) (q0 (vi (q6.wrap (j1 + 1))) (wpL_nil (th_n ?_)))))))))))
        exact ⟨(i2, (q6.wrap (j1 + 1)), Hl2, wl2), ⟨rfl, hm, hs, hb, h.1⟩, h.2⟩
      ·have h := h.2 hc4
       refine wpE_skip (bl_n (th_n (rg (q0 (vi j1) (q0 (vi (q6.wrap (j1 + 1))) (q0 (vi (q6.wrap (j1 + 1))) (wpL_nil (th_n ?_))))))))
       exact ⟨(i2, (q6.wrap (j1 + 1)), H, w), ⟨rfl, hm, hs, hb, h.1⟩, h.2⟩
     ·refine wpE_cond (t := (decide ((q6.wrap (i2 - a1)) ≥ 2))) (by kernel_rfl) (fun hc7 => ?_) (fun hc7 => ?_)
      ·have h := h.1 hc7
       refine wpE_seq (rg (q0 (vi i2) (q0 (vi (q6.wrap (i2 - 1))) (q0 (vi (q6.wrap (i2 - 1))) (wpL_nil (th_n (wpE_block ?_)))))))
       obtain ⟨I3, mu3, h0, hr⟩ := h
       refine wpE_loop (σ := Int × NP × World) (fun s ρ w => w = s.2.2 ∧ Has ρ [(0, data1.v), (1, (vi a1)), (2, (vi b1)), (7, (vi i2)), (8, (vi j1)), (9, (vi s.1))] ∧ Hst w0 s.2.1 w s.2.1 w ∧ HB s.2.1 w [] ∧ I3 s.1 s.2.1 s.2.2) (fun s => mu3 s.1 s.2.2) ((q6.wrap (i2 - 1)), H, w3) ⟨rfl, hm, hs, hb, h0⟩ ?_
       rintro ⟨j3, Hl3, wl3⟩ ρ w ⟨hw, hH, hs, hb, hI⟩
       obtain rfl : wl3 = w := (show w = wl3 from hw).symm
       have hH : Has ρ [(0, data1.v), (1, (vi a1)), (2, (vi b1)), (7, (vi i2)), (8, (vi j1)), (9, (vi j3))] := hH
       have hs : Hst w0 Hl3 wl3 Hl3 wl3 := hs
       have hb : HB Hl3 wl3 [] := hb
       have h := hr j3 Hl3 wl3 hs hI
       unfold m_I_l5 at h
       refine wpE_has hH ?_
       refine wpE_seq (wpE_seq (rg (q0 (vi j3) (q0 (vb (decide (j3 ≥ 1))) (wpL_nil (th_n ?_))))))
       refine wpE_cond (t := (decide (j3 ≥ 1))) (by kernel_rfl) (fun hc8 => ?_) (fun hc8 => ?_)
       ·have h := h.1 hc8
        refine wpE_skip (th_n (wpE_seq (wpE_block (wpE_seq (wpE_seq (wpE_drawnC (fun x => ∃ H', Hst w0 Hl3 wl3 H' x ∧ HB H' x []) [9] [] (by kernel_rfl) (by kernel_rfl) (by kernel_rfl) (by kernel_rfl) ⟨_, hs.drew, hb.drew⟩ ?_))))))
        intro w11 hw11
        have hs : Hst w0 Hl3 wl3 Hl3 w11 := by rw [hw11]; exact hs.drew
        have hb : HB Hl3 w11 [] := by rw [hw11]; exact hb.drew
        refine qx 0 data1.v Kp0 (qx 1 (vi j3) Kp1 (qg 2 ?_))
        obtain ⟨a12, hv20, h⟩ := h
        refine sy (v := (vp (some a12))) Kp2 (fun _ _ => (xi (Tryz.runUnderlying52 _) (Tryz.sizeOf30 _) hv20)) (qg 3 ?_)
        obtain ⟨v7, hv19, hnh, h⟩ := h
        refine sy (v := (vi v7)) Kp3 (fun w' hw' => by obtain ⟨H', hs', hb'⟩ := hw'; exact (xl (Tryz.isAgg30 _) (cell_hst hv19 hnh hs'))) ?_
        refine qx 4 data1.v Kp4 (qx 5 (vi j3) Kp5 (qx 6 (vi (q6.wrap (j3 - 1))) Kp6 (qg 7 ?_)))
        obtain ⟨a13, hv18, h⟩ := h
        refine sy (v := (vp (some a13))) Kp7 (fun _ _ => (xi (Tryz.runUnderlying52 _) (Tryz.sizeOf30 _) hv18)) (qg 8 ?_)
        obtain ⟨v8, hv17, hnh, h⟩ := h
        refine sy (v := (vi v8)) Kp8 (fun w' hw' => by obtain ⟨H', hs', hb'⟩ := hw'; exact (xl (Tryz.isAgg30 _) (cell_hst hv17 hnh hs'))) ?_
        refine wpX_via (fun ρ wJ => ∃ HJ : NP, Hst w0 Hl3 wl3 HJ wJ ∧ HB HJ wJ [] ∧ Has ρ [(0, data1.v), (1, (vi a1)), (2, (vi b1)), (7, (vi i2)), (8, (vi j1)), (9, (vi j3)), (78, (vb (!(s_A v7 v8))))]) ?_ ?_
        ·refine lg 9 ?_
         refine sl_call Kp9 (want0 rfl) (by kernel_rfl) (xc Tryz.call163) ((p_A v7 v8 w11).mono ?_)
         rintro e w14 ⟨he, hE⟩
         have hs := hs.pure hE
         have hb := hb.pure hE
         refine ⟨(vb (s_A v7 v8)), he.trans (by kernel_rfl), .inr ⟨_, hs, hb⟩, ?_⟩
         refine qx 10 (vb (!(s_A v7 v8))) (pickA (S8 (pickS (pickS pickZ)))) (wn ?_)
         exact ⟨_, hs, hb, hm⟩
        ·rintro ρ w13 ⟨H2, hs, hb, hH⟩
         refine q_has hH ?_
         refine th_n ?_
         refine wpE_cond (t := (!(s_A v7 v8))) (by kernel_rfl) (fun hc9 => ?_) (fun hc9 => ?_)
         ·have h := h.1 hc9
          refine wpE_exit (th_x (bl_ne rfl (th_x (th_x (bl_eq ?_)))))
          have h := h H2 w13 hs
          have hs := hs.here
          refine th_n ?_
          exact ⟨H2, hm, hs, hb, h⟩
         ·have h := h.2 hc9
          refine wpE_skip (th_n ?_)
          have h := h H2 w13 hs
          have hs := hs.here
          obtain ⟨C5, hC, h⟩ := h
          refine wpE_drawnC C5 [15, 17] [17] (by kernel_rfl) (by kernel_rfl) (by kernel_rfl) (by kernel_rfl) hC ?_
          intro w15 hw15
          have h := h w15 hw15
          have hs : Hst w0 H2 w13 H2 w15 := by rw [hw15]; exact hs.drew
          have hb : HB H2 w15 [] := by rw [hw15]; exact hb.drew
          have hs := hs.here
          refine qx 0 data1.v Kp0 (qx 1 (vi j3) Kp1 (qx 2 data1.v Kp2 (qx 3 (vi j3) Kp3 (qx 4 (vi (q6.wrap (j3 - 1))) Kp4 (qx 5 data1.v Kp5 (qx 6 (vi j3) Kp6 (qx 7 (vi (q6.wrap (j3 - 1))) Kp7 (qg 8 ?_))))))))
          obtain ⟨a14, hv16, h⟩ := h
          refine sy (v := (vp (some a14))) Kp8 (fun _ _ => (xi (Tryz.runUnderlying52 _) (Tryz.sizeOf30 _) hv16)) (qg 9 ?_)
          obtain ⟨v9, hv15, h⟩ := h
          refine sye Kp9 (xl (Tryz.isAgg30 _) hv15) (qx 10 data1.v (pickA (S8 (pickS (pickS pickZ)))) (qx 11 (vi j3) (pickA (S8 (pickS (pickS (pickS pickZ))))) (qg 12 ?_)))
          obtain ⟨a15, hv14, h⟩ := h
          refine sy (v := (vp (some a15))) (pickA (S8 (S4 pickZ))) (fun _ _ => (xi (Tryz.runUnderlying52 _) (Tryz.sizeOf30 _) hv14)) (qg 13 ?_)
          obtain ⟨v10, hv13, h⟩ := h
          refine sye (pickA (S8 (S4 (pickS pickZ)))) (xl (Tryz.isAgg30 _) hv13) (qg 14 ?_)
          obtain ⟨a16, hv12, h⟩ := h
          refine sy (v := (vp (some a16))) (pickA (S8 (S4 (pickS (pickS pickZ))))) (fun _ _ => (xi (Tryz.runUnderlying52 _) (Tryz.sizeOf30 _) hv12)) (lg 15 ?_)
          obtain ⟨hp5, hnh, h⟩ := h
          refine sl_t (pickA (S8 (S4 (pickS (pickS (pickS pickZ)))))) (xs (v := (vi v9)) (Tryz.sizeOf30 _) hp5) ?_
          intro w16 hn5
          have h := h w16 hn5
          refine ⟨.inr h.1, ?_⟩
          have h := h.2
          have hk := Kept.sc hnh hn5
          obtain ⟨hs, hb⟩ := hk.hh hs hb
          refine qg 16 ?_
          obtain ⟨a17, hv11, h⟩ := h
          refine sy (v := (vp (some a17))) (pickA (S8 (S8 pickZ))) (fun _ _ => (xi (Tryz.runUnderlying52 _) (Tryz.sizeOf30 _) hv11)) (lg 17 ?_)
          obtain ⟨hp6, hnh, h⟩ := h
          refine sl_t (pickA (S8 (S8 (pickS pickZ)))) (xs (v := (vi v10)) (Tryz.sizeOf30 _) hp6) ?_
          intro w17 hn6
          have h := h w17 hn6
          refine ⟨.inl (by kernel_rfl), ?_⟩
          have hk := Kept.sc hnh hn6
          obtain ⟨hs, hb⟩ := hk.hh hs hb
          refine wn (bl_n (th_n (rg (q0 (vi j3) (q0 (vi (q6.wrap (j3 - 1))) (q0 (vi (q6.wrap (j3 - 1))) (wpL_nil (th_n ?_))))))))
          exact ⟨((q6.wrap (j3 - 1)), H2, w17), ⟨rfl, hm, hs, hb, h.1⟩, h.2⟩
       ·have h := h.2 hc8
        refine wpE_exit (th_x (th_x (bl_eq (th_n ?_))))
        exact ⟨Hl3, hm, hs, hb, h⟩
      ·have h := h.2 hc7
       refine wpE_skip (th_n ?_)
       exact ⟨H, hm, hs, hb, h⟩
  ·refine wpE_block ?_
   obtain ⟨I4, mu4, h0, hr⟩ := h
   refine wpE_loop (σ := Int × NP × World) (fun s ρ w => w = s.2.2 ∧ Has ρ [(0, data1.v), (1, (vi a1)), (2, (vi b1)), (7, (vi s.1)), (8, (vi j1))] ∧ Hst w0 s.2.1 w s.2.1 w ∧ HB s.2.1 w [] ∧ I4 s.1 s.2.1 s.2.2) (fun s => mu4 s.1 s.2.2) (i1, Hl1, wl1) ⟨rfl, hm, hs, hb, h0⟩ ?_
   rintro ⟨i3, Hl4, wl4⟩ ρ w ⟨hw, hH, hs, hb, hI⟩
   obtain rfl : wl4 = w := (show w = wl4 from hw).symm
   have hH : Has ρ [(0, data1.v), (1, (vi a1)), (2, (vi b1)), (7, (vi i3)), (8, (vi j1))] := hH
   have hs : Hst w0 Hl4 wl4 Hl4 wl4 := hs
   have hb : HB Hl4 wl4 [] := hb
   have h := hr i3 Hl4 wl4 hs hI
   unfold m_I_l6 at h
   refine wpE_has hH ?_
   refine wpE_seq (wpE_seq (wpE_drawnC (fun x => ∃ H', Hst w0 Hl4 wl4 H' x ∧ HB H' x []) [13] [] (by kernel_rfl) (by kernel_rfl) (by kernel_rfl) (by kernel_rfl) ⟨_, hs.drew, hb.drew⟩ ?_))
   intro w18 hw18
   have hs : Hst w0 Hl4 wl4 Hl4 w18 := by rw [hw18]; exact hs.drew
   have hb : HB Hl4 w18 [] := by rw [hw18]; exact hb.drew
   refine qx 0 (vi i3) Kp0 (qx 1 (vi b1) Kp1 (qx 2 (vb (decide (i3 < b1))) Kp2 (qx 3 (vb (decide (i3 < b1))) Kp3 (qg 4 ?_))))
   rcases Bool.eq_false_or_eq_true (decide (i3 < b1)) with hg1 | hg1
   ·have h := h.1 hg1
    refine sz (v := data1.v) Kp4 (want1 rfl (yD 20 hg1)) (fun _ _ => (by kernel_rfl)) (qw 5 (vi i3) Kp5 (want1 rfl (yD 20 hg1)) (qg 6 ?_))
    obtain ⟨a18, hv30, h⟩ := h
    refine sz (v := (vp (some a18))) Kp6 (want1 rfl (yD 20 hg1)) (fun _ _ => (xi (Tryz.runUnderlying52 _) (Tryz.sizeOf30 _) hv30)) (qg 7 ?_)
    obtain ⟨v11, hv29, hnh, h⟩ := h
    refine sz (v := (vi v11)) Kp7 (want1 rfl (yD 20 hg1)) (fun w' hw' => by obtain ⟨H', hs', hb'⟩ := hw'; exact (xl (Tryz.isAgg30 _) (cell_hst hv29 hnh hs'))) ?_
    refine qw 8 data1.v Kp8 (want1 rfl (yD 20 hg1)) (qw 9 (vi i3) Kp9 (want1 rfl (yD 20 hg1)) (qw 10 (vi (q6.wrap (i3 - 1))) (pickA (S8 (pickS (pickS pickZ)))) (want1 rfl (yD 20 hg1)) (qg 11 ?_)))
    obtain ⟨a19, hv28, h⟩ := h
    refine sz (v := (vp (some a19))) (pickA (S8 (pickS (pickS (pickS pickZ))))) (want1 rfl (yD 20 hg1)) (fun _ _ => (xi (Tryz.runUnderlying52 _) (Tryz.sizeOf30 _) hv28)) (qg 12 ?_)
    obtain ⟨v12, hv27, hnh, h⟩ := h
    refine sz (v := (vi v12)) (pickA (S8 (S4 pickZ))) (want1 rfl (yD 20 hg1)) (fun w' hw' => by obtain ⟨H', hs', hb'⟩ := hw'; exact (xl (Tryz.isAgg30 _) (cell_hst hv27 hnh hs'))) ?_
    refine wpX_via (fun ρ wJ => ∃ HJ : NP, Hst w0 Hl4 wl4 HJ wJ ∧ HB HJ wJ [] ∧ Has ρ [(0, data1.v), (1, (vi a1)), (2, (vi b1)), (7, (vi i3)), (8, (vi j1)), (32, (vb (!(s_A v11 v12))))]) ?_ ?_
    ·refine lg 13 ?_
     refine sl_call (pickA (S8 (S4 (pickS pickZ)))) (want1 rfl (yD 20 hg1)) (by kernel_rfl) (xc Tryz.call163) ((p_A v11 v12 w18).mono ?_)
     rintro e w21 ⟨he, hE⟩
     have hs := hs.pure hE
     have hb := hb.pure hE
     refine ⟨(vb (s_A v11 v12)), he.trans (by kernel_rfl), .inr ⟨_, hs, hb⟩, ?_⟩
     refine qw 14 (vb (!(s_A v11 v12))) (pickA (S8 (S4 (pickS (pickS pickZ))))) (want1 rfl (yD 20 hg1)) (qz 15 (vb (!(s_A v11 v12))) (pickA (S8 (S4 (pickS (pickS (pickS pickZ)))))) (fun _ _ => (xT hg1)) (wn ?_))
     exact ⟨_, hs, hb, hm⟩
    ·rintro ρ w20 ⟨H3, hs, hb, hH⟩
     refine q_has hH ?_
     refine th_n ?_
     refine wpE_cond (t := (!(s_A v11 v12))) (by kernel_rfl) (fun hc10 => ?_) (fun hc10 => ?_)
     ·have h := h.1 hc10
      refine wpE_skip (th_n (wpE_block (rg (q0 (vi i3) (q0 (vi (q6.wrap (i3 + 1))) (q0 (vi (q6.wrap (i3 + 1))) (wpL_nil (bl_n ?_))))))))
      have h := h H3 w20 hs
      have hs := hs.here
      refine th_n ?_
      exact ⟨((q6.wrap (i3 + 1)), H3, w20), ⟨rfl, hm, hs, hb, h.1⟩, h.2⟩
     ·have h := h.2 hc10
      refine wpE_exit (th_x (th_x (bl_eq ?_)))
      have h := h H3 w20 hs
      have hs := hs.here
      refine th_n ?_
      exact ⟨i3, H3, hm, hs, hb, h⟩
   ·have h := h.2 hg1
    refine sx_not Kp4 (unwant rfl (yD 20 hg1) rfl) (qn 5 Kp5 (unwant rfl (yD 20 hg1) rfl) (qn 6 Kp6 (unwant rfl (yD 20 hg1) rfl) (qn 7 Kp7 (unwant rfl (yD 20 hg1) rfl) (qn 8 Kp8 (unwant rfl (yD 20 hg1) rfl) (qn 9 Kp9 (unwant rfl (yD 20 hg1) rfl) (qn 10 (pickA (S8 (pickS (pickS pickZ)))) (unwant rfl (yD 20 hg1) rfl) (qn 11 (pickA (S8 (pickS (pickS (pickS pickZ))))) (unwant rfl (yD 20 hg1) rfl) (qn 12 (pickA (S8 (S4 pickZ))) (unwant rfl (yD 20 hg1) rfl) ?_))))))))
    refine wpX_via (fun ρ wJ => ∃ HJ : NP, Hst w0 Hl4 wl4 HJ wJ ∧ HB HJ wJ [] ∧ Has ρ [(0, data1.v), (1, (vi a1)), (2, (vi b1)), (7, (vi i3)), (8, (vi j1)), (32, (vb false))]) ?_ ?_
    ·refine lg 13 (sx_not (pickA (S8 (S4 (pickS pickZ)))) (unwant rfl (yD 20 hg1) rfl) (qn 14 (pickA (S8 (S4 (pickS (pickS pickZ))))) (unwant rfl (yD 20 hg1) rfl) (qz 15 (vb false) (pickA (S8 (S4 (pickS (pickS (pickS pickZ)))))) (fun _ _ => (xF hg1)) (wn ?_))))
     exact ⟨_, hs, hb, hm⟩
    ·rintro ρ w22 ⟨H4, hs, hb, hH⟩
     refine q_has hH ?_
     refine th_n (wpE_condF (by kernel_rfl) (wpE_exit (th_x (th_x (bl_eq ?_)))))
     have h := h H4 w22 hs
     have hs := hs.here
     refine th_n ?_
     exact ⟨i3, H4, hm, hs, hb, h⟩
 ·have h := h.2 hc1
  refine wpE_exit (th_x (th_x (bl_eq (th_n (wpE_seq (rg (q0 (vb false) (wpL_nil (th_n (wpE_ret (rs1 Tryz.results162 (v := (vb false)) ?_)))))))))))
  exact ⟨false, rfl, h⟩
def m_K_j3 (data1 : Sl) (i2 j2 : Int) (H : NP) (w : World) (Kc1 : Int → Int → NP → WP) (K : Int → WP) : Prop :=
 Br (decide (i2 > j2))
  (K i2 w)
  (∃ C2 : WP, C2 w.drew ∧ ∀ w4, w4 = w.drew →
  ∃ a6 : Addr, At data1 j2 1 a6 ∧
  ∃ v3 : Int, w4.cell? a6 = some (vi v3) ∧
  ∃ a7 : Addr, At data1 i2 1 a7 ∧
  ∃ v4 : Int, w4.cell? a7 = some (vi v4) ∧
  ∃ a8 : Addr, At data1 i2 1 a8 ∧
  CanW w4 a8 ∧ ¬ H a8.block ∧ ∀ w5 : World, w5 = w4.setCell a8 (vi v3) → C2 w5 ∧
  ∃ a9 : Addr, At data1 j2 1 a9 ∧
  CanW w5 a9 ∧ ¬ H a9.block ∧ ∀ w6 : World, w6 = w5.setCell a9 (vi v4) →
  Kc1 (q6.wrap (i2 + 1)) (q6.wrap (j2 - 1)) H w6)
def m_K_l4 (data1 : Sl) (a1 i2 j3 : Int) (w0 : World) (Hl2 : NP) (wl2 : World) (Kc1 : Int → Int → NP → WP) (Kc4 : Int → NP → WP) (K : Int → WP) : Prop :=
 Br (decide (i2 ≤ j3))
  (∃ a10 : Addr, At data1 a1 1 a10 ∧
  ∃ v5 : Int, wl2.cell? a10 = some (vi v5) ∧ ¬ Hl2 a10.block ∧
  ∃ a11 : Addr, At data1 j3 1 a11 ∧
  ∃ v6 : Int, wl2.cell? a11 = some (vi v6) ∧ ¬ Hl2 a11.block ∧
  Br (s_A v5 v6)
   (∀ (H1 : NP) (w9 : World), Hst w0 Hl2 wl2 H1 w9 →
   Kc4 (q6.wrap (j3 - 1)) H1 w9)
   (∀ (H1 : NP) (w9 : World), Hst w0 Hl2 wl2 H1 w9 →
   m_K_j3 data1 i2 j3 H1 w9 Kc1 K))
  (∀ (H2 : NP) (w11 : World), Hst w0 Hl2 wl2 H2 w11 →
  m_K_j3 data1 i2 j3 H2 w11 Kc1 K)
def m_K_j2 (data1 : Sl) (a1 j1 i2 : Int) (w0 : World) (H : NP) (w : World) (Kc1 : Int → Int → NP → WP) (K : Int → WP) : Prop :=
 ∃ (I2 : Int → NP → WP) (mu2 : Int → World → Nat), I2 j1 H w ∧
  ∀ (j3 : Int) (Hl2 : NP) (wl2 : World), Hst w0 Hl2 wl2 Hl2 wl2 → I2 j3 Hl2 wl2 → m_K_l4 data1 a1 i2 j3 w0 Hl2 wl2 Kc1 (fun y'0 H' w' => I2 y'0 H' w' ∧ mu2 y'0 w' < mu2 j3 wl2) K
def m_K_l5 (data1 : Sl) (a1 j1 i3 : Int) (w0 : World) (Hl3 : NP) (wl3 : World) (Kc1 : Int → Int → NP → WP) (Kc5 : Int → NP → WP) (K : Int → WP) : Prop :=
 Br (decide (i3 ≤ j1))
  (∃ a12 : Addr, At data1 a1 1 a12 ∧
  ∃ v7 : Int, wl3.cell? a12 = some (vi v7) ∧ ¬ Hl3 a12.block ∧
  ∃ a13 : Addr, At data1 i3 1 a13 ∧
  ∃ v8 : Int, wl3.cell? a13 = some (vi v8) ∧ ¬ Hl3 a13.block ∧
  Br (!(s_A v7 v8))
   (∀ (H3 : NP) (w14 : World), Hst w0 Hl3 wl3 H3 w14 →
   Kc5 (q6.wrap (i3 + 1)) H3 w14)
   (∀ (H3 : NP) (w14 : World), Hst w0 Hl3 wl3 H3 w14 →
   m_K_j2 data1 a1 j1 i3 w0 H3 w14 Kc1 K))
  (∀ (H4 : NP) (w16 : World), Hst w0 Hl3 wl3 H4 w16 →
  m_K_j2 data1 a1 j1 i3 w0 H4 w16 Kc1 K)
def m_K_l1 (data1 : Sl) (a1 i1 j1 : Int) (w0 : World) (Hl1 : NP) (wl1 : World) (Kc1 : Int → Int → NP → WP) (K : Int → WP) : Prop :=
 ∃ (I3 : Int → NP → WP) (mu3 : Int → World → Nat), I3 i1 Hl1 wl1 ∧
  ∀ (i3 : Int) (Hl3 : NP) (wl3 : World), Hst w0 Hl3 wl3 Hl3 wl3 → I3 i3 Hl3 wl3 → m_K_l5 data1 a1 j1 i3 w0 Hl3 wl3 Kc1 (fun y'0 H' w' => I3 y'0 H' w' ∧ mu3 y'0 w' < mu3 i3 wl3) K
def m_K (data1 : Sl) (a1 b1 pivot1 : Int) (w0 : World) (K : Int → WP) : Prop :=
 ∃ C1 : WP, C1 w0.drew ∧ ∀ w1, w1 = w0.drew →
 ∃ a2 : Addr, At data1 pivot1 1 a2 ∧
 ∃ v1 : Int, w1.cell? a2 = some (vi v1) ∧
 ∃ a3 : Addr, At data1 a1 1 a3 ∧
 ∃ v2 : Int, w1.cell? a3 = some (vi v2) ∧
 ∃ a4 : Addr, At data1 a1 1 a4 ∧
 CanW w1 a4 ∧ ¬ None a4.block ∧ ∀ w2 : World, w2 = w1.setCell a4 (vi v1) → C1 w2 ∧
 ∃ a5 : Addr, At data1 pivot1 1 a5 ∧
 CanW w2 a5 ∧ ¬ None a5.block ∧ ∀ w3 : World, w3 = w2.setCell a5 (vi v2) →
 ∃ (I1 : Int → Int → NP → WP) (mu1 : Int → Int → World → Nat), I1 (q6.wrap (a1 + 1)) (q6.wrap (b1 - 1)) None w3 ∧
  ∀ (i1 j1 : Int) (Hl1 : NP) (wl1 : World), Hst w0 Hl1 wl1 Hl1 wl1 → I1 i1 j1 Hl1 wl1 → m_K_l1 data1 a1 i1 j1 w0 Hl1 wl1 (fun y'0 y'1 H' w' => I1 y'0 y'1 H' w' ∧ mu1 y'0 y'1 w' < mu1 i1 j1 wl1) K
theorem w_K (data1 : Sl) (a1 b1 pivot1 : Int) (w0 : World) (K : Int → WP) (h : m_K data1 a1 b1 pivot1 w0 K) :
  Calls Tryz.prog 164 #[data1.v, (vi a1), (vi b1), (vi pivot1)] w0 (fun e w' => ∃ r1 : Int, e = .returned (vi r1) ∧ K r1 w') := by
 unfold m_K at h
 refine cw (args := [data1.v, (vi a1), (vi b1), (vi pivot1)]) Tryz.func164 Tryz.ntmps164 ?_
 have hs := Hst.start w0
 have hb := HB.nil None w0
 refine wpE_seq (rg (q0 (vi 0) (wpL_nil (th_n (wpE_seq ?_)))))
 obtain ⟨C1, hC, h⟩ := h
 refine wpE_drawnC C1 [13, 15] [15] (by kernel_rfl) (by kernel_rfl) (by kernel_rfl) (by kernel_rfl) hC ?_
 intro w1 hw1
 have h := h w1 hw1
 have hs : Hst w0 None w0 None w1 := by rw [hw1]; exact hs.drew
 have hb : HB None w1 [] := by rw [hw1]; exact hb.drew
 have hs := hs.here
 refine qx 0 data1.v Kp0 (qx 1 (vi a1) Kp1 (qx 2 data1.v Kp2 (qx 3 (vi pivot1) Kp3 (qx 4 data1.v Kp4 (qx 5 (vi pivot1) Kp5 (qg 6 ?_))))))
 obtain ⟨a2, hv20, h⟩ := h
 refine sy (v := (vp (some a2))) Kp6 (fun _ _ => (xi (Tryz.runUnderlying52 _) (Tryz.sizeOf30 _) hv20)) (qg 7 ?_)
 obtain ⟨v1, hv19, h⟩ := h
 refine sye Kp7 (xl (Tryz.isAgg30 _) hv19) (qx 8 data1.v Kp8 (qx 9 (vi a1) Kp9 (qg 10 ?_)))
 obtain ⟨a3, hv18, h⟩ := h
 refine sy (v := (vp (some a3))) (pickA (S8 (pickS (pickS pickZ)))) (fun _ _ => (xi (Tryz.runUnderlying52 _) (Tryz.sizeOf30 _) hv18)) (qg 11 ?_)
 obtain ⟨v2, hv17, h⟩ := h
 refine sye (pickA (S8 (pickS (pickS (pickS pickZ))))) (xl (Tryz.isAgg30 _) hv17) (qg 12 ?_)
 obtain ⟨a4, hv16, h⟩ := h
 refine sy (v := (vp (some a4))) (pickA (S8 (S4 pickZ))) (fun _ _ => (xi (Tryz.runUnderlying52 _) (Tryz.sizeOf30 _) hv16)) (lg 13 ?_)
 obtain ⟨hp1, hnh, h⟩ := h
 refine sl_t (pickA (S8 (S4 (pickS pickZ)))) (xs (v := (vi v1)) (Tryz.sizeOf30 _) hp1) ?_
 intro w2 hn1
 have h := h w2 hn1
 refine ⟨.inr h.1, ?_⟩
 have h := h.2
 have hk := Kept.sc hnh hn1
 obtain ⟨hs, hb⟩ := hk.hh hs hb
 refine qg 14 ?_
 obtain ⟨a5, hv15, h⟩ := h
 refine sy (v := (vp (some a5))) (pickA (S8 (S4 (pickS (pickS pickZ))))) (fun _ _ => (xi (Tryz.runUnderlying52 _) (Tryz.sizeOf30 _) hv15)) (lg 15 ?_)
 obtain ⟨hp2, hnh, h⟩ := h
 refine sl_t (pickA (S8 (S4 (pickS (pickS (pickS pickZ)))))) (xs (v := (vi v2)) (Tryz.sizeOf30 _) hp2) ?_
 intro w3 hn2
 have h := h w3 hn2
 refine ⟨.inl (by kernel_rfl), ?_⟩
 have hk := Kept.sc hnh hn2
 obtain ⟨hs, hb⟩ := hk.hh hs hb
 refine wn (th_n (wpE_seq (rg (q0 (vi a1) (q0 (vi (q6.wrap (a1 + 1))) (q0 (vi b1) (q0 (vi (q6.wrap (b1 - 1))) (q0 (vi (q6.wrap (a1 + 1))) (q0 (vi (q6.wrap (b1 - 1))) (wpL_nil (th_n ?_)))))))))))
 refine wpE_seq (wpE_block ?_)
 obtain ⟨I1, mu1, h0, hr⟩ := h
 refine wpE_loop (σ := Int × Int × NP × World) (fun s ρ w => w = s.2.2.2 ∧ Has ρ [(0, data1.v), (1, (vi a1)), (9, (vi s.1)), (10, (vi s.2.1))] ∧ Hst w0 s.2.2.1 w s.2.2.1 w ∧ HB s.2.2.1 w [] ∧ I1 s.1 s.2.1 s.2.2.1 s.2.2.2) (fun s => mu1 s.1 s.2.1 s.2.2.2) ((q6.wrap (a1 + 1)), (q6.wrap (b1 - 1)), None, w3) ⟨rfl, hm, hs, hb, h0⟩ ?_
 rintro ⟨i1, j1, Hl1, wl1⟩ ρ w ⟨hw, hH, hs, hb, hI⟩
 obtain rfl : wl1 = w := (show w = wl1 from hw).symm
 have hH : Has ρ [(0, data1.v), (1, (vi a1)), (9, (vi i1)), (10, (vi j1))] := hH
 have hs : Hst w0 Hl1 wl1 Hl1 wl1 := hs
 have hb : HB Hl1 wl1 [] := hb
 have h := hr i1 j1 Hl1 wl1 hs hI
 unfold m_K_l1 at h
 refine wpE_has hH ?_
 refine wpE_block (wpE_seq ?_)
 refine wpE_joinT (fun ρ w => ∃ i2 : Int, ∃ H : NP, Has ρ [(0, data1.v), (1, (vi a1)), (9, (vi i2)), (10, (vi j1))] ∧ Hst w0 H w H w ∧ HB H w [] ∧ m_K_j2 data1 a1 j1 i2 w0 H w (fun y'0 y'1 H' w' => I1 y'0 y'1 H' w' ∧ mu1 y'0 y'1 w' < mu1 i1 j1 wl1) K) ?_ ?_
 ·rintro ρ w ⟨i2, H, hH, hs, hb, h⟩
  unfold m_K_j2 at h
  refine wpE_has hH ?_
  refine wpE_seq ?_
  refine wpE_joinT (fun ρ w => ∃ j2 : Int, ∃ H : NP, Has ρ [(0, data1.v), (1, (vi a1)), (9, (vi i2)), (10, (vi j2))] ∧ Hst w0 H w H w ∧ HB H w [] ∧ m_K_j3 data1 i2 j2 H w (fun y'0 y'1 H' w' => I1 y'0 y'1 H' w' ∧ mu1 y'0 y'1 w' < mu1 i1 j1 wl1) K) ?_ ?_
  ·rintro ρ w ⟨j2, H, hH, hs, hb, h⟩
   unfold m_K_j3 at h
   refine wpE_has hH ?_
   refine wpE_seq (wpE_seq (rg (q0 (vi i2) (q0 (vi j2) (q0 (vb (decide (i2 > j2))) (wpL_nil (th_n ?_)))))))
   refine wpE_cond (t := (decide (i2 > j2))) (by kernel_rfl) (fun hc1 => ?_) (fun hc1 => ?_)
   ·have h := h.1 hc1
    refine wpE_exit (th_x (bl_ne rfl (th_x (bl_eq (th_n (wpE_seq (rg (q0 (vi i2) (q0 (vi i2) (wpL_nil (th_n ?_)))))))))))
    refine wpE_ret (rs1 Tryz.results164 (v := (vi i2)) ?_)
    exact ⟨i2, rfl, h⟩
   ·have h := h.2 hc1
    refine wpE_skip (th_n (wpE_seq ?_))
    obtain ⟨C2, hC, h⟩ := h
    refine wpE_drawnC C2 [13, 15] [15] (by kernel_rfl) (by kernel_rfl) (by kernel_rfl) (by kernel_rfl) hC ?_
    intro w4 hw4
    have h := h w4 hw4
    have hs : Hst w0 H w H w4 := by rw [hw4]; exact hs.drew
    have hb : HB H w4 [] := by rw [hw4]; exact hb.drew
    have hs := hs.here
    refine qx 0 data1.v Kp0 (qx 1 (vi i2) Kp1 (qx 2 data1.v Kp2 (qx 3 (vi j2) Kp3 (qx 4 data1.v Kp4 (qx 5 (vi j2) Kp5 (qg 6 ?_))))))
    obtain ⟨a6, hv6, h⟩ := h
    refine sy (v := (vp (some a6))) Kp6 (fun _ _ => (xi (Tryz.runUnderlying52 _) (Tryz.sizeOf30 _) hv6)) (qg 7 ?_)
    obtain ⟨v3, hv5, h⟩ := h
    refine sye Kp7 (xl (Tryz.isAgg30 _) hv5) (qx 8 data1.v Kp8 (qx 9 (vi i2) Kp9 (qg 10 ?_)))
    obtain ⟨a7, hv4, h⟩ := h
    refine sy (v := (vp (some a7))) (pickA (S8 (pickS (pickS pickZ)))) (fun _ _ => (xi (Tryz.runUnderlying52 _) (Tryz.sizeOf30 _) hv4)) (qg 11 ?_)
    obtain ⟨v4, hv3, h⟩ := h
    refine sye (pickA (S8 (pickS (pickS (pickS pickZ))))) (xl (Tryz.isAgg30 _) hv3) (qg 12 ?_)
    obtain ⟨a8, hv2, h⟩ := h
    refine sy (v := (vp (some a8))) (pickA (S8 (S4 pickZ))) (fun _ _ => (xi (Tryz.runUnderlying52 _) (Tryz.sizeOf30 _) hv2)) (lg 13 ?_)
    obtain ⟨hp3, hnh, h⟩ := h
    refine sl_t (pickA (S8 (S4 (pickS pickZ)))) (xs (v := (vi v3)) (Tryz.sizeOf30 _) hp3) ?_
    intro w5 hn3
    have h := h w5 hn3
    refine ⟨.inr h.1, ?_⟩
    have h := h.2
    have hk := Kept.sc hnh hn3
    obtain ⟨hs, hb⟩ := hk.hh hs hb
    refine qg 14 ?_
    obtain ⟨a9, hv1, h⟩ := h
    refine sy (v := (vp (some a9))) (pickA (S8 (S4 (pickS (pickS pickZ))))) (fun _ _ => (xi (Tryz.runUnderlying52 _) (Tryz.sizeOf30 _) hv1)) (lg 15 ?_)
    obtain ⟨hp4, hnh, h⟩ := h
    refine sl_t (pickA (S8 (S4 (pickS (pickS (pickS pickZ)))))) (xs (v := (vi v4)) (Tryz.sizeOf30 _) hp4) ?_
    intro w6 hn4
    have h := h w6 hn4
    refine ⟨.inl (by kernel_rfl), ?_⟩
    have hk := Kept.sc hnh hn4
    obtain ⟨hs, hb⟩ := hk.hh hs hb
    refine wn (th_n (wpE_seq (rg (q0 (vi i2) (q0 (vi (q6.wrap (i2 + 1))) (q0 (vi (q6.wrap (i2 + 1))) (wpL_nil (th_n (rg (q0 (vi j2) (q0 (vi (q6.wrap (j2 - 1))) ?_)))))))))))
    refine q0 (vi (q6.wrap (j2 - 1))) (wpL_nil (bl_n (th_n ?_)))
    exact ⟨((q6.wrap (i2 + 1)), (q6.wrap (j2 - 1)), H, w6), ⟨rfl, hm, hs, hb, h.1⟩, h.2⟩
  ·refine wpE_block ?_
   obtain ⟨I2, mu2, h0, hr⟩ := h
   refine wpE_loop (σ := Int × NP × World) (fun s ρ w => w = s.2.2 ∧ Has ρ [(0, data1.v), (1, (vi a1)), (9, (vi i2)), (10, (vi s.1))] ∧ Hst w0 s.2.1 w s.2.1 w ∧ HB s.2.1 w [] ∧ I2 s.1 s.2.1 s.2.2) (fun s => mu2 s.1 s.2.2) (j1, H, w) ⟨rfl, hm, hs, hb, h0⟩ ?_
   rintro ⟨j3, Hl2, wl2⟩ ρ w ⟨hw, hH, hs, hb, hI⟩
   obtain rfl : wl2 = w := (show w = wl2 from hw).symm
   have hH : Has ρ [(0, data1.v), (1, (vi a1)), (9, (vi i2)), (10, (vi j3))] := hH
   have hs : Hst w0 Hl2 wl2 Hl2 wl2 := hs
   have hb : HB Hl2 wl2 [] := hb
   have h := hr j3 Hl2 wl2 hs hI
   unfold m_K_l4 at h
   refine wpE_has hH ?_
   refine wpE_seq (wpE_seq (wpE_drawnC (fun x => ∃ H', Hst w0 Hl2 wl2 H' x ∧ HB H' x []) [12] [] (by kernel_rfl) (by kernel_rfl) (by kernel_rfl) (by kernel_rfl) ⟨_, hs.drew, hb.drew⟩ ?_))
   intro w7 hw7
   have hs : Hst w0 Hl2 wl2 Hl2 w7 := by rw [hw7]; exact hs.drew
   have hb : HB Hl2 w7 [] := by rw [hw7]; exact hb.drew
   refine qx 0 (vi i2) Kp0 (qx 1 (vi j3) Kp1 (qx 2 (vb (decide (i2 ≤ j3))) Kp2 (qx 3 (vb (decide (i2 ≤ j3))) Kp3 (qg 4 ?_))))
   rcases Bool.eq_false_or_eq_true (decide (i2 ≤ j3)) with hg1 | hg1
   ·have h := h.1 hg1
    refine sz (v := data1.v) Kp4 (want1 rfl (yD 49 hg1)) (fun _ _ => (by kernel_rfl)) (qw 5 (vi a1) Kp5 (want1 rfl (yD 49 hg1)) (qg 6 ?_))
    obtain ⟨a10, hv10, h⟩ := h
    refine sz (v := (vp (some a10))) Kp6 (want1 rfl (yD 49 hg1)) (fun _ _ => (xi (Tryz.runUnderlying52 _) (Tryz.sizeOf30 _) hv10)) (qg 7 ?_)
    obtain ⟨v5, hv9, hnh, h⟩ := h
    refine sz (v := (vi v5)) Kp7 (want1 rfl (yD 49 hg1)) (fun w' hw' => by obtain ⟨H', hs', hb'⟩ := hw'; exact (xl (Tryz.isAgg30 _) (cell_hst hv9 hnh hs'))) ?_
    refine qw 8 data1.v Kp8 (want1 rfl (yD 49 hg1)) (qw 9 (vi j3) Kp9 (want1 rfl (yD 49 hg1)) (qg 10 ?_))
    obtain ⟨a11, hv8, h⟩ := h
    refine sz (v := (vp (some a11))) (pickA (S8 (pickS (pickS pickZ)))) (want1 rfl (yD 49 hg1)) (fun _ _ => (xi (Tryz.runUnderlying52 _) (Tryz.sizeOf30 _) hv8)) (qg 11 ?_)
    obtain ⟨v6, hv7, hnh, h⟩ := h
    refine sz (v := (vi v6)) (pickA (S8 (pickS (pickS (pickS pickZ))))) (want1 rfl (yD 49 hg1)) (fun w' hw' => by obtain ⟨H', hs', hb'⟩ := hw'; exact (xl (Tryz.isAgg30 _) (cell_hst hv7 hnh hs'))) ?_
    refine wpX_via (fun ρ wJ => ∃ HJ : NP, Hst w0 Hl2 wl2 HJ wJ ∧ HB HJ wJ [] ∧ Has ρ [(0, data1.v), (1, (vi a1)), (9, (vi i2)), (10, (vi j3)), (59, (vb (s_A v5 v6)))]) ?_ ?_
    ·refine lg 12 ?_
     refine sl_call (pickA (S8 (S4 pickZ))) (want1 rfl (yD 49 hg1)) (by kernel_rfl) (xc Tryz.call163) ((p_A v5 v6 w7).mono ?_)
     rintro e w10 ⟨he, hE⟩
     have hs := hs.pure hE
     have hb := hb.pure hE
     refine ⟨(vb (s_A v5 v6)), he.trans (by kernel_rfl), .inr ⟨_, hs, hb⟩, ?_⟩
     refine qz 13 (vb (s_A v5 v6)) (pickA (S8 (S4 (pickS pickZ)))) (fun _ _ => (xT hg1)) (wn ?_)
     exact ⟨_, hs, hb, hm⟩
    ·rintro ρ w9 ⟨H1, hs, hb, hH⟩
     refine q_has hH ?_
     refine th_n ?_
     refine wpE_cond (t := (s_A v5 v6)) (by kernel_rfl) (fun hc2 => ?_) (fun hc2 => ?_)
     ·have h := h.1 hc2
      refine wpE_skip (th_n (wpE_block (rg (q0 (vi j3) (q0 (vi (q6.wrap (j3 - 1))) (q0 (vi (q6.wrap (j3 - 1))) (wpL_nil (bl_n ?_))))))))
      have h := h H1 w9 hs
      have hs := hs.here
      refine th_n ?_
      exact ⟨((q6.wrap (j3 - 1)), H1, w9), ⟨rfl, hm, hs, hb, h.1⟩, h.2⟩
     ·have h := h.2 hc2
      refine wpE_exit (th_x (th_x (bl_eq ?_)))
      have h := h H1 w9 hs
      have hs := hs.here
      refine th_n ?_
      exact ⟨j3, H1, hm, hs, hb, h⟩
   ·have h := h.2 hg1
    refine sx_not Kp4 (unwant rfl (yD 49 hg1) rfl) (qn 5 Kp5 (unwant rfl (yD 49 hg1) rfl) (qn 6 Kp6 (unwant rfl (yD 49 hg1) rfl) (qn 7 Kp7 (unwant rfl (yD 49 hg1) rfl) (qn 8 Kp8 (unwant rfl (yD 49 hg1) rfl) (qn 9 Kp9 (unwant rfl (yD 49 hg1) rfl) (qn 10 (pickA (S8 (pickS (pickS pickZ)))) (unwant rfl (yD 49 hg1) rfl) (qn 11 (pickA (S8 (pickS (pickS (pickS pickZ))))) (unwant rfl (yD 49 hg1) rfl) ?_)))))))
    refine wpX_via (fun ρ wJ => ∃ HJ : NP, Hst w0 Hl2 wl2 HJ wJ ∧ HB HJ wJ [] ∧ Has ρ [(0, data1.v), (1, (vi a1)), (9, (vi i2)), (10, (vi j3)), (59, (vb false))]) ?_ ?_
    ·refine lg 12 (sx_not (pickA (S8 (S4 pickZ))) (unwant rfl (yD 49 hg1) rfl) (qz 13 (vb false) (pickA (S8 (S4 (pickS pickZ)))) (fun _ _ => (xF hg1)) (wn ?_)))
     exact ⟨_, hs, hb, hm⟩
    ·rintro ρ w11 ⟨H2, hs, hb, hH⟩
     refine q_has hH ?_
     refine th_n (wpE_condF (by kernel_rfl) (wpE_exit (th_x (th_x (bl_eq ?_)))))
     have h := h H2 w11 hs
     have hs := hs.here
     refine th_n ?_
     exact ⟨j3, H2, hm, hs, hb, h⟩
 ·refine wpE_block ?_
  obtain ⟨I3, mu3, h0, hr⟩ := h
  refine wpE_loop (σ := Int × NP × World) (fun s ρ w => w = s.2.2 ∧ Has ρ [(0, data1.v), (1, (vi a1)), (9, (vi s.1)), (10, (vi j1))] ∧ Hst w0 s.2.1 w s.2.1 w ∧ HB s.2.1 w [] ∧ I3 s.1 s.2.1 s.2.2) (fun s => mu3 s.1 s.2.2) (i1, Hl1, wl1) ⟨rfl, hm, hs, hb, h0⟩ ?_
  rintro ⟨i3, Hl3, wl3⟩ ρ w ⟨hw, hH, hs, hb, hI⟩
  obtain rfl : wl3 = w := (show w = wl3 from hw).symm
  have hH : Has ρ [(0, data1.v), (1, (vi a1)), (9, (vi i3)), (10, (vi j1))] := hH
  have hs : Hst w0 Hl3 wl3 Hl3 wl3 := hs
  have hb : HB Hl3 wl3 [] := hb
  have h := hr i3 Hl3 wl3 hs hI
  unfold m_K_l5 at h
  refine wpE_has hH ?_
  refine wpE_seq (wpE_seq (wpE_drawnC (fun x => ∃ H', Hst w0 Hl3 wl3 H' x ∧ HB H' x []) [12] [] (by kernel_rfl) (by kernel_rfl) (by kernel_rfl) (by kernel_rfl) ⟨_, hs.drew, hb.drew⟩ ?_))
  intro w12 hw12
  have hs : Hst w0 Hl3 wl3 Hl3 w12 := by rw [hw12]; exact hs.drew
  have hb : HB Hl3 w12 [] := by rw [hw12]; exact hb.drew
  refine qx 0 (vi i3) Kp0 (qx 1 (vi j1) Kp1 (qx 2 (vb (decide (i3 ≤ j1))) Kp2 (qx 3 (vb (decide (i3 ≤ j1))) Kp3 (qg 4 ?_))))
  rcases Bool.eq_false_or_eq_true (decide (i3 ≤ j1)) with hg2 | hg2
  ·have h := h.1 hg2
   refine sz (v := data1.v) Kp4 (want1 rfl (yD 32 hg2)) (fun _ _ => (by kernel_rfl)) (qw 5 (vi a1) Kp5 (want1 rfl (yD 32 hg2)) (qg 6 ?_))
   obtain ⟨a12, hv14, h⟩ := h
   refine sz (v := (vp (some a12))) Kp6 (want1 rfl (yD 32 hg2)) (fun _ _ => (xi (Tryz.runUnderlying52 _) (Tryz.sizeOf30 _) hv14)) (qg 7 ?_)
   obtain ⟨v7, hv13, hnh, h⟩ := h
   refine sz (v := (vi v7)) Kp7 (want1 rfl (yD 32 hg2)) (fun w' hw' => by obtain ⟨H', hs', hb'⟩ := hw'; exact (xl (Tryz.isAgg30 _) (cell_hst hv13 hnh hs'))) ?_
   refine qw 8 data1.v Kp8 (want1 rfl (yD 32 hg2)) (qw 9 (vi i3) Kp9 (want1 rfl (yD 32 hg2)) (qg 10 ?_))
   obtain ⟨a13, hv12, h⟩ := h
   refine sz (v := (vp (some a13))) (pickA (S8 (pickS (pickS pickZ)))) (want1 rfl (yD 32 hg2)) (fun _ _ => (xi (Tryz.runUnderlying52 _) (Tryz.sizeOf30 _) hv12)) (qg 11 ?_)
   obtain ⟨v8, hv11, hnh, h⟩ := h
   refine sz (v := (vi v8)) (pickA (S8 (pickS (pickS (pickS pickZ))))) (want1 rfl (yD 32 hg2)) (fun w' hw' => by obtain ⟨H', hs', hb'⟩ := hw'; exact (xl (Tryz.isAgg30 _) (cell_hst hv11 hnh hs'))) ?_
   refine wpX_via (fun ρ wJ => ∃ HJ : NP, Hst w0 Hl3 wl3 HJ wJ ∧ HB HJ wJ [] ∧ Has ρ [(0, data1.v), (1, (vi a1)), (9, (vi i3)), (10, (vi j1)), (43, (vb (!(s_A v7 v8))))]) ?_ ?_
   ·refine lg 12 ?_
    refine sl_call (pickA (S8 (S4 pickZ))) (want1 rfl (yD 32 hg2)) (by kernel_rfl) (xc Tryz.call163) ((p_A v7 v8 w12).mono ?_)
    rintro e w15 ⟨he, hE⟩
    have hs := hs.pure hE
    have hb := hb.pure hE
    refine ⟨(vb (s_A v7 v8)), he.trans (by kernel_rfl), .inr ⟨_, hs, hb⟩, ?_⟩
    refine qw 13 (vb (!(s_A v7 v8))) (pickA (S8 (S4 (pickS pickZ)))) (want1 rfl (yD 32 hg2)) (qz 14 (vb (!(s_A v7 v8))) (pickA (S8 (S4 (pickS (pickS pickZ))))) (fun _ _ => (xT hg2)) (wn ?_))
    exact ⟨_, hs, hb, hm⟩
   ·rintro ρ w14 ⟨H3, hs, hb, hH⟩
    refine q_has hH ?_
    refine th_n ?_
    refine wpE_cond (t := (!(s_A v7 v8))) (by kernel_rfl) (fun hc3 => ?_) (fun hc3 => ?_)
    ·have h := h.1 hc3
     refine wpE_skip (th_n (wpE_block (rg (q0 (vi i3) (q0 (vi (q6.wrap (i3 + 1))) (q0 (vi (q6.wrap (i3 + 1))) (wpL_nil (bl_n ?_))))))))
     have h := h H3 w14 hs
     have hs := hs.here
     refine th_n ?_
     exact ⟨((q6.wrap (i3 + 1)), H3, w14), ⟨rfl, hm, hs, hb, h.1⟩, h.2⟩
    ·have h := h.2 hc3
     refine wpE_exit (th_x (th_x (bl_eq ?_)))
     have h := h H3 w14 hs
     have hs := hs.here
     refine th_n ?_
     exact ⟨i3, H3, hm, hs, hb, h⟩
  ·have h := h.2 hg2
   refine sx_not Kp4 (unwant rfl (yD 32 hg2) rfl) (qn 5 Kp5 (unwant rfl (yD 32 hg2) rfl) (qn 6 Kp6 (unwant rfl (yD 32 hg2) rfl) (qn 7 Kp7 (unwant rfl (yD 32 hg2) rfl) (qn 8 Kp8 (unwant rfl (yD 32 hg2) rfl) (qn 9 Kp9 (unwant rfl (yD 32 hg2) rfl) (qn 10 (pickA (S8 (pickS (pickS pickZ)))) (unwant rfl (yD 32 hg2) rfl) (qn 11 (pickA (S8 (pickS (pickS (pickS pickZ))))) (unwant rfl (yD 32 hg2) rfl) ?_)))))))
   refine wpX_via (fun ρ wJ => ∃ HJ : NP, Hst w0 Hl3 wl3 HJ wJ ∧ HB HJ wJ [] ∧ Has ρ [(0, data1.v), (1, (vi a1)), (9, (vi i3)), (10, (vi j1)), (43, (vb false))]) ?_ ?_
   ·refine lg 12 (sx_not (pickA (S8 (S4 pickZ))) (unwant rfl (yD 32 hg2) rfl) (qn 13 (pickA (S8 (S4 (pickS pickZ)))) (unwant rfl (yD 32 hg2) rfl) (qz 14 (vb false) (pickA (S8 (S4 (pickS (pickS pickZ))))) (fun _ _ => (xF hg2)) (wn ?_))))
    exact ⟨_, hs, hb, hm⟩
   ·rintro ρ w16 ⟨H4, hs, hb, hH⟩
    refine q_has hH ?_
    refine th_n (wpE_condF (by kernel_rfl) (wpE_exit (th_x (th_x (bl_eq ?_)))))
    have h := h H4 w16 hs
    have hs := hs.here
    refine th_n ?_
    exact ⟨i3, H4, hm, hs, hb, h⟩
def m_D_j5 (data1 : Sl) (a1 i3 j3 : Int) (H : NP) (w : World) (Kc3 : Int → Int → NP → WP) (K : Int → Bool → WP) : Prop :=
 Br (decide (i3 > j3))
  (∃ C4 : WP, C4 w.drew ∧ ∀ w10, w10 = w.drew →
  ∃ a14 : Addr, At data1 a1 1 a14 ∧
  ∃ v7 : Int, w10.cell? a14 = some (vi v7) ∧
  ∃ a15 : Addr, At data1 j3 1 a15 ∧
  ∃ v8 : Int, w10.cell? a15 = some (vi v8) ∧
  ∃ a16 : Addr, At data1 j3 1 a16 ∧
  CanW w10 a16 ∧ ¬ H a16.block ∧ ∀ w11 : World, w11 = w10.setCell a16 (vi v7) → C4 w11 ∧
  ∃ a17 : Addr, At data1 a1 1 a17 ∧
  CanW w11 a17 ∧ ¬ H a17.block ∧ ∀ w12 : World, w12 = w11.setCell a17 (vi v8) →
  K j3 false w12)
  (∃ C5 : WP, C5 w.drew ∧ ∀ w13, w13 = w.drew →
  ∃ a18 : Addr, At data1 j3 1 a18 ∧
  ∃ v9 : Int, w13.cell? a18 = some (vi v9) ∧
  ∃ a19 : Addr, At data1 i3 1 a19 ∧
  ∃ v10 : Int, w13.cell? a19 = some (vi v10) ∧
  ∃ a20 : Addr, At data1 i3 1 a20 ∧
  CanW w13 a20 ∧ ¬ H a20.block ∧ ∀ w14 : World, w14 = w13.setCell a20 (vi v9) → C5 w14 ∧
  ∃ a21 : Addr, At data1 j3 1 a21 ∧
  CanW w14 a21 ∧ ¬ H a21.block ∧ ∀ w15 : World, w15 = w14.setCell a21 (vi v10) →
  Kc3 (q6.wrap (i3 + 1)) (q6.wrap (j3 - 1)) H w15)
def m_D_l6 (data1 : Sl) (a1 i3 j4 : Int) (w0 : World) (Hl2 : NP) (wl2 : World) (Kc3 : Int → Int → NP → WP) (Kc6 : Int → NP → WP) (K : Int → Bool → WP) : Prop :=
 Br (decide (i3 ≤ j4))
  (∃ a22 : Addr, At data1 j4 1 a22 ∧
  ∃ v11 : Int, wl2.cell? a22 = some (vi v11) ∧ ¬ Hl2 a22.block ∧
  ∃ a23 : Addr, At data1 a1 1 a23 ∧
  ∃ v12 : Int, wl2.cell? a23 = some (vi v12) ∧ ¬ Hl2 a23.block ∧
  Br (!(s_A v11 v12))
   (∀ (H1 : NP) (w18 : World), Hst w0 Hl2 wl2 H1 w18 →
   Kc6 (q6.wrap (j4 - 1)) H1 w18)
   (∀ (H1 : NP) (w18 : World), Hst w0 Hl2 wl2 H1 w18 →
   m_D_j5 data1 a1 i3 j4 H1 w18 Kc3 K))
  (∀ (H2 : NP) (w20 : World), Hst w0 Hl2 wl2 H2 w20 →
  m_D_j5 data1 a1 i3 j4 H2 w20 Kc3 K)
def m_D_j4 (data1 : Sl) (a1 j2 i3 : Int) (w0 : World) (H : NP) (w : World) (Kc3 : Int → Int → NP → WP) (K : Int → Bool → WP) : Prop :=
 ∃ (I2 : Int → NP → WP) (mu2 : Int → World → Nat), I2 j2 H w ∧
  ∀ (j4 : Int) (Hl2 : NP) (wl2 : World), Hst w0 Hl2 wl2 Hl2 wl2 → I2 j4 Hl2 wl2 → m_D_l6 data1 a1 i3 j4 w0 Hl2 wl2 Kc3 (fun y'0 H' w' => I2 y'0 H' w' ∧ mu2 y'0 w' < mu2 j4 wl2) K
def m_D_l7 (data1 : Sl) (a1 j2 i4 : Int) (w0 : World) (Hl3 : NP) (wl3 : World) (Kc3 : Int → Int → NP → WP) (Kc7 : Int → NP → WP) (K : Int → Bool → WP) : Prop :=
 Br (decide (i4 ≤ j2))
  (∃ a24 : Addr, At data1 i4 1 a24 ∧
  ∃ v13 : Int, wl3.cell? a24 = some (vi v13) ∧ ¬ Hl3 a24.block ∧
  ∃ a25 : Addr, At data1 a1 1 a25 ∧
  ∃ v14 : Int, wl3.cell? a25 = some (vi v14) ∧ ¬ Hl3 a25.block ∧
  Br (s_A v13 v14)
   (∀ (H3 : NP) (w23 : World), Hst w0 Hl3 wl3 H3 w23 →
   Kc7 (q6.wrap (i4 + 1)) H3 w23)
   (∀ (H3 : NP) (w23 : World), Hst w0 Hl3 wl3 H3 w23 →
   m_D_j4 data1 a1 j2 i4 w0 H3 w23 Kc3 K))
  (∀ (H4 : NP) (w25 : World), Hst w0 Hl3 wl3 H4 w25 →
  m_D_j4 data1 a1 j2 i4 w0 H4 w25 Kc3 K)
def m_D_l3 (data1 : Sl) (a1 i2 j2 : Int) (w0 : World) (Hl1 : NP) (wl1 : World) (Kc3 : Int → Int → NP → WP) (K : Int → Bool → WP) : Prop :=
 ∃ (I3 : Int → NP → WP) (mu3 : Int → World → Nat), I3 i2 Hl1 wl1 ∧
  ∀ (i4 : Int) (Hl3 : NP) (wl3 : World), Hst w0 Hl3 wl3 Hl3 wl3 → I3 i4 Hl3 wl3 → m_D_l7 data1 a1 j2 i4 w0 Hl3 wl3 Kc3 (fun y'0 H' w' => I3 y'0 H' w' ∧ mu3 y'0 w' < mu3 i4 wl3) K
def m_D_j2 (data1 : Sl) (a1 i1 j1 : Int) (w0 : World) (H : NP) (w : World) (K : Int → Bool → WP) : Prop :=
 Br (decide (i1 > j1))
  (∃ C2 : WP, C2 w.drew ∧ ∀ w4, w4 = w.drew →
  ∃ a6 : Addr, At data1 a1 1 a6 ∧
  ∃ v3 : Int, w4.cell? a6 = some (vi v3) ∧
  ∃ a7 : Addr, At data1 j1 1 a7 ∧
  ∃ v4 : Int, w4.cell? a7 = some (vi v4) ∧
  ∃ a8 : Addr, At data1 j1 1 a8 ∧
  CanW w4 a8 ∧ ¬ H a8.block ∧ ∀ w5 : World, w5 = w4.setCell a8 (vi v3) → C2 w5 ∧
  ∃ a9 : Addr, At data1 a1 1 a9 ∧
  CanW w5 a9 ∧ ¬ H a9.block ∧ ∀ w6 : World, w6 = w5.setCell a9 (vi v4) →
  K j1 true w6)
  (∃ C3 : WP, C3 w.drew ∧ ∀ w7, w7 = w.drew →
  ∃ a10 : Addr, At data1 j1 1 a10 ∧
  ∃ v5 : Int, w7.cell? a10 = some (vi v5) ∧
  ∃ a11 : Addr, At data1 i1 1 a11 ∧
  ∃ v6 : Int, w7.cell? a11 = some (vi v6) ∧
  ∃ a12 : Addr, At data1 i1 1 a12 ∧
  CanW w7 a12 ∧ ¬ H a12.block ∧ ∀ w8 : World, w8 = w7.setCell a12 (vi v5) → C3 w8 ∧
  ∃ a13 : Addr, At data1 j1 1 a13 ∧
  CanW w8 a13 ∧ ¬ H a13.block ∧ ∀ w9 : World, w9 = w8.setCell a13 (vi v6) →
  ∃ (I1 : Int → Int → NP → WP) (mu1 : Int → Int → World → Nat), I1 (q6.wrap (i1 + 1)) (q6.wrap (j1 - 1)) H w9 ∧
   ∀ (i2 j2 : Int) (Hl1 : NP) (wl1 : World), Hst w0 Hl1 wl1 Hl1 wl1 → I1 i2 j2 Hl1 wl1 → m_D_l3 data1 a1 i2 j2 w0 Hl1 wl1 (fun y'0 y'1 H' w' => I1 y'0 y'1 H' w' ∧ mu1 y'0 y'1 w' < mu1 i2 j2 wl1) K)
def m_D_l8 (data1 : Sl) (a1 i1 j5 : Int) (w0 : World) (Hl4 : NP) (wl4 : World) (Kc8 : Int → NP → WP) (K : Int → Bool → WP) : Prop :=
 Br (decide (i1 ≤ j5))
  (∃ a26 : Addr, At data1 j5 1 a26 ∧
  ∃ v15 : Int, wl4.cell? a26 = some (vi v15) ∧ ¬ Hl4 a26.block ∧
  ∃ a27 : Addr, At data1 a1 1 a27 ∧
  ∃ v16 : Int, wl4.cell? a27 = some (vi v16) ∧ ¬ Hl4 a27.block ∧
  Br (!(s_A v15 v16))
   (∀ (H5 : NP) (w28 : World), Hst w0 Hl4 wl4 H5 w28 →
   Kc8 (q6.wrap (j5 - 1)) H5 w28)
   (∀ (H5 : NP) (w28 : World), Hst w0 Hl4 wl4 H5 w28 →
   m_D_j2 data1 a1 i1 j5 w0 H5 w28 K))
  (∀ (H6 : NP) (w30 : World), Hst w0 Hl4 wl4 H6 w30 →
  m_D_j2 data1 a1 i1 j5 w0 H6 w30 K)
def m_D_j1 (data1 : Sl) (a1 b1 i1 : Int) (w0 : World) (H : NP) (w : World) (K : Int → Bool → WP) : Prop :=
 ∃ (I4 : Int → NP → WP) (mu4 : Int → World → Nat), I4 (q6.wrap (b1 - 1)) H w ∧
  ∀ (j5 : Int) (Hl4 : NP) (wl4 : World), Hst w0 Hl4 wl4 Hl4 wl4 → I4 j5 Hl4 wl4 → m_D_l8 data1 a1 i1 j5 w0 Hl4 wl4 (fun y'0 H' w' => I4 y'0 H' w' ∧ mu4 y'0 w' < mu4 j5 wl4) K
def m_D_l9 (data1 : Sl) (a1 b1 i5 : Int) (w0 : World) (Hl5 : NP) (wl5 : World) (Kc9 : Int → NP → WP) (K : Int → Bool → WP) : Prop :=
 Br (decide (i5 ≤ (q6.wrap (b1 - 1))))
  (∃ a28 : Addr, At data1 i5 1 a28 ∧
  ∃ v17 : Int, wl5.cell? a28 = some (vi v17) ∧ ¬ Hl5 a28.block ∧
  ∃ a29 : Addr, At data1 a1 1 a29 ∧
  ∃ v18 : Int, wl5.cell? a29 = some (vi v18) ∧ ¬ Hl5 a29.block ∧
  Br (s_A v17 v18)
   (∀ (H7 : NP) (w33 : World), Hst w0 Hl5 wl5 H7 w33 →
   Kc9 (q6.wrap (i5 + 1)) H7 w33)
   (∀ (H7 : NP) (w33 : World), Hst w0 Hl5 wl5 H7 w33 →
   m_D_j1 data1 a1 b1 i5 w0 H7 w33 K))
  (∀ (H8 : NP) (w35 : World), Hst w0 Hl5 wl5 H8 w35 →
  m_D_j1 data1 a1 b1 i5 w0 H8 w35 K)
def m_D (data1 : Sl) (a1 b1 pivot1 : Int) (w0 : World) (K : Int → Bool → WP) : Prop :=
 ∃ C1 : WP, C1 w0.drew ∧ ∀ w1, w1 = w0.drew →
 ∃ a2 : Addr, At data1 pivot1 1 a2 ∧
 ∃ v1 : Int, w1.cell? a2 = some (vi v1) ∧
 ∃ a3 : Addr, At data1 a1 1 a3 ∧
 ∃ v2 : Int, w1.cell? a3 = some (vi v2) ∧
 ∃ a4 : Addr, At data1 a1 1 a4 ∧
 CanW w1 a4 ∧ ¬ None a4.block ∧ ∀ w2 : World, w2 = w1.setCell a4 (vi v1) → C1 w2 ∧
 ∃ a5 : Addr, At data1 pivot1 1 a5 ∧
 CanW w2 a5 ∧ ¬ None a5.block ∧ ∀ w3 : World, w3 = w2.setCell a5 (vi v2) →
 ∃ (I5 : Int → NP → WP) (mu5 : Int → World → Nat), I5 (q6.wrap (a1 + 1)) None w3 ∧
  ∀ (i5 : Int) (Hl5 : NP) (wl5 : World), Hst w0 Hl5 wl5 Hl5 wl5 → I5 i5 Hl5 wl5 → m_D_l9 data1 a1 b1 i5 w0 Hl5 wl5 (fun y'0 H' w' => I5 y'0 H' w' ∧ mu5 y'0 w' < mu5 i5 wl5) K
theorem w_D (data1 : Sl) (a1 b1 pivot1 : Int) (w0 : World) (K : Int → Bool → WP) (h : m_D data1 a1 b1 pivot1 w0 K) :
  Calls Tryz.prog 165 #[data1.v, (vi a1), (vi b1), (vi pivot1)] w0 (fun e w' => ∃ r1 : Int, ∃ r2 : Bool, e = .returned (.tuple #[(vi r1), (vb r2)]) ∧ K r1 r2 w') := by
 unfold m_D at h
 refine cw (args := [data1.v, (vi a1), (vi b1), (vi pivot1)]) Tryz.func165 Tryz.ntmps165 ?_
 have hs := Hst.start w0
 have hb := HB.nil None w0
 refine wpE_seq (rg (q0 (vi 0) (q0 (vb false) (wpL_nil (th_n (wpE_seq ?_))))))
 obtain ⟨C1, hC, h⟩ := h
 refine wpE_drawnC C1 [13, 15] [15] (by kernel_rfl) (by kernel_rfl) (by kernel_rfl) (by kernel_rfl) hC ?_
 intro w1 hw1
 have h := h w1 hw1
 have hs : Hst w0 None w0 None w1 := by rw [hw1]; exact hs.drew
 have hb : HB None w1 [] := by rw [hw1]; exact hb.drew
 have hs := hs.here
 refine qx 0 data1.v Kp0 (qx 1 (vi a1) Kp1 (qx 2 data1.v Kp2 (qx 3 (vi pivot1) Kp3 (qx 4 data1.v Kp4 (qx 5 (vi pivot1) Kp5 (qg 6 ?_))))))
 obtain ⟨a2, hv46, h⟩ := h
 refine sy (v := (vp (some a2))) Kp6 (fun _ _ => (xi (Tryz.runUnderlying52 _) (Tryz.sizeOf30 _) hv46)) (qg 7 ?_)
 obtain ⟨v1, hv45, h⟩ := h
 refine sye Kp7 (xl (Tryz.isAgg30 _) hv45) (qx 8 data1.v Kp8 (qx 9 (vi a1) Kp9 (qg 10 ?_)))
 obtain ⟨a3, hv44, h⟩ := h
 refine sy (v := (vp (some a3))) (pickA (S8 (pickS (pickS pickZ)))) (fun _ _ => (xi (Tryz.runUnderlying52 _) (Tryz.sizeOf30 _) hv44)) (qg 11 ?_)
 obtain ⟨v2, hv43, h⟩ := h
 refine sye (pickA (S8 (pickS (pickS (pickS pickZ))))) (xl (Tryz.isAgg30 _) hv43) (qg 12 ?_)
 obtain ⟨a4, hv42, h⟩ := h
 refine sy (v := (vp (some a4))) (pickA (S8 (S4 pickZ))) (fun _ _ => (xi (Tryz.runUnderlying52 _) (Tryz.sizeOf30 _) hv42)) (lg 13 ?_)
 obtain ⟨hp1, hnh, h⟩ := h
 refine sl_t (pickA (S8 (S4 (pickS pickZ)))) (xs (v := (vi v1)) (Tryz.sizeOf30 _) hp1) ?_
 intro w2 hn1
 have h := h w2 hn1
 refine ⟨.inr h.1, ?_⟩
 have h := h.2
 have hk := Kept.sc hnh hn1
 obtain ⟨hs, hb⟩ := hk.hh hs hb
 refine qg 14 ?_
 obtain ⟨a5, hv41, h⟩ := h
 refine sy (v := (vp (some a5))) (pickA (S8 (S4 (pickS (pickS pickZ))))) (fun _ _ => (xi (Tryz.runUnderlying52 _) (Tryz.sizeOf30 _) hv41)) (lg 15 ?_)
 obtain ⟨hp2, hnh, h⟩ := h
 refine sl_t (pickA (S8 (S4 (pickS (pickS (pickS pickZ)))))) (xs (v := (vi v2)) (Tryz.sizeOf30 _) hp2) ?_
 intro w3 hn2
 have h := h w3 hn2
 refine ⟨.inl (by kernel_rfl), ?_⟩
 have hk := Kept.sc hnh hn2
 obtain ⟨hs, hb⟩ := hk.hh hs hb
 refine wn (th_n (wpE_seq (rg (q0 (vi a1) (q0 (vi (q6.wrap (a1 + 1))) (q0 (vi b1) (q0 (vi (q6.wrap (b1 - 1))) (q0 (vi (q6.wrap (a1 + 1))) (q0 (vi (q6.wrap (b1 - 1))) (wpL_nil (th_n ?_)))))))))))
 refine wpE_seq ?_
 refine wpE_joinT (fun ρ w => ∃ i1 : Int, ∃ H : NP, Has ρ [(0, data1.v), (1, (vi a1)), (10, (vi i1)), (11, (vi (q6.wrap (b1 - 1))))] ∧ Hst w0 H w H w ∧ HB H w [] ∧ m_D_j1 data1 a1 b1 i1 w0 H w K) ?_ ?_
 ·rintro ρ w ⟨i1, H, hH, hs, hb, h⟩
  unfold m_D_j1 at h
  refine wpE_has hH ?_
  refine wpE_seq ?_
  refine wpE_joinT (fun ρ w => ∃ j1 : Int, ∃ H : NP, Has ρ [(0, data1.v), (1, (vi a1)), (10, (vi i1)), (11, (vi j1))] ∧ Hst w0 H w H w ∧ HB H w [] ∧ m_D_j2 data1 a1 i1 j1 w0 H w K) ?_ ?_
  ·rintro ρ w ⟨j1, H, hH, hs, hb, h⟩
   unfold m_D_j2 at h
   refine wpE_has hH ?_
   refine wpE_seq (wpE_seq (rg (q0 (vi i1) (q0 (vi j1) (q0 (vb (decide (i1 > j1))) (wpL_nil (th_n ?_)))))))
   refine wpE_cond (t := (decide (i1 > j1))) (by kernel_rfl) (fun hc1 => ?_) (fun hc1 => ?_)
   ·have h := h.1 hc1
    refine wpE_seq ?_
    obtain ⟨C2, hC, h⟩ := h
    refine wpE_drawnC C2 [13, 15] [15] (by kernel_rfl) (by kernel_rfl) (by kernel_rfl) (by kernel_rfl) hC ?_
    intro w4 hw4
    have h := h w4 hw4
    have hs : Hst w0 H w H w4 := by rw [hw4]; exact hs.drew
    have hb : HB H w4 [] := by rw [hw4]; exact hb.drew
    have hs := hs.here
    refine qx 0 data1.v Kp0 (qx 1 (vi j1) Kp1 (qx 2 data1.v Kp2 (qx 3 (vi a1) Kp3 (qx 4 data1.v Kp4 (qx 5 (vi a1) Kp5 (qg 6 ?_))))))
    obtain ⟨a6, hv6, h⟩ := h
    refine sy (v := (vp (some a6))) Kp6 (fun _ _ => (xi (Tryz.runUnderlying52 _) (Tryz.sizeOf30 _) hv6)) (qg 7 ?_)
    obtain ⟨v3, hv5, h⟩ := h
    refine sye Kp7 (xl (Tryz.isAgg30 _) hv5) (qx 8 data1.v Kp8 (qx 9 (vi j1) Kp9 (qg 10 ?_)))
    obtain ⟨a7, hv4, h⟩ := h
    refine sy (v := (vp (some a7))) (pickA (S8 (pickS (pickS pickZ)))) (fun _ _ => (xi (Tryz.runUnderlying52 _) (Tryz.sizeOf30 _) hv4)) (qg 11 ?_)
    obtain ⟨v4, hv3, h⟩ := h
    refine sye (pickA (S8 (pickS (pickS (pickS pickZ))))) (xl (Tryz.isAgg30 _) hv3) (qg 12 ?_)
    obtain ⟨a8, hv2, h⟩ := h
    refine sy (v := (vp (some a8))) (pickA (S8 (S4 pickZ))) (fun _ _ => (xi (Tryz.runUnderlying52 _) (Tryz.sizeOf30 _) hv2)) (lg 13 ?_)
    obtain ⟨hp3, hnh, h⟩ := h
    refine sl_t (pickA (S8 (S4 (pickS pickZ)))) (xs (v := (vi v3)) (Tryz.sizeOf30 _) hp3) ?_
    intro w5 hn3
    have h := h w5 hn3
    refine ⟨.inr h.1, ?_⟩
    have h := h.2
    have hk := Kept.sc hnh hn3
    obtain ⟨hs, hb⟩ := hk.hh hs hb
    refine qg 14 ?_
    obtain ⟨a9, hv1, h⟩ := h
    refine sy (v := (vp (some a9))) (pickA (S8 (S4 (pickS (pickS pickZ))))) (fun _ _ => (xi (Tryz.runUnderlying52 _) (Tryz.sizeOf30 _) hv1)) (lg 15 ?_)
    obtain ⟨hp4, hnh, h⟩ := h
    refine sl_t (pickA (S8 (S4 (pickS (pickS (pickS pickZ)))))) (xs (v := (vi v4)) (Tryz.sizeOf30 _) hp4) ?_
    intro w6 hn4
    have h := h w6 hn4
    refine ⟨.inl (by kernel_rfl), ?_⟩
    have hk := Kept.sc hnh hn4
    obtain ⟨hs, hb⟩ := hk.hh hs hb
    refine wn (th_n (wpE_seq (rg (q0 (vi j1) (q0 (vi j1) (q0 (vb true) (wpL_nil (th_n (wpE_ret (th_r (res2 (.inl rfl) Tryz.results165 (v := (vi j1)) (by kernel_rfl) (v' := (vb true)) (by kernel_rfl) ?_)))))))))))
    exact ⟨j1, true, rfl, h⟩
   ·have h := h.2 hc1
    refine wpE_skip (th_n (wpE_seq ?_))
    obtain ⟨C3, hC, h⟩ := h
    refine wpE_drawnC C3 [13, 15] [15] (by kernel_rfl) (by kernel_rfl) (by kernel_rfl) (by kernel_rfl) hC ?_
    intro w7 hw7
    have h := h w7 hw7
    have hs : Hst w0 H w H w7 := by rw [hw7]; exact hs.drew
    have hb : HB H w7 [] := by rw [hw7]; exact hb.drew
    have hs := hs.here
    refine qx 0 data1.v Kp0 (qx 1 (vi i1) Kp1 (qx 2 data1.v Kp2 (qx 3 (vi j1) Kp3 (qx 4 data1.v Kp4 (qx 5 (vi j1) Kp5 (qg 6 ?_))))))
    obtain ⟨a10, hv32, h⟩ := h
    refine sy (v := (vp (some a10))) Kp6 (fun _ _ => (xi (Tryz.runUnderlying52 _) (Tryz.sizeOf30 _) hv32)) (qg 7 ?_)
    obtain ⟨v5, hv31, h⟩ := h
    refine sye Kp7 (xl (Tryz.isAgg30 _) hv31) (qx 8 data1.v Kp8 (qx 9 (vi i1) Kp9 (qg 10 ?_)))
    obtain ⟨a11, hv30, h⟩ := h
    refine sy (v := (vp (some a11))) (pickA (S8 (pickS (pickS pickZ)))) (fun _ _ => (xi (Tryz.runUnderlying52 _) (Tryz.sizeOf30 _) hv30)) (qg 11 ?_)
    obtain ⟨v6, hv29, h⟩ := h
    refine sye (pickA (S8 (pickS (pickS (pickS pickZ))))) (xl (Tryz.isAgg30 _) hv29) (qg 12 ?_)
    obtain ⟨a12, hv28, h⟩ := h
    refine sy (v := (vp (some a12))) (pickA (S8 (S4 pickZ))) (fun _ _ => (xi (Tryz.runUnderlying52 _) (Tryz.sizeOf30 _) hv28)) (lg 13 ?_)
    obtain ⟨hp5, hnh, h⟩ := h
    refine sl_t (pickA (S8 (S4 (pickS pickZ)))) (xs (v := (vi v5)) (Tryz.sizeOf30 _) hp5) ?_
    intro w8 hn5
    have h := h w8 hn5
    refine ⟨.inr h.1, ?_⟩
    have h := h.2
    have hk := Kept.sc hnh hn5
    obtain ⟨hs, hb⟩ := hk.hh hs hb
    refine qg 14 ?_
    obtain ⟨a13, hv27, h⟩ := h
    refine sy (v := (vp (some a13))) (pickA (S8 (S4 (pickS (pickS pickZ))))) (fun _ _ => (xi (Tryz.runUnderlying52 _) (Tryz.sizeOf30 _) hv27)) (lg 15 ?_)
    obtain ⟨hp6, hnh, h⟩ := h
    refine sl_t (pickA (S8 (S4 (pickS (pickS (pickS pickZ)))))) (xs (v := (vi v6)) (Tryz.sizeOf30 _) hp6) ?_
    intro w9 hn6
    have h := h w9 hn6
    refine ⟨.inl (by kernel_rfl), ?_⟩
    have hk := Kept.sc hnh hn6
    obtain ⟨hs, hb⟩ := hk.hh hs hb
    refine wn (th_n (wpE_seq (rg (q0 (vi i1) (q0 (vi (q6.wrap (i1 + 1))) (q0 (vi (q6.wrap (i1 + 1))) (wpL_nil (th_n (wpE_seq (rg (q0 (vi j1) ?_)))))))))))
    refine q0 (vi (q6.wrap (j1 - 1))) (q0 (vi (q6.wrap (j1 - 1))) (wpL_nil (th_n (wpE_seq (wpE_block ?_)))))
    obtain ⟨I1, mu1, h0, hr⟩ := h
    refine wpE_loop (σ := Int × Int × NP × World) (fun s ρ w => w = s.2.2.2 ∧ Has ρ [(0, data1.v), (1, (vi a1)), (10, (vi s.1)), (11, (vi s.2.1))] ∧ Hst w0 s.2.2.1 w s.2.2.1 w ∧ HB s.2.2.1 w [] ∧ I1 s.1 s.2.1 s.2.2.1 s.2.2.2) (fun s => mu1 s.1 s.2.1 s.2.2.2) ((q6.wrap (i1 + 1)), (q6.wrap (j1 - 1)), H, w9) ⟨rfl, hm, hs, hb, h0⟩ ?_
    rintro ⟨i2, j2, Hl1, wl1⟩ ρ w ⟨hw, hH, hs, hb, hI⟩
    obtain rfl : wl1 = w := (show w = wl1 from hw).symm
    have hH : Has ρ [(0, data1.v), (1, (vi a1)), (10, (vi i2)), (11, (vi j2))] := hH
    have hs : Hst w0 Hl1 wl1 Hl1 wl1 := hs
    have hb : HB Hl1 wl1 [] := hb
    have h := hr i2 j2 Hl1 wl1 hs hI
    unfold m_D_l3 at h
    refine wpE_has hH ?_
    refine wpE_block (wpE_seq ?_)
    refine wpE_joinT (fun ρ w => ∃ i3 : Int, ∃ H : NP, Has ρ [(0, data1.v), (1, (vi a1)), (10, (vi i3)), (11, (vi j2))] ∧ Hst w0 H w H w ∧ HB H w [] ∧ m_D_j4 data1 a1 j2 i3 w0 H w (fun y'0 y'1 H' w' => I1 y'0 y'1 H' w' ∧ mu1 y'0 y'1 w' < mu1 i2 j2 wl1) K) ?_ ?_
    ·rintro ρ w ⟨i3, H, hH, hs, hb, h⟩
     unfold m_D_j4 at h
     refine wpE_has hH ?_
     refine wpE_seq ?_
     refine wpE_joinT (fun ρ w => ∃ j3 : Int, ∃ H : NP, Has ρ [(0, data1.v), (1, (vi a1)), (10, (vi i3)), (11, (vi j3))] ∧ Hst w0 H w H w ∧ HB H w [] ∧ m_D_j5 data1 a1 i3 j3 H w (fun y'0 y'1 H' w' => I1 y'0 y'1 H' w' ∧ mu1 y'0 y'1 w' < mu1 i2 j2 wl1) K) ?_ ?_
     ·rintro ρ w ⟨j3, H, hH, hs, hb, h⟩
      unfold m_D_j5 at h
      refine wpE_has hH ?_
      refine wpE_seq (wpE_seq (rg (q0 (vi i3) (q0 (vi j3) (q0 (vb (decide (i3 > j3))) (wpL_nil (th_n ?_)))))))
      refine wpE_cond (t := (decide (i3 > j3))) (by kernel_rfl) (fun hc2 => ?_) (fun hc2 => ?_)
      ·have h := h.1 hc2
       refine wpE_exit (th_x (bl_ne rfl (th_x (bl_eq (th_n (wpE_seq ?_))))))
       obtain ⟨C4, hC, h⟩ := h
       refine wpE_drawnC C4 [13, 15] [15] (by kernel_rfl) (by kernel_rfl) (by kernel_rfl) (by kernel_rfl) hC ?_
       intro w10 hw10
       have h := h w10 hw10
       have hs : Hst w0 H w H w10 := by rw [hw10]; exact hs.drew
       have hb : HB H w10 [] := by rw [hw10]; exact hb.drew
       have hs := hs.here
       refine qx 0 data1.v Kp0 (qx 1 (vi j3) Kp1 (qx 2 data1.v Kp2 (qx 3 (vi a1) Kp3 (qx 4 data1.v Kp4 (qx 5 (vi a1) Kp5 (qg 6 ?_))))))
       obtain ⟨a14, hv12, h⟩ := h
       refine sy (v := (vp (some a14))) Kp6 (fun _ _ => (xi (Tryz.runUnderlying52 _) (Tryz.sizeOf30 _) hv12)) (qg 7 ?_)
       obtain ⟨v7, hv11, h⟩ := h
       refine sye Kp7 (xl (Tryz.isAgg30 _) hv11) (qx 8 data1.v Kp8 (qx 9 (vi j3) Kp9 (qg 10 ?_)))
       obtain ⟨a15, hv10, h⟩ := h
       refine sy (v := (vp (some a15))) (pickA (S8 (pickS (pickS pickZ)))) (fun _ _ => (xi (Tryz.runUnderlying52 _) (Tryz.sizeOf30 _) hv10)) (qg 11 ?_)
       obtain ⟨v8, hv9, h⟩ := h
       refine sye (pickA (S8 (pickS (pickS (pickS pickZ))))) (xl (Tryz.isAgg30 _) hv9) (qg 12 ?_)
       obtain ⟨a16, hv8, h⟩ := h
       refine sy (v := (vp (some a16))) (pickA (S8 (S4 pickZ))) (fun _ _ => (xi (Tryz.runUnderlying52 _) (Tryz.sizeOf30 _) hv8)) (lg 13 ?_)
       obtain ⟨hp7, hnh, h⟩ := h
       refine sl_t (pickA (S8 (S4 (pickS pickZ)))) (xs (v := (vi v7)) (Tryz.sizeOf30 _) hp7) ?_
       intro w11 hn7
       have h := h w11 hn7
       refine ⟨.inr h.1, ?_⟩
       have h := h.2
       have hk := Kept.sc hnh hn7
       obtain ⟨hs, hb⟩ := hk.hh hs hb
       refine qg 14 ?_
       obtain ⟨a17, hv7, h⟩ := h
       refine sy (v := (vp (some a17))) (pickA (S8 (S4 (pickS (pickS pickZ))))) (fun _ _ => (xi (Tryz.runUnderlying52 _) (Tryz.sizeOf30 _) hv7)) (lg 15 ?_)
       obtain ⟨hp8, hnh, h⟩ := h
       refine sl_t (pickA (S8 (S4 (pickS (pickS (pickS pickZ)))))) (xs (v := (vi v8)) (Tryz.sizeOf30 _) hp8) ?_
       intro w12 hn8
       have h := h w12 hn8
       refine ⟨.inl (by kernel_rfl), ?_⟩
       have hk := Kept.sc hnh hn8
       obtain ⟨hs, hb⟩ := hk.hh hs hb
       refine wn (th_n (wpE_seq (rg (q0 (vi j3) (q0 (vi j3) (q0 (vb false) (wpL_nil (th_n (wpE_ret (res2 (.inl rfl) Tryz.results165 (v := (vi j3)) (by kernel_rfl) (v' := (vb false)) (by kernel_rfl) ?_))))))))))
       exact ⟨j3, false, rfl, h⟩
      ·have h := h.2 hc2
       refine wpE_skip (th_n (wpE_seq ?_))
       obtain ⟨C5, hC, h⟩ := h
       refine wpE_drawnC C5 [13, 15] [15] (by kernel_rfl) (by kernel_rfl) (by kernel_rfl) (by kernel_rfl) hC ?_
       intro w13 hw13
       have h := h w13 hw13
       have hs : Hst w0 H w H w13 := by rw [hw13]; exact hs.drew
       have hb : HB H w13 [] := by rw [hw13]; exact hb.drew
       have hs := hs.here
       refine qx 0 data1.v Kp0 (qx 1 (vi i3) Kp1 (qx 2 data1.v Kp2 (qx 3 (vi j3) Kp3 (qx 4 data1.v Kp4 (qx 5 (vi j3) Kp5 (qg 6 ?_))))))
       obtain ⟨a18, hv18, h⟩ := h
       refine sy (v := (vp (some a18))) Kp6 (fun _ _ => (xi (Tryz.runUnderlying52 _) (Tryz.sizeOf30 _) hv18)) (qg 7 ?_)
       obtain ⟨v9, hv17, h⟩ := h
       refine sye Kp7 (xl (Tryz.isAgg30 _) hv17) (qx 8 data1.v Kp8 (qx 9 (vi i3) Kp9 (qg 10 ?_)))
       obtain ⟨a19, hv16, h⟩ := h
       refine sy (v := (vp (some a19))) (pickA (S8 (pickS (pickS pickZ)))) (fun _ _ => (xi (Tryz.runUnderlying52 _) (Tryz.sizeOf30 _) hv16)) (qg 11 ?_)
       obtain ⟨v10, hv15, h⟩ := h
       refine sye (pickA (S8 (pickS (pickS (pickS pickZ))))) (xl (Tryz.isAgg30 _) hv15) (qg 12 ?_)
       obtain ⟨a20, hv14, h⟩ := h
       refine sy (v := (vp (some a20))) (pickA (S8 (S4 pickZ))) (fun _ _ => (xi (Tryz.runUnderlying52 _) (Tryz.sizeOf30 _) hv14)) (lg 13 ?_)
       obtain ⟨hp9, hnh, h⟩ := h
       refine sl_t (pickA (S8 (S4 (pickS pickZ)))) (xs (v := (vi v9)) (Tryz.sizeOf30 _) hp9) ?_
       intro w14 hn9
       have h := h w14 hn9
       refine ⟨.inr h.1, ?_⟩
       have h := h.2
       have hk := Kept.sc hnh hn9
       obtain ⟨hs, hb⟩ := hk.hh hs hb
       refine qg 14 ?_
       obtain ⟨a21, hv13, h⟩ := h
       refine sy (v := (vp (some a21))) (pickA (S8 (S4 (pickS (pickS pickZ))))) (fun _ _ => (xi (Tryz.runUnderlying52 _) (Tryz.sizeOf30 _) hv13)) (lg 15 ?_)
       obtain ⟨hp10, hnh, h⟩ := h
       refine sl_t (pickA (S8 (S4 (pickS (pickS (pickS pickZ)))))) (xs (v := (vi v10)) (Tryz.sizeOf30 _) hp10) ?_
       intro w15 hn10
       have h := h w15 hn10
       refine ⟨.inl (by kernel_rfl), ?_⟩
       have hk := Kept.sc hnh hn10
       obtain ⟨hs, hb⟩ := hk.hh hs hb
       refine wn (th_n (wpE_seq (rg (q0 (vi i3) (q0 (vi (q6.wrap (i3 + 1))) (q0 (vi (q6.wrap (i3 + 1))) (wpL_nil (th_n (rg (q0 (vi j3) (q0 (vi (q6.wrap (j3 - 1))) ?_)))))))))))
       refine q0 (vi (q6.wrap (j3 - 1))) (wpL_nil (bl_n (th_n ?_)))
       exact ⟨((q6.wrap (i3 + 1)), (q6.wrap (j3 - 1)), H, w15), ⟨rfl, hm, hs, hb, h.1⟩, h.2⟩
     ·refine wpE_block ?_
      obtain ⟨I2, mu2, h0, hr⟩ := h
      refine wpE_loop (σ := Int × NP × World) (fun s ρ w => w = s.2.2 ∧ Has ρ [(0, data1.v), (1, (vi a1)), (10, (vi i3)), (11, (vi s.1))] ∧ Hst w0 s.2.1 w s.2.1 w ∧ HB s.2.1 w [] ∧ I2 s.1 s.2.1 s.2.2) (fun s => mu2 s.1 s.2.2) (j2, H, w) ⟨rfl, hm, hs, hb, h0⟩ ?_
      rintro ⟨j4, Hl2, wl2⟩ ρ w ⟨hw, hH, hs, hb, hI⟩
      obtain rfl : wl2 = w := (show w = wl2 from hw).symm
      have hH : Has ρ [(0, data1.v), (1, (vi a1)), (10, (vi i3)), (11, (vi j4))] := hH
      have hs : Hst w0 Hl2 wl2 Hl2 wl2 := hs
      have hb : HB Hl2 wl2 [] := hb
      have h := hr j4 Hl2 wl2 hs hI
      unfold m_D_l6 at h
      refine wpE_has hH ?_
      refine wpE_seq (wpE_seq (wpE_drawnC (fun x => ∃ H', Hst w0 Hl2 wl2 H' x ∧ HB H' x []) [12] [] (by kernel_rfl) (by kernel_rfl) (by kernel_rfl) (by kernel_rfl) ⟨_, hs.drew, hb.drew⟩ ?_))
      intro w16 hw16
      have hs : Hst w0 Hl2 wl2 Hl2 w16 := by rw [hw16]; exact hs.drew
      have hb : HB Hl2 w16 [] := by rw [hw16]; exact hb.drew
      refine qx 0 (vi i3) Kp0 (qx 1 (vi j4) Kp1 (qx 2 (vb (decide (i3 ≤ j4))) Kp2 (qx 3 (vb (decide (i3 ≤ j4))) Kp3 (qg 4 ?_))))
      rcases Bool.eq_false_or_eq_true (decide (i3 ≤ j4)) with hg1 | hg1
      ·have h := h.1 hg1
       refine sz (v := data1.v) Kp4 (want1 rfl (yD 118 hg1)) (fun _ _ => (by kernel_rfl)) (qw 5 (vi j4) Kp5 (want1 rfl (yD 118 hg1)) (qg 6 ?_))
       obtain ⟨a22, hv22, h⟩ := h
       refine sz (v := (vp (some a22))) Kp6 (want1 rfl (yD 118 hg1)) (fun _ _ => (xi (Tryz.runUnderlying52 _) (Tryz.sizeOf30 _) hv22)) (qg 7 ?_)
       obtain ⟨v11, hv21, hnh, h⟩ := h
       refine sz (v := (vi v11)) Kp7 (want1 rfl (yD 118 hg1)) (fun w' hw' => by obtain ⟨H', hs', hb'⟩ := hw'; exact (xl (Tryz.isAgg30 _) (cell_hst hv21 hnh hs'))) ?_
       refine qw 8 data1.v Kp8 (want1 rfl (yD 118 hg1)) (qw 9 (vi a1) Kp9 (want1 rfl (yD 118 hg1)) (qg 10 ?_))
       obtain ⟨a23, hv20, h⟩ := h
       refine sz (v := (vp (some a23))) (pickA (S8 (pickS (pickS pickZ)))) (want1 rfl (yD 118 hg1)) (fun _ _ => (xi (Tryz.runUnderlying52 _) (Tryz.sizeOf30 _) hv20)) (qg 11 ?_)
       obtain ⟨v12, hv19, hnh, h⟩ := h
       refine sz (v := (vi v12)) (pickA (S8 (pickS (pickS (pickS pickZ))))) (want1 rfl (yD 118 hg1)) (fun w' hw' => by obtain ⟨H', hs', hb'⟩ := hw'; exact (xl (Tryz.isAgg30 _) (cell_hst hv19 hnh hs'))) ?_
       refine wpX_via (fun ρ wJ => ∃ HJ : NP, Hst w0 Hl2 wl2 HJ wJ ∧ HB HJ wJ [] ∧ Has ρ [(0, data1.v), (1, (vi a1)), (10, (vi i3)), (11, (vi j4)), (129, (vb (!(s_A v11 v12))))]) ?_ ?_
       ·refine lg 12 ?_
        refine sl_call (pickA (S8 (S4 pickZ))) (want1 rfl (yD 118 hg1)) (by kernel_rfl) (xc Tryz.call163) ((p_A v11 v12 w16).mono ?_)
        rintro e w19 ⟨he, hE⟩
        have hs := hs.pure hE
        have hb := hb.pure hE
        refine ⟨(vb (s_A v11 v12)), he.trans (by kernel_rfl), .inr ⟨_, hs, hb⟩, ?_⟩
        refine qw 13 (vb (!(s_A v11 v12))) (pickA (S8 (S4 (pickS pickZ)))) (want1 rfl (yD 118 hg1)) (qz 14 (vb (!(s_A v11 v12))) (pickA (S8 (S4 (pickS (pickS pickZ))))) (fun _ _ => (xT hg1)) (wn ?_))
        exact ⟨_, hs, hb, hm⟩
       ·rintro ρ w18 ⟨H1, hs, hb, hH⟩
        refine q_has hH ?_
        refine th_n ?_
        refine wpE_cond (t := (!(s_A v11 v12))) (by kernel_rfl) (fun hc3 => ?_) (fun hc3 => ?_)
        ·have h := h.1 hc3
         refine wpE_skip (th_n (wpE_block (rg (q0 (vi j4) (q0 (vi (q6.wrap (j4 - 1))) (q0 (vi (q6.wrap (j4 - 1))) (wpL_nil (bl_n ?_))))))))
         have h := h H1 w18 hs
         have hs := hs.here
         refine th_n ?_
         exact ⟨((q6.wrap (j4 - 1)), H1, w18), ⟨rfl, hm, hs, hb, h.1⟩, h.2⟩
        ·have h := h.2 hc3
         refine wpE_exit (th_x (th_x (bl_eq ?_)))
         have h := h H1 w18 hs
         have hs := hs.here
         refine th_n ?_
         exact ⟨j4, H1, hm, hs, hb, h⟩
      ·have h := h.2 hg1
       refine sx_not Kp4 (unwant rfl (yD 118 hg1) rfl) (qn 5 Kp5 (unwant rfl (yD 118 hg1) rfl) (qn 6 Kp6 (unwant rfl (yD 118 hg1) rfl) (qn 7 Kp7 (unwant rfl (yD 118 hg1) rfl) (qn 8 Kp8 (unwant rfl (yD 118 hg1) rfl) (qn 9 Kp9 (unwant rfl (yD 118 hg1) rfl) (qn 10 (pickA (S8 (pickS (pickS pickZ)))) (unwant rfl (yD 118 hg1) rfl) (qn 11 (pickA (S8 (pickS (pickS (pickS pickZ))))) (unwant rfl (yD 118 hg1) rfl) ?_)))))))
       refine wpX_via (fun ρ wJ => ∃ HJ : NP, Hst w0 Hl2 wl2 HJ wJ ∧ HB HJ wJ [] ∧ Has ρ [(0, data1.v), (1, (vi a1)), (10, (vi i3)), (11, (vi j4)), (129, (vb false))]) ?_ ?_
       ·refine lg 12 (sx_not (pickA (S8 (S4 pickZ))) (unwant rfl (yD 118 hg1) rfl) (qn 13 (pickA (S8 (S4 (pickS pickZ)))) (unwant rfl (yD 118 hg1) rfl) (qz 14 (vb false) (pickA (S8 (S4 (pickS (pickS pickZ))))) (fun _ _ => (xF hg1)) (wn ?_))))
        exact ⟨_, hs, hb, hm⟩
       ·rintro ρ w20 ⟨H2, hs, hb, hH⟩
        refine q_has hH ?_
        refine th_n (wpE_condF (by kernel_rfl) (wpE_exit (th_x (th_x (bl_eq ?_)))))
        have h := h H2 w20 hs
        have hs := hs.here
        refine th_n ?_
        exact ⟨j4, H2, hm, hs, hb, h⟩
    ·refine wpE_block ?_
     obtain ⟨I3, mu3, h0, hr⟩ := h
     refine wpE_loop (σ := Int × NP × World) (fun s ρ w => w = s.2.2 ∧ Has ρ [(0, data1.v), (1, (vi a1)), (10, (vi s.1)), (11, (vi j2))] ∧ Hst w0 s.2.1 w s.2.1 w ∧ HB s.2.1 w [] ∧ I3 s.1 s.2.1 s.2.2) (fun s => mu3 s.1 s.2.2) (i2, Hl1, wl1) ⟨rfl, hm, hs, hb, h0⟩ ?_
     rintro ⟨i4, Hl3, wl3⟩ ρ w ⟨hw, hH, hs, hb, hI⟩
     obtain rfl : wl3 = w := (show w = wl3 from hw).symm
     have hH : Has ρ [(0, data1.v), (1, (vi a1)), (10, (vi i4)), (11, (vi j2))] := hH
     have hs : Hst w0 Hl3 wl3 Hl3 wl3 := hs
     have hb : HB Hl3 wl3 [] := hb
     have h := hr i4 Hl3 wl3 hs hI
     unfold m_D_l7 at h
     refine wpE_has hH ?_
     refine wpE_seq (wpE_seq (wpE_drawnC (fun x => ∃ H', Hst w0 Hl3 wl3 H' x ∧ HB H' x []) [12] [] (by kernel_rfl) (by kernel_rfl) (by kernel_rfl) (by kernel_rfl) ⟨_, hs.drew, hb.drew⟩ ?_))
     intro w21 hw21
     have hs : Hst w0 Hl3 wl3 Hl3 w21 := by rw [hw21]; exact hs.drew
     have hb : HB Hl3 w21 [] := by rw [hw21]; exact hb.drew
     refine qx 0 (vi i4) Kp0 (qx 1 (vi j2) Kp1 (qx 2 (vb (decide (i4 ≤ j2))) Kp2 (qx 3 (vb (decide (i4 ≤ j2))) Kp3 (qg 4 ?_))))
     rcases Bool.eq_false_or_eq_true (decide (i4 ≤ j2)) with hg2 | hg2
     ·have h := h.1 hg2
      refine sz (v := data1.v) Kp4 (want1 rfl (yD 102 hg2)) (fun _ _ => (by kernel_rfl)) (qw 5 (vi i4) Kp5 (want1 rfl (yD 102 hg2)) (qg 6 ?_))
      obtain ⟨a24, hv26, h⟩ := h
      refine sz (v := (vp (some a24))) Kp6 (want1 rfl (yD 102 hg2)) (fun _ _ => (xi (Tryz.runUnderlying52 _) (Tryz.sizeOf30 _) hv26)) (qg 7 ?_)
      obtain ⟨v13, hv25, hnh, h⟩ := h
      refine sz (v := (vi v13)) Kp7 (want1 rfl (yD 102 hg2)) (fun w' hw' => by obtain ⟨H', hs', hb'⟩ := hw'; exact (xl (Tryz.isAgg30 _) (cell_hst hv25 hnh hs'))) ?_
      refine qw 8 data1.v Kp8 (want1 rfl (yD 102 hg2)) (qw 9 (vi a1) Kp9 (want1 rfl (yD 102 hg2)) (qg 10 ?_))
      obtain ⟨a25, hv24, h⟩ := h
      refine sz (v := (vp (some a25))) (pickA (S8 (pickS (pickS pickZ)))) (want1 rfl (yD 102 hg2)) (fun _ _ => (xi (Tryz.runUnderlying52 _) (Tryz.sizeOf30 _) hv24)) (qg 11 ?_)
      obtain ⟨v14, hv23, hnh, h⟩ := h
      refine sz (v := (vi v14)) (pickA (S8 (pickS (pickS (pickS pickZ))))) (want1 rfl (yD 102 hg2)) (fun w' hw' => by obtain ⟨H', hs', hb'⟩ := hw'; exact (xl (Tryz.isAgg30 _) (cell_hst hv23 hnh hs'))) ?_
      refine wpX_via (fun ρ wJ => ∃ HJ : NP, Hst w0 Hl3 wl3 HJ wJ ∧ HB HJ wJ [] ∧ Has ρ [(0, data1.v), (1, (vi a1)), (10, (vi i4)), (11, (vi j2)), (112, (vb (s_A v13 v14)))]) ?_ ?_
      ·refine lg 12 ?_
       refine sl_call (pickA (S8 (S4 pickZ))) (want1 rfl (yD 102 hg2)) (by kernel_rfl) (xc Tryz.call163) ((p_A v13 v14 w21).mono ?_)
       rintro e w24 ⟨he, hE⟩
       have hs := hs.pure hE
       have hb := hb.pure hE
       refine ⟨(vb (s_A v13 v14)), he.trans (by kernel_rfl), .inr ⟨_, hs, hb⟩, ?_⟩
       refine qz 13 (vb (s_A v13 v14)) (pickA (S8 (S4 (pickS pickZ)))) (fun _ _ => (xT hg2)) (wn ?_)
       exact ⟨_, hs, hb, hm⟩
      ·rintro ρ w23 ⟨H3, hs, hb, hH⟩
       refine q_has hH ?_
       refine th_n ?_
       refine wpE_cond (t := (s_A v13 v14)) (by kernel_rfl) (fun hc4 => ?_) (fun hc4 => ?_)
       ·have h := h.1 hc4
        refine wpE_skip (th_n (wpE_block (rg (q0 (vi i4) (q0 (vi (q6.wrap (i4 + 1))) (q0 (vi (q6.wrap (i4 + 1))) (wpL_nil (bl_n ?_))))))))
        have h := h H3 w23 hs
        have hs := hs.here
        refine th_n ?_
        exact ⟨((q6.wrap (i4 + 1)), H3, w23), ⟨rfl, hm, hs, hb, h.1⟩, h.2⟩
       ·have h := h.2 hc4
        refine wpE_exit (th_x (th_x (bl_eq ?_)))
        have h := h H3 w23 hs
        have hs := hs.here
        refine th_n ?_
        exact ⟨i4, H3, hm, hs, hb, h⟩
     ·have h := h.2 hg2
      refine sx_not Kp4 (unwant rfl (yD 102 hg2) rfl) (qn 5 Kp5 (unwant rfl (yD 102 hg2) rfl) (qn 6 Kp6 (unwant rfl (yD 102 hg2) rfl) (qn 7 Kp7 (unwant rfl (yD 102 hg2) rfl) (qn 8 Kp8 (unwant rfl (yD 102 hg2) rfl) (qn 9 Kp9 (unwant rfl (yD 102 hg2) rfl) (qn 10 (pickA (S8 (pickS (pickS pickZ)))) (unwant rfl (yD 102 hg2) rfl) (qn 11 (pickA (S8 (pickS (pickS (pickS pickZ))))) (unwant rfl (yD 102 hg2) rfl) ?_)))))))
      refine wpX_via (fun ρ wJ => ∃ HJ : NP, Hst w0 Hl3 wl3 HJ wJ ∧ HB HJ wJ [] ∧ Has ρ [(0, data1.v), (1, (vi a1)), (10, (vi i4)), (11, (vi j2)), (112, (vb false))]) ?_ ?_
      ·refine lg 12 (sx_not (pickA (S8 (S4 pickZ))) (unwant rfl (yD 102 hg2) rfl) (qz 13 (vb false) (pickA (S8 (S4 (pickS pickZ)))) (fun _ _ => (xF hg2)) (wn ?_)))
       exact ⟨_, hs, hb, hm⟩
      ·rintro ρ w25 ⟨H4, hs, hb, hH⟩
       refine q_has hH ?_
       refine th_n (wpE_condF (by kernel_rfl) (wpE_exit (th_x (th_x (bl_eq ?_)))))
       have h := h H4 w25 hs
       have hs := hs.here
       refine th_n ?_
       exact ⟨i4, H4, hm, hs, hb, h⟩
  ·refine wpE_block ?_
   obtain ⟨I4, mu4, h0, hr⟩ := h
   refine wpE_loop (σ := Int × NP × World) (fun s ρ w => w = s.2.2 ∧ Has ρ [(0, data1.v), (1, (vi a1)), (10, (vi i1)), (11, (vi s.1))] ∧ Hst w0 s.2.1 w s.2.1 w ∧ HB s.2.1 w [] ∧ I4 s.1 s.2.1 s.2.2) (fun s => mu4 s.1 s.2.2) ((q6.wrap (b1 - 1)), H, w) ⟨rfl, hm, hs, hb, h0⟩ ?_
   rintro ⟨j5, Hl4, wl4⟩ ρ w ⟨hw, hH, hs, hb, hI⟩
   obtain rfl : wl4 = w := (show w = wl4 from hw).symm
   have hH : Has ρ [(0, data1.v), (1, (vi a1)), (10, (vi i1)), (11, (vi j5))] := hH
   have hs : Hst w0 Hl4 wl4 Hl4 wl4 := hs
   have hb : HB Hl4 wl4 [] := hb
   have h := hr j5 Hl4 wl4 hs hI
   unfold m_D_l8 at h
   refine wpE_has hH ?_
   refine wpE_seq (wpE_seq (wpE_drawnC (fun x => ∃ H', Hst w0 Hl4 wl4 H' x ∧ HB H' x []) [12] [] (by kernel_rfl) (by kernel_rfl) (by kernel_rfl) (by kernel_rfl) ⟨_, hs.drew, hb.drew⟩ ?_))
   intro w26 hw26
   have hs : Hst w0 Hl4 wl4 Hl4 w26 := by rw [hw26]; exact hs.drew
   have hb : HB Hl4 w26 [] := by rw [hw26]; exact hb.drew
   refine qx 0 (vi i1) Kp0 (qx 1 (vi j5) Kp1 (qx 2 (vb (decide (i1 ≤ j5))) Kp2 (qx 3 (vb (decide (i1 ≤ j5))) Kp3 (qg 4 ?_))))
   rcases Bool.eq_false_or_eq_true (decide (i1 ≤ j5)) with hg3 | hg3
   ·have h := h.1 hg3
    refine sz (v := data1.v) Kp4 (want1 rfl (yD 49 hg3)) (fun _ _ => (by kernel_rfl)) (qw 5 (vi j5) Kp5 (want1 rfl (yD 49 hg3)) (qg 6 ?_))
    obtain ⟨a26, hv36, h⟩ := h
    refine sz (v := (vp (some a26))) Kp6 (want1 rfl (yD 49 hg3)) (fun _ _ => (xi (Tryz.runUnderlying52 _) (Tryz.sizeOf30 _) hv36)) (qg 7 ?_)
    obtain ⟨v15, hv35, hnh, h⟩ := h
    refine sz (v := (vi v15)) Kp7 (want1 rfl (yD 49 hg3)) (fun w' hw' => by obtain ⟨H', hs', hb'⟩ := hw'; exact (xl (Tryz.isAgg30 _) (cell_hst hv35 hnh hs'))) ?_
    refine qw 8 data1.v Kp8 (want1 rfl (yD 49 hg3)) (qw 9 (vi a1) Kp9 (want1 rfl (yD 49 hg3)) (qg 10 ?_))
    obtain ⟨a27, hv34, h⟩ := h
    refine sz (v := (vp (some a27))) (pickA (S8 (pickS (pickS pickZ)))) (want1 rfl (yD 49 hg3)) (fun _ _ => (xi (Tryz.runUnderlying52 _) (Tryz.sizeOf30 _) hv34)) (qg 11 ?_)
    obtain ⟨v16, hv33, hnh, h⟩ := h
    refine sz (v := (vi v16)) (pickA (S8 (pickS (pickS (pickS pickZ))))) (want1 rfl (yD 49 hg3)) (fun w' hw' => by obtain ⟨H', hs', hb'⟩ := hw'; exact (xl (Tryz.isAgg30 _) (cell_hst hv33 hnh hs'))) ?_
    refine wpX_via (fun ρ wJ => ∃ HJ : NP, Hst w0 Hl4 wl4 HJ wJ ∧ HB HJ wJ [] ∧ Has ρ [(0, data1.v), (1, (vi a1)), (10, (vi i1)), (11, (vi j5)), (60, (vb (!(s_A v15 v16))))]) ?_ ?_
    ·refine lg 12 ?_
     refine sl_call (pickA (S8 (S4 pickZ))) (want1 rfl (yD 49 hg3)) (by kernel_rfl) (xc Tryz.call163) ((p_A v15 v16 w26).mono ?_)
     rintro e w29 ⟨he, hE⟩
     have hs := hs.pure hE
     have hb := hb.pure hE
     refine ⟨(vb (s_A v15 v16)), he.trans (by kernel_rfl), .inr ⟨_, hs, hb⟩, ?_⟩
     refine qw 13 (vb (!(s_A v15 v16))) (pickA (S8 (S4 (pickS pickZ)))) (want1 rfl (yD 49 hg3)) (qz 14 (vb (!(s_A v15 v16))) (pickA (S8 (S4 (pickS (pickS pickZ))))) (fun _ _ => (xT hg3)) (wn ?_))
     exact ⟨_, hs, hb, hm⟩
    ·rintro ρ w28 ⟨H5, hs, hb, hH⟩
     refine q_has hH ?_
     refine th_n ?_
     refine wpE_cond (t := (!(s_A v15 v16))) (by kernel_rfl) (fun hc5 => ?_) (fun hc5 => ?_)
     ·have h := h.1 hc5
      refine wpE_skip (th_n (wpE_block (rg (q0 (vi j5) (q0 (vi (q6.wrap (j5 - 1))) (q0 (vi (q6.wrap (j5 - 1))) (wpL_nil (bl_n ?_))))))))
      have h := h H5 w28 hs
      have hs := hs.here
      refine th_n ?_
      exact ⟨((q6.wrap (j5 - 1)), H5, w28), ⟨rfl, hm, hs, hb, h.1⟩, h.2⟩
     ·have h := h.2 hc5
      refine wpE_exit (th_x (th_x (bl_eq ?_)))
      have h := h H5 w28 hs
      have hs := hs.here
      refine th_n ?_
      exact ⟨j5, H5, hm, hs, hb, h⟩
   ·have h := h.2 hg3
    refine sx_not Kp4 (unwant rfl (yD 49 hg3) rfl) (qn 5 Kp5 (unwant rfl (yD 49 hg3) rfl) (qn 6 Kp6 (unwant rfl (yD 49 hg3) rfl) (qn 7 Kp7 (unwant rfl (yD 49 hg3) rfl) (qn 8 Kp8 (unwant rfl (yD 49 hg3) rfl) (qn 9 Kp9 (unwant rfl (yD 49 hg3) rfl) (qn 10 (pickA (S8 (pickS (pickS pickZ)))) (unwant rfl (yD 49 hg3) rfl) (qn 11 (pickA (S8 (pickS (pickS (pickS pickZ))))) (unwant rfl (yD 49 hg3) rfl) ?_)))))))
    refine wpX_via (fun ρ wJ => ∃ HJ : NP, Hst w0 Hl4 wl4 HJ wJ ∧ HB HJ wJ [] ∧ Has ρ [(0, data1.v), (1, (vi a1)), (10, (vi i1)), (11, (vi j5)), (60, (vb false))]) ?_ ?_
    ·refine lg 12 (sx_not (pickA (S8 (S4 pickZ))) (unwant rfl (yD 49 hg3) rfl) (qn 13 (pickA (S8 (S4 (pickS pickZ)))) (unwant rfl (yD 49 hg3) rfl) (qz 14 (vb false) (pickA (S8 (S4 (pickS (pickS pickZ))))) (fun _ _ => (xF hg3)) (wn ?_))))
     exact ⟨_, hs, hb, hm⟩
    ·rintro ρ w30 ⟨H6, hs, hb, hH⟩
     refine q_has hH ?_
     refine th_n (wpE_condF (by kernel_rfl) (wpE_exit (th_x (th_x (bl_eq ?_)))))
     have h := h H6 w30 hs
     have hs := hs.here
     refine th_n ?_
     exact ⟨j5, H6, hm, hs, hb, h⟩
 ·refine wpE_block ?_
  obtain ⟨I5, mu5, h0, hr⟩ := h
  refine wpE_loop (σ := Int × NP × World) (fun s ρ w => w = s.2.2 ∧ Has ρ [(0, data1.v), (1, (vi a1)), (10, (vi s.1)), (11, (vi (q6.wrap (b1 - 1))))] ∧ Hst w0 s.2.1 w s.2.1 w ∧ HB s.2.1 w [] ∧ I5 s.1 s.2.1 s.2.2) (fun s => mu5 s.1 s.2.2) ((q6.wrap (a1 + 1)), None, w3) ⟨rfl, hm, hs, hb, h0⟩ ?_
  rintro ⟨i5, Hl5, wl5⟩ ρ w ⟨hw, hH, hs, hb, hI⟩
  obtain rfl : wl5 = w := (show w = wl5 from hw).symm
  have hH : Has ρ [(0, data1.v), (1, (vi a1)), (10, (vi i5)), (11, (vi (q6.wrap (b1 - 1))))] := hH
  have hs : Hst w0 Hl5 wl5 Hl5 wl5 := hs
  have hb : HB Hl5 wl5 [] := hb
  have h := hr i5 Hl5 wl5 hs hI
  unfold m_D_l9 at h
  refine wpE_has hH ?_
  refine wpE_seq (wpE_seq (wpE_drawnC (fun x => ∃ H', Hst w0 Hl5 wl5 H' x ∧ HB H' x []) [12] [] (by kernel_rfl) (by kernel_rfl) (by kernel_rfl) (by kernel_rfl) ⟨_, hs.drew, hb.drew⟩ ?_))
  intro w31 hw31
  have hs : Hst w0 Hl5 wl5 Hl5 w31 := by rw [hw31]; exact hs.drew
  have hb : HB Hl5 w31 [] := by rw [hw31]; exact hb.drew
  refine qx 0 (vi i5) Kp0 (qx 1 (vi (q6.wrap (b1 - 1))) Kp1 (qx 2 (vb (decide (i5 ≤ (q6.wrap (b1 - 1))))) Kp2 (qx 3 (vb (decide (i5 ≤ (q6.wrap (b1 - 1))))) Kp3 (qg 4 ?_))))
  rcases Bool.eq_false_or_eq_true (decide (i5 ≤ (q6.wrap (b1 - 1)))) with hg4 | hg4
  ·have h := h.1 hg4
   refine sz (v := data1.v) Kp4 (want1 rfl (yD 33 hg4)) (fun _ _ => (by kernel_rfl)) (qw 5 (vi i5) Kp5 (want1 rfl (yD 33 hg4)) (qg 6 ?_))
   obtain ⟨a28, hv40, h⟩ := h
   refine sz (v := (vp (some a28))) Kp6 (want1 rfl (yD 33 hg4)) (fun _ _ => (xi (Tryz.runUnderlying52 _) (Tryz.sizeOf30 _) hv40)) (qg 7 ?_)
   obtain ⟨v17, hv39, hnh, h⟩ := h
   refine sz (v := (vi v17)) Kp7 (want1 rfl (yD 33 hg4)) (fun w' hw' => by obtain ⟨H', hs', hb'⟩ := hw'; exact (xl (Tryz.isAgg30 _) (cell_hst hv39 hnh hs'))) ?_
   refine qw 8 data1.v Kp8 (want1 rfl (yD 33 hg4)) (qw 9 (vi a1) Kp9 (want1 rfl (yD 33 hg4)) (qg 10 ?_))
   obtain ⟨a29, hv38, h⟩ := h
   refine sz (v := (vp (some a29))) (pickA (S8 (pickS (pickS pickZ)))) (want1 rfl (yD 33 hg4)) (fun _ _ => (xi (Tryz.runUnderlying52 _) (Tryz.sizeOf30 _) hv38)) (qg 11 ?_)
   obtain ⟨v18, hv37, hnh, h⟩ := h
   refine sz (v := (vi v18)) (pickA (S8 (pickS (pickS (pickS pickZ))))) (want1 rfl (yD 33 hg4)) (fun w' hw' => by obtain ⟨H', hs', hb'⟩ := hw'; exact (xl (Tryz.isAgg30 _) (cell_hst hv37 hnh hs'))) ?_
   refine wpX_via (fun ρ wJ => ∃ HJ : NP, Hst w0 Hl5 wl5 HJ wJ ∧ HB HJ wJ [] ∧ Has ρ [(0, data1.v), (1, (vi a1)), (10, (vi i5)), (11, (vi (q6.wrap (b1 - 1)))), (43, (vb (s_A v17 v18)))]) ?_ ?_
   ·refine lg 12 ?_
    refine sl_call (pickA (S8 (S4 pickZ))) (want1 rfl (yD 33 hg4)) (by kernel_rfl) (xc Tryz.call163) ((p_A v17 v18 w31).mono ?_)
    rintro e w34 ⟨he, hE⟩
    have hs := hs.pure hE
    have hb := hb.pure hE
    refine ⟨(vb (s_A v17 v18)), he.trans (by kernel_rfl), .inr ⟨_, hs, hb⟩, ?_⟩
    refine qz 13 (vb (s_A v17 v18)) (pickA (S8 (S4 (pickS pickZ)))) (fun _ _ => (xT hg4)) (wn ?_)
    exact ⟨_, hs, hb, hm⟩
   ·rintro ρ w33 ⟨H7, hs, hb, hH⟩
    refine q_has hH ?_
    refine th_n ?_
    refine wpE_cond (t := (s_A v17 v18)) (by kernel_rfl) (fun hc6 => ?_) (fun hc6 => ?_)
    ·have h := h.1 hc6
     refine wpE_skip (th_n (wpE_block (rg (q0 (vi i5) (q0 (vi (q6.wrap (i5 + 1))) (q0 (vi (q6.wrap (i5 + 1))) (wpL_nil (bl_n ?_))))))))
     have h := h H7 w33 hs
     have hs := hs.here
     refine th_n ?_
     exact ⟨((q6.wrap (i5 + 1)), H7, w33), ⟨rfl, hm, hs, hb, h.1⟩, h.2⟩
    ·have h := h.2 hc6
     refine wpE_exit (th_x (th_x (bl_eq ?_)))
     have h := h H7 w33 hs
     have hs := hs.here
     refine th_n ?_
     exact ⟨i5, H7, hm, hs, hb, h⟩
  ·have h := h.2 hg4
   refine sx_not Kp4 (unwant rfl (yD 33 hg4) rfl) (qn 5 Kp5 (unwant rfl (yD 33 hg4) rfl) (qn 6 Kp6 (unwant rfl (yD 33 hg4) rfl) (qn 7 Kp7 (unwant rfl (yD 33 hg4) rfl) (qn 8 Kp8 (unwant rfl (yD 33 hg4) rfl) (qn 9 Kp9 (unwant rfl (yD 33 hg4) rfl) (qn 10 (pickA (S8 (pickS (pickS pickZ)))) (unwant rfl (yD 33 hg4) rfl) (qn 11 (pickA (S8 (pickS (pickS (pickS pickZ))))) (unwant rfl (yD 33 hg4) rfl) ?_)))))))
   refine wpX_via (fun ρ wJ => ∃ HJ : NP, Hst w0 Hl5 wl5 HJ wJ ∧ HB HJ wJ [] ∧ Has ρ [(0, data1.v), (1, (vi a1)), (10, (vi i5)), (11, (vi (q6.wrap (b1 - 1)))), (43, (vb false))]) ?_ ?_
   ·refine lg 12 (sx_not (pickA (S8 (S4 pickZ))) (unwant rfl (yD 33 hg4) rfl) (qz 13 (vb false) (pickA (S8 (S4 (pickS pickZ)))) (fun _ _ => (xF hg4)) (wn ?_)))
    exact ⟨_, hs, hb, hm⟩
   ·rintro ρ w35 ⟨H8, hs, hb, hH⟩
    refine q_has hH ?_
    refine th_n (wpE_condF (by kernel_rfl) (wpE_exit (th_x (th_x (bl_eq ?_)))))
    have h := h H8 w35 hs
    have hs := hs.here
    refine th_n ?_
    exact ⟨i5, H8, hm, hs, hb, h⟩
def m_N_j4 (data1 : Sl) (a2 b2 : Int) (wasBalanced1 wasPartitioned1 : Bool) (limit3 pivot1 : Int) (w0 : World) (H : NP) (w : World) (Kc1 : Int → Int → Int → Bool → Bool → NP → WP) (_K : WP) : Prop :=
 Br (decide (a2 > 0))
  (∃ a3 : Addr, At data1 (q6.wrap (a2 - 1)) 1 a3 ∧
  ∃ v1 : Int, w.cell? a3 = some (vi v1) ∧ ¬ H a3.block ∧
  ∃ a4 : Addr, At data1 pivot1 1 a4 ∧
  ∃ v2 : Int, w.cell? a4 = some (vi v2) ∧ ¬ H a4.block ∧
  Br (!(s_A v1 v2))
   (∀ (H4 : NP) (w9 : World), Hst w0 H w H4 w9 →
   Calls Tryz.prog 164 #[data1.v, (vi a2), (vi b2), (vi pivot1)] w9 (fun e w11 => ∃ r3 : Int, e = .returned (vi r3) ∧ 
    Kept H4 w9 w11 ∧
    Kc1 r3 b2 limit3 wasBalanced1 wasPartitioned1 H4 w11))
   (∀ (H4 : NP) (w9 : World), Hst w0 H w H4 w9 →
   Calls Tryz.prog 165 #[data1.v, (vi a2), (vi b2), (vi pivot1)] w9 (fun e w12 => ∃ r4 : Int, ∃ r5 : Bool, e = .returned (.tuple #[(vi r4), (vb r5)]) ∧ 
    Kept H4 w9 w12 ∧
    ∃ z1 : Int, (Go.binOp .quo 3 (vi (q6.wrap (b2 - a2))) (vi 8)).run Tryz.prog w12 = .ok (vi z1) w12 ∧
    Br (decide ((q6.wrap (r4 - a2)) < (q6.wrap (b2 - r4))))
     (Calls Tryz.prog 154 #[data1.v, (vi a2), (vi r4), (vi limit3)] w12 (fun e w13 => e = .returned (.tuple #[]) ∧ 
      Kept H4 w12 w13 ∧
      Kc1 (q6.wrap (r4 + 1)) b2 limit3 (decide ((q6.wrap (r4 - a2)) ≥ z1)) r5 H4 w13))
     (Calls Tryz.prog 154 #[data1.v, (vi (q6.wrap (r4 + 1))), (vi b2), (vi limit3)] w12 (fun e w14 => e = .returned (.tuple #[]) ∧ 
      Kept H4 w12 w14 ∧
      Kc1 a2 r4 limit3 (decide ((q6.wrap (b2 - r4)) ≥ z1)) r5 H4 w14)))))
  (∀ (H5 : NP) (w15 : World), Hst w0 H w H5 w15 →
  Calls Tryz.prog 165 #[data1.v, (vi a2), (vi b2), (vi pivot1)] w15 (fun e w16 => ∃ r6 : Int, ∃ r7 : Bool, e = .returned (.tuple #[(vi r6), (vb r7)]) ∧ 
   Kept H5 w15 w16 ∧
   ∃ z2 : Int, (Go.binOp .quo 3 (vi (q6.wrap (b2 - a2))) (vi 8)).run Tryz.prog w16 = .ok (vi z2) w16 ∧
   Br (decide ((q6.wrap (r6 - a2)) < (q6.wrap (b2 - r6))))
    (Calls Tryz.prog 154 #[data1.v, (vi a2), (vi r6), (vi limit3)] w16 (fun e w17 => e = .returned (.tuple #[]) ∧ 
     Kept H5 w16 w17 ∧
     Kc1 (q6.wrap (r6 + 1)) b2 limit3 (decide ((q6.wrap (r6 - a2)) ≥ z2)) r7 H5 w17))
    (Calls Tryz.prog 154 #[data1.v, (vi (q6.wrap (r6 + 1))), (vi b2), (vi limit3)] w16 (fun e w18 => e = .returned (.tuple #[]) ∧ 
     Kept H5 w16 w18 ∧
     Kc1 a2 r6 limit3 (decide ((q6.wrap (b2 - r6)) ≥ z2)) r7 H5 w18))))
def m_N_j3 (data1 : Sl) (a2 b2 : Int) (wasBalanced1 wasPartitioned1 : Bool) (limit3 pivot1 hint1 : Int) (w0 : World) (H : NP) (w : World) (Kc1 : Int → Int → Int → Bool → Bool → NP → WP) (K : WP) : Prop :=
 Br ((wasBalanced1 && wasPartitioned1) && (hint1 == 1))
  (∀ (H2 : NP) (w5 : World), Hst w0 H w H2 w5 →
  Calls Tryz.prog 162 #[data1.v, (vi a2), (vi b2)] w5 (fun e w19 => ∃ r8 : Bool, e = .returned (vb r8) ∧ 
   Kept H2 w5 w19 ∧
   Br r8
    (K w19)
    (m_N_j4 data1 a2 b2 wasBalanced1 wasPartitioned1 limit3 pivot1 w0 H2 w19 Kc1 K)))
  (∀ (H2 : NP) (w5 : World), Hst w0 H w H2 w5 →
  m_N_j4 data1 a2 b2 wasBalanced1 wasPartitioned1 limit3 pivot1 w0 H2 w5 Kc1 K)
def m_N_j2 (data1 : Sl) (a2 b2 : Int) (wasBalanced1 wasPartitioned1 : Bool) (limit3 : Int) (w0 : World) (H : NP) (w : World) (Kc1 : Int → Int → Int → Bool → Bool → NP → WP) (K : WP) : Prop :=
 Calls Tryz.prog 160 #[data1.v, (vi a2), (vi b2)] w (fun e w3 => ∃ r1 r2 : Int, e = .returned (.tuple #[(vi r1), (vi r2)]) ∧ 
  Kept H w w3 ∧
  Br (r2 == 2)
   (Calls Tryz.prog 161 #[data1.v, (vi a2), (vi b2)] w3 (fun e w20 => e = .returned (.tuple #[]) ∧ 
    Kept H w3 w20 ∧
    m_N_j3 data1 a2 b2 wasBalanced1 wasPartitioned1 limit3 (q6.wrap ((q6.wrap (b2 - 1)) - (q6.wrap (r1 - a2)))) 1 w0 H w20 Kc1 K))
   (m_N_j3 data1 a2 b2 wasBalanced1 wasPartitioned1 limit3 r1 r2 w0 H w3 Kc1 K))
def m_N_l1 (data1 : Sl) (a2 b2 limit2 : Int) (wasBalanced1 wasPartitioned1 : Bool) (w0 : World) (Hl1 : NP) (wl1 : World) (Kc1 : Int → Int → Int → Bool → Bool → NP → WP) (K : WP) : Prop :=
 Br (decide ((q6.wrap (b2 - a2)) ≤ 12))
  (Calls Tryz.prog 157 #[data1.v, (vi a2), (vi b2)] wl1 (fun e w1 => e = .returned (.tuple #[]) ∧ 
   Kept Hl1 wl1 w1 ∧
   K w1))
  (Br (limit2 == 0)
   (Calls Tryz.prog 158 #[data1.v, (vi a2), (vi b2)] wl1 (fun e w2 => e = .returned (.tuple #[]) ∧ 
    Kept Hl1 wl1 w2 ∧
    K w2))
   (Br (!wasBalanced1)
    (Calls Tryz.prog 159 #[data1.v, (vi a2), (vi b2)] wl1 (fun e w21 => e = .returned (.tuple #[]) ∧ 
     Kept Hl1 wl1 w21 ∧
     m_N_j2 data1 a2 b2 wasBalanced1 wasPartitioned1 (q6.wrap (limit2 - 1)) w0 Hl1 w21 Kc1 K))
    (m_N_j2 data1 a2 b2 wasBalanced1 wasPartitioned1 limit2 w0 Hl1 wl1 Kc1 K)))
def m_N (data1 : Sl) (a1 b1 limit1 : Int) (w0 : World) (K : WP) : Prop :=
 ∃ (I1 : Int → Int → Int → Bool → Bool → NP → WP) (mu1 : Int → Int → Int → Bool → Bool → World → Nat), I1 a1 b1 limit1 true true None w0 ∧
  ∀ (a2 b2 limit2 : Int) (wasBalanced1 wasPartitioned1 : Bool) (Hl1 : NP) (wl1 : World), Hst w0 Hl1 wl1 Hl1 wl1 → I1 a2 b2 limit2 wasBalanced1 wasPartitioned1 Hl1 wl1 → m_N_l1 data1 a2 b2 limit2 wasBalanced1 wasPartitioned1 w0 Hl1 wl1 (fun y'0 y'1 y'2 y'3 y'4 H' w' => I1 y'0 y'1 y'2 y'3 y'4 H' w' ∧ mu1 y'0 y'1 y'2 y'3 y'4 w' < mu1 a2 b2 limit2 wasBalanced1 wasPartitioned1 wl1) K
theorem w_N (data1 : Sl) (a1 b1 limit1 : Int) (w0 : World) (K : WP) (h : m_N data1 a1 b1 limit1 w0 K) :
  Calls Tryz.prog 154 #[data1.v, (vi a1), (vi b1), (vi limit1)] w0 (fun e w' => e = .returned (.tuple #[]) ∧ K  w') := by
 unfold m_N at h
 refine cw (args := [data1.v, (vi a1), (vi b1), (vi limit1)]) Tryz.func154 Tryz.ntmps154 ?_
 have hs := Hst.start w0
 have hb := HB.nil None w0
 refine wpE_seq (rg (q0 (vb true) (wpL_nil (th_n (wpE_seq (rg (q0 (vb true) (wpL_nil (th_n (wpE_block ?_))))))))))
 obtain ⟨I1, mu1, h0, hr⟩ := h
 refine wpE_loop (σ := Int × Int × Int × Bool × Bool × NP × World) (fun s ρ w => w = s.2.2.2.2.2.2 ∧ Has ρ [(0, data1.v), (1, (vi s.1)), (2, (vi s.2.1)), (3, (vi s.2.2.1)), (8, (vb s.2.2.2.1)), (9, (vb s.2.2.2.2.1))] ∧ Hst w0 s.2.2.2.2.2.1 w s.2.2.2.2.2.1 w ∧ HB s.2.2.2.2.2.1 w [] ∧ I1 s.1 s.2.1 s.2.2.1 s.2.2.2.1 s.2.2.2.2.1 s.2.2.2.2.2.1 s.2.2.2.2.2.2) (fun s => mu1 s.1 s.2.1 s.2.2.1 s.2.2.2.1 s.2.2.2.2.1 s.2.2.2.2.2.2) (a1, b1, limit1, true, true, None, w0) ⟨rfl, hm, hs, hb, h0⟩ ?_
 rintro ⟨a2, b2, limit2, wasBalanced1, wasPartitioned1, Hl1, wl1⟩ ρ w ⟨hw, hH, hs, hb, hI⟩
 obtain rfl : wl1 = w := (show w = wl1 from hw).symm
 have hH : Has ρ [(0, data1.v), (1, (vi a2)), (2, (vi b2)), (3, (vi limit2)), (8, (vb wasBalanced1)), (9, (vb wasPartitioned1))] := hH
 have hs : Hst w0 Hl1 wl1 Hl1 wl1 := hs
 have hb : HB Hl1 wl1 [] := hb
 have h := hr a2 b2 limit2 wasBalanced1 wasPartitioned1 Hl1 wl1 hs hI
 unfold m_N_l1 at h
 refine wpE_has hH ?_
 refine wpE_block (wpE_seq (rg (q0 (vi b2) (q0 (vi a2) (q0 (vi (q6.wrap (b2 - a2))) (q0 (vi (q6.wrap (b2 - a2))) (wpL_nil (th_n (wpE_seq (wpE_seq (rg ?_)))))))))))
 refine q0 (vi (q6.wrap (b2 - a2))) (q0 (vb (decide ((q6.wrap (b2 - a2)) ≤ 12))) (wpL_nil (th_n ?_)))
 refine wpE_cond (t := (decide ((q6.wrap (b2 - a2)) ≤ 12))) (by kernel_rfl) (fun hc1 => ?_) (fun hc1 => ?_)
 ·have h := h.1 hc1
  refine wpE_seq (rg (q0 data1.v (q0 (vi a2) (q0 (vi b2) ?_))))
  refine sc Tryz.call157 (h.mono ?_)
  rintro e w1 ⟨rfl, hk, h⟩
  refine ⟨_, rfl, ?_⟩
  obtain ⟨hs, hb⟩ := hk.hh hs hb
  refine wpL_nil (th_n (wpE_ret (th_r (bl_r (th_r (bl_r (res0 (.inl rfl) Tryz.results154 ?_)))))))
  exact ⟨rfl, h⟩
 ·have h := h.2 hc1
  refine wpE_skip (th_n (wpE_seq (wpE_seq (rg (q0 (vi limit2) (q0 (vb (limit2 == 0)) (wpL_nil (th_n ?_))))))))
  refine wpE_cond (t := (limit2 == 0)) (by kernel_rfl) (fun hc2 => ?_) (fun hc2 => ?_)
  ·have h := h.1 hc2
   refine wpE_seq (rg (q0 data1.v (q0 (vi a2) (q0 (vi b2) ?_))))
   refine sc Tryz.call158 (h.mono ?_)
   rintro e w2 ⟨rfl, hk, h⟩
   refine ⟨_, rfl, ?_⟩
   obtain ⟨hs, hb⟩ := hk.hh hs hb
   refine wpL_nil (th_n (wpE_ret (th_r (bl_r (th_r (bl_r (res0 (.inl rfl) Tryz.results154 ?_)))))))
   exact ⟨rfl, h⟩
  ·have h := h.2 hc2
   refine wpE_skip (th_n (wpE_seq (wpE_seq (rg (q0 (vb wasBalanced1) (q0 (vb (!wasBalanced1)) (wpL_nil (th_n ?_))))))))
   refine wpE_joinT (fun ρ w => ∃ limit3 : Int, ∃ H : NP, Has ρ [(0, data1.v), (1, (vi a2)), (2, (vi b2)), (3, (vi limit3)), (8, (vb wasBalanced1)), (9, (vb wasPartitioned1)), (10, (vi (q6.wrap (b2 - a2))))] ∧ Hst w0 H w H w ∧ HB H w [] ∧ m_N_j2 data1 a2 b2 wasBalanced1 wasPartitioned1 limit3 w0 H w (fun y'0 y'1 y'2 y'3 y'4 H' w' => I1 y'0 y'1 y'2 y'3 y'4 H' w' ∧ mu1 y'0 y'1 y'2 y'3 y'4 w' < mu1 a2 b2 limit2 wasBalanced1 wasPartitioned1 wl1) K) ?_ ?_
   ·rintro ρ w ⟨limit3, H, hH, hs, hb, h⟩
    unfold m_N_j2 at h
    refine wpE_has hH ?_
    refine wpE_seq (rg (q0 data1.v (q0 (vi a2) (q0 (vi b2) ?_))))
    refine sc Tryz.call160 (h.mono ?_)
    rintro e w3 ⟨r1, r2, rfl, hk, h⟩
    refine ⟨_, rfl, ?_⟩
    obtain ⟨hs, hb⟩ := hk.hh hs hb
    refine q0 (.tuple #[(vi r1), (vi r2)]) (q0 (vi r1) (q0 (vi r2) (q0 (vi r1) (q0 (vi r2) (wpL_nil (th_n (wpE_seq (wpE_seq (rg (q0 (vi r2) (q0 (vb (r2 == 2)) ?_)))))))))))
    refine wpL_nil (th_n ?_)
    refine wpE_joinT (fun ρ w => ∃ pivot1 hint1 : Int, ∃ H : NP, Has ρ [(0, data1.v), (1, (vi a2)), (2, (vi b2)), (3, (vi limit3)), (8, (vb wasBalanced1)), (9, (vb wasPartitioned1)), (10, (vi (q6.wrap (b2 - a2)))), (11, (vi pivot1)), (12, (vi hint1))] ∧ Hst w0 H w H w ∧ HB H w [] ∧ m_N_j3 data1 a2 b2 wasBalanced1 wasPartitioned1 limit3 pivot1 hint1 w0 H w (fun y'0 y'1 y'2 y'3 y'4 H' w' => I1 y'0 y'1 y'2 y'3 y'4 H' w' ∧ mu1 y'0 y'1 y'2 y'3 y'4 w' < mu1 a2 b2 limit2 wasBalanced1 wasPartitioned1 wl1) K) ?_ ?_
    ·rintro ρ w ⟨pivot1, hint1, H, hH, hs, hb, h⟩
     unfold m_N_j3 at h
     refine wpE_has hH ?_
     refine wpE_seq (wpE_seq ?_)
     refine wpE_via (fun ρ wJ => ∃ b4'0 : Bool, ∃ HJ : NP, ((wasBalanced1 && wasPartitioned1) = b4'0) ∧ Hst w0 H w HJ wJ ∧ HB HJ wJ [] ∧ Has ρ [(0, data1.v), (1, (vi a2)), (2, (vi b2)), (3, (vi limit3)), (8, (vb wasBalanced1)), (9, (vb wasPartitioned1)), (10, (vi (q6.wrap (b2 - a2)))), (11, (vi pivot1)), (68, (vb (b4'0 && (hint1 == 1))))]) ?_ ?_
     ·refine rg (q0 (vb wasBalanced1) (q0 (vb wasBalanced1) ?_))
      refine wpL_join 2 (fun ρ wJ => ∃ b5'0 : Bool, ∃ HJ : NP, (wasBalanced1 = b5'0) ∧ Hst w0 H w HJ wJ ∧ HB HJ wJ [] ∧ Has ρ [(0, data1.v), (1, (vi a2)), (2, (vi b2)), (3, (vi limit3)), (8, (vb wasBalanced1)), (9, (vb wasPartitioned1)), (10, (vi (q6.wrap (b2 - a2)))), (11, (vi pivot1)), (12, (vi hint1)), (64, (vb (b5'0 && wasPartitioned1)))]) ?_ ?_
      ·rintro ρ w6 ⟨b5'0, H3, he0, hs, hb, hH⟩
       subst he0
       refine wpL_has hH ?_
       refine q0 (vb (wasBalanced1 && wasPartitioned1)) ?_
       rcases Bool.eq_false_or_eq_true (wasBalanced1 && wasPartitioned1) with hg6 | hg6
       ·refine q1 (vi hint1) (want1 rfl (yD 65 hg6)) (q1 (vb (hint1 == 1)) (want1 rfl (yD 65 hg6)) (q2 (vb (hint1 == 1)) (xT hg6) (wpL_nil (th_n ?_))))
        exact ⟨true, _, hg6, hs, hb, hm⟩
       ·refine sk (yD 65 hg6) (sk (yD 65 hg6) (q2 (vb false) (xF hg6) (wpL_nil (th_n ?_))))
        exact ⟨false, _, hg6, hs, hb, hm⟩
      ·rcases Bool.eq_false_or_eq_true wasBalanced1 with hg5 | hg5
       ·refine q1 (vb wasPartitioned1) (want1 rfl (yD 62 hg5)) (q2 (vb wasPartitioned1) (xT hg5) (wpL_nil ?_))
        exact ⟨true, _, hg5, hs, hb, hm⟩
       ·refine sk (yD 62 hg5) (q2 (vb false) (xF hg5) (wpL_nil ?_))
        exact ⟨false, _, hg5, hs, hb, hm⟩
     ·rintro ρ w5 ⟨b4'0, H2, he0, hs, hb, hH⟩
      subst he0
      refine norm_has hH ?_
      refine th_n ?_
      refine wpE_joinT (fun ρ w => ∃ H : NP, Has ρ [(0, data1.v), (1, (vi a2)), (2, (vi b2)), (3, (vi limit3)), (8, (vb wasBalanced1)), (9, (vb wasPartitioned1)), (10, (vi (q6.wrap (b2 - a2)))), (11, (vi pivot1))] ∧ Hst w0 H w H w ∧ HB H w [] ∧ m_N_j4 data1 a2 b2 wasBalanced1 wasPartitioned1 limit3 pivot1 w0 H w (fun y'0 y'1 y'2 y'3 y'4 H' w' => I1 y'0 y'1 y'2 y'3 y'4 H' w' ∧ mu1 y'0 y'1 y'2 y'3 y'4 w' < mu1 a2 b2 limit2 wasBalanced1 wasPartitioned1 wl1) K) ?_ ?_
      ·rintro ρ w ⟨H, hH, hs, hb, h⟩
       unfold m_N_j4 at h
       refine wpE_has hH ?_
       refine wpE_seq (wpE_seq (wpE_drawnC (fun x => ∃ H', Hst w0 H w H' x ∧ HB H' x []) [12] [] (by kernel_rfl) (by kernel_rfl) (by kernel_rfl) (by kernel_rfl) ⟨_, hs.drew, hb.drew⟩ ?_))
       intro w7 hw7
       have hs : Hst w0 H w H w7 := by rw [hw7]; exact hs.drew
       have hb : HB H w7 [] := by rw [hw7]; exact hb.drew
       refine qx 0 (vi a2) Kp0 (qx 1 (vb (decide (a2 > 0))) Kp1 (qx 2 (vb (decide (a2 > 0))) Kp2 (qg 3 ?_)))
       rcases Bool.eq_false_or_eq_true (decide (a2 > 0)) with hg7 | hg7
       ·have h := h.1 hg7
        refine sz (v := data1.v) Kp3 (want1 rfl (yD 75 hg7)) (fun _ _ => (by kernel_rfl)) (qw 4 (vi a2) Kp4 (want1 rfl (yD 75 hg7)) (qw 5 (vi (q6.wrap (a2 - 1))) Kp5 (want1 rfl (yD 75 hg7)) (qg 6 ?_)))
        obtain ⟨a3, hv5, h⟩ := h
        refine sz (v := (vp (some a3))) Kp6 (want1 rfl (yD 75 hg7)) (fun _ _ => (xi (Tryz.runUnderlying52 _) (Tryz.sizeOf30 _) hv5)) (qg 7 ?_)
        obtain ⟨v1, hv4, hnh, h⟩ := h
        refine sz (v := (vi v1)) Kp7 (want1 rfl (yD 75 hg7)) (fun w' hw' => by obtain ⟨H', hs', hb'⟩ := hw'; exact (xl (Tryz.isAgg30 _) (cell_hst hv4 hnh hs'))) ?_
        refine qw 8 data1.v Kp8 (want1 rfl (yD 75 hg7)) (qw 9 (vi pivot1) Kp9 (want1 rfl (yD 75 hg7)) (qg 10 ?_))
        obtain ⟨a4, hv3, h⟩ := h
        refine sz (v := (vp (some a4))) (pickA (S8 (pickS (pickS pickZ)))) (want1 rfl (yD 75 hg7)) (fun _ _ => (xi (Tryz.runUnderlying52 _) (Tryz.sizeOf30 _) hv3)) (qg 11 ?_)
        obtain ⟨v2, hv2, hnh, h⟩ := h
        refine sz (v := (vi v2)) (pickA (S8 (pickS (pickS (pickS pickZ))))) (want1 rfl (yD 75 hg7)) (fun w' hw' => by obtain ⟨H', hs', hb'⟩ := hw'; exact (xl (Tryz.isAgg30 _) (cell_hst hv2 hnh hs'))) ?_
        refine wpX_via (fun ρ wJ => ∃ HJ : NP, Hst w0 H w HJ wJ ∧ HB HJ wJ [] ∧ Has ρ [(0, data1.v), (1, (vi a2)), (2, (vi b2)), (3, (vi limit3)), (8, (vb wasBalanced1)), (9, (vb wasPartitioned1)), (10, (vi (q6.wrap (b2 - a2)))), (11, (vi pivot1)), (87, (vb (!(s_A v1 v2))))]) ?_ ?_
        ·refine lg 12 ?_
         refine sl_call (pickA (S8 (S4 pickZ))) (want1 rfl (yD 75 hg7)) (by kernel_rfl) (xc Tryz.call163) ((p_A v1 v2 w7).mono ?_)
         rintro e w10 ⟨he, hE⟩
         have hs := hs.pure hE
         have hb := hb.pure hE
         refine ⟨(vb (s_A v1 v2)), he.trans (by kernel_rfl), .inr ⟨_, hs, hb⟩, ?_⟩
         refine qw 13 (vb (!(s_A v1 v2))) (pickA (S8 (S4 (pickS pickZ)))) (want1 rfl (yD 75 hg7)) (qz 14 (vb (!(s_A v1 v2))) (pickA (S8 (S4 (pickS (pickS pickZ))))) (fun _ _ => (xT hg7)) (wn ?_))
         exact ⟨_, hs, hb, hm⟩
        ·rintro ρ w9 ⟨H4, hs, hb, hH⟩
         refine q_has hH ?_
         refine th_n ?_
         refine wpE_cond (t := (!(s_A v1 v2))) (by kernel_rfl) (fun hc3 => ?_) (fun hc3 => ?_)
         ·have h := h.1 hc3
          refine wpE_seq (rg (q0 data1.v (q0 (vi a2) (q0 (vi b2) (q0 (vi pivot1) ?_)))))
          have h := h H4 w9 hs
          have hs := hs.here
          refine sc Tryz.call164 (h.mono ?_)
          rintro e w11 ⟨r3, rfl, hk, h⟩
          refine ⟨_, rfl, ?_⟩
          obtain ⟨hs, hb⟩ := hk.hh hs hb
          refine q0 (vi r3) (wpL_nil (th_n (wpE_seq (rg (q0 (vi r3) (q0 (vi r3) (wpL_nil (th_n (wpE_exit (th_x (bl_eq ?_)))))))))))
          refine th_n ?_
          exact ⟨(r3, b2, limit3, wasBalanced1, wasPartitioned1, H4, w11), ⟨rfl, hm, hs, hb, h.1⟩, h.2⟩
         ·have h := h.2 hc3
          refine wpE_skip (th_n (wpE_seq (rg (q0 data1.v (q0 (vi a2) (q0 (vi b2) (q0 (vi pivot1) ?_)))))))
          have h := h H4 w9 hs
          have hs := hs.here
          refine sc Tryz.call165 (h.mono ?_)
          rintro e w12 ⟨r4, r5, rfl, hk, h⟩
          refine ⟨_, rfl, ?_⟩
          obtain ⟨hs, hb⟩ := hk.hh hs hb
          refine q0 (.tuple #[(vi r4), (vb r5)]) (q0 (vi r4) (q0 (vb r5) (q0 (vi r4) (q0 (vb r5) (wpL_nil (th_n (wpE_seq (rg (q0 (vb r5) (q0 (vb r5) (wpL_nil ?_)))))))))))
          refine th_n (wpE_seq (rg (q0 (vi r4) (q0 (vi a2) (q0 (vi (q6.wrap (r4 - a2))) (q0 (vi b2) (q0 (vi r4) (q0 (vi (q6.wrap (b2 - r4))) (q0 (vi (q6.wrap (r4 - a2))) (q0 (vi (q6.wrap (b2 - r4))) (wpL_nil ?_)))))))))))
          refine th_n (wpE_seq (rg (q0 (vi (q6.wrap (b2 - a2))) ?_)))
          obtain ⟨z1, hv1, h⟩ := h
          refine q2 (vi z1) (x_bin (by kernel_rfl) (by kernel_rfl) (by kernel_rfl) hv1) (q0 (vi z1) (wpL_nil (th_n (wpE_seq (rg (q0 (vi (q6.wrap (r4 - a2))) (q0 (vi (q6.wrap (b2 - r4))) (q0 (vb (decide ((q6.wrap (r4 - a2)) < (q6.wrap (b2 - r4))))) (wpL_nil (th_n ?_))))))))))
          refine wpE_cond (t := (decide ((q6.wrap (r4 - a2)) < (q6.wrap (b2 - r4))))) (by kernel_rfl) (fun hc4 => ?_) (fun hc4 => ?_)
          ·have h := h.1 hc4
           refine wpE_seq (rg (q0 (vi (q6.wrap (r4 - a2))) (q0 (vi z1) (q0 (vb (decide ((q6.wrap (r4 - a2)) ≥ z1))) (q0 (vb (decide ((q6.wrap (r4 - a2)) ≥ z1))) (wpL_nil (th_n (wpE_seq (rg (q0 data1.v (q0 (vi a2) ?_)))))))))))
           refine q0 (vi r4) (q0 (vi limit3) ?_)
           refine sc Tryz.call154 (h.mono ?_)
           rintro e w13 ⟨rfl, hk, h⟩
           refine ⟨_, rfl, ?_⟩
           obtain ⟨hs, hb⟩ := hk.hh hs hb
           refine wpL_nil (th_n (rg (q0 (vi r4) (q0 (vi (q6.wrap (r4 + 1))) (q0 (vi (q6.wrap (r4 + 1))) (wpL_nil (bl_n (th_n ?_))))))))
           exact ⟨((q6.wrap (r4 + 1)), b2, limit3, (decide ((q6.wrap (r4 - a2)) ≥ z1)), r5, H4, w13), ⟨rfl, hm, hs, hb, h.1⟩, h.2⟩
          ·have h := h.2 hc4
           refine wpE_seq (rg (q0 (vi (q6.wrap (b2 - r4))) (q0 (vi z1) (q0 (vb (decide ((q6.wrap (b2 - r4)) ≥ z1))) (q0 (vb (decide ((q6.wrap (b2 - r4)) ≥ z1))) (wpL_nil (th_n (wpE_seq (rg (q0 data1.v (q0 (vi r4) ?_)))))))))))
           refine q0 (vi (q6.wrap (r4 + 1))) (q0 (vi b2) (q0 (vi limit3) ?_))
           refine sc Tryz.call154 (h.mono ?_)
           rintro e w14 ⟨rfl, hk, h⟩
           refine ⟨_, rfl, ?_⟩
           obtain ⟨hs, hb⟩ := hk.hh hs hb
           refine wpL_nil (th_n (rg (q0 (vi r4) (q0 (vi r4) (wpL_nil (bl_n (th_n ?_)))))))
           exact ⟨(a2, r4, limit3, (decide ((q6.wrap (b2 - r4)) ≥ z1)), r5, H4, w14), ⟨rfl, hm, hs, hb, h.1⟩, h.2⟩
       ·have h := h.2 hg7
        refine sx_not Kp3 (unwant rfl (yD 75 hg7) rfl) (qn 4 Kp4 (unwant rfl (yD 75 hg7) rfl) (qn 5 Kp5 (unwant rfl (yD 75 hg7) rfl) (qn 6 Kp6 (unwant rfl (yD 75 hg7) rfl) (qn 7 Kp7 (unwant rfl (yD 75 hg7) rfl) (qn 8 Kp8 (unwant rfl (yD 75 hg7) rfl) (qn 9 Kp9 (unwant rfl (yD 75 hg7) rfl) (qn 10 (pickA (S8 (pickS (pickS pickZ)))) (unwant rfl (yD 75 hg7) rfl) (qn 11 (pickA (S8 (pickS (pickS (pickS pickZ))))) (unwant rfl (yD 75 hg7) rfl) ?_))))))))
        refine wpX_via (fun ρ wJ => ∃ HJ : NP, Hst w0 H w HJ wJ ∧ HB HJ wJ [] ∧ Has ρ [(0, data1.v), (1, (vi a2)), (2, (vi b2)), (3, (vi limit3)), (8, (vb wasBalanced1)), (9, (vb wasPartitioned1)), (10, (vi (q6.wrap (b2 - a2)))), (11, (vi pivot1)), (87, (vb false))]) ?_ ?_
        ·refine lg 12 (sx_not (pickA (S8 (S4 pickZ))) (unwant rfl (yD 75 hg7) rfl) (qn 13 (pickA (S8 (S4 (pickS pickZ)))) (unwant rfl (yD 75 hg7) rfl) (qz 14 (vb false) (pickA (S8 (S4 (pickS (pickS pickZ))))) (fun _ _ => (xF hg7)) (wn ?_))))
         exact ⟨_, hs, hb, hm⟩
        ·rintro ρ w15 ⟨H5, hs, hb, hH⟩
         refine q_has hH ?_
         refine th_n (wpE_condF (by kernel_rfl) (wpE_skip (th_n (wpE_seq (rg (q0 data1.v (q0 (vi a2) (q0 (vi b2) (q0 (vi pivot1) ?_)))))))))
         have h := h H5 w15 hs
         have hs := hs.here
         refine sc Tryz.call165 (h.mono ?_)
         rintro e w16 ⟨r6, r7, rfl, hk, h⟩
         refine ⟨_, rfl, ?_⟩
         obtain ⟨hs, hb⟩ := hk.hh hs hb
         refine q0 (.tuple #[(vi r6), (vb r7)]) (q0 (vi r6) (q0 (vb r7) (q0 (vi r6) (q0 (vb r7) (wpL_nil (th_n (wpE_seq (rg (q0 (vb r7) (q0 (vb r7) (wpL_nil ?_)))))))))))
         refine th_n (wpE_seq (rg (q0 (vi r6) (q0 (vi a2) (q0 (vi (q6.wrap (r6 - a2))) (q0 (vi b2) (q0 (vi r6) (q0 (vi (q6.wrap (b2 - r6))) (q0 (vi (q6.wrap (r6 - a2))) (q0 (vi (q6.wrap (b2 - r6))) (wpL_nil ?_)))))))))))
         refine th_n (wpE_seq (rg (q0 (vi (q6.wrap (b2 - a2))) ?_)))
         obtain ⟨z2, hv6, h⟩ := h
         refine q2 (vi z2) (x_bin (by kernel_rfl) (by kernel_rfl) (by kernel_rfl) hv6) (q0 (vi z2) (wpL_nil (th_n (wpE_seq (rg (q0 (vi (q6.wrap (r6 - a2))) (q0 (vi (q6.wrap (b2 - r6))) (q0 (vb (decide ((q6.wrap (r6 - a2)) < (q6.wrap (b2 - r6))))) (wpL_nil (th_n ?_))))))))))
         refine wpE_cond (t := (decide ((q6.wrap (r6 - a2)) < (q6.wrap (b2 - r6))))) (by kernel_rfl) (fun hc5 => ?_) (fun hc5 => ?_)
         ·have h := h.1 hc5
          refine wpE_seq (rg (q0 (vi (q6.wrap (r6 - a2))) (q0 (vi z2) (q0 (vb (decide ((q6.wrap (r6 - a2)) ≥ z2))) (q0 (vb (decide ((q6.wrap (r6 - a2)) ≥ z2))) (wpL_nil (th_n (wpE_seq (rg (q0 data1.v (q0 (vi a2) ?_)))))))))))
          refine q0 (vi r6) (q0 (vi limit3) ?_)
          refine sc Tryz.call154 (h.mono ?_)
          rintro e w17 ⟨rfl, hk, h⟩
          refine ⟨_, rfl, ?_⟩
          obtain ⟨hs, hb⟩ := hk.hh hs hb
          refine wpL_nil (th_n (rg (q0 (vi r6) (q0 (vi (q6.wrap (r6 + 1))) (q0 (vi (q6.wrap (r6 + 1))) (wpL_nil (bl_n (th_n ?_))))))))
          exact ⟨((q6.wrap (r6 + 1)), b2, limit3, (decide ((q6.wrap (r6 - a2)) ≥ z2)), r7, H5, w17), ⟨rfl, hm, hs, hb, h.1⟩, h.2⟩
         ·have h := h.2 hc5
          refine wpE_seq (rg (q0 (vi (q6.wrap (b2 - r6))) (q0 (vi z2) (q0 (vb (decide ((q6.wrap (b2 - r6)) ≥ z2))) (q0 (vb (decide ((q6.wrap (b2 - r6)) ≥ z2))) (wpL_nil (th_n (wpE_seq (rg (q0 data1.v (q0 (vi r6) ?_)))))))))))
          refine q0 (vi (q6.wrap (r6 + 1))) (q0 (vi b2) (q0 (vi limit3) ?_))
          refine sc Tryz.call154 (h.mono ?_)
          rintro e w18 ⟨rfl, hk, h⟩
          refine ⟨_, rfl, ?_⟩
          obtain ⟨hs, hb⟩ := hk.hh hs hb
          refine wpL_nil (th_n (rg (q0 (vi r6) (q0 (vi r6) (wpL_nil (bl_n (th_n ?_)))))))
          exact ⟨(a2, r6, limit3, (decide ((q6.wrap (b2 - r6)) ≥ z2)), r7, H5, w18), ⟨rfl, hm, hs, hb, h.1⟩, h.2⟩
      ·refine wpE_cond (t := ((wasBalanced1 && wasPartitioned1) && (hint1 == 1))) (by kernel_rfl) (fun hc6 => ?_) (fun hc6 => ?_)
       ·have h := h.1 hc6
        refine wpE_seq (rg (q0 data1.v (q0 (vi a2) (q0 (vi b2) ?_))))
        have h := h H2 w5 hs
        have hs := hs.here
        refine sc Tryz.call162 (h.mono ?_)
        rintro e w19 ⟨r8, rfl, hk, h⟩
        refine ⟨_, rfl, ?_⟩
        obtain ⟨hs, hb⟩ := hk.hh hs hb
        refine wpL_nil (th_n ?_)
        refine wpE_cond (t := r8) (by kernel_rfl) (fun hc7 => ?_) (fun hc7 => ?_)
        ·have h := h.1 hc7
         refine wpE_ret (th_r (bl_r (th_r (bl_r (res0 (.inl rfl) Tryz.results154 ?_)))))
         exact ⟨rfl, h⟩
        ·have h := h.2 hc7
         refine wpE_skip (th_n ?_)
         exact ⟨H2, hm, hs, hb, h⟩
       ·have h := h.2 hc6
        refine wpE_skip ?_
        have h := h H2 w5 hs
        have hs := hs.here
        refine th_n ?_
        exact ⟨H2, hm, hs, hb, h⟩
    ·refine wpE_cond (t := (r2 == 2)) (by kernel_rfl) (fun hc8 => ?_) (fun hc8 => ?_)
     ·have h := h.1 hc8
      refine wpE_seq (rg (q0 data1.v (q0 (vi a2) (q0 (vi b2) ?_))))
      refine sc Tryz.call161 (h.mono ?_)
      rintro e w20 ⟨rfl, hk, h⟩
      refine ⟨_, rfl, ?_⟩
      obtain ⟨hs, hb⟩ := hk.hh hs hb
      refine wpL_nil (th_n (wpE_seq (rg (q0 (vi b2) (q0 (vi (q6.wrap (b2 - 1))) (q0 (vi r1) (q0 (vi a2) (q0 (vi (q6.wrap (r1 - a2))) (q0 (vi (q6.wrap ((q6.wrap (b2 - 1)) - (q6.wrap (r1 - a2))))) (q0 (vi (q6.wrap ((q6.wrap (b2 - 1)) - (q6.wrap (r1 - a2))))) (wpL_nil ?_)))))))))))
      refine th_n (rg (q0 (vi 1) (wpL_nil (th_n ?_))))
      exact ⟨(q6.wrap ((q6.wrap (b2 - 1)) - (q6.wrap (r1 - a2)))), 1, H, hm, hs, hb, h⟩
     ·have h := h.2 hc8
      refine wpE_skip (th_n ?_)
      exact ⟨r1, r2, H, hm, hs, hb, h⟩
   ·refine wpE_cond (t := (!wasBalanced1)) (by kernel_rfl) (fun hc9 => ?_) (fun hc9 => ?_)
    ·have h := h.1 hc9
     refine wpE_seq (rg (q0 data1.v (q0 (vi a2) (q0 (vi b2) ?_))))
     refine sc Tryz.call159 (h.mono ?_)
     rintro e w21 ⟨rfl, hk, h⟩
     refine ⟨_, rfl, ?_⟩
     obtain ⟨hs, hb⟩ := hk.hh hs hb
     refine wpL_nil (th_n (rg (q0 (vi limit2) (q0 (vi (q6.wrap (limit2 - 1))) (q0 (vi (q6.wrap (limit2 - 1))) (wpL_nil (th_n ?_)))))))
     exact ⟨(q6.wrap (limit2 - 1)), Hl1, hm, hs, hb, h⟩
    ·have h := h.2 hc9
     refine wpE_skip (th_n ?_)
     exact ⟨limit2, Hl1, hm, hs, hb, h⟩
def m_T3 (x1 : Sl) (w0 : World) (K : WP) : Prop :=
 Calls Tryz.prog 155 #[(vu (IntKind.u64.wrap (x1.len : Int)))] w0 (fun e w1 => ∃ r1 : Int, e = .returned (vi r1) ∧ 
  Calls Tryz.prog 154 #[x1.v, (vi 0), (vi (x1.len : Int)), (vi r1)] w1 (fun e w2 => e = .returned (.tuple #[]) ∧ 
   K w2))
theorem w_T3 (x1 : Sl) (w0 : World) (K : WP) (h : m_T3 x1 w0 K) :
  Calls Tryz.prog 140 #[x1.v] w0 (fun e w' => e = .returned (.tuple #[]) ∧ K  w') := by
 unfold m_T3 at h
 refine cw (args := [x1.v]) Tryz.func140 Tryz.ntmps140 (wpE_seq (rg (q0 x1.v (q0 (vi (x1.len : Int)) (q0 (vi (x1.len : Int)) (wpL_nil (th_n (rg (q0 x1.v (q0 (vi (x1.len : Int)) (q0 (vi (x1.len : Int)) ?_)))))))))))
 refine q0 (vu (IntKind.u64.wrap (x1.len : Int))) ?_
 refine sc Tryz.call155 (h.mono ?_)
 rintro e w1 ⟨r1, rfl, h⟩
 refine ⟨_, rfl, ?_⟩
 refine sc Tryz.call154 (h.mono ?_)
 rintro e w2 ⟨rfl, h⟩
 refine ⟨_, rfl, ?_⟩
 refine wpL_nil (res0 (.inr rfl) Tryz.results140 ?_)
 exact ⟨rfl, h⟩
def m_U3 (seq1 : Value) (w0 : World) (K : Sl → WP) : Prop :=
 Calls Tryz.prog 139 #[seq1] w0 (fun e w1 => ∃ r1 : Sl, e = .returned r1.v ∧ 
  Calls Tryz.prog 140 #[r1.v] w1 (fun e w2 => e = .returned (.tuple #[]) ∧ 
   K r1 w2))
theorem w_U3 (seq1 : Value) (w0 : World) (K : Sl → WP) (h : m_U3 seq1 w0 K) :
  Calls Tryz.prog 98 #[seq1] w0 (fun e w' => ∃ r2 : Sl, e = .returned r2.v ∧ K r2 w') := by
 unfold m_U3 at h
 refine cw (args := [seq1]) Tryz.func98 Tryz.ntmps98 (wpE_seq (rg (q0 Sl.nil.v (wpL_nil (th_n (wpE_seq (rg (q0 seq1 ?_))))))))
 refine sc Tryz.call139 (h.mono ?_)
 rintro e w1 ⟨r1, rfl, h⟩
 refine ⟨_, rfl, ?_⟩
 refine q0 r1.v (wpL_nil (th_n (wpE_seq (rg (q0 r1.v ?_)))))
 refine sc Tryz.call140 (h.mono ?_)
 rintro e w2 ⟨rfl, h⟩
 refine ⟨_, rfl, ?_⟩
 refine wpL_nil (th_n (wpE_seq (rg (q0 r1.v (q0 r1.v (wpL_nil (th_n (wpE_ret (rs1 Tryz.results98 (v := r1.v) ?_)))))))))
 exact ⟨r1, rfl, h⟩
def m_V3 (s1 : Sl) (w0 : World) (K : Value → WP) : Prop :=
 ∀ (p1 : Addr) (w1 : World), New w0 (.cells #[s1.v] 52) p1 w1 →
 K (.func (.func 141) #[] #[(vp (some p1))]) w1
theorem w_V3 (s1 : Sl) (w0 : World) (K : Value → WP) (h : m_V3 s1 w0 K) :
  Calls Tryz.prog 99 #[s1.v] w0 (fun e w' => ∃ r1 : Value, e = .returned r1 ∧ K r1 w') := by
 unfold m_V3 at h
 refine cw (args := [s1.v]) Tryz.func99 Tryz.ntmps99 (wpE_seq (rg (sn (O := (.cells #[s1.v] 52)) xb ?_)))
 intro p1 w1 hn1
 have h := h p1 w1 hn1
 refine q0 (.nilFunc : Value) (wpL_nil (th_n (wpE_seq (rg (q0 (.func (.func 141) #[] #[(vp (some p1))]) (q0 (.func (.func 141) #[] #[(vp (some p1))]) (wpL_nil (th_n (wpE_ret (rs1 Tryz.results99 (v := (.func (.func 141) #[] #[(vp (some p1))])) ?_))))))))))
 exact ⟨(.func (.func 141) #[] #[(vp (some p1))]), rfl, h⟩
end Go.Proofs
end
section
namespace Sp
section
variable {α : Type}
theorem swp_perm : ∀ {l : List α} {i j : Nat} {x y : α}, l[i]? = some x → l[j]? = some y → ((l.set i y).set j x).Perm l := by
 intro l i j x y hi hj
 obtain ⟨h1, rfl⟩ := List.getElem?_eq_some_iff.1 hi
 obtain ⟨h2, rfl⟩ := List.getElem?_eq_some_iff.1 hj
 exact List.set_set_perm h1 h2
structure PermIn (a b : Nat) (l l' : List α) : Prop where
 perm : l'.Perm l
 out : ∀ i, i < a ∨ b ≤ i → l'[i]? = l[i]?
 mem : ∀ p x, a ≤ p → p < b → l'[p]? = some x → ∃ q, a ≤ q ∧ q < b ∧ l[q]? = some x
variable {a b : Nat} {l l' l'' : List α}
theorem PermIn.len (h : PermIn a b l l') : l'.length = l.length := h.perm.length_eq
theorem PermIn.refl (a b : Nat) (l : List α) : PermIn a b l l := ⟨List.Perm.refl _, fun _ _ => rfl, fun p x h1 h2 h3 => ⟨p, h1, h2, h3⟩⟩
theorem PermIn.trans (h : PermIn a b l l') (k : PermIn a b l' l'') : PermIn a b l l'' :=
 ⟨k.perm.trans h.perm, fun i hi => (k.out i hi).trans (h.out i hi), fun p x h1 h2 h3 => let ⟨q, h4, h5, h6⟩ := k.mem p x h1 h2 h3; h.mem q x h4 h5 h6⟩
theorem PermIn.mono {a' b' : Nat} (h : PermIn a b l l') (ha : a' ≤ a) (hb : b ≤ b') : PermIn a' b' l l' :=
 ⟨h.perm, fun i hi => h.out i (by omega), fun p x h1 h2 h3 => by
  by_cases hp : a ≤ p ∧ p < b
  ·obtain ⟨q, h4, h5, h6⟩ := h.mem p x hp.1 hp.2 h3
   exact ⟨q, by omega, by omega, h6⟩
  ·exact ⟨p, h1, h2, by rw [← h.out p (by omega)]; exact h3⟩⟩
theorem swp_get {i j : Nat} {x y : α} (hi : l[i]? = some x) (hj : l[j]? = some y) (k : Nat) : ((l.set i y).set j x)[k]? = if k = j then some x else if k = i then some y else l[k]? := by
 have h1 := (List.getElem?_eq_some_iff.1 hi).1
 have h2 := (List.getElem?_eq_some_iff.1 hj).1
 rw [List.getElem?_set, List.getElem?_set]
 by_cases e : k = j
 ·subst e; simp [h2]
 ·rw [if_neg (Ne.symm e), if_neg e]
  by_cases e' : k = i
  ·subst e'; simp [h1]
  ·rw [if_neg (Ne.symm e'), if_neg e']
theorem PermIn.swp {i j : Nat} {x y : α} (hi : l[i]? = some x) (hj : l[j]? = some y) (h1 : a ≤ i) (h2 : i < b) (h3 : a ≤ j) (h4 : j < b) : PermIn a b l ((l.set i y).set j x) := by
 refine ⟨swp_perm hi hj, fun k hk => ?_, fun p z hp1 hp2 hp => ?_⟩
 ·rw [swp_get hi hj, if_neg (by omega), if_neg (by omega)]
 ·rw [swp_get hi hj] at hp
  split at hp
  ·exact ⟨i, h1, h2, by rw [hi, hp]⟩
  ·split at hp
   ·exact ⟨j, h3, h4, by rw [hj, hp]⟩
   ·exact ⟨p, hp1, hp2, hp⟩
structure Ord (lt : α → α → Bool) : Prop where
 asym : ∀ x y, lt x y = true → lt y x = false
 trans : ∀ x y z, lt y x = false → lt z y = false → lt z x = false
variable {lt : α → α → Bool}
theorem Ord.irr (h : Ord lt) (x : α) : lt x x = false := by
 cases e : lt x x with
 | false => rfl
 | true => exact (h.asym x x e).symm.trans e |>.symm
def Le (lt : α → α → Bool) (l : List α) (p q : Nat) : Prop := ∀ x y, l[p]? = some x → l[q]? = some y → lt y x = false
theorem Le.of {p q : Nat} {x y : α} (hx : l[p]? = some x) (hy : l[q]? = some y) (h : lt y x = false) : Le lt l p q := by
 intro x' y' h1 h2; rw [hx] at h1; rw [hy] at h2; cases h1; cases h2; exact h
theorem Le.refl (h : Ord lt) (p : Nat) : Le lt l p p := by intro x y h1 h2; rw [h1] at h2; cases h2; exact h.irr x
theorem Le.trans {p q r : Nat} (h : Ord lt) (hq : q < l.length) (h1 : Le lt l p q) (h2 : Le lt l q r) : Le lt l p r := by
 intro x z hx hz
 exact h.trans x l[q] z (h1 _ _ hx (List.getElem?_eq_getElem hq)) (h2 _ _ (List.getElem?_eq_getElem hq) hz)
def SortedIn (lt : α → α → Bool) (a b : Nat) (l : List α) : Prop := ∀ p q, a ≤ p → p < q → q < b → Le lt l p q
theorem SortedIn.small (l : List α) (h : b ≤ a + 1) : SortedIn lt a b l := fun p q h1 h2 h3 => by omega
def Outer (lt : α → α → Bool) (a0 b0 a b : Nat) (l : List α) : Prop := ∀ p q, a0 ≤ p → p < q → q < b0 → (p < a ∨ b ≤ p ∨ q < a ∨ b ≤ q) → Le lt l p q
theorem Outer.start (a b : Nat) (l : List α) : Outer lt a b a b l := fun p q h1 h2 h3 h4 => by omega
theorem Le.congr {p q : Nat} (hp : l'[p]? = l[p]?) (hq : l'[q]? = l[q]?) (h : Le lt l p q) : Le lt l' p q := fun x y h1 h2 => h x y (hp ▸ h1) (hq ▸ h2)
theorem Outer.perm {a0 b0 : Nat} (h : Outer lt a0 b0 a b l) (hp : PermIn a b l l') (h0 : a0 ≤ a) (h1 : b ≤ b0) : Outer lt a0 b0 a b l' := by
 intro p q hp1 hpq hq1 hh x y hx hy
 by_cases e1 : a ≤ p ∧ p < b
 ·obtain ⟨p', e2, e3, e4⟩ := hp.mem p x e1.1 e1.2 hx
  rw [hp.out q (by omega)] at hy
  exact h p' q (by omega) (by omega) hq1 (by omega) x y e4 hy
 ·rw [hp.out p (by omega)] at hx
  by_cases e2 : a ≤ q ∧ q < b
  ·obtain ⟨q', e3, e4, e5⟩ := hp.mem q y e2.1 e2.2 hy
   exact h p q' hp1 (by omega) (by omega) (by omega) x y hx e5
  ·rw [hp.out q (by omega)] at hy
   exact h p q hp1 hpq hq1 (by omega) x y hx hy
theorem Outer.done {a0 b0 : Nat} (h : Outer lt a0 b0 a b l) (hs : SortedIn lt a b l) : SortedIn lt a0 b0 l := by
 intro p q h1 h2 h3
 by_cases e : a ≤ p ∧ q < b
 ·exact hs p q e.1 h2 e.2
 ·exact h p q h1 h2 h3 (by omega)
def Floor (lt : α → α → Bool) (a b : Nat) (l : List α) : Prop := 0 < a → ∀ p, a ≤ p → p < b → Le lt l (a - 1) p
theorem Floor.perm (h : Floor lt a b l) (hp : PermIn a b l l') : Floor lt a b l' := by
 intro h0 p h1 h2 x y hx hy
 obtain ⟨p', e2, e3, e4⟩ := hp.mem p y h1 h2 hy
 rw [hp.out (a - 1) (by omega)] at hx
 exact h h0 p' e2 e3 x y hx e4
theorem Floor.sub {b' : Nat} (h : Floor lt a b l) (hb : b' ≤ b) : Floor lt a b' l := fun h0 p h1 h2 => h h0 p h1 (by omega)
def But (lt : α → α → Bool) (a b j : Nat) (l : List α) : Prop := ∀ p q, a ≤ p → p < q → q < b → q ≠ j → Le lt l p q
theorem SortedIn.but {i : Nat} (h : SortedIn lt a i l) : But lt a (i + 1) i l := fun p q h1 h2 h3 h4 => h p q h1 h2 (by omega)
theorem But.done (ho : Ord lt) {i j : Nat} (h : But lt a i j l) (hl : i ≤ l.length) (hj : a < j → Le lt l (j - 1) j) : SortedIn lt a i l := by
 intro p q h1 h2 h3
 by_cases e : q = j
 ·subst e
  by_cases e' : p = q - 1
  ·subst e'; exact hj (by omega)
  ·exact Le.trans ho (by omega) (h p (q - 1) h1 (by omega) (by omega) (by omega)) (hj (by omega))
 ·exact h p q h1 h2 h3 e
theorem But.step (ho : Ord lt) {i j : Nat} {x y : α} (h : But lt a i j l) (ha : a < j) (hx : l[j]? = some x) (hy : l[j - 1]? = some y) (hlt : lt x y = true) : But lt a i (j - 1) ((l.set j y).set (j - 1) x) := by
 intro p q h1 h2 h3 h4 u v hu hv
 rw [swp_get hx hy] at hu hv
 rw [if_neg h4] at hv
 by_cases e : q = j
 ·subst e
  rw [if_pos rfl] at hv; cases hv
  by_cases e' : p = q - 1
  ·subst e'; rw [if_pos rfl] at hu; cases hu; exact ho.asym _ _ hlt
  ·rw [if_neg e', if_neg (by omega)] at hu
   exact h p (q - 1) h1 (by omega) (by omega) (by omega) _ _ hu hy
 ·rw [if_neg e] at hv
  by_cases e1 : p = j - 1
  ·subst e1; rw [if_pos rfl] at hu; cases hu
   exact h j q (by omega) (by omega) h3 e _ _ hx hv
  ·rw [if_neg e1] at hu
   by_cases e2 : p = j
   ·subst e2; rw [if_pos rfl] at hu; cases hu
    exact h (p - 1) q (by omega) (by omega) h3 e _ _ hy hv
   ·rw [if_neg e2] at hu
    exact h p q h1 h2 h3 e _ _ hu hv
def Heap (lt : α → α → Bool) (first lo hi : Nat) (l : List α) : Prop := ∀ k c, lo ≤ k → (c = 2 * k + 1 ∨ c = 2 * k + 2) → c < hi → Le lt l (first + c) (first + k)
def HeapBut (lt : α → α → Bool) (first lo hi r : Nat) (l : List α) : Prop :=
 (∀ k c, lo ≤ k → k ≠ r → (c = 2 * k + 1 ∨ c = 2 * k + 2) → c < hi → Le lt l (first + c) (first + k)) ∧
 (∀ k c, lo ≤ k → (r = 2 * k + 1 ∨ r = 2 * k + 2) → (c = 2 * r + 1 ∨ c = 2 * r + 2) → c < hi → Le lt l (first + c) (first + k))
theorem HeapBut.start {first lo hi : Nat} (h : Heap lt first (lo + 1) hi l) : HeapBut lt first lo hi lo l :=
 ⟨fun k c h1 h2 h3 h4 => h k c (by omega) h3 h4, fun k c h1 h2 h3 h4 => by omega⟩
theorem HeapBut.leaf {first lo hi r : Nat} (h : HeapBut lt first lo hi r l) (hr : hi ≤ 2 * r + 1) : Heap lt first lo hi l := fun k c h1 h2 h3 => by
 by_cases e : k = r
 ·subst e; omega
 ·exact h.1 k c h1 e h2 h3
theorem HeapBut.fit {first lo hi r c0 : Nat} (ho : Ord lt) (h : HeapBut lt first lo hi r l) (hl : first + hi ≤ l.length) (hc : c0 < hi) (hbig : ∀ c, (c = 2 * r + 1 ∨ c = 2 * r + 2) → c < hi → Le lt l (first + c) (first + c0)) (hok : Le lt l (first + c0) (first + r)) : Heap lt first lo hi l := fun k c h1 h2 h3 => by
 by_cases e : k = r
 ·subst e; exact Le.trans ho (by omega) (hbig c h2 h3) hok
 ·exact h.1 k c h1 e h2 h3
theorem HeapBut.step {first lo hi r c0 : Nat} {x y : α} (ho : Ord lt) (h : HeapBut lt first lo hi r l) (hl : first + hi ≤ l.length) (hlo : lo ≤ r) (hc : c0 = 2 * r + 1 ∨ c0 = 2 * r + 2) (hc0 : c0 < hi) (hbig : ∀ c, (c = 2 * r + 1 ∨ c = 2 * r + 2) → c < hi → Le lt l (first + c) (first + c0))
  (hx : l[first + r]? = some x) (hy : l[first + c0]? = some y) (hlt : lt x y = true) : HeapBut lt first lo hi c0 ((l.set (first + r) y).set (first + c0) x) := by
 refine ⟨fun k c h1 h2 h3 h4 u v hu hv => ?_, fun k c h1 h2 h3 h4 u v hu hv => ?_⟩
 ·rw [swp_get hx hy] at hu hv
  rw [if_neg (by omega)] at hv
  by_cases e : k = r
  ·subst e
   rw [if_pos rfl] at hv; cases hv
   by_cases e' : c = c0
   ·subst e'; rw [if_pos rfl] at hu; cases hu; exact ho.asym _ _ hlt
   ·rw [if_neg (by omega), if_neg (by omega)] at hu
    exact hbig c h3 h4 _ _ hu hy
  ·rw [if_neg (by omega)] at hv
   rw [if_neg (by omega)] at hu
   by_cases e' : c = r
   ·subst e'
    rw [if_pos rfl] at hu; cases hu
    exact h.2 k c0 h1 h3 hc hc0 _ _ hy hv
   ·rw [if_neg (by omega)] at hu
    exact h.1 k c h1 e h3 h4 _ _ hu hv
 ·have hk : k = r := by omega
  subst hk
  rw [swp_get hx hy] at hu hv
  rw [if_neg (by omega), if_neg (by omega)] at hu
  rw [if_neg (by omega), if_pos rfl] at hv
  cases hv
  exact h.1 c0 c (by omega) (by omega) h3 h4 _ _ hu hy
theorem Heap.top (ho : Ord lt) {first hi : Nat} (h : Heap lt first 0 hi l) (hl : first + hi ≤ l.length) : ∀ k, k < hi → Le lt l (first + k) first := by
 intro k
 induction k using Nat.strongRecOn with
 | _ k ih =>
  intro hk
  by_cases e : k = 0
  ·subst e; exact Le.refl ho _
  ·have := h ((k - 1) / 2) k (by omega) (by omega) hk
   exact Le.trans ho (by omega) this (ih _ (by omega) (by omega))
end
end Sp
end
section
open Go Go.SE Sp
namespace Go.Proofs
attribute [local irreducible] Calls
def ltI (x y : Int) : Bool := decide (x < y)
theorem ordI : Ord ltI := ⟨fun x y h => by simp [ltI] at *; omega, fun x y z h1 h2 => by simp [ltI] at *; omega⟩
theorem less_eq (x y : Int) : s_A x y = ltI x y := by simp [s_A, ltI]
structure DS (w0 : World) (H : NP) (w : World) (s : Sl) (l : List Int) : Prop where
 own : Own H w 30 1 s (tmr l)
 ext : Ext s.blk w0 w
section
variable {w0 w w1 : World} {H H1 Hv : NP} {s : Sl} {l : List Int}
theorem DS.start (h : Rws w0 30 1 s (tmr l)) : DS w0 None w0 s l := ⟨⟨h, fun _ _ h => h⟩, Ext.refl _⟩
theorem DS.hst (h : DS w0 H w s l) (hs : Hst w0 H w H1 w1) : DS w0 H1 w1 s l := ⟨h.own.hst hs, h.ext.hst hs⟩
theorem DS.pure (h : DS w0 H w s l) (E : Pure w w1) : DS w0 H w1 s l := ⟨h.own.pure E, h.ext.thenPure E⟩
theorem DS.drew (h : DS w0 H w s l) : DS w0 H w.drew s l := h.pure (Ext.drew w)
theorem DS.get (h : DS w0 H w s l) {i : Nat} {I : Int} {x : Int} (hI : I = i) (hx : l[i]? = some x) : ∃ a, At s I 1 a ∧ w.cell? a = some (.int .i64 x) ∧ ¬ H a.block := by
 subst hI
 obtain ⟨hi, rfl⟩ := List.getElem?_eq_some_iff.1 hx
 obtain ⟨a, h1, h2, h3⟩ := h.own.rows.at (i := i) (by omega) (by simpa [tmr] using hi)
 exact ⟨a, h1, row_cell (by simpa [tmr] using h2), h.own.vis _ h3⟩
theorem DS.put (h : DS w0 H w s l) {i : Nat} {I : Int} (hI : I = i) (hi : i < l.length) (x : Int) : ∃ a, At s I 1 a ∧ CanW w a ∧ ¬ H a.block ∧ ∀ w', w' = w.setCell a (.int .i64 x) → DS w0 H w' s (l.set i x) := by
 obtain ⟨a, h1, h2, h3⟩ := h.own.rows.set (i := i) (by simpa [tmr] using hi) (r := [.int .i64 x]) rfl hI
 have hb : s.blk a.block := by
  obtain ⟨_, _, b, hb, rfl⟩ := h1
  exact ⟨b, hb, by rw [add_block]⟩
 refine ⟨a, h1, by simpa [Addr.add] using h2 0 (by omega), h.own.vis _ hb, fun w' hw' => ?_⟩
 obtain ⟨h4, h5⟩ := h3 w' (by simpa [storeRow, storeRowFrom, Addr.add] using hw')
 refine ⟨⟨by simpa [tmr, List.map_set] using h4, h.own.vis⟩, h.ext.trans h5⟩
theorem DS.swp (h : DS w0 H w s l) {i j : Nat} {I J : Int} {x y : Int} (hI : I = i) (hJ : J = j) (hx : l[i]? = some x) (hy : l[j]? = some y) {R : WP} (k : ∀ w3, DS w0 H w3 s ((l.set i y).set j x) → R w3) :
  ∃ C2 : WP, C2 w.drew ∧ ∀ w5, w5 = w.drew →
   ∃ a4 : Addr, At s J 1 a4 ∧
   ∃ v3 : Int, w5.cell? a4 = some (.int .i64 v3) ∧
   ∃ a5 : Addr, At s I 1 a5 ∧
   ∃ v4 : Int, w5.cell? a5 = some (.int .i64 v4) ∧
   ∃ a6 : Addr, At s I 1 a6 ∧
   CanW w5 a6 ∧ ¬ H a6.block ∧ ∀ w6 : World, w6 = w5.setCell a6 (.int .i64 v3) → C2 w6 ∧
   ∃ a7 : Addr, At s J 1 a7 ∧
   CanW w6 a7 ∧ ¬ H a7.block ∧ ∀ w7 : World, w7 = w6.setCell a7 (.int .i64 v4) → R w7 := by
 refine ⟨fun _ => True, trivial, fun w5 hw5 => ?_⟩
 subst hw5
 have hi := (List.getElem?_eq_some_iff.1 hx).1
 have hj := (List.getElem?_eq_some_iff.1 hy).1
 obtain ⟨a4, p1, p2, _⟩ := h.drew.get hJ hy
 obtain ⟨a5, q1, q2, _⟩ := h.drew.get hI hx
 obtain ⟨a6, r1, r2, r3, r4⟩ := h.drew.put hI hi y
 refine ⟨a4, p1, y, p2, a5, q1, x, q2, a6, r1, r2, r3, fun w6 hw6 => ⟨trivial, ?_⟩⟩
 have h6 := r4 w6 hw6
 obtain ⟨a7, t1, t2, t3, t4⟩ := h6.put hJ (by simpa using hj) x
 exact ⟨a7, t1, t2, t3, fun w7 hw7 => k w7 (t4 w7 hw7)⟩
end
def SP (w0 : World) (s : Sl) (Q : List Int → Prop) (w' : World) : Prop := ∃ l', Rws w' 30 1 s (tmr l') ∧ Ext s.blk w0 w' ∧ Q l'
theorem DS.sp {w0 w : World} {H : NP} {s : Sl} {l : List Int} {Q : List Int → Prop} (h : DS w0 H w s l) (hq : Q l) : SP w0 s Q w := ⟨l, h.own.rows, h.ext, hq⟩
theorem SP.ds {w0 w w1 : World} {H : NP} {s : Sl} {l : List Int} {Q : List Int → Prop} (h : DS w0 H w s l) (hp : SP w s Q w1) : Kept H w w1 ∧ ∃ l', DS w0 H w1 s l' ∧ Q l' := by
 obtain ⟨l', h1, h2, h3⟩ := hp
 exact ⟨h2.kept (fun b hH hb => h.own.vis b hb hH), l', ⟨⟨h1, h.own.vis⟩, h.ext.trans h2⟩, h3⟩
theorem at_of {l : List Int} {i : Nat} (h : i < l.length) : ∃ x, l[i]? = some x := ⟨_, List.getElem?_eq_getElem h⟩
theorem c_isort (s : Sl) (l : List Int) (a b : Nat) (w0 : World) (h : Rws w0 30 1 s (tmr l)) (hb : b ≤ l.length) (hn : l.length ≤ 1000000) (hab : a ≤ b) :
  Calls Tryz.prog 157 #[s.v, .int .i64 a, .int .i64 b] w0 (fun e w' => e = .returned (.tuple #[]) ∧ SP w0 s (fun l' => PermIn a b l l' ∧ SortedIn ltI a b l') w') := by
 refine w_W _ _ _ w0 (SP w0 s (fun l' => PermIn a b l l' ∧ SortedIn ltI a b l')) ?_
 unfold m_W
 rw [i64 (n := (a : Int) + 1) (by omega) (by omega)]
 refine ⟨fun i H w => ∃ (k : Nat) (l' : List Int), i = k ∧ a < k ∧ (k ≤ b ∨ k = a + 1) ∧ DS w0 H w s l' ∧ PermIn a b l l' ∧ SortedIn ltI a k l', fun i _ => ((b : Int) - i).toNat, ⟨a + 1, l, by omega, by omega, .inr rfl, DS.start h, PermIn.refl _ _ _, SortedIn.small _ (Nat.le_refl _)⟩, ?_⟩
 rintro _ H w hs ⟨k, l1, rfl, hk, hk', h1, hP, hS⟩
 unfold m_W_l1
 refine ⟨fun hc => ?_, fun hc => ?_⟩
 ·have hc : k < b := by have := of_decide_eq_true hc; omega
  have hl := hP.len
  refine ⟨fun j H w => ∃ (m : Nat) (l2 : List Int), j = m ∧ a ≤ m ∧ m ≤ k ∧ DS w0 H w s l2 ∧ PermIn a b l l2 ∧ But ltI a (k + 1) m l2, fun j _ => j.toNat, ⟨k, l1, rfl, by omega, Nat.le_refl _, h1, hP, hS.but⟩, ?_⟩
  rintro _ H2 w2 hs2 ⟨m, l2, rfl, hm, hm', h2, hP2, hB⟩
  unfold m_W_l2
  have hl2 := hP2.len
  have go : ∀ H3 w3, DS w0 H3 w3 s l2 → SortedIn ltI a (k + 1) l2 → (∃ (k' : Nat) (l' : List Int), IntKind.i64.wrap ((k : Int) + 1) = k' ∧ a < k' ∧ (k' ≤ b ∨ k' = a + 1) ∧ DS w0 H3 w3 s l' ∧ PermIn a b l l' ∧ SortedIn ltI a k' l') ∧ ((b : Int) - IntKind.i64.wrap ((k : Int) + 1)).toNat < ((b : Int) - (k : Int)).toNat := by
   intro H3 w3 h3 hS3
   rw [i64 (by omega) (by omega)]
   exact ⟨⟨k + 1, l2, by omega, by omega, .inl (by omega), h3, hP2, hS3⟩, by omega⟩
  refine ⟨fun hc2 => ?_, fun hc2 => ?_⟩
  ·have hc2 : a < m := by have := of_decide_eq_true hc2; omega
   obtain ⟨x, hx⟩ := at_of (l := l2) (i := m) (by omega)
   obtain ⟨y, hy⟩ := at_of (l := l2) (i := m - 1) (by omega)
   rw [i64 (n := (m : Int) - 1) (by omega) (by omega)]
   have em : ((m : Int) - 1) = ((m - 1 : Nat) : Int) := by omega
   obtain ⟨a2, p1, p2, p3⟩ := h2.get rfl hx
   obtain ⟨a3, q1, q2, q3⟩ := h2.get em hy
   refine ⟨a2, p1, x, p2, p3, a3, q1, y, q2, q3, ?_⟩
   rw [less_eq]
   refine ⟨fun hlt H3 w3 hs3 => ?_, fun hlt H3 w3 hs3 => ?_⟩
   ·refine (h2.hst hs3).swp rfl em hx hy (fun w4 h4 => ?_)
    exact ⟨⟨m - 1, _, em, by omega, by omega, h4, hP2.trans (PermIn.swp hx hy (by omega) (by omega) (by omega) (by omega)), hB.step ordI hc2 hx hy hlt⟩, by show ((m : Int) - 1).toNat < (m : Int).toNat; omega⟩
   ·exact go _ _ (h2.hst hs3) (hB.done ordI (by omega) (fun _ => Le.of hy hx hlt))
  ·have hc2 : m = a := by have := of_decide_eq_false hc2; omega
   intro H3 w3 hs3
   exact go _ _ (h2.hst hs3) (hB.done ordI (by omega) (fun h => by omega))
 ·have hc : b ≤ k := by have := of_decide_eq_false hc; omega
  exact h1.sp ⟨hP, fun p q h1 h2 h3 => hS p q h1 h2 (by omega)⟩
end Go.Proofs
end
section
open Go Go.SE Sp
namespace Go.Proofs
attribute [local irreducible] Calls
theorem DS.two {w0 w : World} {H : NP} {s : Sl} {l : List Int} (h : DS w0 H w s l) {i j : Nat} {I J x y : Int} (hI : I = i) (hJ : J = j) (hx : l[i]? = some x) (hy : l[j]? = some y) {Q : Int → Int → Prop} (hq : Q x y) :
  ∃ a : Addr, At s I 1 a ∧ ∃ v : Int, w.cell? a = some (.int .i64 v) ∧ ¬ H a.block ∧ ∃ a' : Addr, At s J 1 a' ∧ ∃ v' : Int, w.cell? a' = some (.int .i64 v') ∧ ¬ H a'.block ∧ Q v v' := by
 obtain ⟨a, p1, p2, p3⟩ := h.get hI hx
 obtain ⟨a', q1, q2, q3⟩ := h.get hJ hy
 exact ⟨a, p1, x, p2, p3, a', q1, y, q2, q3, hq⟩
theorem not_lt {x y : Int} (h : (!(s_A x y)) = true) : ltI x y = false := by rw [less_eq] at h; simpa using h
theorem is_lt {x y : Int} (h : (!(s_A x y)) = false) : ltI x y = true := by rw [less_eq] at h; simpa using h
theorem run_quoN {P : Program} {w : World} {t : TypeId} {a : Int} {b : Int} (h0 : 0 ≤ a) (h1 : a ≤ 9223372036854775807) (hb : 1 ≤ b) : (Go.binOp .quo t (.int .i64 a) (.int .i64 b)).run P w = .ok (.int .i64 (a / b)) w := by
 have hb0 : b ≠ 0 := by omega
 have := IntWalk.i64_quo a b ⟨h0, h1, hb⟩
 simp [Go.binOp, Op.intDiv, hb0, this]
theorem c_sift (s : Sl) (l : List Int) (first lo hi : Nat) (w0 : World) (h : Rws w0 30 1 s (tmr l)) (hb : first + hi ≤ l.length) (hn : l.length ≤ 1000000) (hlo : lo ≤ 1000000) (hH : Heap ltI first (lo + 1) hi l) :
  Calls Tryz.prog 168 #[s.v, .int .i64 lo, .int .i64 hi, .int .i64 first] w0 (fun e w' => e = .returned (.tuple #[]) ∧ SP w0 s (fun l' => PermIn (first + lo) (first + hi) l l' ∧ Heap ltI first lo hi l') w') := by
 refine w_S1 _ _ _ _ w0 (SP w0 s (fun l' => PermIn (first + lo) (first + hi) l l' ∧ Heap ltI first lo hi l')) ?_
 unfold m_S1
 refine ⟨fun i H w => ∃ (r : Nat) (l' : List Int), i = r ∧ lo ≤ r ∧ (r < hi ∨ r = lo) ∧ DS w0 H w s l' ∧ PermIn (first + lo) (first + hi) l l' ∧ HeapBut ltI first lo hi r l', fun i _ => ((hi : Int) - i).toNat, ⟨lo, l, rfl, Nat.le_refl _, .inr rfl, DS.start h, PermIn.refl _ _ _, .start hH⟩, ?_⟩
 rintro _ H w hs ⟨r, l1, rfl, hr, hr', h1, hP, hB⟩
 have hl := hP.len
 unfold m_S1_l1
 simp (disch := omega) only [i64]
 refine ⟨fun hc => ?_, fun hc => ⟨fun hc2 => ?_, fun hc2 H4 w4 hs4 => ?_⟩⟩
 ·have hc := of_decide_eq_true hc
  exact h1.sp ⟨hP, hB.leaf (by omega)⟩
 ·have hc := of_decide_eq_false hc
  have hc2 := of_decide_eq_true hc2
  obtain ⟨x, hx⟩ := at_of (l := l1) (i := first + (2 * r + 1)) (by omega)
  obtain ⟨y, hy⟩ := at_of (l := l1) (i := first + (2 * r + 2)) (by omega)
  refine h1.two (by omega) (by omega) hx hy ?_
  intro y1 hy1 H2 w2 hs2
  rw [less_eq] at hy1
  obtain ⟨c0, hc0, hcc, hbig⟩ : ∃ c0 : Nat, y1 = c0 ∧ (c0 = 2 * r + 1 ∨ c0 = 2 * r + 2) ∧ ∀ c, (c = 2 * r + 1 ∨ c = 2 * r + 2) → c < hi → Le ltI l1 (first + c) (first + c0) := by
   cases hlt : ltI x y with
   | true =>
    refine ⟨2 * r + 2, by rw [hy1, hlt]; simp; omega, .inr rfl, fun c hc hc' => ?_⟩
    rcases hc with rfl | rfl
    ·exact Le.of hx hy (ordI.asym _ _ hlt)
    ·exact Le.refl ordI _
   | false =>
    refine ⟨2 * r + 1, by rw [hy1, hlt]; simp, .inl rfl, fun c hc hc' => ?_⟩
    rcases hc with rfl | rfl
    ·exact Le.refl ordI _
    ·exact Le.of hy hx hlt
  subst hc0
  obtain ⟨u, hu⟩ := at_of (l := l1) (i := first + r) (by omega)
  obtain ⟨v, hv⟩ := at_of (l := l1) (i := first + c0) (by omega)
  simp (disch := omega) only [i64]
  refine (h1.hst hs2).two (by omega) (by omega) hu hv ?_
  refine ⟨fun hlt H3 w3 hs3 => ?_, fun hlt H3 w3 hs3 => ?_⟩
  ·exact ((h1.hst hs2).hst hs3).sp ⟨hP, hB.fit ordI (by omega) (by omega) hbig (Le.of hv hu (not_lt hlt))⟩
  ·refine ((h1.hst hs2).hst hs3).swp (i := first + r) (j := first + c0) (by omega) (by omega) hu hv (fun w4 h4 => ?_)
   refine ⟨⟨c0, _, rfl, by omega, by omega, h4, hP.trans (PermIn.swp hu hv (by omega) (by omega) (by omega) (by omega)), hB.step ordI (by omega) hr hcc (by omega) hbig hu hv (is_lt hlt)⟩, ?_⟩
   show ((hi : Int) - (c0 : Int)).toNat < ((hi : Int) - (r : Int)).toNat
   omega
 ·have hc := of_decide_eq_false hc
  have hc2 := of_decide_eq_false hc2
  have hbig : ∀ c, (c = 2 * r + 1 ∨ c = 2 * r + 2) → c < hi → Le ltI l1 (first + c) (first + (2 * r + 1)) := fun c hc hc' => by
   rcases hc with rfl | rfl
   ·exact Le.refl ordI _
   ·omega
  obtain ⟨u, hu⟩ := at_of (l := l1) (i := first + r) (by omega)
  obtain ⟨v, hv⟩ := at_of (l := l1) (i := first + (2 * r + 1)) (by omega)
  refine (h1.hst hs4).two (by omega) (by omega) hu hv ?_
  refine ⟨fun hlt H3 w3 hs3 => ?_, fun hlt H3 w3 hs3 => ?_⟩
  ·exact ((h1.hst hs4).hst hs3).sp ⟨hP, hB.fit ordI (by omega) (by omega) hbig (Le.of hv hu (not_lt hlt))⟩
  ·refine ((h1.hst hs4).hst hs3).swp (i := first + r) (j := first + (2 * r + 1)) (by omega) (by omega) hu hv (fun w4 h4 => ?_)
   refine ⟨⟨2 * r + 1, _, by omega, by omega, by omega, h4, hP.trans (PermIn.swp hu hv (by omega) (by omega) (by omega) (by omega)), hB.step ordI (by omega) hr (.inl rfl) (by omega) hbig hu hv (is_lt hlt)⟩, ?_⟩
   show ((hi : Int) - (2 * (r : Int) + 1)).toNat < ((hi : Int) - (r : Int)).toNat
   omega
theorem c_heap (s : Sl) (l : List Int) (a b : Nat) (w0 : World) (h : Rws w0 30 1 s (tmr l)) (hb : b ≤ l.length) (hn : l.length ≤ 1000000) (hab : a < b) :
  Calls Tryz.prog 158 #[s.v, .int .i64 a, .int .i64 b] w0 (fun e w' => e = .returned (.tuple #[]) ∧ SP w0 s (fun l' => PermIn a b l l' ∧ SortedIn ltI a b l') w') := by
 refine w_X _ _ _ w0 (SP w0 s (fun l' => PermIn a b l l' ∧ SortedIn ltI a b l')) ?_
 unfold m_X
 simp (disch := omega) only [i64]
 refine ⟨_, run_quoN (by omega) (by omega) (by omega), ?_⟩
 refine ⟨fun i H w => ∃ (k : Nat) (l' : List Int), i = (k : Int) - 1 ∧ k ≤ b - a ∧ DS w0 H w s l' ∧ PermIn a b l l' ∧ Heap ltI a k (b - a) l', fun i _ => (i + 1).toNat, ⟨(b - a - 1) / 2 + 1, l, by omega, by omega, DS.start h, PermIn.refl _ _ _, fun k c h1 h2 h3 => by omega⟩, ?_⟩
 rintro _ H w hs ⟨k, l1, rfl, hk, h1, hP, hH⟩
 have hl := hP.len
 unfold m_X_l1
 refine ⟨fun hc => ?_, fun hc => ?_⟩
 ·have hc := of_decide_eq_true hc
  simp (disch := omega) only [i64]
  have e1 : ((k : Int) - 1) = ((k - 1 : Nat) : Int) := by omega
  have e2 : ((b : Int) - (a : Int)) = ((b - a : Nat) : Int) := by omega
  rw [e1, e2]
  refine (c_sift s l1 a (k - 1) (b - a) w h1.own.rows (by omega) (by omega) (by omega) (by rw [show k - 1 + 1 = k by omega]; exact hH)).mono ?_
  rintro _ w2 ⟨rfl, hp⟩
  obtain ⟨hk2, l2, h2, hP2, hH2⟩ := hp.ds h1
  refine ⟨rfl, hk2, ⟨k - 1, l2, by omega, by omega, h2, hP.trans (hP2.mono (by omega) (by omega)), hH2⟩, ?_⟩
  show (((k - 1 : Nat) : Int) - 1 + 1).toNat < (((k - 1 : Nat) : Int) + 1).toNat
  omega
 ·have hc := of_decide_eq_false hc
  have hk0 : k = 0 := by omega
  subst hk0
  simp (disch := omega) only [i64]
  refine ⟨fun i H w => ∃ (m : Nat) (l' : List Int), i = (m : Int) - 1 ∧ m ≤ b - a ∧ DS w0 H w s l' ∧ PermIn a b l l' ∧ Heap ltI a 0 m l' ∧ Outer ltI a b a (a + m) l', fun i _ => (i + 1).toNat, ⟨b - a, l1, by omega, Nat.le_refl _, h1, hP, hH, by rw [show a + (b - a) = b by omega]; exact Outer.start _ _ _⟩, ?_⟩
  rintro _ H2 w2 hs2 ⟨m, l2, rfl, hm, h2, hP2, hH2, hR2⟩
  have hl2 := hP2.len
  unfold m_X_l2
  refine ⟨fun hc => ?_, fun hc => ?_⟩
  ·have hc := of_decide_eq_true hc
   simp (disch := omega) only [i64]
   obtain ⟨x, hx⟩ := at_of (l := l2) (i := a) (by omega)
   obtain ⟨y, hy⟩ := at_of (l := l2) (i := a + (m - 1)) (by omega)
   refine h2.swp (i := a) (j := a + (m - 1)) rfl (by omega) hx hy (fun w4 h4 => ?_)
   have e1 : ((m : Int) - 1) = ((m - 1 : Nat) : Int) := by omega
   rw [e1]
   have hsw : PermIn a (a + m) l2 ((l2.set a y).set (a + (m - 1)) x) := PermIn.swp hx hy (by omega) (by omega) (by omega) (by omega)
   have hp4 := hP2.trans (hsw.mono (Nat.le_refl _) (by omega))
   have hl4 := hp4.len
   have htop := hH2.top ordI (by omega)
   have hH4 : Heap ltI a 1 (m - 1) ((l2.set a y).set (a + (m - 1)) x) := by
    intro k c h1 h2 h3
    exact Le.congr (by rw [swp_get hx hy, if_neg (by omega), if_neg (by omega)]) (by rw [swp_get hx hy, if_neg (by omega), if_neg (by omega)]) (hH2 k c (by omega) h2 (by omega))
   have hR4 : Outer ltI a b a (a + (m - 1)) ((l2.set a y).set (a + (m - 1)) x) := by
    have hR := hR2.perm hsw (Nat.le_refl _) (by omega)
    intro p q h1 h2 h3 h4
    by_cases e : q < a + m
    ·have hq : q = a + (m - 1) := by omega
     subst hq
     intro u v hu hv
     rw [swp_get hx hy, if_pos rfl] at hv
     cases hv
     rw [swp_get hx hy, if_neg (by omega)] at hu
     by_cases e2 : p = a
     ·subst e2; rw [if_pos rfl] at hu; cases hu
      exact htop (m - 1) (by omega) _ _ hy hx
     ·rw [if_neg e2] at hu
      have := htop (p - a) (by omega)
      rw [show a + (p - a) = p by omega] at this
      exact this _ _ hu hx
    ·exact hR p q h1 h2 h3 (by omega)
   refine (c_sift s _ a 0 (m - 1) w4 h4.own.rows (by omega) (by omega) (by omega) hH4).mono ?_
   rintro _ w5 ⟨rfl, hp⟩
   obtain ⟨hk5, l5, h5, hP5, hH5⟩ := hp.ds h4
   refine ⟨rfl, hk5, ⟨m - 1, l5, by omega, by omega, h5, hp4.trans (hP5.mono (by omega) (by omega)), hH5, hR4.perm hP5 (by omega) (by omega)⟩, ?_⟩
   show (((m - 1 : Nat) : Int) - 1 + 1).toNat < (((m - 1 : Nat) : Int) + 1).toNat
   omega
  ·have hc := of_decide_eq_false hc
   exact h2.sp ⟨hP2, hR2.done (SortedIn.small _ (by omega))⟩
theorem c_rev (s : Sl) (l : List Int) (a b : Nat) (w0 : World) (h : Rws w0 30 1 s (tmr l)) (hb : b ≤ l.length) (hn : l.length ≤ 1000000) (hab : a < b) :
  Calls Tryz.prog 161 #[s.v, .int .i64 a, .int .i64 b] w0 (fun e w' => e = .returned (.tuple #[]) ∧ SP w0 s (fun l' => PermIn a b l l') w') := by
 refine w_U1 _ _ _ w0 (SP w0 s (fun l' => PermIn a b l l')) ?_
 unfold m_U1
 simp (disch := omega) only [i64]
 refine ⟨fun i j H w => ∃ (m n : Nat) (l' : List Int), i = m ∧ j = (n : Int) - 1 ∧ a ≤ m ∧ n ≤ b ∧ m ≤ b ∧ DS w0 H w s l' ∧ PermIn a b l l', fun i j _ => (j + 1 - i).toNat, ⟨a, b, l, rfl, rfl, Nat.le_refl _, Nat.le_refl _, by omega, DS.start h, PermIn.refl _ _ _⟩, ?_⟩
 rintro _ _ H w hs ⟨m, n, l1, rfl, rfl, hm, hnb, hmb, h1, hP⟩
 have hl := hP.len
 unfold m_U1_l1
 refine ⟨fun hc => ?_, fun hc => h1.sp hP⟩
 have hc := of_decide_eq_true hc
 simp (disch := omega) only [i64]
 obtain ⟨x, hx⟩ := at_of (l := l1) (i := m) (by omega)
 obtain ⟨y, hy⟩ := at_of (l := l1) (i := n - 1) (by omega)
 refine h1.swp (i := m) (j := n - 1) rfl (by omega) hx hy (fun w4 h4 => ?_)
 refine ⟨⟨m + 1, n - 1, _, by omega, by omega, by omega, by omega, by omega, h4, hP.trans (PermIn.swp hx hy (by omega) (by omega) (by omega) (by omega))⟩, ?_⟩
 show ((n : Int) - 1 - 1 + 1 - ((m : Int) + 1)).toNat < ((n : Int) - 1 + 1 - (m : Int)).toNat
 omega
end Go.Proofs
end
section
open Go Go.SE Sp
namespace Sp
section
variable {α : Type} {lt : α → α → Bool} {l : List α} {a b : Nat} {v : α}
def Lo (lt : α → α → Bool) (v : α) (a i : Nat) (l : List α) : Prop := ∀ p x, a < p → p < i → l[p]? = some x → lt x v = true
def Hi (lt : α → α → Bool) (v : α) (j b : Nat) (l : List α) : Prop := ∀ p x, j ≤ p → p < b → l[p]? = some x → lt x v = false
theorem Lo.snoc {i : Nat} {y : α} (h : Lo lt v a i l) (hy : l[i]? = some y) (hl : lt y v = true) : Lo lt v a (i + 1) l := fun p x h1 h2 hx => by
 by_cases e : p = i
 ·subst e; rw [hy] at hx; cases hx; exact hl
 ·exact h p x h1 (by omega) hx
theorem Hi.cons {j : Nat} {y : α} (h : Hi lt v (j + 1) b l) (hy : l[j]? = some y) (hl : lt y v = false) : Hi lt v j b l := fun p x h1 h2 hx => by
 by_cases e : p = j
 ·subst e; rw [hy] at hx; cases hx; exact hl
 ·exact h p x (by omega) h2 hx
theorem Lo.swp {i j : Nat} {x y : α} (h : Lo lt v a i l) (hi : i < j) (hx : l[i]? = some x) (hy : l[j]? = some y) (hl : lt y v = true) : Lo lt v a (i + 1) ((l.set i y).set j x) := fun p u h1 h2 hu => by
 rw [swp_get hx hy, if_neg (by omega)] at hu
 by_cases e : p = i
 ·rw [if_pos e] at hu; cases hu; exact hl
 ·rw [if_neg e] at hu; exact h p u h1 (by omega) hu
theorem Hi.swp {i j : Nat} {x y : α} (h : Hi lt v (j + 1) b l) (hi : i < j) (hx : l[i]? = some x) (hy : l[j]? = some y) (hl : lt x v = false) : Hi lt v j b ((l.set i y).set j x) := fun p u h1 h2 hu => by
 rw [swp_get hx hy] at hu
 by_cases e : p = j
 ·rw [if_pos e] at hu; cases hu; exact hl
 ·rw [if_neg e, if_neg (by omega)] at hu; exact h p u (by omega) h2 hu
def Parted (lt : α → α → Bool) (a b m : Nat) (l : List α) : Prop := (∀ p, a ≤ p → p < m → Le lt l p m) ∧ ∀ p, m < p → p < b → Le lt l m p
theorem Parted.mk (ho : Ord lt) {j : Nat} {y : α} (hlo : Lo lt v a (j + 1) l) (hhi : Hi lt v (j + 1) b l) (haj : a ≤ j) (hv : l[a]? = some v) (hy : l[j]? = some y) : Parted lt a b j ((l.set j v).set a y) := by
 refine ⟨fun p h1 h2 x z hx hz => ?_, fun p h1 h2 x z hx hz => ?_⟩
 ·rw [swp_get hy hv] at hx hz
  have e1 : ¬ j = a := by omega
  rw [if_neg e1, if_pos rfl] at hz
  cases hz
  by_cases e : p = a
  ·rw [if_pos e] at hx; cases hx
   exact ho.asym _ _ (hlo j y (by omega) (by omega) hy)
  ·rw [if_neg e, if_neg (by omega)] at hx
   exact ho.asym _ _ (hlo p x (by omega) (by omega) hx)
 ·rw [swp_get hy hv] at hx hz
  rw [if_neg (by omega), if_neg (by omega)] at hz
  have hz' := hhi p z (by omega) h2 hz
  by_cases e : j = a
  ·rw [if_pos e] at hx; cases hx
   have : y = v := by rw [e, hv] at hy; cases hy; rfl
   rw [this]; exact hz'
  ·rw [if_neg e, if_pos rfl] at hx; cases hx; exact hz'
end
end Sp
namespace Go.Proofs
attribute [local irreducible] Calls
theorem lt_true {x y : Int} (h : s_A x y = true) : ltI x y = true := by rwa [less_eq] at h
theorem lt_false {x y : Int} (h : s_A x y = false) : ltI x y = false := by rwa [less_eq] at h
def PInv (w0 : World) (s : Sl) (l : List Int) (a b : Nat) (v : Int) (i j : Int) (H : NP) (w : World) : Prop :=
 ∃ (m n : Nat) (l' : List Int), i = m ∧ j = n ∧ a < m ∧ m ≤ n + 1 ∧ n < b ∧ DS w0 H w s l' ∧ PermIn a b l l' ∧ l'[a]? = some v ∧ Lo ltI v a m l' ∧ Hi ltI v (n + 1) b l'
theorem c_part (s : Sl) (l : List Int) (a b pv : Nat) (w0 : World) (h : Rws w0 30 1 s (tmr l)) (hb : b ≤ l.length) (hn : l.length ≤ 1000000) (ha : a ≤ pv) (hp : pv < b) :
  Calls Tryz.prog 165 #[s.v, .int .i64 a, .int .i64 b, .int .i64 pv] w0 (fun e w' => ∃ (r : Int) (ok : Bool), e = .returned (.tuple #[.int .i64 r, .bool ok]) ∧ ∃ m : Nat, r = m ∧ a ≤ m ∧ m < b ∧ SP w0 s (fun l' => PermIn a b l l' ∧ Parted ltI a b m l') w') := by
 refine w_D _ _ _ _ w0 (fun r _ w' => ∃ m : Nat, r = m ∧ a ≤ m ∧ m < b ∧ SP w0 s (fun l' => PermIn a b l l' ∧ Parted ltI a b m l') w') ?_
 unfold m_D
 obtain ⟨x0, hx0⟩ := at_of (l := l) (i := a) (by omega)
 obtain ⟨v, hv0⟩ := at_of (l := l) (i := pv) (by omega)
 refine (DS.start h).swp (i := a) (j := pv) rfl rfl hx0 hv0 (fun w1 h1 => ?_)
 have hP1 : PermIn a b l ((l.set a v).set pv x0) := PermIn.swp hx0 hv0 (by omega) (by omega) (by omega) (by omega)
 have hv1 : ((l.set a v).set pv x0)[a]? = some v := by
  rw [swp_get hx0 hv0]
  by_cases e : a = pv
  ·subst e; rw [hx0] at hv0; cases hv0; rw [if_pos rfl]
  ·rw [if_neg e, if_pos rfl]
 generalize (l.set a v).set pv x0 = l1 at h1 hP1 hv1
 have hl1 := hP1.len
 simp (disch := omega) only [i64]
 have J2 : ∀ (i j : Nat) (H : NP) (w : World), DS w0 H w s l1 → a < i → i ≤ j + 1 → j < b → Lo ltI v a i l1 → Hi ltI v (j + 1) b l1 → (i ≤ j → (∀ x, l1[i]? = some x → ltI x v = false) ∧ ∀ x, l1[j]? = some x → ltI x v = true) →
   m_D_j2 s a i j w0 H w (fun r _ w' => ∃ m : Nat, r = m ∧ a ≤ m ∧ m < b ∧ SP w0 s (fun l' => PermIn a b l l' ∧ Parted ltI a b m l') w') := by
  intro i j H w hD hi hij hj hlo hhi hst
  unfold m_D_j2
  refine ⟨fun hc => ?_, fun hc => ?_⟩
  ·have hc := of_decide_eq_true hc
   obtain ⟨y, hy⟩ := at_of (l := l1) (i := j) (by omega)
   refine hD.swp (i := j) (j := a) rfl rfl hy hv1 (fun w3 h3 => ⟨j, rfl, by omega, hj, h3.sp ⟨hP1.trans (PermIn.swp hy hv1 (by omega) (by omega) (by omega) (by omega)), ?_⟩⟩)
   exact Parted.mk ordI (by rw [show j + 1 = i by omega]; exact hlo) hhi (by omega) hv1 hy
  ·have hc := of_decide_eq_false hc
   have hij' : i ≤ j := by omega
   obtain ⟨x, hx⟩ := at_of (l := l1) (i := i) (by omega)
   obtain ⟨y, hy⟩ := at_of (l := l1) (i := j) (by omega)
   obtain ⟨s1, s2⟩ := hst hij'
   have s1 := s1 x hx
   have s2 := s2 y hy
   have hne : i ≠ j := by intro e; subst e; rw [hx] at hy; cases hy; rw [s1] at s2; cases s2
   refine hD.swp (i := i) (j := j) rfl rfl hx hy (fun w3 h3 => ?_)
   simp (disch := omega) only [i64]
   refine ⟨PInv w0 s l a b v, fun i j _ => (j + 1 - i).toNat,
    ⟨i + 1, j - 1, _, by omega, by omega, by omega, by omega, by omega, h3, hP1.trans (PermIn.swp hx hy (by omega) (by omega) (by omega) (by omega)), by rw [swp_get hx hy, if_neg (by omega), if_neg (by omega)]; exact hv1, hlo.swp (by omega) hx hy s2, by rw [show j - 1 + 1 = j by omega]; exact hhi.swp (by omega) hx hy s1⟩, ?_⟩
   rintro _ _ H4 w4 hs4 ⟨m, n, l4, rfl, rfl, hm, hmn, hnb, h4, hP4, hv4, hlo4, hhi4⟩
   have hl4 := hP4.len
   unfold m_D_l3
   refine ⟨fun i H w => ∃ (k : Nat), i = k ∧ m ≤ k ∧ k ≤ n + 1 ∧ DS w0 H w s l4 ∧ Lo ltI v a k l4, fun i _ => ((n : Int) + 1 - i).toNat, ⟨m, rfl, Nat.le_refl _, hmn, h4, hlo4⟩, ?_⟩
   rintro _ H5 w5 hs5 ⟨k, rfl, hk1, hk2, h5, hlo5⟩
   unfold m_D_l7
   have J4 : ∀ (H : NP) (w : World), DS w0 H w s l4 → (k ≤ n → ∀ x, l4[k]? = some x → ltI x v = false) → m_D_j4 s a n k w0 H w (fun y'0 y'1 H' w' => PInv w0 s l a b v y'0 y'1 H' w' ∧ (fun (i j : Int) (_ : World) => (j + 1 - i).toNat) y'0 y'1 w' < (fun (i j : Int) (_ : World) => (j + 1 - i).toNat) m n w4) (fun r _ w' => ∃ m : Nat, r = m ∧ a ≤ m ∧ m < b ∧ SP w0 s (fun l' => PermIn a b l l' ∧ Parted ltI a b m l') w') := by
    intro H6 w6 h6 hst1
    unfold m_D_j4
    refine ⟨fun j H w => ∃ (q : Nat), j = q ∧ q ≤ n ∧ k ≤ q + 1 ∧ DS w0 H w s l4 ∧ Hi ltI v (q + 1) b l4, fun j _ => j.toNat, ⟨n, rfl, Nat.le_refl _, hk2, h6, hhi4⟩, ?_⟩
    rintro _ H7 w7 hs7 ⟨q, rfl, hq1, hq2, h7, hhi7⟩
    unfold m_D_l6
    have J5 : ∀ (H : NP) (w : World), DS w0 H w s l4 → (k ≤ q → ∀ x, l4[q]? = some x → ltI x v = true) → m_D_j5 s a k q H w (fun y'0 y'1 H' w' => PInv w0 s l a b v y'0 y'1 H' w' ∧ (fun (i j : Int) (_ : World) => (j + 1 - i).toNat) y'0 y'1 w' < (fun (i j : Int) (_ : World) => (j + 1 - i).toNat) m n w4) (fun r _ w' => ∃ m : Nat, r = m ∧ a ≤ m ∧ m < b ∧ SP w0 s (fun l' => PermIn a b l l' ∧ Parted ltI a b m l') w') := by
     intro H8 w8 h8 hst2
     unfold m_D_j5
     refine ⟨fun hc => ?_, fun hc => ?_⟩
     ·have hc := of_decide_eq_true hc
      obtain ⟨y, hy⟩ := at_of (l := l4) (i := q) (by omega)
      refine h8.swp (i := q) (j := a) rfl rfl hy hv4 (fun w9 h9 => ⟨q, rfl, by omega, by omega, h9.sp ⟨hP4.trans (PermIn.swp hy hv4 (by omega) (by omega) (by omega) (by omega)), ?_⟩⟩)
      exact Parted.mk ordI (by rw [show q + 1 = k by omega]; exact hlo5) hhi7 (by omega) hv4 hy
     ·have hc := of_decide_eq_false hc
      have hkq : k ≤ q := by omega
      obtain ⟨x, hx⟩ := at_of (l := l4) (i := k) (by omega)
      obtain ⟨y, hy⟩ := at_of (l := l4) (i := q) (by omega)
      have s1 := hst1 (by omega) x hx
      have s2 := hst2 hkq y hy
      have hne : k ≠ q := by intro e; subst e; rw [hx] at hy; cases hy; rw [s1] at s2; cases s2
      refine h8.swp (i := k) (j := q) rfl rfl hx hy (fun w9 h9 => ?_)
      simp (disch := omega) only [i64]
      refine ⟨⟨k + 1, q - 1, _, by omega, by omega, by omega, by omega, by omega, h9, hP4.trans (PermIn.swp hx hy (by omega) (by omega) (by omega) (by omega)), by rw [swp_get hx hy, if_neg (by omega), if_neg (by omega)]; exact hv4, hlo5.swp (by omega) hx hy s2, by rw [show q - 1 + 1 = q by omega]; exact hhi7.swp (by omega) hx hy s1⟩, ?_⟩
      omega
    refine ⟨fun hc => ?_, fun hc H8 w8 hs8 => ?_⟩
    ·have hc := of_decide_eq_true hc
     obtain ⟨y, hy⟩ := at_of (l := l4) (i := q) (by omega)
     refine h7.two (i := q) (j := a) rfl rfl hy hv4 ⟨fun hlt H8 w8 hs8 => ?_, fun hlt H8 w8 hs8 => ?_⟩
     ·simp (disch := omega) only [i64]
      have := not_lt hlt
      refine ⟨⟨q - 1, by omega, by omega, by omega, h7.hst hs8, by rw [show q - 1 + 1 = q by omega]; exact hhi7.cons hy this⟩, ?_⟩
      show ((q : Int) - 1).toNat < (q : Int).toNat
      omega
     ·exact J5 _ _ (h7.hst hs8) (fun _ x hx => by rw [hy] at hx; cases hx; exact is_lt hlt)
    ·exact J5 _ _ (h7.hst hs8) (fun h => by have := of_decide_eq_false hc; omega)
   refine ⟨fun hc => ?_, fun hc H6 w6 hs6 => ?_⟩
   ·have hc := of_decide_eq_true hc
    obtain ⟨x, hx⟩ := at_of (l := l4) (i := k) (by omega)
    refine h5.two (i := k) (j := a) rfl rfl hx hv4 ⟨fun hlt H6 w6 hs6 => ?_, fun hlt H6 w6 hs6 => ?_⟩
    ·simp (disch := omega) only [i64]
     refine ⟨⟨k + 1, by omega, by omega, by omega, h5.hst hs6, hlo5.snoc hx (lt_true hlt)⟩, ?_⟩
     show ((n : Int) + 1 - ((k : Int) + 1)).toNat < ((n : Int) + 1 - (k : Int)).toNat
     omega
    ·exact J4 _ _ (h5.hst hs6) (fun _ z hz => by rw [hx] at hz; cases hz; exact lt_false hlt)
   ·exact J4 _ _ (h5.hst hs6) (fun h => by have := of_decide_eq_false hc; omega)
 refine ⟨fun i H w => ∃ (k : Nat), i = k ∧ a < k ∧ k ≤ b ∧ DS w0 H w s l1 ∧ Lo ltI v a k l1, fun i _ => ((b : Int) - i).toNat, ⟨a + 1, by omega, by omega, by omega, h1, fun p x h1 h2 => by omega⟩, ?_⟩
 rintro _ H5 w5 hs5 ⟨k, rfl, hk1, hk2, h5, hlo5⟩
 unfold m_D_l9
 have J1 : ∀ (H : NP) (w : World), DS w0 H w s l1 → (k < b → ∀ x, l1[k]? = some x → ltI x v = false) → m_D_j1 s a b k w0 H w (fun r _ w' => ∃ m : Nat, r = m ∧ a ≤ m ∧ m < b ∧ SP w0 s (fun l' => PermIn a b l l' ∧ Parted ltI a b m l') w') := by
  intro H6 w6 h6 hst1
  unfold m_D_j1
  simp (disch := omega) only [i64]
  refine ⟨fun j H w => ∃ (q : Nat), j = q ∧ q < b ∧ k ≤ q + 1 ∧ DS w0 H w s l1 ∧ Hi ltI v (q + 1) b l1, fun j _ => j.toNat, ⟨b - 1, by omega, by omega, by omega, h6, fun p x h1 h2 => by omega⟩, ?_⟩
  rintro _ H7 w7 hs7 ⟨q, rfl, hq1, hq2, h7, hhi7⟩
  unfold m_D_l8
  refine ⟨fun hc => ?_, fun hc H8 w8 hs8 => ?_⟩
  ·have hc := of_decide_eq_true hc
   obtain ⟨y, hy⟩ := at_of (l := l1) (i := q) (by omega)
   refine h7.two (i := q) (j := a) rfl rfl hy hv1 ⟨fun hlt H8 w8 hs8 => ?_, fun hlt H8 w8 hs8 => ?_⟩
   ·simp (disch := omega) only [i64]
    have := not_lt hlt
    refine ⟨⟨q - 1, by omega, by omega, by omega, h7.hst hs8, by rw [show q - 1 + 1 = q by omega]; exact hhi7.cons hy this⟩, ?_⟩
    show ((q : Int) - 1).toNat < (q : Int).toNat
    omega
   ·exact J2 k q _ _ (h7.hst hs8) hk1 hq2 hq1 hlo5 hhi7 (fun _ => ⟨hst1 (by omega), fun x hx => by rw [hy] at hx; cases hx; exact is_lt hlt⟩)
  ·exact J2 k q _ _ (h7.hst hs8) hk1 hq2 hq1 hlo5 hhi7 (fun h => by have := of_decide_eq_false hc; omega)
 simp (disch := omega) only [i64]
 refine ⟨fun hc => ?_, fun hc H6 w6 hs6 => ?_⟩
 ·have hc := of_decide_eq_true hc
  obtain ⟨x, hx⟩ := at_of (l := l1) (i := k) (by omega)
  refine h5.two (i := k) (j := a) rfl rfl hx hv1 ⟨fun hlt H6 w6 hs6 => ?_, fun hlt H6 w6 hs6 => ?_⟩
  ·refine ⟨⟨k + 1, by omega, by omega, by omega, h5.hst hs6, hlo5.snoc hx (lt_true hlt)⟩, ?_⟩
   show ((b : Int) - ((k : Int) + 1)).toNat < ((b : Int) - (k : Int)).toNat
   omega
  ·exact J1 _ _ (h5.hst hs6) (fun _ z hz => by rw [hx] at hz; cases hz; exact lt_false hlt)
 ·exact J1 _ _ (h5.hst hs6) (fun h => by have := of_decide_eq_false hc; omega)
end Go.Proofs
end
section
open Go Go.SE Sp
namespace Sp
section
variable {α : Type} {lt : α → α → Bool} {l l' : List α} {a b : Nat} {v : α}
def Eqs (lt : α → α → Bool) (v : α) (a i : Nat) (l : List α) : Prop := ∀ p x, a ≤ p → p < i → l[p]? = some x → lt v x = false
def Ups (lt : α → α → Bool) (v : α) (j b : Nat) (l : List α) : Prop := ∀ p x, j ≤ p → p < b → l[p]? = some x → lt v x = true
theorem Eqs.snoc {i : Nat} {y : α} (h : Eqs lt v a i l) (hy : l[i]? = some y) (hl : lt v y = false) : Eqs lt v a (i + 1) l := fun p x h1 h2 hx => by
 by_cases e : p = i
 ·subst e; rw [hy] at hx; cases hx; exact hl
 ·exact h p x h1 (by omega) hx
theorem Ups.cons {j : Nat} {y : α} (h : Ups lt v (j + 1) b l) (hy : l[j]? = some y) (hl : lt v y = true) : Ups lt v j b l := fun p x h1 h2 hx => by
 by_cases e : p = j
 ·subst e; rw [hy] at hx; cases hx; exact hl
 ·exact h p x (by omega) h2 hx
theorem Eqs.swp {i j : Nat} {x y : α} (h : Eqs lt v a i l) (hi : i < j) (hx : l[i]? = some x) (hy : l[j]? = some y) (hl : lt v y = false) : Eqs lt v a (i + 1) ((l.set i y).set j x) := fun p u h1 h2 hu => by
 rw [swp_get hx hy, if_neg (by omega)] at hu
 by_cases e : p = i
 ·rw [if_pos e] at hu; cases hu; exact hl
 ·rw [if_neg e] at hu; exact h p u h1 (by omega) hu
theorem Ups.swp {i j : Nat} {x y : α} (h : Ups lt v (j + 1) b l) (hi : i < j) (hx : l[i]? = some x) (hy : l[j]? = some y) (hl : lt v x = true) : Ups lt v j b ((l.set i y).set j x) := fun p u h1 h2 hu => by
 rw [swp_get hx hy] at hu
 by_cases e : p = j
 ·rw [if_pos e] at hu; cases hu; exact hl
 ·rw [if_neg e, if_neg (by omega)] at hu; exact h p u (by omega) h2 hu
theorem SortedIn.congr {k : Nat} (h : SortedIn lt a k l) (he : ∀ p, p < k → l'[p]? = l[p]?) : SortedIn lt a k l' := fun p q h1 h2 h3 => Le.congr (he p (by omega)) (he q h3) (h p q h1 h2 h3)
theorem SortedIn.snoc (ho : Ord lt) {k : Nat} (h : SortedIn lt a k l) (hk : k < l.length) (hl : a < k → Le lt l (k - 1) k) : SortedIn lt a (k + 1) l :=
 (h.but).done ho (by omega) hl
end
end Sp
namespace Go.Proofs
attribute [local irreducible] Calls
def EInv (w0 : World) (s : Sl) (l : List Int) (a b : Nat) (v : Int) (i j : Int) (H : NP) (w : World) : Prop :=
 ∃ (m n : Nat) (l' : List Int), i = m ∧ j = n ∧ a < m ∧ m ≤ n + 1 ∧ n < b ∧ DS w0 H w s l' ∧ PermIn a b l l' ∧ l'[a]? = some v ∧ Eqs ltI v a m l' ∧ Ups ltI v (n + 1) b l'
def Split (a b m : Nat) (l : List Int) : Prop := ∀ p q, a ≤ p → p < m → p < q → q < b → Le ltI l p q
theorem c_partEq (s : Sl) (l : List Int) (a b pv : Nat) (w0 : World) (h : Rws w0 30 1 s (tmr l)) (hb : b ≤ l.length) (hn : l.length ≤ 1000000) (ha : a ≤ pv) (hp : pv < b) (hmin : ∀ p, a ≤ p → p < b → Le ltI l pv p) :
  Calls Tryz.prog 164 #[s.v, .int .i64 a, .int .i64 b, .int .i64 pv] w0 (fun e w' => ∃ (r : Int), e = .returned (.int .i64 r) ∧ ∃ m : Nat, r = m ∧ a < m ∧ m ≤ b ∧ SP w0 s (fun l' => PermIn a b l l' ∧ Split a b m l') w') := by
 refine w_K _ _ _ _ w0 (fun r w' => ∃ m : Nat, r = m ∧ a < m ∧ m ≤ b ∧ SP w0 s (fun l' => PermIn a b l l' ∧ Split a b m l') w') ?_
 unfold m_K
 obtain ⟨x0, hx0⟩ := at_of (l := l) (i := a) (by omega)
 obtain ⟨v, hv0⟩ := at_of (l := l) (i := pv) (by omega)
 have hmin' : ∀ p x, a ≤ p → p < b → l[p]? = some x → ltI x v = false := fun p x h1 h2 hx => hmin p h1 h2 v x hv0 hx
 refine (DS.start h).swp (i := a) (j := pv) rfl rfl hx0 hv0 (fun w1 h1 => ?_)
 have hP1 : PermIn a b l ((l.set a v).set pv x0) := PermIn.swp hx0 hv0 (by omega) (by omega) (by omega) (by omega)
 have hv1 : ((l.set a v).set pv x0)[a]? = some v := by
  rw [swp_get hx0 hv0]
  by_cases e : a = pv
  ·subst e; rw [hx0] at hv0; cases hv0; rw [if_pos rfl]
  ·rw [if_neg e, if_pos rfl]
 generalize (l.set a v).set pv x0 = l1 at h1 hP1 hv1
 have hl1 := hP1.len
 simp (disch := omega) only [i64]
 refine ⟨EInv w0 s l a b v, fun i j _ => (j + 1 - i).toNat, ⟨a + 1, b - 1, l1, by omega, by omega, by omega, by omega, by omega, h1, hP1, hv1, fun p x h1 h2 hx => by
  have : p = a := by omega
  subst this; rw [hv1] at hx; cases hx; exact ordI.irr _, fun p x h1 h2 => by omega⟩, ?_⟩
 rintro _ _ H4 w4 hs4 ⟨m, n, l4, rfl, rfl, hm, hmn, hnb, h4, hP4, hv4, hlo4, hhi4⟩
 have hl4 := hP4.len
 have hge : ∀ p x, a ≤ p → p < b → l4[p]? = some x → ltI x v = false := fun p x h1 h2 hx => by
  obtain ⟨q, e1, e2, e3⟩ := hP4.mem p x h1 h2 hx
  exact hmin' q x e1 e2 e3
 unfold m_K_l1
 refine ⟨fun i H w => ∃ (k : Nat), i = k ∧ m ≤ k ∧ k ≤ n + 1 ∧ DS w0 H w s l4 ∧ Eqs ltI v a k l4, fun i _ => ((n : Int) + 1 - i).toNat, ⟨m, rfl, Nat.le_refl _, hmn, h4, hlo4⟩, ?_⟩
 rintro _ H5 w5 hs5 ⟨k, rfl, hk1, hk2, h5, hlo5⟩
 unfold m_K_l5
 have J2 : ∀ (H : NP) (w : World), DS w0 H w s l4 → (k ≤ n → ∀ x, l4[k]? = some x → ltI v x = true) → m_K_j2 s a n k w0 H w (fun y'0 y'1 H' w' => EInv w0 s l a b v y'0 y'1 H' w' ∧ (fun (i j : Int) (_ : World) => (j + 1 - i).toNat) y'0 y'1 w' < (fun (i j : Int) (_ : World) => (j + 1 - i).toNat) m n w4) (fun r w' => ∃ m : Nat, r = m ∧ a < m ∧ m ≤ b ∧ SP w0 s (fun l' => PermIn a b l l' ∧ Split a b m l') w') := by
  intro H6 w6 h6 hst1
  unfold m_K_j2
  refine ⟨fun j H w => ∃ (q : Nat), j = q ∧ q ≤ n ∧ k ≤ q + 1 ∧ DS w0 H w s l4 ∧ Ups ltI v (q + 1) b l4, fun j _ => j.toNat, ⟨n, rfl, Nat.le_refl _, hk2, h6, hhi4⟩, ?_⟩
  rintro _ H7 w7 hs7 ⟨q, rfl, hq1, hq2, h7, hhi7⟩
  unfold m_K_l4
  have J3 : ∀ (H : NP) (w : World), DS w0 H w s l4 → (k ≤ q → ∀ x, l4[q]? = some x → ltI v x = false) → m_K_j3 s k q H w (fun y'0 y'1 H' w' => EInv w0 s l a b v y'0 y'1 H' w' ∧ (fun (i j : Int) (_ : World) => (j + 1 - i).toNat) y'0 y'1 w' < (fun (i j : Int) (_ : World) => (j + 1 - i).toNat) m n w4) (fun r w' => ∃ m : Nat, r = m ∧ a < m ∧ m ≤ b ∧ SP w0 s (fun l' => PermIn a b l l' ∧ Split a b m l') w') := by
   intro H8 w8 h8 hst2
   unfold m_K_j3
   refine ⟨fun hc => ?_, fun hc => ?_⟩
   ·have hc := of_decide_eq_true hc
    refine ⟨k, rfl, by omega, by omega, h8.sp ⟨hP4, fun p q' p1 p2 p3 p4 x y hx hy => ?_⟩⟩
    by_cases e : q' < k
    ·exact ordI.trans _ _ _ (hlo5 p x p1 p2 hx) (hge q' y (by omega) p4 hy)
    ·exact ordI.trans _ _ _ (hlo5 p x p1 p2 hx) (ordI.asym _ _ (hhi7 q' y (by omega) p4 hy))
   ·have hc := of_decide_eq_false hc
    have hkq : k ≤ q := by omega
    obtain ⟨x, hx⟩ := at_of (l := l4) (i := k) (by omega)
    obtain ⟨y, hy⟩ := at_of (l := l4) (i := q) (by omega)
    have s1 := hst1 (by omega) x hx
    have s2 := hst2 hkq y hy
    have hne : k ≠ q := by intro e; subst e; rw [hx] at hy; cases hy; rw [s1] at s2; cases s2
    refine h8.swp (i := k) (j := q) rfl rfl hx hy (fun w9 h9 => ?_)
    simp (disch := omega) only [i64]
    refine ⟨⟨k + 1, q - 1, _, by omega, by omega, by omega, by omega, by omega, h9, hP4.trans (PermIn.swp hx hy (by omega) (by omega) (by omega) (by omega)), by rw [swp_get hx hy, if_neg (by omega), if_neg (by omega)]; exact hv4, hlo5.swp (by omega) hx hy s2, by rw [show q - 1 + 1 = q by omega]; exact hhi7.swp (by omega) hx hy s1⟩, ?_⟩
    omega
  refine ⟨fun hc => ?_, fun hc H8 w8 hs8 => ?_⟩
  ·have hc := of_decide_eq_true hc
   obtain ⟨y, hy⟩ := at_of (l := l4) (i := q) (by omega)
   refine h7.two (i := a) (j := q) rfl rfl hv4 hy ⟨fun hlt H8 w8 hs8 => ?_, fun hlt H8 w8 hs8 => ?_⟩
   ·simp (disch := omega) only [i64]
    refine ⟨⟨q - 1, by omega, by omega, by omega, h7.hst hs8, by rw [show q - 1 + 1 = q by omega]; exact hhi7.cons hy (lt_true hlt)⟩, ?_⟩
    show ((q : Int) - 1).toNat < (q : Int).toNat
    omega
   ·exact J3 _ _ (h7.hst hs8) (fun _ x hx => by rw [hy] at hx; cases hx; exact lt_false hlt)
  ·exact J3 _ _ (h7.hst hs8) (fun h => by have := of_decide_eq_false hc; omega)
 refine ⟨fun hc => ?_, fun hc H6 w6 hs6 => ?_⟩
 ·have hc := of_decide_eq_true hc
  obtain ⟨x, hx⟩ := at_of (l := l4) (i := k) (by omega)
  refine h5.two (i := a) (j := k) rfl rfl hv4 hx ⟨fun hlt H6 w6 hs6 => ?_, fun hlt H6 w6 hs6 => ?_⟩
  ·simp (disch := omega) only [i64]
   refine ⟨⟨k + 1, by omega, by omega, by omega, h5.hst hs6, hlo5.snoc hx (not_lt hlt)⟩, ?_⟩
   show ((n : Int) + 1 - ((k : Int) + 1)).toNat < ((n : Int) + 1 - (k : Int)).toNat
   omega
  ·exact J2 _ _ (h5.hst hs6) (fun _ z hz => by rw [hx] at hz; cases hz; exact is_lt hlt)
 ·exact J2 _ _ (h5.hst hs6) (fun h => by have := of_decide_eq_false hc; omega)
def IInv (w0 : World) (s : Sl) (l : List Int) (a b : Nat) (i j : Int) (H : NP) (w : World) : Prop :=
 ∃ (k m : Nat) (l' : List Int), i = k ∧ j = m ∧ a < k ∧ k ≤ b ∧ m ≤ 5 ∧ DS w0 H w s l' ∧ PermIn a b l l' ∧ SortedIn ltI a k l'
theorem c_partial (s : Sl) (l : List Int) (a b : Nat) (w0 : World) (h : Rws w0 30 1 s (tmr l)) (hb : b ≤ l.length) (hn : l.length ≤ 1000000) (hab : a < b) (hF : Floor ltI a b l) :
  Calls Tryz.prog 162 #[s.v, .int .i64 a, .int .i64 b] w0 (fun e w' => ∃ r : Bool, e = .returned (.bool r) ∧ SP w0 s (fun l' => PermIn a b l l' ∧ (r = true → SortedIn ltI a b l')) w') := by
 refine w_I _ _ _ w0 (fun r w' => SP w0 s (fun l' => PermIn a b l l' ∧ (r = true → SortedIn ltI a b l')) w') ?_
 unfold m_I
 simp (disch := omega) only [i64]
 refine ⟨IInv w0 s l a b, fun _ j _ => (5 - j).toNat, ⟨a + 1, 0, l, by omega, rfl, by omega, by omega, by omega, DS.start h, PermIn.refl _ _ _, SortedIn.small _ (Nat.le_refl _)⟩, ?_⟩
 rintro _ _ H1 w1 hs1 ⟨k0, m, l1, rfl, rfl, hk0, hkb0, hm, h1, hP1, hS1⟩
 have hl1 := hP1.len
 unfold m_I_l1
 refine ⟨fun hc => ?_, fun hc => h1.sp ⟨hP1, fun h => by cases h⟩⟩
 have hc5 := of_decide_eq_true hc
 refine ⟨fun i H w => ∃ (k : Nat), i = k ∧ a < k ∧ k ≤ b ∧ DS w0 H w s l1 ∧ SortedIn ltI a k l1, fun i _ => ((b : Int) - i).toNat, ⟨k0, rfl, hk0, hkb0, h1, hS1⟩, ?_⟩
 rintro _ H2 w2 hs2 ⟨k, rfl, hk, hkb, h2, hS2⟩
 unfold m_I_l6
 have J3 : ∀ (l3 : List Int) (H : NP) (w : World), DS w0 H w s l3 → PermIn a b l l3 → SortedIn ltI a k l3 → m_I_j3 s b m k w0 H w (fun y'0 y'1 H' w' => IInv w0 s l a b y'0 y'1 H' w' ∧ (fun (_ j : Int) (_ : World) => (5 - j).toNat) y'0 y'1 w' < (fun (_ j : Int) (_ : World) => (5 - j).toNat) k0 m w1) (fun r w' => SP w0 s (fun l' => PermIn a b l l' ∧ (r = true → SortedIn ltI a b l')) w') := by
  intro l3 H w hD hP hS
  have hl3 := hP.len
  unfold m_I_j3
  simp (disch := omega) only [i64]
  have go : ∀ (l4 : List Int) (H : NP) (w : World), DS w0 H w s l4 → PermIn a b l l4 → SortedIn ltI a k l4 → IInv w0 s l a b (k : Int) ((m : Int) + 1) H w ∧ (5 - ((m : Int) + 1)).toNat < (5 - (m : Int)).toNat :=
   fun l4 H w h4 hP4 hS4 => ⟨⟨k, m + 1, l4, rfl, by omega, hk, hkb, by omega, h4, hP4, hS4⟩, by omega⟩
  refine ⟨fun hc => ?_, fun hc => go l3 H w hD hP hS⟩
  refine ⟨fun j H w => ∃ (q : Nat) (l4 : List Int), j = q ∧ k + 1 ≤ q ∧ q ≤ b ∧ DS w0 H w s l4 ∧ PermIn a b l l4 ∧ SortedIn ltI a k l4, fun j _ => ((b : Int) - j).toNat, ⟨k + 1, l3, by omega, by omega, by have := of_decide_eq_true hc; omega, hD, hP, hS⟩, ?_⟩
  rintro _ H4 w4 hs4 ⟨q, l4, rfl, hq1, hq2, h4, hP4, hS4⟩
  have hl4 := hP4.len
  unfold m_I_l4
  simp (disch := omega) only [i64]
  refine ⟨fun hc => ?_, fun hc => go l4 H4 w4 h4 hP4 hS4⟩
  have hc := of_decide_eq_true hc
  obtain ⟨x, hx⟩ := at_of (l := l4) (i := q) (by omega)
  obtain ⟨y, hy⟩ := at_of (l := l4) (i := q - 1) (by omega)
  refine h4.two (i := q) (j := q - 1) rfl (by omega) hx hy ⟨fun hlt H5 w5 hs5 => go l4 H5 w5 (h4.hst hs5) hP4 hS4, fun hlt H5 w5 hs5 => ?_⟩
  refine (h4.hst hs5).swp (i := q) (j := q - 1) rfl (by omega) hx hy (fun w6 h6 => ?_)
  refine ⟨⟨q + 1, _, by omega, by omega, by omega, h6, hP4.trans (PermIn.swp hx hy (by omega) (by omega) (by omega) (by omega)), hS4.congr (fun p hp => by rw [swp_get hx hy, if_neg (by omega), if_neg (by omega)])⟩, ?_⟩
  show ((b : Int) - ((q : Int) + 1)).toNat < ((b : Int) - (q : Int)).toNat
  omega
 have J2 : ∀ (H : NP) (w : World), DS w0 H w s l1 → (k < b → ∀ x y, l1[k]? = some x → l1[k - 1]? = some y → ltI x y = true) → m_I_j2 s a b m k w0 H w (fun y'0 y'1 H' w' => IInv w0 s l a b y'0 y'1 H' w' ∧ (fun (_ j : Int) (_ : World) => (5 - j).toNat) y'0 y'1 w' < (fun (_ j : Int) (_ : World) => (5 - j).toNat) k0 m w1) (fun r w' => SP w0 s (fun l' => PermIn a b l l' ∧ (r = true → SortedIn ltI a b l')) w') := by
  intro H w hD hst
  unfold m_I_j2
  simp (disch := omega) only [i64]
  refine ⟨fun hc => ?_, fun hc => ⟨fun _ => hD.sp ⟨hP1, fun h => by cases h⟩, fun hc2 => ?_⟩⟩
  ·have hc : (k : Int) = b := by simpa using hc
   have : k = b := by omega
   subst this
   exact hD.sp ⟨hP1, fun _ => hS2⟩
  ·have hc : ¬ (k : Int) = b := by simpa using hc
   have hkb' : k < b := by omega
   obtain ⟨x, hx⟩ := at_of (l := l1) (i := k) (by omega)
   obtain ⟨y, hy⟩ := at_of (l := l1) (i := k - 1) (by omega)
   refine hD.swp (i := k) (j := k - 1) rfl (by omega) hx hy (fun w3 h3 => ?_)
   have hP3 : PermIn a b l ((l1.set k y).set (k - 1) x) := hP1.trans (PermIn.swp hx hy (by omega) (by omega) (by omega) (by omega))
   have hS3 : SortedIn ltI a (k - 1) ((l1.set k y).set (k - 1) x) := by
    have : SortedIn ltI a (k - 1) l1 := fun p q h1 h2 h3 => hS2 p q h1 h2 (by omega)
    exact this.congr (fun p hp => by rw [swp_get hx hy, if_neg (by omega), if_neg (by omega)])
   generalize (l1.set k y).set (k - 1) x = l3 at h3 hP3 hS3
   have hl3 := hP3.len
   refine ⟨fun hc3 => ?_, fun hc3 => J3 l3 _ _ h3 hP3 (SortedIn.small _ (by have := of_decide_eq_false hc3; omega))⟩
   have hc3 := of_decide_eq_true hc3
   refine ⟨fun j H w => ∃ (q : Nat) (l4 : List Int), j = q ∧ a ≤ q ∧ q < k ∧ DS w0 H w s l4 ∧ PermIn a b l l4 ∧ But ltI a k q l4, fun j _ => j.toNat, ⟨k - 1, l3, by omega, by omega, by omega, h3, hP3, by have := hS3.but; rwa [show k - 1 + 1 = k by omega] at this⟩, ?_⟩
   rintro _ H4 w4 hs4 ⟨q, l4, rfl, hq1, hq2, h4, hP4, hB4⟩
   have hl4 := hP4.len
   unfold m_I_l5
   refine ⟨fun hc => ?_, fun hc => J3 l4 _ _ h4 hP4 (hB4.done ordI (by omega) (fun h => by have := of_decide_eq_false hc; omega))⟩
   have hc := of_decide_eq_true hc
   simp (disch := omega) only [i64]
   obtain ⟨x, hx⟩ := at_of (l := l4) (i := q) (by omega)
   obtain ⟨y, hy⟩ := at_of (l := l4) (i := q - 1) (by omega)
   refine h4.two (i := q) (j := q - 1) rfl (by omega) hx hy ⟨fun hlt H5 w5 hs5 => ?_, fun hlt H5 w5 hs5 => ?_⟩
   ·exact J3 l4 _ _ (h4.hst hs5) hP4 (hB4.done ordI (by omega) (fun _ => Le.of hy hx (not_lt hlt)))
   ·have hlt := is_lt hlt
    have haq : a < q := by
     refine Nat.lt_of_le_of_ne hq1 (fun e => ?_)
     subst e
     have := (hF.perm hP4) (by omega) a (Nat.le_refl _) hab _ _ hy hx
     rw [this] at hlt; cases hlt
    refine (h4.hst hs5).swp (i := q) (j := q - 1) rfl (by omega) hx hy (fun w6 h6 => ?_)
    refine ⟨⟨q - 1, _, by omega, by omega, by omega, h6, hP4.trans (PermIn.swp hx hy (by omega) (by omega) (by omega) (by omega)), hB4.step ordI haq hx hy hlt⟩, ?_⟩
    show ((q : Int) - 1).toNat < (q : Int).toNat
    omega
 simp (disch := omega) only [i64]
 refine ⟨fun hc => ?_, fun hc H3 w3 hs3 => J2 _ _ (h2.hst hs3) (fun h => by have := of_decide_eq_false hc; omega)⟩
 have hc := of_decide_eq_true hc
 obtain ⟨x, hx⟩ := at_of (l := l1) (i := k) (by omega)
 obtain ⟨y, hy⟩ := at_of (l := l1) (i := k - 1) (by omega)
 refine h2.two (i := k) (j := k - 1) rfl (by omega) hx hy ⟨fun hlt H3 w3 hs3 => ?_, fun hlt H3 w3 hs3 => ?_⟩
 ·refine ⟨⟨k + 1, by omega, by omega, by omega, h2.hst hs3, hS2.snoc ordI (by omega) (fun _ => Le.of hy hx (not_lt hlt))⟩, ?_⟩
  show ((b : Int) - ((k : Int) + 1)).toNat < ((b : Int) - (k : Int)).toNat
  omega
 ·exact J2 _ _ (h2.hst hs3) (fun _ x' y' h1 h2 => by rw [hx] at h1; rw [hy] at h2; cases h1; cases h2; exact is_lt hlt)
end Go.Proofs
end
