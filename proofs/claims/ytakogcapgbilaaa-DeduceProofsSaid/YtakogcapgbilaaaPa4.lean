import Derived.Test.YtakogcapgbilaaaProg
import Derived.KernelRfl
import Derived.Test.YtakogcapgbilaaaPa0
import Derived.Test.YtakogcapgbilaaaPa3
import Derived.Test.YtakogcapgbilaaaPa2
section
open Go Go.SE
namespace Go.Proofs
set_option maxRecDepth 100000
set_option maxHeartbeats 4000000
attribute [local irreducible] wpL wpX opE wpE Calls
def m_ref08_Has_l1 (l1 : Sl) (t1 i1 : Int) (wl1 : World) (Kc1 : Int → World → Prop) (K : Bool → World → Prop) : Prop :=
 Br (decide (i1 < (l1.len : Int)))
  (∃ a1 : Addr, At l1 i1 1 a1 ∧
  ∃ v1 : Int, wl1.cell? a1 = some (vi v1) ∧
  Br (v1 == t1)
   (K true wl1)
   (Kc1 (IntKind.i64.wrap (i1 + 1)) wl1))
  (K false wl1)
def m_ref08_Has (l1 : Sl) (t1 : Int) (w0 : World) (K : Bool → World → Prop) : Prop :=
 ∃ (I1 : Int → World → Prop) (mu1 : Int → World → Nat), I1 0 w0 ∧
  ∀ (i1 : Int) (wl1 : World), I1 i1 wl1 → m_ref08_Has_l1 l1 t1 i1 wl1 (fun y'0 w' => I1 y'0 w' ∧ mu1 y'0 w' < mu1 i1 wl1) K
theorem w_ref08_Has (l1 : Sl) (t1 : Int) (w0 : World) (K : Bool → World → Prop) (h : m_ref08_Has l1 t1 w0 K) :
  Calls Try.prog 95 #[l1.v, (vi t1)] w0 (fun e w' => ∃ r1 : Bool, e = .returned (vb r1) ∧ K r1 w') := by
 unfold m_ref08_Has at h
 refine calls_of_wpE (args := [l1.v, (vi t1)]) Try.func95 rfl Try.ntmps95 (Nat.le_of_ble_eq_true rfl) (wpE_seq (rg (q0 (vb false) (wpL_nil (th_n (wpE_seq (wpE_seq (rg (q0 (vi 0) (wpL_nil (th_n ?_)))))))))))
 refine wpE_block ?_
 obtain ⟨I1, mu1, h0, hr⟩ := h
 refine wpE_loop (σ := Int × World) (fun s ρ w => w = s.2 ∧ Has ρ [(0, l1.v), (1, (vi t1)), (5, (vi s.1))] ∧ I1 s.1 s.2) (fun s => mu1 s.1 s.2) (0, w0) ⟨rfl, Has.mk (by kernel_rfl), h0⟩ ?_
 rintro ⟨i1, wl1⟩ ρ w ⟨hw, hH, hI⟩
 obtain rfl : wl1 = w := (show w = wl1 from hw).symm
 replace hH : Has ρ [(0, l1.v), (1, (vi t1)), (5, (vi i1))] := hH
 have h := hr i1 wl1 hI
 clear hr h0
 unfold m_ref08_Has_l1 at h
 refine wpE_has hH ?_
 clear hH hI
 refine wpE_seq (wpE_seq (rg (q0 (vi i1) (q0 l1.v (q0 (vi (l1.len : Int)) (q0 (vb (decide (i1 < (l1.len : Int)))) (wpL_nil (th_n ?_))))))))
 refine wpE_cond (t := (decide (i1 < (l1.len : Int)))) (by kernel_rfl) (fun hc1 => ?_) (fun hc1 => ?_)
 ·replace h := h.1 hc1
  refine wpE_skip (th_n (wpE_seq (wpE_block (wpE_seq (rg (q0 l1.v (q0 (vi i1) ?_)))))))
  obtain ⟨a1, hv2, h⟩ := h
  refine q2 (vp (some a1)) (x_indexAddr (s := l1) (k := .i64) (i := i1) (by kernel_rfl) (by kernel_rfl) (Try.runUnderlying26 _) (Try.sizeOf41 _) hv2) ?_
  obtain ⟨v1, hv1, h⟩ := h
  refine q2 (vi v1) (xl (Try.isAgg41 _) hv1) (q0 (vi t1) (q0 (vb (v1 == t1)) (wpL_nil (th_n ?_))))
  refine wpE_cond (t := (v1 == t1)) (by kernel_rfl) (fun hc2 => ?_) (fun hc2 => ?_)
  ·replace h := h.1 hc2
   refine wpE_seq (rg (q0 (vb true) (wpL_nil (th_n (wpE_ret (bl_r (th_r (th_r (bl_r (th_r (res1 (.inl rfl) Try.results95 (v := (vb true)) (by kernel_rfl) ?_)))))))))))
   exact ⟨true, rfl, h⟩
  ·replace h := h.2 hc2
   refine wpE_skip (bl_n (th_n (rg (q0 (vi i1) (q0 (vi (IntKind.i64.wrap (i1 + 1))) (q0 (vi (IntKind.i64.wrap (i1 + 1))) (wpL_nil (th_n ?_))))))))
   exact ⟨((IntKind.i64.wrap (i1 + 1)), wl1), ⟨rfl, Has.mk (by kernel_rfl), h.1⟩, h.2⟩
 ·replace h := h.2 hc1
  refine wpE_exit (th_x (th_x (bl_eq (th_n (wpE_seq (rg (q0 (vb false) (wpL_nil (th_n (wpE_ret (res1 (.inl rfl) Try.results95 (v := (vb false)) (by kernel_rfl) ?_)))))))))))
  exact ⟨false, rfl, h⟩
def m_ref08_Know_Add (k1 : Option Addr) (t1 : Int) (w0 : World) (K : Int → World → Prop) : Prop :=
 ∃ a1 : Addr, k1 = some a1 ∧
 ∃ v1 : Option Addr, w0.cell? a1 = some (vp v1) ∧
 Calls Try.prog 94 #[(vp v1), (vi t1)] w0 (fun e w1 => ∃ r1 : Bool, e = .returned (vb r1) ∧ 
  Br (!r1)
   (K 51 w1)
   (∃ a2 : Addr, k1 = some a2 ∧
   ∃ v2 : Sl, w1.cell? (a2.add 1) = some v2.v ∧
   Calls Try.prog 95 #[v2.v, (vi t1)] w1 (fun e w2 => ∃ r2 : Bool, e = .returned (vb r2) ∧ 
    Br (!r2)
     (∃ a3 : Addr, k1 = some a3 ∧
     ∃ v3 : Sl, w2.cell? (a3.add 1) = some v3.v ∧
     ∀ (p1 : Addr) (w3 : World), New w2 (.cells #[(vi t1)] 41) p1 w3 →
     ∃ s1 : Sl, ∃ w4 : World, (Builtin.append_ #[26, 26] 26 #[v3.v, (Sl.mk (some p1) 1 1).v]).run Try.prog w3 = .ok s1.v w4 ∧
     ∃ a4 : Addr, k1 = some a4 ∧
     CanW w4 (a4.add 1) ∧ ∀ w5 : World, w5 = w4.setCell (a4.add 1) s1.v →
     K 0 w5)
     (K 0 w2))))
theorem w_ref08_Know_Add (k1 : Option Addr) (t1 : Int) (w0 : World) (K : Int → World → Prop) (h : m_ref08_Know_Add k1 t1 w0 K) :
  Calls Try.prog 38 #[(vp k1), (vi t1)] w0 (fun e w' => ∃ r3 : Int, e = .returned (vi r3) ∧ K r3 w') := by
 unfold m_ref08_Know_Add at h
 refine calls_of_wpE (args := [(vp k1), (vi t1)]) Try.func38 rfl Try.ntmps38 (Nat.le_of_ble_eq_true rfl) (wpE_seq (rg (q0 (vi 0) (wpL_nil (th_n (wpE_seq (wpE_seq (rg (q0 (vp k1) ?_)))))))))
 obtain ⟨a1, hp1, h⟩ := h
 refine q2 (vp (some a1)) (x_nilCheck (p := k1) (by kernel_rfl) hp1) (q0 (vp (some a1)) ?_)
 obtain ⟨v1, hv4, h⟩ := h
 refine q2 (vp v1) (xl (Try.isAgg59 _) hv4) (q0 (vi t1) ?_)
 refine st_call (want0 rfl) (xc Try.call94) (h.mono ?_)
 rintro e w1 ⟨r1, rfl, h⟩
 refine ⟨_, rfl, ?_⟩
 refine q0 (vb (!r1)) (wpL_nil (th_n ?_))
 refine wpE_cond (t := (!r1)) (by kernel_rfl) (fun hc1 => ?_) (fun hc1 => ?_)
 ·replace h := h.1 hc1
  refine wpE_seq (rg (q0 (vi 51) (wpL_nil (th_n (wpE_ret (th_r (res1 (.inl rfl) Try.results38 (v := (vi 51)) (by kernel_rfl) ?_)))))))
  exact ⟨51, rfl, h⟩
 ·replace h := h.2 hc1
  refine wpE_skip (th_n (wpE_seq (wpE_seq (rg (q0 (vp k1) ?_)))))
  obtain ⟨a2, hp2, h⟩ := h
  refine q2 (vp (some a2)) (x_nilCheck (p := k1) (by kernel_rfl) hp2) (q0 (vp (some (a2.add 1))) ?_)
  obtain ⟨v2, hv3, h⟩ := h
  refine q2 v2.v (xl (Try.isAgg26 _) hv3) (q0 (vi t1) ?_)
  refine st_call (want0 rfl) (xc Try.call95) (h.mono ?_)
  rintro e w2 ⟨r2, rfl, h⟩
  refine ⟨_, rfl, ?_⟩
  refine q0 (vb (!r2)) (wpL_nil (th_n ?_))
  refine wpE_cond (t := (!r2)) (by kernel_rfl) (fun hc2 => ?_) (fun hc2 => ?_)
  ·replace h := h.1 hc2
   refine rg (q0 (vp k1) (q0 (vp k1) ?_))
   obtain ⟨a3, hp3, h⟩ := h
   refine q2 (vp (some a3)) (x_nilCheck (p := k1) (by kernel_rfl) hp3) (q0 (vp (some (a3.add 1))) ?_)
   obtain ⟨v3, hv2, h⟩ := h
   refine q2 v3.v (xl (Try.isAgg26 _) hv2) (q0 (vi t1) (st_new (O := (.cells #[(vi t1)] 41)) (fun p => (Sl.mk (some p) 1 1).v) (want0 rfl) (x_buildSlice (vs := #[(0, (vi t1))]) (by kernel_rfl) (by kernel_rfl)) ?_))
   intro p1 w3 hn2
   replace h := h p1 w3 hn2
   obtain ⟨s1, w4, hv1, h⟩ := h
   refine st (v := s1.v) (want0 rfl) (x_builtin (args := #[v3.v, (Sl.mk (some p1) 1 1).v]) (by kernel_rfl) (fun _ => rfl) hv1) ?_
   obtain ⟨a4, hp4, h⟩ := h
   refine q2 (vp (some a4)) (x_nilCheck (p := k1) (by kernel_rfl) hp4) (q0 (vp (some (a4.add 1))) ?_)
   obtain ⟨hp5, h⟩ := h
   refine st_set (want0 rfl) (x_store (a := (a4.add 1)) (v := s1.v) (by kernel_rfl) (by kernel_rfl) rfl (Try.sizeOf26 _) hp5) ?_
   intro w5 hn1
   replace h := h w5 hn1
   refine wpL_nil (th_n (wpE_seq (rg (q0 (vi 0) (wpL_nil (th_n (wpE_ret (res1 (.inl rfl) Try.results38 (v := (vi 0)) (by kernel_rfl) ?_))))))))
   exact ⟨0, rfl, h⟩
  ·replace h := h.2 hc2
   refine wpE_skip (th_n (wpE_seq (rg (q0 (vi 0) (wpL_nil (th_n (wpE_ret (res1 (.inl rfl) Try.results38 (v := (vi 0)) (by kernel_rfl) ?_))))))))
   exact ⟨0, rfl, h⟩
def s_ref08_shows (kind1 : Int) : Bool :=
 (((kind1 == 7) || (kind1 == 8)) || (kind1 == 9))
theorem pw_ref08_shows (kind1 : Int) (w0 : World) :
  Calls Try.prog 139 #[(vi kind1)] w0 (fun e w' => (e = .returned (vb (((kind1 == 7) || (kind1 == 8)) || (kind1 == 9)))) ∧ Pure w0 w') := by
 refine calls_of_wpE (args := [(vi kind1)]) Try.func139 rfl Try.ntmps139 (Nat.le_of_ble_eq_true rfl) (wpE_seq (rg (q0 (vb false) (wpL_nil (th_n (wpE_seq ?_))))))
 refine wpE_via (fun ρ wJ => w0 = wJ ∧ Has ρ [(2, (vb (((kind1 == 7) || (kind1 == 8)) || (kind1 == 9))))]) ?_ ?_
 ·skip
  refine rg (q0 (vi kind1) (q0 (vb (kind1 == 7)) (q0 (vb (kind1 == 7)) ?_)))
  refine wpL_join 3 (fun ρ wJ => ∃ b4'0 : Bool, ((kind1 == 7) = b4'0) ∧ w0 = wJ ∧ Has ρ [(0, (vi kind1)), (8, (vb (b4'0 || (kind1 == 8))))]) ?_ ?_
  ·rintro ρ w4 ⟨b4'0, he0, hw, hH⟩
   subst he0
   subst hw
   refine wpL_has hH ?_
   clear hH
   refine q0 (vb ((kind1 == 7) || (kind1 == 8))) ?_
   refine wpL_join 3 (fun ρ wJ => ∃ b5'0 : Bool, (((kind1 == 7) || (kind1 == 8)) = b5'0) ∧ w0 = wJ ∧ Has ρ [(12, (vb (b5'0 || (kind1 == 9))))]) ?_ ?_
   ·rintro ρ w5 ⟨b5'0, he0, hw, hH⟩
    subst he0
    subst hw
    refine wpL_has hH ?_
    clear hH
    refine q0 (vb (((kind1 == 7) || (kind1 == 8)) || (kind1 == 9))) (wpL_nil (th_n ?_))
    exact ⟨rfl, Has.mk (by kernel_rfl)⟩
   ·skip
    rcases Bool.eq_false_or_eq_true ((kind1 == 7) || (kind1 == 8)) with hg8 | hg8
    ·skip
     refine sk (yD 9 hg8) (sk (yD 9 hg8) (q2 (vb true) (xT hg8) (wpL_nil ?_)))
     exact ⟨true, hg8, rfl, Has.mk (by kernel_rfl)⟩
    ·skip
     refine q1 (vi kind1) (want1 rfl (yD 9 hg8)) (q1 (vb (kind1 == 9)) (want1 rfl (yD 9 hg8)) (q2 (vb (kind1 == 9)) (xF hg8) (wpL_nil ?_)))
     exact ⟨false, hg8, rfl, Has.mk (by kernel_rfl)⟩
  ·skip
   rcases Bool.eq_false_or_eq_true (kind1 == 7) with hg6 | hg6
   ·skip
    refine sk (yD 5 hg6) (sk (yD 5 hg6) (q2 (vb true) (xT hg6) (wpL_nil ?_)))
    exact ⟨true, hg6, rfl, Has.mk (by kernel_rfl)⟩
   ·skip
    refine q1 (vi kind1) (want1 rfl (yD 5 hg6)) (q1 (vb (kind1 == 8)) (want1 rfl (yD 5 hg6)) (q2 (vb (kind1 == 8)) (xF hg6) (wpL_nil ?_)))
    exact ⟨false, hg6, rfl, Has.mk (by kernel_rfl)⟩
 ·rintro ρ w3 ⟨hw, hH⟩
  subst hw
  refine norm_has hH ?_
  clear hH
  refine th_n (wpE_ret (res1 (.inl rfl) Try.results139 (v := (vb (((kind1 == 7) || (kind1 == 8)) || (kind1 == 9)))) (by kernel_rfl) ?_))
  exact ⟨by kernel_rfl, Ext.refl _⟩
theorem p_ref08_shows (kind1 : Int) (w0 : World) : Calls Try.prog 139 #[(.int .i64 kind1)] w0 (fun e w' => e = .returned (.bool (s_ref08_shows kind1)) ∧ Pure w0 w') := pw_ref08_shows kind1 w0
def m_ref08_Know_seen_j3 (s1 : Sl) (t1 aA : Int) (aB aE : Int) (x1 : Bool) (H : Nat → Prop) (w : World) (Kc2 : Int → (Nat → Prop) → World → Prop) (_K : Sl → World → Prop) : Prop :=
 Br x1
  (∃ a10 : Addr, At s1 aB 1 a10 ∧
  CanW w a10 ∧ ¬ H a10.block ∧ ∀ w6 : World, w6 = w.setCell a10 (vb true) →
  Br (aA == 4)
   (∃ a11 : Addr, At s1 aE 1 a11 ∧
   CanW w6 a11 ∧ ¬ H a11.block ∧ ∀ w7 : World, w7 = w6.setCell a11 (vb true) →
   Kc2 (IntKind.i64.wrap (t1 - 1)) H w7)
   (Kc2 (IntKind.i64.wrap (t1 - 1)) H w6))
  (Kc2 (IntKind.i64.wrap (t1 - 1)) H w)
def m_ref08_Know_seen_l2 (k1 : Option Addr) (s1 : Sl) (t1 : Int) (w0 : World) (Hl2 : Nat → Prop) (wl2 : World) (Kc2 : Int → (Nat → Prop) → World → Prop) (K : Sl → World → Prop) : Prop :=
 Br (decide (t1 ≥ 1))
  (∃ a9 : Addr, k1 = some a9 ∧
  ∃ v8 : Option Addr, wl2.cell? a9 = some (vp v8) ∧
  Calls Try.prog 47 #[(vp v8), (vi t1)] wl2 (fun e w3 => ∃ aA aC : Int, ∃ aD aH : Int, ∃ aI : ByteArray, ∃ aB aE : Int, ∃ r1 : Bool, e = .returned (.tuple #[(.agg #[(vi aA), (vi aC), (vi aD), (vu aH), (vs aI), (vi aB), (vi aE)]), (vb r1)]) ∧ 
   Kept Hl2 wl2 w3 ∧
   ∃ a12 : Addr, At s1 t1 1 a12 ∧
   ∀ (H1 : Nat → Prop) (w5 : World), Hst w0 Hl2 w3 H1 w5 →
   ∃ v9 : Bool, w5.cell? a12 = some (vb v9) ∧
   ∀ (H3 : Nat → Prop) (w11 : World), Hst w0 H1 w5 H3 w11 →
   m_ref08_Know_seen_j3 s1 t1 aA aB aE (v9 && ((aA == 4) || (s_ref08_shows aA))) H3 w11 Kc2 K))
  (K s1 wl2)
def m_ref08_Know_seen_l1 (k1 : Option Addr) (s1 : Sl) (i1 : Int) (w0 : World) (Hl1 : Nat → Prop) (wl1 : World) (Kc1 : Int → (Nat → Prop) → World → Prop) (K : Sl → World → Prop) : Prop :=
 ∃ a3 : Addr, k1 = some a3 ∧
 ∃ v3 : Sl, wl1.cell? (a3.add 1) = some v3.v ∧
 Br (decide (i1 < (v3.len : Int)))
  (∃ a4 : Addr, k1 = some a4 ∧
  ∃ v4 : Sl, wl1.cell? (a4.add 1) = some v4.v ∧
  ∃ a5 : Addr, At v4 i1 1 a5 ∧
  ∃ v5 : Int, wl1.cell? a5 = some (vi v5) ∧
  ∃ a6 : Addr, At s1 v5 1 a6 ∧
  CanW wl1 a6 ∧ ¬ Hl1 a6.block ∧ ∀ w2 : World, w2 = wl1.setCell a6 (vb true) →
  Kc1 (IntKind.i64.wrap (i1 + 1)) Hl1 w2)
  (∃ a7 : Addr, k1 = some a7 ∧
  ∃ v6 : Option Addr, wl1.cell? a7 = some (vp v6) ∧
  ∃ a8 : Addr, v6 = some a8 ∧
  ∃ v7 : Sl, wl1.cell? a8 = some v7.v ∧
  ∃ (I2 : Int → (Nat → Prop) → World → Prop) (mu2 : Int → World → Nat), I2 (v7.len : Int) Hl1 wl1 ∧
   ∀ (t1 : Int) (Hl2 : Nat → Prop) (wl2 : World), Hst w0 Hl2 wl2 Hl2 wl2 → I2 t1 Hl2 wl2 → m_ref08_Know_seen_l2 k1 s1 t1 w0 Hl2 wl2 (fun y'0 H' w' => I2 y'0 H' w' ∧ mu2 y'0 w' < mu2 t1 wl2) K)
def m_ref08_Know_seen (k1 : Option Addr) (w0 : World) (K : Sl → World → Prop) : Prop :=
 ∃ a1 : Addr, k1 = some a1 ∧
 ∃ v1 : Option Addr, w0.cell? a1 = some (vp v1) ∧
 ∃ a2 : Addr, v1 = some a2 ∧
 ∃ v2 : Sl, w0.cell? a2 = some v2.v ∧
 ∃ s1 : Sl, ∃ w1 : World, (Instr.makeSlice 70 (vi (IntKind.i64.wrap ((v2.len : Int) + 1))) (vi (IntKind.i64.wrap ((v2.len : Int) + 1)))).run Try.prog w0 = .ok s1.v w1 ∧
 Kept None w0 w1 ∧
 ∃ (I1 : Int → (Nat → Prop) → World → Prop) (mu1 : Int → World → Nat), I1 0 None w1 ∧
  ∀ (i1 : Int) (Hl1 : Nat → Prop) (wl1 : World), Hst w0 Hl1 wl1 Hl1 wl1 → I1 i1 Hl1 wl1 → m_ref08_Know_seen_l1 k1 s1 i1 w0 Hl1 wl1 (fun y'0 H' w' => I1 y'0 H' w' ∧ mu1 y'0 w' < mu1 i1 wl1) K
theorem w_ref08_Know_seen (k1 : Option Addr) (w0 : World) (K : Sl → World → Prop) (h : m_ref08_Know_seen k1 w0 K) :
  Calls Try.prog 96 #[(vp k1)] w0 (fun e w' => ∃ r2 : Sl, e = .returned r2.v ∧ K r2 w') := by
 unfold m_ref08_Know_seen at h
 refine calls_of_wpE (args := [(vp k1)]) Try.func96 rfl Try.ntmps96 (Nat.le_of_ble_eq_true rfl) ?_
 have hs := Hst.start w0
 have hb := HB.nil None w0
 refine wpE_seq (rg (q0 Sl.nil.v (wpL_nil (th_n (wpE_seq (rg (q0 (vp k1) ?_)))))))
 obtain ⟨a1, hp1, h⟩ := h
 refine q2 (vp (some a1)) (x_nilCheck (p := k1) (by kernel_rfl) hp1) (q0 (vp (some a1)) ?_)
 obtain ⟨v1, hv15, h⟩ := h
 refine q2 (vp v1) (xl (Try.isAgg59 _) hv15) ?_
 obtain ⟨a2, hp2, h⟩ := h
 refine q2 (vp (some a2)) (x_nilCheck (p := v1) (by kernel_rfl) hp2) (q0 (vp (some a2)) ?_)
 obtain ⟨v2, hv14, h⟩ := h
 refine q2 v2.v (xl (Try.isAgg72 _) hv14) (q0 (vi (v2.len : Int)) (q0 (vi (IntKind.i64.wrap ((v2.len : Int) + 1))) ?_))
 obtain ⟨s1, w1, hv13, hk, h⟩ := h
 refine st (v := s1.v) (want0 rfl) (x_makeSlice (by kernel_rfl) (by kernel_rfl) hv13) ?_
 obtain ⟨hs, hb⟩ := hk.hh hs hb
 refine q0 s1.v (wpL_nil (th_n (wpE_seq (wpE_seq (rg (q0 (vi 0) (wpL_nil (th_n (wpE_block ?_)))))))))
 obtain ⟨I1, mu1, h0, hr⟩ := h
 refine wpE_loop (σ := Int × (Nat → Prop) × World) (fun s ρ w => w = s.2.2 ∧ Has ρ [(0, (vp k1)), (3, s1.v), (4, (vi s.1))] ∧ Hst w0 s.2.1 w s.2.1 w ∧ HB s.2.1 w [] ∧ I1 s.1 s.2.1 s.2.2) (fun s => mu1 s.1 s.2.2) (0, None, w1) ⟨rfl, Has.mk (by kernel_rfl), hs, hb, h0⟩ ?_
 clear hs hb
 rintro ⟨i1, Hl1, wl1⟩ ρ w ⟨hw, hH, hs, hb, hI⟩
 obtain rfl : wl1 = w := (show w = wl1 from hw).symm
 replace hH : Has ρ [(0, (vp k1)), (3, s1.v), (4, (vi i1))] := hH
 replace hs : Hst w0 Hl1 wl1 Hl1 wl1 := hs
 replace hb : HB Hl1 wl1 [] := hb
 have h := hr i1 Hl1 wl1 hs hI
 clear hr h0
 unfold m_ref08_Know_seen_l1 at h
 refine wpE_has hH ?_
 clear hH hI
 refine wpE_seq (wpE_seq (rg (q0 (vi i1) (q0 (vp k1) ?_))))
 obtain ⟨a3, hp3, h⟩ := h
 refine q2 (vp (some a3)) (x_nilCheck (p := k1) (by kernel_rfl) hp3) (q0 (vp (some (a3.add 1))) ?_)
 obtain ⟨v3, hv12, h⟩ := h
 refine q2 v3.v (xl (Try.isAgg26 _) hv12) (q0 (vi (v3.len : Int)) (q0 (vb (decide (i1 < (v3.len : Int)))) (wpL_nil (th_n ?_))))
 refine wpE_cond (t := (decide (i1 < (v3.len : Int)))) (by kernel_rfl) (fun hc1 => ?_) (fun hc1 => ?_)
 ·replace h := h.1 hc1
  refine wpE_skip (th_n (wpE_seq (wpE_block (rg (q0 s1.v (q0 (vp k1) ?_))))))
  obtain ⟨a4, hp4, h⟩ := h
  refine q2 (vp (some a4)) (x_nilCheck (p := k1) (by kernel_rfl) hp4) (q0 (vp (some (a4.add 1))) ?_)
  obtain ⟨v4, hv4, h⟩ := h
  refine q2 v4.v (xl (Try.isAgg26 _) hv4) (q0 (vi i1) ?_)
  obtain ⟨a5, hv3, h⟩ := h
  refine q2 (vp (some a5)) (x_indexAddr (s := v4) (k := .i64) (i := i1) (by kernel_rfl) (by kernel_rfl) (Try.runUnderlying26 _) (Try.sizeOf41 _) hv3) ?_
  obtain ⟨v5, hv2, h⟩ := h
  refine q2 (vi v5) (xl (Try.isAgg41 _) hv2) ?_
  obtain ⟨a6, hv1, h⟩ := h
  refine q2 (vp (some a6)) (x_indexAddr (s := s1) (k := .i64) (i := v5) (by kernel_rfl) (by kernel_rfl) (Try.runUnderlying70 _) (Try.sizeOf4 _) hv1) ?_
  obtain ⟨hp5, hnh, h⟩ := h
  refine st_set (want0 rfl) (x_store (a := a6) (v := (vb true)) (by kernel_rfl) (by kernel_rfl) rfl (Try.sizeOf4 _) hp5) ?_
  intro w2 hn1
  replace h := h w2 hn1
  have hk : Kept Hl1 wl1 w2 := by rw [hn1]; exact Kept.setCell hnh
  replace hs := hs.again hk
  replace hb := hb.kept hk
  clear hk hnh
  refine wpL_nil (bl_n (th_n (rg (q0 (vi i1) (q0 (vi (IntKind.i64.wrap (i1 + 1))) (q0 (vi (IntKind.i64.wrap (i1 + 1))) (wpL_nil (th_n ?_))))))))
  exact ⟨((IntKind.i64.wrap (i1 + 1)), Hl1, w2), ⟨rfl, Has.mk (by kernel_rfl), hs, hb, h.1⟩, h.2⟩
 ·replace h := h.2 hc1
  refine wpE_exit (th_x (th_x (bl_eq (th_n (wpE_seq (wpE_seq (rg (q0 (vp k1) ?_))))))))
  obtain ⟨a7, hp6, h⟩ := h
  refine q2 (vp (some a7)) (x_nilCheck (p := k1) (by kernel_rfl) hp6) (q0 (vp (some a7)) ?_)
  obtain ⟨v6, hv11, h⟩ := h
  refine q2 (vp v6) (xl (Try.isAgg59 _) hv11) ?_
  obtain ⟨a8, hp7, h⟩ := h
  refine q2 (vp (some a8)) (x_nilCheck (p := v6) (by kernel_rfl) hp7) (q0 (vp (some a8)) ?_)
  obtain ⟨v7, hv10, h⟩ := h
  refine q2 v7.v (xl (Try.isAgg72 _) hv10) (q0 (vi (v7.len : Int)) (q0 (vi (v7.len : Int)) (wpL_nil (th_n (wpE_block ?_)))))
  obtain ⟨I2, mu2, h0, hr⟩ := h
  refine wpE_loop (σ := Int × (Nat → Prop) × World) (fun s ρ w => w = s.2.2 ∧ Has ρ [(0, (vp k1)), (3, s1.v), (5, (vi s.1))] ∧ Hst w0 s.2.1 w s.2.1 w ∧ HB s.2.1 w [] ∧ I2 s.1 s.2.1 s.2.2) (fun s => mu2 s.1 s.2.2) ((v7.len : Int), Hl1, wl1) ⟨rfl, Has.mk (by kernel_rfl), hs, hb, h0⟩ ?_
  clear hs hb
  rintro ⟨t1, Hl2, wl2⟩ ρ w ⟨hw, hH, hs, hb, hI⟩
  obtain rfl : wl2 = w := (show w = wl2 from hw).symm
  replace hH : Has ρ [(0, (vp k1)), (3, s1.v), (5, (vi t1))] := hH
  replace hs : Hst w0 Hl2 wl2 Hl2 wl2 := hs
  replace hb : HB Hl2 wl2 [] := hb
  have h := hr t1 Hl2 wl2 hs hI
  clear hr h0
  unfold m_ref08_Know_seen_l2 at h
  refine wpE_has hH ?_
  clear hH hI
  refine wpE_seq (wpE_seq (rg (q0 (vi t1) (q0 (vb (decide (t1 ≥ 1))) (wpL_nil (th_n ?_))))))
  refine wpE_cond (t := (decide (t1 ≥ 1))) (by kernel_rfl) (fun hc2 => ?_) (fun hc2 => ?_)
  ·replace h := h.1 hc2
   refine wpE_skip (th_n (wpE_seq (wpE_block (wpE_seq (rg (q0 (vp k1) ?_))))))
   obtain ⟨a9, hp8, h⟩ := h
   refine q2 (vp (some a9)) (x_nilCheck (p := k1) (by kernel_rfl) hp8) (q0 (vp (some a9)) ?_)
   obtain ⟨v8, hv9, h⟩ := h
   refine q2 (vp v8) (xl (Try.isAgg59 _) hv9) (q0 (vi t1) ?_)
   refine st_call (want0 rfl) (xc Try.call47) (h.mono ?_)
   rintro e w3 ⟨aA, aC, aD, aH, aI, aB, aE, r1, rfl, hk, h⟩
   refine ⟨_, rfl, ?_⟩
   obtain ⟨hs, hb⟩ := hk.hh hs hb
   refine q0 (.tuple #[(.agg #[(vi aA), (vi aC), (vi aD), (vu aH), (vs aI), (vi aB), (vi aE)]), (vb r1)]) (q0 (.agg #[(vi aA), (vi aC), (vi aD), (vu aH), (vs aI), (vi aB), (vi aE)]) (q0 (vb r1) (sn (O := (.cells #[(vi 0), (vi 0), (vi 0), (vu 0), (vs ⟨#[]⟩), (vi 0), (vi 0)] 93)) (x_alloc (Try.zeroValue93 _) rfl) ?_)))
   intro p1 w4 hn2
   obtain ⟨H1, hs, hb⟩ := hs.alloc hb hn2
   refine st_set (want0 rfl) (x_storeA (a := p1) (vs := [(vi aA), (vi aC), (vi aD), (vu aH), (vs aI), (vi aB), (vi aE)]) (by kernel_rfl) (by kernel_rfl) rfl (Try.sizeOf93 _) rfl (hb.canWs0 0 7 gZ (by kernel_rfl))) ?_
   intro w5 hn3
   have hsb : Hst w0 Hl2 w3 H1 w5 ∧ HB H1 w5 [(p1, [(vi aA), (vi aC), (vi aD), (vu aH), (vs aI), (vi aB), (vi aE)], 93)] := by
    rw [hn3]
    exact hb.store0 (i := 0) (vs := [(vi aA), (vi aC), (vi aD), (vu aH), (vs aI), (vi aB), (vi aE)]) hs gZ (by kernel_rfl) (by kernel_rfl)
   clear hs hb hn3
   obtain ⟨hs, hb⟩ := hsb
   refine q0 (vb r1) (wpL_nil (th_n (wpE_seq ?_)))
   refine wpE_joinT (fun ρ w => ∃ x1 : Bool, ∃ H : Nat → Prop, Has ρ [(0, (vp k1)), (3, s1.v), (5, (vi t1)), (6, (vp (some p1))), (70, (vb x1))] ∧ Hst w0 H w H w ∧ HB H w [(p1, [(vi aA), (vi aC), (vi aD), (vu aH), (vs aI), (vi aB), (vi aE)], 93)] ∧ m_ref08_Know_seen_j3 s1 t1 aA aB aE x1 H w (fun y'0 H' w' => I2 y'0 H' w' ∧ mu2 y'0 w' < mu2 t1 wl2) K) ?_ ?_
   ·clear h hs hb
    rintro ρ w ⟨x1, H, hH, hs, hb, h⟩
    unfold m_ref08_Know_seen_j3 at h
    refine wpE_has hH ?_
    clear hH
    refine wpE_cond (t := x1) (by kernel_rfl) (fun hc3 => ?_) (fun hc3 => ?_)
    ·replace h := h.1 hc3
     refine wpE_seq (rg (q0 s1.v (q0 (vp (some (p1.add 5))) (q2 (vi aB) (xl (Try.isAgg41 _) (hb.c 0 5 gZ)) ?_))))
     obtain ⟨a10, hv6, h⟩ := h
     refine q2 (vp (some a10)) (x_indexAddr (s := s1) (k := .i64) (i := aB) (by kernel_rfl) (by kernel_rfl) (Try.runUnderlying70 _) (Try.sizeOf4 _) hv6) ?_
     obtain ⟨hp9, hnh, h⟩ := h
     refine st_set (want0 rfl) (x_store (a := a10) (v := (vb true)) (by kernel_rfl) (by kernel_rfl) rfl (Try.sizeOf4 _) hp9) ?_
     intro w6 hn4
     replace h := h w6 hn4
     have hk : Kept H w w6 := by rw [hn4]; exact Kept.setCell hnh
     replace hs := hs.again hk
     replace hb := hb.kept hk
     clear hk hnh
     refine wpL_nil (th_n (wpE_seq (rg (q0 (vp (some p1)) (q2 (vi aA) (xl (Try.isAgg3 _) (hb.c0 0 gZ)) (q0 (vb (aA == 4)) (wpL_nil (th_n ?_))))))))
     refine wpE_cond (t := (aA == 4)) (by kernel_rfl) (fun hc4 => ?_) (fun hc4 => ?_)
     ·replace h := h.1 hc4
      refine rg (q0 s1.v (q0 (vp (some (p1.add 6))) (q2 (vi aE) (xl (Try.isAgg41 _) (hb.c 0 6 gZ)) ?_)))
      obtain ⟨a11, hv5, h⟩ := h
      refine q2 (vp (some a11)) (x_indexAddr (s := s1) (k := .i64) (i := aE) (by kernel_rfl) (by kernel_rfl) (Try.runUnderlying70 _) (Try.sizeOf4 _) hv5) ?_
      obtain ⟨hp10, hnh, h⟩ := h
      refine st_set (want0 rfl) (x_store (a := a11) (v := (vb true)) (by kernel_rfl) (by kernel_rfl) rfl (Try.sizeOf4 _) hp10) ?_
      intro w7 hn5
      replace h := h w7 hn5
      have hk : Kept H w6 w7 := by rw [hn5]; exact Kept.setCell hnh
      replace hs := hs.again hk
      replace hb := hb.kept hk
      clear hk hnh
      refine wpL_nil (bl_n (th_n (rg (q0 (vi t1) (q0 (vi (IntKind.i64.wrap (t1 - 1))) (q0 (vi (IntKind.i64.wrap (t1 - 1))) (wpL_nil (th_n ?_))))))))
      exact ⟨((IntKind.i64.wrap (t1 - 1)), H, w7), ⟨rfl, Has.mk (by kernel_rfl), hs, hb.drop 1, h.1⟩, h.2⟩
     ·replace h := h.2 hc4
      refine wpE_skip (bl_n (th_n (rg (q0 (vi t1) (q0 (vi (IntKind.i64.wrap (t1 - 1))) (q0 (vi (IntKind.i64.wrap (t1 - 1))) (wpL_nil (th_n ?_))))))))
      exact ⟨((IntKind.i64.wrap (t1 - 1)), H, w6), ⟨rfl, Has.mk (by kernel_rfl), hs, hb.drop 1, h.1⟩, h.2⟩
    ·replace h := h.2 hc3
     refine wpE_skip (bl_n (th_n (rg (q0 (vi t1) (q0 (vi (IntKind.i64.wrap (t1 - 1))) (q0 (vi (IntKind.i64.wrap (t1 - 1))) (wpL_nil (th_n ?_))))))))
     exact ⟨((IntKind.i64.wrap (t1 - 1)), H, w), ⟨rfl, Has.mk (by kernel_rfl), hs, hb.drop 1, h.1⟩, h.2⟩
   ·skip
    refine rg (q0 s1.v (q0 (vi t1) ?_))
    obtain ⟨a12, hv8, h⟩ := h
    refine q2 (vp (some a12)) (x_indexAddr (s := s1) (k := .i64) (i := t1) (by kernel_rfl) (by kernel_rfl) (Try.runUnderlying70 _) (Try.sizeOf4 _) hv8) ?_
    replace h := h H1 w5 hs
    replace hs := hs.here
    obtain ⟨v9, hv7, h⟩ := h
    refine q2 (vb v9) (xl (Try.isAgg4 _) hv7) (q0 (vb v9) ?_)
    refine wpL_join 9 (fun ρ wJ => ∃ b2'0 : Bool, ∃ HJ : Nat → Prop, (v9 = b2'0) ∧ Hst w0 H1 w5 HJ wJ ∧ HB HJ wJ [(p1, [(vi aA), (vi aC), (vi aD), (vu aH), (vs aI), (vi aB), (vi aE)], 93)] ∧ Has ρ [(0, (vp k1)), (3, s1.v), (5, (vi t1)), (6, (vp (some p1))), (70, (vb (b2'0 && ((aA == 4) || (s_ref08_shows aA)))))]) ?_ ?_
    ·clear hs hb
     rintro ρ w11 ⟨b2'0, H3, he0, hs, hb, hH⟩
     subst he0
     refine wpL_has hH ?_
     clear hH
     refine wpL_nil ?_
     replace h := h H3 w11 hs
     replace hs := hs.here
     refine th_n ?_
     exact ⟨(v9 && ((aA == 4) || (s_ref08_shows aA))), H3, Has.mk (by kernel_rfl), hs, hb, h⟩
    ·skip
     rcases Bool.eq_false_or_eq_true v9 with hg4 | hg4
     ·skip
      refine q1 (vp (some p1)) (want1 rfl (yD 61 hg4)) (stp (v := (vi aA)) (want1 rfl (yD 61 hg4)) (xl (Try.isAgg3 _) (hb.c0 0 gZ)) (q1 (vb (aA == 4)) (want1 rfl (yD 61 hg4)) (q1 (vb (aA == 4)) (want1 rfl (yD 61 hg4)) ?_)))
      refine wpL_join 4 (fun ρ wJ => ∃ b3'0 : Bool, ∃ HJ : Nat → Prop, ((aA == 4) = b3'0) ∧ Hst w0 H1 w5 HJ wJ ∧ HB HJ wJ [(p1, [(vi aA), (vi aC), (vi aD), (vu aH), (vs aI), (vi aB), (vi aE)], 93)] ∧ Has ρ [(0, (vp k1)), (3, s1.v), (5, (vi t1)), (6, (vp (some p1))), (61, (vb v9)), (69, (vb (b3'0 || (s_ref08_shows aA))))]) ?_ ?_
      ·clear hs hb
       rintro ρ w13 ⟨b3'0, H4, he0, hs, hb, hH⟩
       subst he0
       refine wpL_has hH ?_
       clear hH
       refine q2 (vb ((aA == 4) || (s_ref08_shows aA))) (xT hg4) (wpL_nil ?_)
       exact ⟨true, _, hg4, hs, hb, Has.mk (by kernel_rfl)⟩
      ·skip
       rcases Bool.eq_false_or_eq_true (aA == 4) with hg6 | hg6
       ·skip
        refine sk (yD 65 hg6) (sk (yD 65 hg6) (sk (yD 65 hg6) (stp (v := (vb true)) (want1 rfl (yD 61 hg4)) (xT hg6) (wpL_nil ?_))))
        exact ⟨true, _, hg6, hs, hb, Has.mk (by kernel_rfl)⟩
       ·skip
        refine q1 (vp (some p1)) (want1 rfl (yD 65 hg6)) (stp (v := (vi aA)) (want1 rfl (yD 65 hg6)) (xl (Try.isAgg3 _) (hb.c0 0 gZ)) ?_)
        refine st_call (want1 rfl (yD 65 hg6)) (xc Try.call139) ((p_ref08_shows aA w5).mono ?_)
        rintro e w14 ⟨he, hE⟩
        refine ⟨(vb (s_ref08_shows aA)), he.trans (by kernel_rfl), ?_⟩
        replace hs := hs.pure hE
        replace hb := hb.pure hE
        clear hE he
        refine stp (v := (vb (s_ref08_shows aA))) (want1 rfl (yD 61 hg4)) (xF hg6) (wpL_nil ?_)
        exact ⟨false, _, hg6, hs, hb, Has.mk (by kernel_rfl)⟩
     ·skip
      refine sk (yD 61 hg4) (sk (yD 61 hg4) (sk (yD 61 hg4) (sk (yD 61 hg4) (st_not (by kernel_rfl) (st_not (by kernel_rfl) (st_not (by kernel_rfl) (sk (yD 61 hg4) (q2 (vb false) (xF hg4) (wpL_nil ?_)))))))))
      exact ⟨false, _, hg4, hs, hb, Has.mk (by kernel_rfl)⟩
  ·replace h := h.2 hc2
   refine wpE_exit (th_x (th_x (bl_eq (th_n (wpE_seq (rg (q0 s1.v (q0 s1.v (wpL_nil (th_n (wpE_ret ?_)))))))))))
   refine res1 (.inl rfl) Try.results96 (v := s1.v) (by kernel_rfl) ?_
   exact ⟨s1, rfl, h⟩
def m_ref08_Know_key (k1 : Option Addr) (in1 : Sl) (name1 : Int) (w0 : World) (K : Bool → World → Prop) : Prop :=
 ∃ a1 : Addr, k1 = some a1 ∧
 ∃ v1 : Option Addr, w0.cell? a1 = some (vp v1) ∧
 Calls Try.prog 49 #[(vp v1), (.agg #[(vi 6), (vi name1), (vi 0), (vu 0), (vs ⟨#[]⟩), (vi 0), (vi 0)])] w0 (fun e w1 => ∃ r1 : Int, ∃ r2 : Bool, e = .returned (.tuple #[(vi r1), (vb r2)]) ∧ 
  Br r2
   (∃ a2 : Addr, At in1 r1 1 a2 ∧
   ∃ v2 : Bool, w1.cell? a2 = some (vb v2) ∧
   K v2 w1)
   (K false w1))
theorem w_ref08_Know_key (k1 : Option Addr) (in1 : Sl) (name1 : Int) (w0 : World) (K : Bool → World → Prop) (h : m_ref08_Know_key k1 in1 name1 w0 K) :
  Calls Try.prog 97 #[(vp k1), in1.v, (vi name1)] w0 (fun e w' => ∃ r3 : Bool, e = .returned (vb r3) ∧ K r3 w') := by
 unfold m_ref08_Know_key at h
 refine calls_of_wpE (args := [(vp k1), in1.v, (vi name1)]) Try.func97 rfl Try.ntmps97 (Nat.le_of_ble_eq_true rfl) (wpE_seq (rg (q0 (vb false) (wpL_nil (th_n (wpE_seq (rg (q0 (vp k1) ?_))))))))
 obtain ⟨a1, hp1, h⟩ := h
 refine q2 (vp (some a1)) (x_nilCheck (p := k1) (by kernel_rfl) hp1) (q0 (vp (some a1)) ?_)
 obtain ⟨v1, hv3, h⟩ := h
 refine q2 (vp v1) (xl (Try.isAgg59 _) hv3) (q0 (vi name1) (q0 (.agg #[(vi 6), (vi name1), (vi 0), (vu 0), (vs ⟨#[]⟩), (vi 0), (vi 0)]) ?_))
 refine st_call (want0 rfl) (xc Try.call49) (h.mono ?_)
 rintro e w1 ⟨r1, r2, rfl, h⟩
 refine ⟨_, rfl, ?_⟩
 refine q0 (.tuple #[(vi r1), (vb r2)]) (q0 (vi r1) (q0 (vb r2) (q0 (vi r1) (q0 (vb r2) (wpL_nil (th_n (wpE_seq (rg (q0 (vb r2) (q0 (vb r2) ?_))))))))))
 rcases Bool.eq_false_or_eq_true r2 with hg1 | hg1
 ·replace h := h.1 hg1
  refine q1 in1.v (want1 rfl (yD 20 hg1)) (q1 (vi r1) (want1 rfl (yD 20 hg1)) ?_)
  obtain ⟨a2, hv2, h⟩ := h
  refine stp (v := (vp (some a2))) (want1 rfl (yD 20 hg1)) (x_indexAddr (s := in1) (k := .i64) (i := r1) (by kernel_rfl) (by kernel_rfl) (Try.runUnderlying70 _) (Try.sizeOf4 _) hv2) ?_
  obtain ⟨v2, hv1, h⟩ := h
  refine stp (v := (vb v2)) (want1 rfl (yD 20 hg1)) (xl (Try.isAgg4 _) hv1) (q2 (vb v2) (xT hg1) (q0 (vb v2) (wpL_nil (th_n (wpE_ret (res1 (.inl rfl) Try.results97 (v := (vb v2)) (by kernel_rfl) ?_))))))
  exact ⟨v2, rfl, h⟩
 ·replace h := h.2 hg1
  refine sk (yD 20 hg1) (sk (yD 20 hg1) (sk (yD 20 hg1) (sk (yD 20 hg1) (q2 (vb false) (xF hg1) (q0 (vb false) (wpL_nil (th_n (wpE_ret (res1 (.inl rfl) Try.results97 (v := (vb false)) (by kernel_rfl) ?_)))))))))
  exact ⟨false, rfl, h⟩
def m_ref08_Know_Derived_l1 (k1 : Option Addr) (r1 s1 : Sl) (t1 : Int) (w0 : World) (Hl1 : Nat → Prop) (wl1 : World) (Kc1 : Int → (Nat → Prop) → World → Prop) (K : Sl → World → Prop) : Prop :=
 Br (decide (t1 < (r1.len : Int)))
  (∃ a1 : Addr, k1 = some a1 ∧
  ∃ v1 : Option Addr, wl1.cell? a1 = some (vp v1) ∧
  Calls Try.prog 47 #[(vp v1), (vi t1)] wl1 (fun e w4 => ∃ aA aC : Int, ∃ aD aH : Int, ∃ aI : ByteArray, ∃ aB aE : Int, ∃ r2 : Bool, e = .returned (.tuple #[(.agg #[(vi aA), (vi aC), (vi aD), (vu aH), (vs aI), (vi aB), (vi aE)]), (vb r2)]) ∧ 
   Kept Hl1 wl1 w4 ∧
   ∀ y1 : Bool, y1 = (cond (aA == 1) (aA == 1) (cond (aA == 2) (aA == 2) (aA == 3))) →
   Br y1
    (∃ a2 : Addr, At s1 t1 1 a2 ∧
    ∀ (H2 : Nat → Prop) (w7 : World), Hst w0 Hl1 w4 H2 w7 →
    CanW w7 a2 ∧ ¬ H2 a2.block ∧ ∀ w8 : World, w8 = w7.setCell a2 (vb true) →
    Kc1 (IntKind.i64.wrap (t1 + 1)) H2 w8)
    (Br (aA == 4)
     (∃ a3 : Addr, At s1 t1 1 a3 ∧
     ∀ (H2 : Nat → Prop) (w7 : World), Hst w0 Hl1 w4 H2 w7 →
     ∃ v2 : Bool, w7.cell? a3 = some (vb v2) ∧
     Br v2
      (∃ a4 : Addr, At s1 t1 1 a4 ∧
      CanW w7 a4 ∧ ¬ H2 a4.block ∧ ∀ w9 : World, w9 = w7.setCell a4 (vb true) →
      Kc1 (IntKind.i64.wrap (t1 + 1)) H2 w9)
      (∃ a5 : Addr, At s1 aB 1 a5 ∧
      ∃ v3 : Bool, w7.cell? a5 = some (vb v3) ∧
      Br v3
       (∃ a6 : Addr, At s1 aE 1 a6 ∧
       ∃ v4 : Bool, w7.cell? a6 = some (vb v4) ∧
       ∃ a7 : Addr, At s1 t1 1 a7 ∧
       CanW w7 a7 ∧ ¬ H2 a7.block ∧ ∀ w10 : World, w10 = w7.setCell a7 (vb v4) →
       Kc1 (IntKind.i64.wrap (t1 + 1)) H2 w10)
       (∃ a8 : Addr, At s1 t1 1 a8 ∧
       CanW w7 a8 ∧ ¬ H2 a8.block ∧ ∀ w11 : World, w11 = w7.setCell a8 (vb false) →
       Kc1 (IntKind.i64.wrap (t1 + 1)) H2 w11)))
     (Br (aA == 5)
      (∃ a9 : Addr, At s1 t1 1 a9 ∧
      ∀ (H2 : Nat → Prop) (w7 : World), Hst w0 Hl1 w4 H2 w7 →
      ∃ v5 : Bool, w7.cell? a9 = some (vb v5) ∧
      Br v5
       (∃ a10 : Addr, At s1 t1 1 a10 ∧
       CanW w7 a10 ∧ ¬ H2 a10.block ∧ ∀ w12 : World, w12 = w7.setCell a10 (vb true) →
       Kc1 (IntKind.i64.wrap (t1 + 1)) H2 w12)
       (∃ a11 : Addr, At s1 aB 1 a11 ∧
       ∃ v6 : Bool, w7.cell? a11 = some (vb v6) ∧
       ∃ a12 : Addr, At s1 t1 1 a12 ∧
       CanW w7 a12 ∧ ¬ H2 a12.block ∧ ∀ w13 : World, w13 = w7.setCell a12 (vb v6) →
       Kc1 (IntKind.i64.wrap (t1 + 1)) H2 w13))
      (Br (cond (aA == 7) (aA == 7) (aA == 8))
       (∃ a13 : Addr, At s1 t1 1 a13 ∧
       ∀ (H3 : Nat → Prop) (w14 : World), Hst w0 Hl1 w4 H3 w14 →
       ∃ v7 : Bool, w14.cell? a13 = some (vb v7) ∧
       Br v7
        (∃ a14 : Addr, At s1 t1 1 a14 ∧
        CanW w14 a14 ∧ ¬ H3 a14.block ∧ ∀ w15 : World, w15 = w14.setCell a14 (vb true) →
        Kc1 (IntKind.i64.wrap (t1 + 1)) H3 w15)
        (∃ a15 : Addr, At s1 aB 1 a15 ∧
        ∃ v8 : Bool, w14.cell? a15 = some (vb v8) ∧
        Br v8
         (Calls Try.prog 97 #[(vp k1), r1.v, (vi aC)] w14 (fun e w16 => ∃ r3 : Bool, e = .returned (vb r3) ∧ 
          Kept H3 w14 w16 ∧
          ∃ a16 : Addr, At s1 t1 1 a16 ∧
          CanW w16 a16 ∧ ¬ H3 a16.block ∧ ∀ w17 : World, w17 = w16.setCell a16 (vb r3) →
          Kc1 (IntKind.i64.wrap (t1 + 1)) H3 w17))
         (∃ a17 : Addr, At s1 t1 1 a17 ∧
         CanW w14 a17 ∧ ¬ H3 a17.block ∧ ∀ w18 : World, w18 = w14.setCell a17 (vb false) →
         Kc1 (IntKind.i64.wrap (t1 + 1)) H3 w18)))
       (Br (aA == 9)
        (∃ a18 : Addr, At s1 t1 1 a18 ∧
        ∀ (H3 : Nat → Prop) (w14 : World), Hst w0 Hl1 w4 H3 w14 →
        ∃ v9 : Bool, w14.cell? a18 = some (vb v9) ∧
        Br v9
         (∃ a19 : Addr, At s1 t1 1 a19 ∧
         CanW w14 a19 ∧ ¬ H3 a19.block ∧ ∀ w19 : World, w19 = w14.setCell a19 (vb true) →
         Kc1 (IntKind.i64.wrap (t1 + 1)) H3 w19)
         (∃ a20 : Addr, At s1 aB 1 a20 ∧
         ∃ v10 : Bool, w14.cell? a20 = some (vb v10) ∧
         Br v10
          (Calls Try.prog 97 #[(vp k1), r1.v, (vi aD)] w14 (fun e w20 => ∃ r4 : Bool, e = .returned (vb r4) ∧ 
           Kept H3 w14 w20 ∧
           ∃ a21 : Addr, At s1 t1 1 a21 ∧
           CanW w20 a21 ∧ ¬ H3 a21.block ∧ ∀ w21 : World, w21 = w20.setCell a21 (vb r4) →
           Kc1 (IntKind.i64.wrap (t1 + 1)) H3 w21))
          (∃ a22 : Addr, At s1 t1 1 a22 ∧
          CanW w14 a22 ∧ ¬ H3 a22.block ∧ ∀ w22 : World, w22 = w14.setCell a22 (vb false) →
          Kc1 (IntKind.i64.wrap (t1 + 1)) H3 w22)))
        (∀ (H3 : Nat → Prop) (w14 : World), Hst w0 Hl1 w4 H3 w14 →
        Kc1 (IntKind.i64.wrap (t1 + 1)) H3 w14)))))))
  (K s1 wl1)
def m_ref08_Know_Derived (k1 : Option Addr) (w0 : World) (K : Sl → World → Prop) : Prop :=
 Calls Try.prog 96 #[(vp k1)] w0 (fun e w1 => ∃ r1 : Sl, e = .returned r1.v ∧ 
  Kept None w0 w1 ∧
  ∀ (p1 : Addr) (w2 : World), New w1 (.cells #[] 4) p1 w2 →
  ∃ s1 : Sl, ∃ w3 : World, (Builtin.append_ #[70, 70] 70 #[(Sl.mk (some p1) 0 0).v, r1.v]).run Try.prog w2 = .ok s1.v w3 ∧
  Kept None w2 w3 ∧
  ∃ (I1 : Int → (Nat → Prop) → World → Prop) (mu1 : Int → World → Nat), I1 1 None w3 ∧
   ∀ (t1 : Int) (Hl1 : Nat → Prop) (wl1 : World), Hst w0 Hl1 wl1 Hl1 wl1 → I1 t1 Hl1 wl1 → m_ref08_Know_Derived_l1 k1 r1 s1 t1 w0 Hl1 wl1 (fun y'0 H' w' => I1 y'0 H' w' ∧ mu1 y'0 w' < mu1 t1 wl1) K)
theorem w_ref08_Know_Derived (k1 : Option Addr) (w0 : World) (K : Sl → World → Prop) (h : m_ref08_Know_Derived k1 w0 K) :
  Calls Try.prog 39 #[(vp k1)] w0 (fun e w' => ∃ r5 : Sl, e = .returned r5.v ∧ K r5 w') := by
 unfold m_ref08_Know_Derived at h
 refine calls_of_wpE (args := [(vp k1)]) Try.func39 rfl Try.ntmps39 (Nat.le_of_ble_eq_true rfl) ?_
 have hs := Hst.start w0
 have hb := HB.nil None w0
 refine wpE_seq (rg (q0 Sl.nil.v (wpL_nil (th_n (wpE_seq (rg (q0 (vp k1) ?_)))))))
 refine st_call (want0 rfl) (xc Try.call96) (h.mono ?_)
 rintro e w1 ⟨r1, rfl, hk, h⟩
 refine ⟨_, rfl, ?_⟩
 obtain ⟨hs, hb⟩ := hk.hh hs hb
 refine q0 r1.v (wpL_nil (th_n (wpE_seq (rg (st_new (O := (.cells #[] 4)) (fun p => (Sl.mk (some p) 0 0).v) (want0 rfl) (x_buildSlice (vs := #[]) (by kernel_rfl) (by kernel_rfl)) ?_)))))
 intro p1 w2 hn15
 replace h := h p1 w2 hn15
 replace hs := hs.again (Ext.new (F := None) hn15).keptP
 replace hb := hb.kept (Ext.new (F := None) hn15).keptP
 refine q0 r1.v ?_
 obtain ⟨s1, w3, hv32, hk, h⟩ := h
 refine st (v := s1.v) (want0 rfl) (x_builtin (args := #[(Sl.mk (some p1) 0 0).v, r1.v]) (by kernel_rfl) (fun _ => rfl) hv32) ?_
 obtain ⟨hs, hb⟩ := hk.hh hs hb
 refine q0 s1.v (wpL_nil (th_n (wpE_seq (wpE_seq (rg (q0 (vi 1) (wpL_nil (th_n (wpE_block ?_)))))))))
 obtain ⟨I1, mu1, h0, hr⟩ := h
 refine wpE_loop (σ := Int × (Nat → Prop) × World) (fun s ρ w => w = s.2.2 ∧ Has ρ [(0, (vp k1)), (3, r1.v), (4, s1.v), (5, (vi s.1))] ∧ Hst w0 s.2.1 w s.2.1 w ∧ HB s.2.1 w [] ∧ I1 s.1 s.2.1 s.2.2) (fun s => mu1 s.1 s.2.2) (1, None, w3) ⟨rfl, Has.mk (by kernel_rfl), hs, hb, h0⟩ ?_
 clear hs hb
 rintro ⟨t1, Hl1, wl1⟩ ρ w ⟨hw, hH, hs, hb, hI⟩
 obtain rfl : wl1 = w := (show w = wl1 from hw).symm
 replace hH : Has ρ [(0, (vp k1)), (3, r1.v), (4, s1.v), (5, (vi t1))] := hH
 replace hs : Hst w0 Hl1 wl1 Hl1 wl1 := hs
 replace hb : HB Hl1 wl1 [] := hb
 have h := hr t1 Hl1 wl1 hs hI
 clear hr h0
 unfold m_ref08_Know_Derived_l1 at h
 refine wpE_has hH ?_
 clear hH hI
 refine wpE_seq (wpE_seq (rg (q0 (vi t1) (q0 r1.v (q0 (vi (r1.len : Int)) (q0 (vb (decide (t1 < (r1.len : Int)))) (wpL_nil (th_n ?_))))))))
 refine wpE_cond (t := (decide (t1 < (r1.len : Int)))) (by kernel_rfl) (fun hc1 => ?_) (fun hc1 => ?_)
 ·replace h := h.1 hc1
  refine wpE_skip (th_n (wpE_seq (wpE_block (wpE_seq (rg (q0 (vp k1) ?_))))))
  obtain ⟨a1, hp1, h⟩ := h
  refine q2 (vp (some a1)) (x_nilCheck (p := k1) (by kernel_rfl) hp1) (q0 (vp (some a1)) ?_)
  obtain ⟨v1, hv31, h⟩ := h
  refine q2 (vp v1) (xl (Try.isAgg59 _) hv31) (q0 (vi t1) ?_)
  refine st_call (want0 rfl) (xc Try.call47) (h.mono ?_)
  rintro e w4 ⟨aA, aC, aD, aH, aI, aB, aE, r2, rfl, hk, h⟩
  refine ⟨_, rfl, ?_⟩
  obtain ⟨hs, hb⟩ := hk.hh hs hb
  refine q0 (.tuple #[(.agg #[(vi aA), (vi aC), (vi aD), (vu aH), (vs aI), (vi aB), (vi aE)]), (vb r2)]) (q0 (.agg #[(vi aA), (vi aC), (vi aD), (vu aH), (vs aI), (vi aB), (vi aE)]) (q0 (vb r2) (sn (O := (.cells #[(vi 0), (vi 0), (vi 0), (vu 0), (vs ⟨#[]⟩), (vi 0), (vi 0)] 93)) (x_alloc (Try.zeroValue93 _) rfl) ?_)))
  intro p2 w5 hn1
  obtain ⟨H1, hs, hb⟩ := hs.alloc hb hn1
  refine st_set (want0 rfl) (x_storeA (a := p2) (vs := [(vi aA), (vi aC), (vi aD), (vu aH), (vs aI), (vi aB), (vi aE)]) (by kernel_rfl) (by kernel_rfl) rfl (Try.sizeOf93 _) rfl (hb.canWs0 0 7 gZ (by kernel_rfl))) ?_
  intro w6 hn2
  have hsb : Hst w0 Hl1 w4 H1 w6 ∧ HB H1 w6 [(p2, [(vi aA), (vi aC), (vi aD), (vu aH), (vs aI), (vi aB), (vi aE)], 93)] := by
   rw [hn2]
   exact hb.store0 (i := 0) (vs := [(vi aA), (vi aC), (vi aD), (vu aH), (vs aI), (vi aB), (vi aE)]) hs gZ (by kernel_rfl) (by kernel_rfl)
  clear hs hb hn2
  obtain ⟨hs, hb⟩ := hsb
  refine q0 (vb r2) (wpL_nil (th_n (wpE_seq (rg (q0 (vp (some p2)) (q2 (vi aA) (xl (Try.isAgg3 _) (hb.c0 0 gZ)) (wpL_nil (th_n (wpE_block (wpE_seq (wpE_seq ?_)))))))))))
  refine rg (q0 (vb (aA == 1)) (q0 (vb (aA == 1)) (wpL_nil (th_n ?_))))
  refine wpE_via (fun ρ wJ => ∃ b1'0 b1'1 y1 : Bool, ∃ HJ : Nat → Prop, ((aA == 1) = b1'0) ∧ ((aA == 2) = b1'1) ∧ (y1 = (cond b1'0 (aA == 1) (cond b1'1 (aA == 2) (aA == 3)))) ∧ Hst w0 Hl1 w4 HJ wJ ∧ HB HJ wJ [(p2, [(vi aA), (vi aC), (vi aD), (vu aH), (vs aI), (vi aB), (vi aE)], 93)] ∧ Has ρ [(0, (vp k1)), (3, r1.v), (4, s1.v), (5, (vi t1)), (6, (vp (some p2))), (29, (vi aA)), (30, (vb y1))]) ?_ ?_
  ·skip
   refine wpE_cond (t := (aA == 1)) (by kernel_rfl) (fun hc4 => ?_) (fun hc4 => ?_)
   ·skip
    refine wpE_skip (th_n ?_)
    exact ⟨true, _, _, _, hc4, rfl, rfl, hs, hb, Has.mk (by kernel_rfl)⟩
   ·skip
    refine wpE_seq (rg (q0 (vb (aA == 2)) (q0 (vb (aA == 2)) (wpL_nil (th_n ?_)))))
    refine wpE_cond (t := (aA == 2)) (by kernel_rfl) (fun hc5 => ?_) (fun hc5 => ?_)
    ·skip
     refine wpE_skip (th_n ?_)
     exact ⟨false, true, _, _, hc4, hc5, rfl, hs, hb, Has.mk (by kernel_rfl)⟩
    ·skip
     refine rg (q0 (vb (aA == 3)) (q0 (vb (aA == 3)) (wpL_nil (th_n ?_))))
     exact ⟨false, false, _, _, hc4, hc5, rfl, hs, hb, Has.mk (by kernel_rfl)⟩
  ·clear hs hb
   rintro ρ w7 ⟨b1'0, b1'1, y1, H2, he0, he1, hy1, hs, hb, hH⟩
   subst he0
   subst he1
   replace h := h y1 hy1
   refine norm_has hH ?_
   clear hH
   refine th_n ?_
   refine wpE_cond (t := y1) (by kernel_rfl) (fun hc6 => ?_) (fun hc6 => ?_)
   ·replace h := h.1 hc6
    refine rg (q0 s1.v (q0 (vi t1) ?_))
    obtain ⟨a2, hv1, h⟩ := h
    refine q2 (vp (some a2)) (x_indexAddr (s := s1) (k := .i64) (i := t1) (by kernel_rfl) (by kernel_rfl) (Try.runUnderlying70 _) (Try.sizeOf4 _) hv1) ?_
    replace h := h H2 w7 hs
    replace hs := hs.here
    obtain ⟨hp2, hnh, h⟩ := h
    refine st_set (want0 rfl) (x_store (a := a2) (v := (vb true)) (by kernel_rfl) (by kernel_rfl) rfl (Try.sizeOf4 _) hp2) ?_
    intro w8 hn3
    replace h := h w8 hn3
    have hk : Kept H2 w7 w8 := by rw [hn3]; exact Kept.setCell hnh
    replace hs := hs.again hk
    replace hb := hb.kept hk
    clear hk hnh
    refine wpL_nil (bl_n (bl_n (th_n (rg (q0 (vi t1) (q0 (vi (IntKind.i64.wrap (t1 + 1))) (q0 (vi (IntKind.i64.wrap (t1 + 1))) (wpL_nil (th_n ?_)))))))))
    exact ⟨((IntKind.i64.wrap (t1 + 1)), H2, w8), ⟨rfl, Has.mk (by kernel_rfl), hs, hb.drop 1, h.1⟩, h.2⟩
   ·replace h := h.2 hc6
    refine wpE_seq (rg (q0 (vb (aA == 4)) (q0 (vb (aA == 4)) (wpL_nil (th_n ?_)))))
    refine wpE_cond (t := (aA == 4)) (by kernel_rfl) (fun hc7 => ?_) (fun hc7 => ?_)
    ·replace h := h.1 hc7
     refine rg (q0 s1.v (q0 (vi t1) (q0 s1.v (q0 (vi t1) ?_))))
     obtain ⟨a3, hv10, h⟩ := h
     refine q2 (vp (some a3)) (x_indexAddr (s := s1) (k := .i64) (i := t1) (by kernel_rfl) (by kernel_rfl) (Try.runUnderlying70 _) (Try.sizeOf4 _) hv10) ?_
     replace h := h H2 w7 hs
     replace hs := hs.here
     obtain ⟨v2, hv9, h⟩ := h
     refine q2 (vb v2) (xl (Try.isAgg4 _) hv9) (q0 (vb v2) ?_)
     rcases Bool.eq_false_or_eq_true v2 with hg1 | hg1
     ·replace h := h.1 hg1
      refine sk (yD 45 hg1) (sk (yD 45 hg1) (sk (yD 45 hg1) (sk (yD 45 hg1) (sk (yD 45 hg1) (sk (yD 45 hg1) (st_not (by kernel_rfl) (st_not (by kernel_rfl) (st_not (by kernel_rfl) (st_not (by kernel_rfl) (st_not (by kernel_rfl) (sk (yD 45 hg1) ?_)))))))))))
      refine q2 (vb true) (xT hg1) ?_
      obtain ⟨a4, hv2, h⟩ := h
      refine q2 (vp (some a4)) (x_indexAddr (s := s1) (k := .i64) (i := t1) (by kernel_rfl) (by kernel_rfl) (Try.runUnderlying70 _) (Try.sizeOf4 _) hv2) ?_
      obtain ⟨hp3, hnh, h⟩ := h
      refine st_set (want0 rfl) (x_store (a := a4) (v := (vb true)) (by kernel_rfl) (by kernel_rfl) rfl (Try.sizeOf4 _) hp3) ?_
      intro w9 hn4
      replace h := h w9 hn4
      have hk : Kept H2 w7 w9 := by rw [hn4]; exact Kept.setCell hnh
      replace hs := hs.again hk
      replace hb := hb.kept hk
      clear hk hnh
      refine wpL_nil (bl_n (bl_n (th_n (rg (q0 (vi t1) (q0 (vi (IntKind.i64.wrap (t1 + 1))) (q0 (vi (IntKind.i64.wrap (t1 + 1))) (wpL_nil (th_n ?_)))))))))
      exact ⟨((IntKind.i64.wrap (t1 + 1)), H2, w9), ⟨rfl, Has.mk (by kernel_rfl), hs, hb.drop 1, h.1⟩, h.2⟩
     ·replace h := h.2 hg1
      refine q1 s1.v (want1 rfl (yD 45 hg1)) (q1 (vp (some (p2.add 5))) (want1 rfl (yD 45 hg1)) (stp (v := (vi aB)) (want1 rfl (yD 45 hg1)) (xl (Try.isAgg41 _) (hb.c 0 5 gZ)) ?_))
      obtain ⟨a5, hv8, h⟩ := h
      refine stp (v := (vp (some a5))) (want1 rfl (yD 45 hg1)) (x_indexAddr (s := s1) (k := .i64) (i := aB) (by kernel_rfl) (by kernel_rfl) (Try.runUnderlying70 _) (Try.sizeOf4 _) hv8) ?_
      obtain ⟨v3, hv7, h⟩ := h
      refine stp (v := (vb v3)) (want1 rfl (yD 45 hg1)) (xl (Try.isAgg4 _) hv7) (q1 (vb v3) (want1 rfl (yD 45 hg1)) ?_)
      rcases Bool.eq_false_or_eq_true v3 with hg2 | hg2
      ·replace h := h.1 hg2
       refine q1 s1.v (want1 rfl (yD 51 hg2)) (q1 (vp (some (p2.add 6))) (want1 rfl (yD 51 hg2)) (stp (v := (vi aE)) (want1 rfl (yD 51 hg2)) (xl (Try.isAgg41 _) (hb.c 0 6 gZ)) ?_))
       obtain ⟨a6, hv5, h⟩ := h
       refine stp (v := (vp (some a6))) (want1 rfl (yD 51 hg2)) (x_indexAddr (s := s1) (k := .i64) (i := aE) (by kernel_rfl) (by kernel_rfl) (Try.runUnderlying70 _) (Try.sizeOf4 _) hv5) ?_
       obtain ⟨v4, hv4, h⟩ := h
       refine stp (v := (vb v4)) (want1 rfl (yD 51 hg2)) (xl (Try.isAgg4 _) hv4) (stp (v := (vb v4)) (want1 rfl (yD 45 hg1)) (xT hg2) (q2 (vb v4) (xF hg1) ?_))
       obtain ⟨a7, hv3, h⟩ := h
       refine q2 (vp (some a7)) (x_indexAddr (s := s1) (k := .i64) (i := t1) (by kernel_rfl) (by kernel_rfl) (Try.runUnderlying70 _) (Try.sizeOf4 _) hv3) ?_
       obtain ⟨hp4, hnh, h⟩ := h
       refine st_set (want0 rfl) (x_store (a := a7) (v := (vb v4)) (by kernel_rfl) (by kernel_rfl) rfl (Try.sizeOf4 _) hp4) ?_
       intro w10 hn5
       replace h := h w10 hn5
       have hk : Kept H2 w7 w10 := by rw [hn5]; exact Kept.setCell hnh
       replace hs := hs.again hk
       replace hb := hb.kept hk
       clear hk hnh
       refine wpL_nil (bl_n (bl_n (th_n (rg (q0 (vi t1) (q0 (vi (IntKind.i64.wrap (t1 + 1))) (q0 (vi (IntKind.i64.wrap (t1 + 1))) (wpL_nil (th_n ?_)))))))))
       exact ⟨((IntKind.i64.wrap (t1 + 1)), H2, w10), ⟨rfl, Has.mk (by kernel_rfl), hs, hb.drop 1, h.1⟩, h.2⟩
      ·replace h := h.2 hg2
       refine sk (yD 51 hg2) (sk (yD 51 hg2) (sk (yD 51 hg2) (sk (yD 51 hg2) (sk (yD 51 hg2) (stp (v := (vb false)) (want1 rfl (yD 45 hg1)) (xF hg2) (q2 (vb false) (xF hg1) ?_))))))
       obtain ⟨a8, hv6, h⟩ := h
       refine q2 (vp (some a8)) (x_indexAddr (s := s1) (k := .i64) (i := t1) (by kernel_rfl) (by kernel_rfl) (Try.runUnderlying70 _) (Try.sizeOf4 _) hv6) ?_
       obtain ⟨hp5, hnh, h⟩ := h
       refine st_set (want0 rfl) (x_store (a := a8) (v := (vb false)) (by kernel_rfl) (by kernel_rfl) rfl (Try.sizeOf4 _) hp5) ?_
       intro w11 hn6
       replace h := h w11 hn6
       have hk : Kept H2 w7 w11 := by rw [hn6]; exact Kept.setCell hnh
       replace hs := hs.again hk
       replace hb := hb.kept hk
       clear hk hnh
       refine wpL_nil (bl_n (bl_n (th_n (rg (q0 (vi t1) (q0 (vi (IntKind.i64.wrap (t1 + 1))) (q0 (vi (IntKind.i64.wrap (t1 + 1))) (wpL_nil (th_n ?_)))))))))
       exact ⟨((IntKind.i64.wrap (t1 + 1)), H2, w11), ⟨rfl, Has.mk (by kernel_rfl), hs, hb.drop 1, h.1⟩, h.2⟩
    ·replace h := h.2 hc7
     refine wpE_seq (rg (q0 (vb (aA == 5)) (q0 (vb (aA == 5)) (wpL_nil (th_n ?_)))))
     refine wpE_cond (t := (aA == 5)) (by kernel_rfl) (fun hc8 => ?_) (fun hc8 => ?_)
     ·replace h := h.1 hc8
      refine rg (q0 s1.v (q0 (vi t1) (q0 s1.v (q0 (vi t1) ?_))))
      obtain ⟨a9, hv16, h⟩ := h
      refine q2 (vp (some a9)) (x_indexAddr (s := s1) (k := .i64) (i := t1) (by kernel_rfl) (by kernel_rfl) (Try.runUnderlying70 _) (Try.sizeOf4 _) hv16) ?_
      replace h := h H2 w7 hs
      replace hs := hs.here
      obtain ⟨v5, hv15, h⟩ := h
      refine q2 (vb v5) (xl (Try.isAgg4 _) hv15) (q0 (vb v5) ?_)
      rcases Bool.eq_false_or_eq_true v5 with hg3 | hg3
      ·replace h := h.1 hg3
       refine sk (yD 68 hg3) (sk (yD 68 hg3) (sk (yD 68 hg3) (sk (yD 68 hg3) (sk (yD 68 hg3) (q2 (vb true) (xT hg3) ?_)))))
       obtain ⟨a10, hv11, h⟩ := h
       refine q2 (vp (some a10)) (x_indexAddr (s := s1) (k := .i64) (i := t1) (by kernel_rfl) (by kernel_rfl) (Try.runUnderlying70 _) (Try.sizeOf4 _) hv11) ?_
       obtain ⟨hp6, hnh, h⟩ := h
       refine st_set (want0 rfl) (x_store (a := a10) (v := (vb true)) (by kernel_rfl) (by kernel_rfl) rfl (Try.sizeOf4 _) hp6) ?_
       intro w12 hn7
       replace h := h w12 hn7
       have hk : Kept H2 w7 w12 := by rw [hn7]; exact Kept.setCell hnh
       replace hs := hs.again hk
       replace hb := hb.kept hk
       clear hk hnh
       refine wpL_nil (bl_n (bl_n (th_n (rg (q0 (vi t1) (q0 (vi (IntKind.i64.wrap (t1 + 1))) (q0 (vi (IntKind.i64.wrap (t1 + 1))) (wpL_nil (th_n ?_)))))))))
       exact ⟨((IntKind.i64.wrap (t1 + 1)), H2, w12), ⟨rfl, Has.mk (by kernel_rfl), hs, hb.drop 1, h.1⟩, h.2⟩
      ·replace h := h.2 hg3
       refine q1 s1.v (want1 rfl (yD 68 hg3)) (q1 (vp (some (p2.add 5))) (want1 rfl (yD 68 hg3)) (stp (v := (vi aB)) (want1 rfl (yD 68 hg3)) (xl (Try.isAgg41 _) (hb.c 0 5 gZ)) ?_))
       obtain ⟨a11, hv14, h⟩ := h
       refine stp (v := (vp (some a11))) (want1 rfl (yD 68 hg3)) (x_indexAddr (s := s1) (k := .i64) (i := aB) (by kernel_rfl) (by kernel_rfl) (Try.runUnderlying70 _) (Try.sizeOf4 _) hv14) ?_
       obtain ⟨v6, hv13, h⟩ := h
       refine stp (v := (vb v6)) (want1 rfl (yD 68 hg3)) (xl (Try.isAgg4 _) hv13) (q2 (vb v6) (xF hg3) ?_)
       obtain ⟨a12, hv12, h⟩ := h
       refine q2 (vp (some a12)) (x_indexAddr (s := s1) (k := .i64) (i := t1) (by kernel_rfl) (by kernel_rfl) (Try.runUnderlying70 _) (Try.sizeOf4 _) hv12) ?_
       obtain ⟨hp7, hnh, h⟩ := h
       refine st_set (want0 rfl) (x_store (a := a12) (v := (vb v6)) (by kernel_rfl) (by kernel_rfl) rfl (Try.sizeOf4 _) hp7) ?_
       intro w13 hn8
       replace h := h w13 hn8
       have hk : Kept H2 w7 w13 := by rw [hn8]; exact Kept.setCell hnh
       replace hs := hs.again hk
       replace hb := hb.kept hk
       clear hk hnh
       refine wpL_nil (bl_n (bl_n (th_n (rg (q0 (vi t1) (q0 (vi (IntKind.i64.wrap (t1 + 1))) (q0 (vi (IntKind.i64.wrap (t1 + 1))) (wpL_nil (th_n ?_)))))))))
       exact ⟨((IntKind.i64.wrap (t1 + 1)), H2, w13), ⟨rfl, Has.mk (by kernel_rfl), hs, hb.drop 1, h.1⟩, h.2⟩
     ·replace h := h.2 hc8
      refine wpE_seq (wpE_seq (rg (q0 (vb (aA == 7)) (q0 (vb (aA == 7)) (wpL_nil (th_n ?_))))))
      refine wpE_via (fun ρ wJ => ∃ b2'0 : Bool, ∃ HJ : Nat → Prop, ((aA == 7) = b2'0) ∧ Hst w0 Hl1 w4 HJ wJ ∧ HB HJ wJ [(p2, [(vi aA), (vi aC), (vi aD), (vu aH), (vs aI), (vi aB), (vi aE)], 93)] ∧ Has ρ [(0, (vp k1)), (3, r1.v), (4, s1.v), (5, (vi t1)), (6, (vp (some p2))), (29, (vi aA)), (76, (vb (cond b2'0 (aA == 7) (aA == 8))))]) ?_ ?_
      ·skip
       refine wpE_cond (t := (aA == 7)) (by kernel_rfl) (fun hc10 => ?_) (fun hc10 => ?_)
       ·skip
        refine wpE_skip (th_n ?_)
        exact ⟨true, _, hc10, hs, hb, Has.mk (by kernel_rfl)⟩
       ·skip
        refine rg (q0 (vb (aA == 8)) (q0 (vb (aA == 8)) (wpL_nil (th_n ?_))))
        exact ⟨false, _, hc10, hs, hb, Has.mk (by kernel_rfl)⟩
      ·clear hs hb
       rintro ρ w14 ⟨b2'0, H3, he0, hs, hb, hH⟩
       subst he0
       refine norm_has hH ?_
       clear hH
       refine th_n ?_
       refine wpE_cond (t := (cond (aA == 7) (aA == 7) (aA == 8))) (by kernel_rfl) (fun hc11 => ?_) (fun hc11 => ?_)
       ·replace h := h.1 hc11
        refine rg (q0 s1.v (q0 (vi t1) (q0 s1.v (q0 (vi t1) ?_))))
        obtain ⟨a13, hv23, h⟩ := h
        refine q2 (vp (some a13)) (x_indexAddr (s := s1) (k := .i64) (i := t1) (by kernel_rfl) (by kernel_rfl) (Try.runUnderlying70 _) (Try.sizeOf4 _) hv23) ?_
        replace h := h H3 w14 hs
        replace hs := hs.here
        obtain ⟨v7, hv22, h⟩ := h
        refine q2 (vb v7) (xl (Try.isAgg4 _) hv22) (q0 (vb v7) ?_)
        rcases Bool.eq_false_or_eq_true v7 with hg4 | hg4
        ·replace h := h.1 hg4
         refine sk (yD 85 hg4) (sk (yD 85 hg4) (sk (yD 85 hg4) (sk (yD 85 hg4) (sk (yD 85 hg4) (sk (yD 85 hg4) (st_not (by kernel_rfl) (st_not (by kernel_rfl) (st_not (by kernel_rfl) (st_not (by kernel_rfl) (st_not (by kernel_rfl) (sk (yD 85 hg4) ?_)))))))))))
         refine q2 (vb true) (xT hg4) ?_
         obtain ⟨a14, hv17, h⟩ := h
         refine q2 (vp (some a14)) (x_indexAddr (s := s1) (k := .i64) (i := t1) (by kernel_rfl) (by kernel_rfl) (Try.runUnderlying70 _) (Try.sizeOf4 _) hv17) ?_
         obtain ⟨hp8, hnh, h⟩ := h
         refine st_set (want0 rfl) (x_store (a := a14) (v := (vb true)) (by kernel_rfl) (by kernel_rfl) rfl (Try.sizeOf4 _) hp8) ?_
         intro w15 hn9
         replace h := h w15 hn9
         have hk : Kept H3 w14 w15 := by rw [hn9]; exact Kept.setCell hnh
         replace hs := hs.again hk
         replace hb := hb.kept hk
         clear hk hnh
         refine wpL_nil (bl_n (bl_n (th_n (rg (q0 (vi t1) (q0 (vi (IntKind.i64.wrap (t1 + 1))) (q0 (vi (IntKind.i64.wrap (t1 + 1))) (wpL_nil (th_n ?_)))))))))
         exact ⟨((IntKind.i64.wrap (t1 + 1)), H3, w15), ⟨rfl, Has.mk (by kernel_rfl), hs, hb.drop 1, h.1⟩, h.2⟩
        ·replace h := h.2 hg4
         refine q1 s1.v (want1 rfl (yD 85 hg4)) (q1 (vp (some (p2.add 5))) (want1 rfl (yD 85 hg4)) (stp (v := (vi aB)) (want1 rfl (yD 85 hg4)) (xl (Try.isAgg41 _) (hb.c 0 5 gZ)) ?_))
         obtain ⟨a15, hv21, h⟩ := h
         refine stp (v := (vp (some a15))) (want1 rfl (yD 85 hg4)) (x_indexAddr (s := s1) (k := .i64) (i := aB) (by kernel_rfl) (by kernel_rfl) (Try.runUnderlying70 _) (Try.sizeOf4 _) hv21) ?_
         obtain ⟨v8, hv20, h⟩ := h
         refine stp (v := (vb v8)) (want1 rfl (yD 85 hg4)) (xl (Try.isAgg4 _) hv20) (q1 (vb v8) (want1 rfl (yD 85 hg4)) ?_)
         rcases Bool.eq_false_or_eq_true v8 with hg5 | hg5
         ·replace h := h.1 hg5
          refine q1 (vp k1) (want1 rfl (yD 91 hg5)) (q1 r1.v (want1 rfl (yD 91 hg5)) (q1 (vp (some (p2.add 1))) (want1 rfl (yD 91 hg5)) (stp (v := (vi aC)) (want1 rfl (yD 91 hg5)) (xl (Try.isAgg3 _) (hb.c 0 1 gZ)) ?_)))
          refine st_call (want1 rfl (yD 91 hg5)) (xc Try.call97) (h.mono ?_)
          rintro e w16 ⟨r3, rfl, hk, h⟩
          refine ⟨_, rfl, ?_⟩
          obtain ⟨hs, hb⟩ := hk.hh hs hb
          refine stp (v := (vb r3)) (want1 rfl (yD 85 hg4)) (xT hg5) (q2 (vb r3) (xF hg4) ?_)
          obtain ⟨a16, hv18, h⟩ := h
          refine q2 (vp (some a16)) (x_indexAddr (s := s1) (k := .i64) (i := t1) (by kernel_rfl) (by kernel_rfl) (Try.runUnderlying70 _) (Try.sizeOf4 _) hv18) ?_
          obtain ⟨hp9, hnh, h⟩ := h
          refine st_set (want0 rfl) (x_store (a := a16) (v := (vb r3)) (by kernel_rfl) (by kernel_rfl) rfl (Try.sizeOf4 _) hp9) ?_
          intro w17 hn10
          replace h := h w17 hn10
          have hk : Kept H3 w16 w17 := by rw [hn10]; exact Kept.setCell hnh
          replace hs := hs.again hk
          replace hb := hb.kept hk
          clear hk hnh
          refine wpL_nil (bl_n (bl_n (th_n (rg (q0 (vi t1) (q0 (vi (IntKind.i64.wrap (t1 + 1))) (q0 (vi (IntKind.i64.wrap (t1 + 1))) (wpL_nil (th_n ?_)))))))))
          exact ⟨((IntKind.i64.wrap (t1 + 1)), H3, w17), ⟨rfl, Has.mk (by kernel_rfl), hs, hb.drop 1, h.1⟩, h.2⟩
         ·replace h := h.2 hg5
          refine sk (yD 91 hg5) (sk (yD 91 hg5) (sk (yD 91 hg5) (sk (yD 91 hg5) (sk (yD 91 hg5) (stp (v := (vb false)) (want1 rfl (yD 85 hg4)) (xF hg5) (q2 (vb false) (xF hg4) ?_))))))
          obtain ⟨a17, hv19, h⟩ := h
          refine q2 (vp (some a17)) (x_indexAddr (s := s1) (k := .i64) (i := t1) (by kernel_rfl) (by kernel_rfl) (Try.runUnderlying70 _) (Try.sizeOf4 _) hv19) ?_
          obtain ⟨hp10, hnh, h⟩ := h
          refine st_set (want0 rfl) (x_store (a := a17) (v := (vb false)) (by kernel_rfl) (by kernel_rfl) rfl (Try.sizeOf4 _) hp10) ?_
          intro w18 hn11
          replace h := h w18 hn11
          have hk : Kept H3 w14 w18 := by rw [hn11]; exact Kept.setCell hnh
          replace hs := hs.again hk
          replace hb := hb.kept hk
          clear hk hnh
          refine wpL_nil (bl_n (bl_n (th_n (rg (q0 (vi t1) (q0 (vi (IntKind.i64.wrap (t1 + 1))) (q0 (vi (IntKind.i64.wrap (t1 + 1))) (wpL_nil (th_n ?_)))))))))
          exact ⟨((IntKind.i64.wrap (t1 + 1)), H3, w18), ⟨rfl, Has.mk (by kernel_rfl), hs, hb.drop 1, h.1⟩, h.2⟩
       ·replace h := h.2 hc11
        refine wpE_seq (rg (q0 (vb (aA == 9)) (q0 (vb (aA == 9)) (wpL_nil (th_n ?_)))))
        refine wpE_cond (t := (aA == 9)) (by kernel_rfl) (fun hc12 => ?_) (fun hc12 => ?_)
        ·replace h := h.1 hc12
         refine rg (q0 s1.v (q0 (vi t1) (q0 s1.v (q0 (vi t1) ?_))))
         obtain ⟨a18, hv30, h⟩ := h
         refine q2 (vp (some a18)) (x_indexAddr (s := s1) (k := .i64) (i := t1) (by kernel_rfl) (by kernel_rfl) (Try.runUnderlying70 _) (Try.sizeOf4 _) hv30) ?_
         replace h := h H3 w14 hs
         replace hs := hs.here
         obtain ⟨v9, hv29, h⟩ := h
         refine q2 (vb v9) (xl (Try.isAgg4 _) hv29) (q0 (vb v9) ?_)
         rcases Bool.eq_false_or_eq_true v9 with hg6 | hg6
         ·replace h := h.1 hg6
          refine sk (yD 108 hg6) (sk (yD 108 hg6) (sk (yD 108 hg6) (sk (yD 108 hg6) (sk (yD 108 hg6) (sk (yD 108 hg6) (st_not (by kernel_rfl) (st_not (by kernel_rfl) (st_not (by kernel_rfl) (st_not (by kernel_rfl) (st_not (by kernel_rfl) (sk (yD 108 hg6) ?_)))))))))))
          refine q2 (vb true) (xT hg6) ?_
          obtain ⟨a19, hv24, h⟩ := h
          refine q2 (vp (some a19)) (x_indexAddr (s := s1) (k := .i64) (i := t1) (by kernel_rfl) (by kernel_rfl) (Try.runUnderlying70 _) (Try.sizeOf4 _) hv24) ?_
          obtain ⟨hp11, hnh, h⟩ := h
          refine st_set (want0 rfl) (x_store (a := a19) (v := (vb true)) (by kernel_rfl) (by kernel_rfl) rfl (Try.sizeOf4 _) hp11) ?_
          intro w19 hn12
          replace h := h w19 hn12
          have hk : Kept H3 w14 w19 := by rw [hn12]; exact Kept.setCell hnh
          replace hs := hs.again hk
          replace hb := hb.kept hk
          clear hk hnh
          refine wpL_nil (bl_n (bl_n (th_n (rg (q0 (vi t1) (q0 (vi (IntKind.i64.wrap (t1 + 1))) (q0 (vi (IntKind.i64.wrap (t1 + 1))) (wpL_nil (th_n ?_)))))))))
          exact ⟨((IntKind.i64.wrap (t1 + 1)), H3, w19), ⟨rfl, Has.mk (by kernel_rfl), hs, hb.drop 1, h.1⟩, h.2⟩
         ·replace h := h.2 hg6
          refine q1 s1.v (want1 rfl (yD 108 hg6)) (q1 (vp (some (p2.add 5))) (want1 rfl (yD 108 hg6)) (stp (v := (vi aB)) (want1 rfl (yD 108 hg6)) (xl (Try.isAgg41 _) (hb.c 0 5 gZ)) ?_))
          obtain ⟨a20, hv28, h⟩ := h
          refine stp (v := (vp (some a20))) (want1 rfl (yD 108 hg6)) (x_indexAddr (s := s1) (k := .i64) (i := aB) (by kernel_rfl) (by kernel_rfl) (Try.runUnderlying70 _) (Try.sizeOf4 _) hv28) ?_
          obtain ⟨v10, hv27, h⟩ := h
          refine stp (v := (vb v10)) (want1 rfl (yD 108 hg6)) (xl (Try.isAgg4 _) hv27) (q1 (vb v10) (want1 rfl (yD 108 hg6)) ?_)
          rcases Bool.eq_false_or_eq_true v10 with hg7 | hg7
          ·replace h := h.1 hg7
           refine q1 (vp k1) (want1 rfl (yD 114 hg7)) (q1 r1.v (want1 rfl (yD 114 hg7)) (q1 (vp (some (p2.add 2))) (want1 rfl (yD 114 hg7)) (stp (v := (vi aD)) (want1 rfl (yD 114 hg7)) (xl (Try.isAgg3 _) (hb.c 0 2 gZ)) ?_)))
           refine st_call (want1 rfl (yD 114 hg7)) (xc Try.call97) (h.mono ?_)
           rintro e w20 ⟨r4, rfl, hk, h⟩
           refine ⟨_, rfl, ?_⟩
           obtain ⟨hs, hb⟩ := hk.hh hs hb
           refine stp (v := (vb r4)) (want1 rfl (yD 108 hg6)) (xT hg7) (q2 (vb r4) (xF hg6) ?_)
           obtain ⟨a21, hv25, h⟩ := h
           refine q2 (vp (some a21)) (x_indexAddr (s := s1) (k := .i64) (i := t1) (by kernel_rfl) (by kernel_rfl) (Try.runUnderlying70 _) (Try.sizeOf4 _) hv25) ?_
           obtain ⟨hp12, hnh, h⟩ := h
           refine st_set (want0 rfl) (x_store (a := a21) (v := (vb r4)) (by kernel_rfl) (by kernel_rfl) rfl (Try.sizeOf4 _) hp12) ?_
           intro w21 hn13
           replace h := h w21 hn13
           have hk : Kept H3 w20 w21 := by rw [hn13]; exact Kept.setCell hnh
           replace hs := hs.again hk
           replace hb := hb.kept hk
           clear hk hnh
           refine wpL_nil (bl_n (bl_n (th_n (rg (q0 (vi t1) (q0 (vi (IntKind.i64.wrap (t1 + 1))) (q0 (vi (IntKind.i64.wrap (t1 + 1))) (wpL_nil (th_n ?_)))))))))
           exact ⟨((IntKind.i64.wrap (t1 + 1)), H3, w21), ⟨rfl, Has.mk (by kernel_rfl), hs, hb.drop 1, h.1⟩, h.2⟩
          ·replace h := h.2 hg7
           refine sk (yD 114 hg7) (sk (yD 114 hg7) (sk (yD 114 hg7) (sk (yD 114 hg7) (sk (yD 114 hg7) (stp (v := (vb false)) (want1 rfl (yD 108 hg6)) (xF hg7) (q2 (vb false) (xF hg6) ?_))))))
           obtain ⟨a22, hv26, h⟩ := h
           refine q2 (vp (some a22)) (x_indexAddr (s := s1) (k := .i64) (i := t1) (by kernel_rfl) (by kernel_rfl) (Try.runUnderlying70 _) (Try.sizeOf4 _) hv26) ?_
           obtain ⟨hp13, hnh, h⟩ := h
           refine st_set (want0 rfl) (x_store (a := a22) (v := (vb false)) (by kernel_rfl) (by kernel_rfl) rfl (Try.sizeOf4 _) hp13) ?_
           intro w22 hn14
           replace h := h w22 hn14
           have hk : Kept H3 w14 w22 := by rw [hn14]; exact Kept.setCell hnh
           replace hs := hs.again hk
           replace hb := hb.kept hk
           clear hk hnh
           refine wpL_nil (bl_n (bl_n (th_n (rg (q0 (vi t1) (q0 (vi (IntKind.i64.wrap (t1 + 1))) (q0 (vi (IntKind.i64.wrap (t1 + 1))) (wpL_nil (th_n ?_)))))))))
           exact ⟨((IntKind.i64.wrap (t1 + 1)), H3, w22), ⟨rfl, Has.mk (by kernel_rfl), hs, hb.drop 1, h.1⟩, h.2⟩
        ·replace h := h.2 hc12
         refine wpE_skip (bl_n (bl_n (th_n (rg (q0 (vi t1) (q0 (vi (IntKind.i64.wrap (t1 + 1))) (q0 (vi (IntKind.i64.wrap (t1 + 1))) (wpL_nil ?_))))))))
         replace h := h H3 w14 hs
         replace hs := hs.here
         refine th_n ?_
         exact ⟨((IntKind.i64.wrap (t1 + 1)), H3, w14), ⟨rfl, Has.mk (by kernel_rfl), hs, hb.drop 1, h.1⟩, h.2⟩
 ·replace h := h.2 hc1
  refine wpE_exit (th_x (th_x (bl_eq (th_n (wpE_seq (rg (q0 s1.v (q0 s1.v (wpL_nil (th_n (wpE_ret ?_)))))))))))
  refine res1 (.inl rfl) Try.results39 (v := s1.v) (by kernel_rfl) ?_
  exact ⟨s1, rfl, h⟩
def m_ref08_ahead (l1 : Sl) (i1 : Int) (a1 b1 : Bool) (w0 : World) (K : Bool → World → Prop) : Prop :=
 ∃ a2 : Addr, At l1 i1 4 a2 ∧
 ∀ (w1 : World), Hst w0 None w0 None w1 →
 ∃ v1 : Int, w1.cell? (a2.add 1) = some (vi v1) ∧
 ∃ a3 : Addr, At l1 i1 4 a3 ∧
 ∃ v2 : Int, w1.cell? (a3.add 2) = some (vi v2) ∧
 Br ((a1 && ((decide (v1 < 0)) || (decide (v1 ≥ i1)))) || ((!a1) && (v1 != 0)))
  (∀ (H5 : Nat → Prop) (w6 : World), Hst w0 None w1 H5 w6 →
  K false w6)
  (∀ (H16 : Nat → Prop) (w17 : World), Hst w0 None w1 H16 w17 →
  K (!((b1 && ((decide (v2 < 0)) || (decide (v2 ≥ i1)))) || ((!b1) && (v2 != 0)))) w17)
theorem w_ref08_ahead (l1 : Sl) (i1 : Int) (a1 b1 : Bool) (w0 : World) (K : Bool → World → Prop) (h : m_ref08_ahead l1 i1 a1 b1 w0 K) :
  Calls Try.prog 142 #[l1.v, (vi i1), (vb a1), (vb b1)] w0 (fun e w' => ∃ r1 : Bool, e = .returned (vb r1) ∧ K r1 w') := by
 unfold m_ref08_ahead at h
 refine calls_of_wpE (args := [l1.v, (vi i1), (vb a1), (vb b1)]) Try.func142 rfl Try.ntmps142 (Nat.le_of_ble_eq_true rfl) ?_
 have hs := Hst.start w0
 have hb := HB.nil None w0
 refine wpE_seq (rg (q0 (vb false) (wpL_nil (th_n (wpE_seq (wpE_drawnQ (by kernel_rfl) (by kernel_rfl) (by kernel_rfl) (by kernel_rfl) ?_))))))
 intro w1 hw1
 replace hs : Hst w0 None w0 None w1 := by rw [hw1]; exact hs.drew
 replace hb : HB None w1 [] := by rw [hw1]; exact hb.drew
 clear hw1
 refine qq 0 l1.v Kp0 (qq 1 (vi i1) Kp1 (qgo (k := 2) (by kernel_rfl) ?_))
 obtain ⟨a2, hv4, h⟩ := h
 refine sxQ (v := (vp (some a2))) Kp2 (want0 rfl) rfl (x_indexAddr (s := l1) (k := .i64) (i := i1) (by kernel_rfl) (by kernel_rfl) (Try.runUnderlying76 _) (Try.sizeOf167 _) hv4) (qq 3 (vp (some (a2.add 1))) Kp3 (qgo (k := 4) (by kernel_rfl) ?_))
 replace h := h w1 hs
 replace hs := hs.here
 obtain ⟨v1, hv3, h⟩ := h
 refine sxQ (v := (vi v1)) Kp4 (want0 rfl) rfl (xl (Try.isAgg3 _) hv3) (qq 5 l1.v Kp5 (qq 6 (vi i1) Kp6 (qgo (k := 7) (by kernel_rfl) ?_)))
 obtain ⟨a3, hv2, h⟩ := h
 refine sxQ (v := (vp (some a3))) Kp7 (want0 rfl) rfl (x_indexAddr (s := l1) (k := .i64) (i := i1) (by kernel_rfl) (by kernel_rfl) (Try.runUnderlying76 _) (Try.sizeOf167 _) hv2) (qq 8 (vp (some (a3.add 2))) Kp8 (qgo (k := 9) (by kernel_rfl) ?_))
 obtain ⟨v2, hv1, h⟩ := h
 refine sxQ (v := (vi v2)) Kp9 (want0 rfl) rfl (xl (Try.isAgg3 _) hv1) (qq 10 (vi v1) (pickA (S8 (pickS (pickS pickZ)))) (qq 11 (vi v2) (pickA (S8 (pickS (pickS (pickS pickZ))))) (wpX_nil (by kernel_rfl) (th_n (wpE_seq (wpE_seq ?_))))))
 refine wpE_via (fun ρ wJ => ∃ b6'0 : Bool, ∃ HJ : Nat → Prop, ((a1 && ((decide (v1 < 0)) || (decide (v1 ≥ i1)))) = b6'0) ∧ Hst w0 None w1 HJ wJ ∧ HB HJ wJ [] ∧ Has ρ [(1, (vi i1)), (3, (vb b1)), (10, (vi v2)), (38, (vb (b6'0 || ((!a1) && (v1 != 0)))))]) ?_ ?_
 ·skip
  refine rg (q0 (vb a1) (q0 (vb a1) ?_))
  refine wpL_join 8 (fun ρ wJ => ∃ b8'0 : Bool, ∃ HJ : Nat → Prop, (a1 = b8'0) ∧ Hst w0 None w1 HJ wJ ∧ HB HJ wJ [] ∧ Has ρ [(1, (vi i1)), (2, (vb a1)), (3, (vb b1)), (9, (vi v1)), (10, (vi v2)), (30, (vb (b8'0 && ((decide (v1 < 0)) || (decide (v1 ≥ i1))))))]) ?_ ?_
  ·clear hs hb
   rintro ρ w8 ⟨b8'0, H7, he0, hs, hb, hH⟩
   subst he0
   refine wpL_has hH ?_
   clear hH
   refine q0 (vb (a1 && ((decide (v1 < 0)) || (decide (v1 ≥ i1))))) ?_
   rcases Bool.eq_false_or_eq_true (a1 && ((decide (v1 < 0)) || (decide (v1 ≥ i1)))) with hg16 | hg16
   ·skip
    refine sk (yD 31 hg16) (sk (yD 31 hg16) (sk (yD 31 hg16) (st_not (by kernel_rfl) (st_not (by kernel_rfl) (sk (yD 31 hg16) (q2 (vb true) (xT hg16) (wpL_nil (th_n ?_))))))))
    exact ⟨true, _, hg16, hs, hb, Has.mk (by kernel_rfl)⟩
   ·skip
    refine q1 (vb a1) (want1 rfl (yD 31 hg16)) (q1 (vb (!a1)) (want1 rfl (yD 31 hg16)) (q1 (vb (!a1)) (want1 rfl (yD 31 hg16)) ?_))
    refine wpL_join 3 (fun ρ wJ => ∃ b10'0 : Bool, ∃ HJ : Nat → Prop, ((!a1) = b10'0) ∧ Hst w0 None w1 HJ wJ ∧ HB HJ wJ [] ∧ Has ρ [(1, (vi i1)), (3, (vb b1)), (10, (vi v2)), (31, (vb (a1 && ((decide (v1 < 0)) || (decide (v1 ≥ i1)))))), (37, (vb (b10'0 && (v1 != 0))))]) ?_ ?_
    ·clear hs hb
     rintro ρ w10 ⟨b10'0, H9, he0, hs, hb, hH⟩
     subst he0
     refine wpL_has hH ?_
     clear hH
     refine q2 (vb ((!a1) && (v1 != 0))) (xF hg16) (wpL_nil (th_n ?_))
     exact ⟨false, _, hg16, hs, hb, Has.mk (by kernel_rfl)⟩
    ·skip
     rcases Bool.eq_false_or_eq_true (!a1) with hg18 | hg18
     ·skip
      refine q1 (vi v1) (want1 rfl (yD 34 hg18)) (q1 (vb (v1 != 0)) (want1 rfl (yD 34 hg18)) (stp (v := (vb (v1 != 0))) (want1 rfl (yD 31 hg16)) (xT hg18) (wpL_nil ?_)))
      exact ⟨true, _, hg18, hs, hb, Has.mk (by kernel_rfl)⟩
     ·skip
      refine sk (yD 34 hg18) (sk (yD 34 hg18) (stp (v := (vb false)) (want1 rfl (yD 31 hg16)) (xF hg18) (wpL_nil ?_)))
      exact ⟨false, _, hg18, hs, hb, Has.mk (by kernel_rfl)⟩
  ·skip
   rcases Bool.eq_false_or_eq_true a1 with hg13 | hg13
   ·skip
    refine q1 (vi v1) (want1 rfl (yD 22 hg13)) (q1 (vb (decide (v1 < 0))) (want1 rfl (yD 22 hg13)) (q1 (vb (decide (v1 < 0))) (want1 rfl (yD 22 hg13)) ?_))
    refine wpL_join 4 (fun ρ wJ => ∃ b9'0 : Bool, ∃ HJ : Nat → Prop, ((decide (v1 < 0)) = b9'0) ∧ Hst w0 None w1 HJ wJ ∧ HB HJ wJ [] ∧ Has ρ [(1, (vi i1)), (2, (vb a1)), (3, (vb b1)), (9, (vi v1)), (10, (vi v2)), (22, (vb a1)), (29, (vb (b9'0 || (decide (v1 ≥ i1)))))]) ?_ ?_
    ·clear hs hb
     rintro ρ w9 ⟨b9'0, H8, he0, hs, hb, hH⟩
     subst he0
     refine wpL_has hH ?_
     clear hH
     refine q2 (vb ((decide (v1 < 0)) || (decide (v1 ≥ i1)))) (xT hg13) (wpL_nil ?_)
     exact ⟨true, _, hg13, hs, hb, Has.mk (by kernel_rfl)⟩
    ·skip
     rcases Bool.eq_false_or_eq_true (decide (v1 < 0)) with hg15 | hg15
     ·skip
      refine sk (yD 25 hg15) (sk (yD 25 hg15) (sk (yD 25 hg15) (stp (v := (vb true)) (want1 rfl (yD 22 hg13)) (xT hg15) (wpL_nil ?_))))
      exact ⟨true, _, hg15, hs, hb, Has.mk (by kernel_rfl)⟩
     ·skip
      refine q1 (vi v1) (want1 rfl (yD 25 hg15)) (q1 (vi i1) (want1 rfl (yD 25 hg15)) (q1 (vb (decide (v1 ≥ i1))) (want1 rfl (yD 25 hg15)) (stp (v := (vb (decide (v1 ≥ i1)))) (want1 rfl (yD 22 hg13)) (xF hg15) (wpL_nil ?_))))
      exact ⟨false, _, hg15, hs, hb, Has.mk (by kernel_rfl)⟩
   ·skip
    refine sk (yD 22 hg13) (sk (yD 22 hg13) (sk (yD 22 hg13) (st_not (by kernel_rfl) (st_not (by kernel_rfl) (st_not (by kernel_rfl) (sk (yD 22 hg13) (q2 (vb false) (xF hg13) (wpL_nil ?_))))))))
    exact ⟨false, _, hg13, hs, hb, Has.mk (by kernel_rfl)⟩
 ·clear hs hb
  rintro ρ w6 ⟨b6'0, H5, he0, hs, hb, hH⟩
  subst he0
  refine norm_has hH ?_
  clear hH
  refine th_n ?_
  refine wpE_cond (t := ((a1 && ((decide (v1 < 0)) || (decide (v1 ≥ i1)))) || ((!a1) && (v1 != 0)))) (by kernel_rfl) (fun hc1 => ?_) (fun hc1 => ?_)
  ·replace h := h.1 hc1
   refine wpE_seq (rg (q0 (vb false) (wpL_nil (th_n (wpE_ret (th_r ?_))))))
   replace h := h H5 w6 hs
   replace hs := hs.here
   refine res1 (.inl rfl) Try.results142 (v := (vb false)) (by kernel_rfl) ?_
   exact ⟨false, rfl, h⟩
  ·replace h := h.2 hc1
   refine wpE_skip (th_n (wpE_seq ?_))
   refine wpE_via (fun ρ wJ => ∃ HJ : Nat → Prop, Hst w0 None w1 HJ wJ ∧ HB HJ wJ [] ∧ Has ρ [(8, (vb (!((b1 && ((decide (v2 < 0)) || (decide (v2 ≥ i1)))) || ((!b1) && (v2 != 0))))))]) ?_ ?_
   ·skip
    refine rg (q0 (vb b1) (q0 (vb b1) ?_))
    refine wpL_join 8 (fun ρ wJ => ∃ b19'0 : Bool, ∃ HJ : Nat → Prop, (b1 = b19'0) ∧ Hst w0 None w1 HJ wJ ∧ HB HJ wJ [] ∧ Has ρ [(3, (vb b1)), (10, (vi v2)), (48, (vb (b19'0 && ((decide (v2 < 0)) || (decide (v2 ≥ i1))))))]) ?_ ?_
    ·clear hs hb
     rintro ρ w19 ⟨b19'0, H18, he0, hs, hb, hH⟩
     subst he0
     refine wpL_has hH ?_
     clear hH
     refine q0 (vb (b1 && ((decide (v2 < 0)) || (decide (v2 ≥ i1))))) ?_
     refine wpL_join 7 (fun ρ wJ => ∃ b22'0 : Bool, ∃ HJ : Nat → Prop, ((b1 && ((decide (v2 < 0)) || (decide (v2 ≥ i1)))) = b22'0) ∧ Hst w0 None w1 HJ wJ ∧ HB HJ wJ [] ∧ Has ρ [(56, (vb (b22'0 || ((!b1) && (v2 != 0)))))]) ?_ ?_
     ·clear hs hb
      rintro ρ w22 ⟨b22'0, H21, he0, hs, hb, hH⟩
      subst he0
      refine wpL_has hH ?_
      clear hH
      refine q0 (vb (!((b1 && ((decide (v2 < 0)) || (decide (v2 ≥ i1)))) || ((!b1) && (v2 != 0))))) (q0 (vb (!((b1 && ((decide (v2 < 0)) || (decide (v2 ≥ i1)))) || ((!b1) && (v2 != 0))))) (wpL_nil (th_n ?_)))
      exact ⟨_, hs, hb, Has.mk (by kernel_rfl)⟩
     ·skip
      rcases Bool.eq_false_or_eq_true (b1 && ((decide (v2 < 0)) || (decide (v2 ≥ i1)))) with hg40 | hg40
      ·skip
       refine sk (yD 49 hg40) (sk (yD 49 hg40) (sk (yD 49 hg40) (st_not (by kernel_rfl) (st_not (by kernel_rfl) (sk (yD 49 hg40) (q2 (vb true) (xT hg40) (wpL_nil ?_)))))))
       exact ⟨true, _, hg40, hs, hb, Has.mk (by kernel_rfl)⟩
      ·skip
       refine q1 (vb b1) (want1 rfl (yD 49 hg40)) (q1 (vb (!b1)) (want1 rfl (yD 49 hg40)) (q1 (vb (!b1)) (want1 rfl (yD 49 hg40)) ?_))
       refine wpL_join 3 (fun ρ wJ => ∃ b23'0 : Bool, ∃ HJ : Nat → Prop, ((!b1) = b23'0) ∧ Hst w0 None w1 HJ wJ ∧ HB HJ wJ [] ∧ Has ρ [(49, (vb (b1 && ((decide (v2 < 0)) || (decide (v2 ≥ i1)))))), (55, (vb (b23'0 && (v2 != 0))))]) ?_ ?_
       ·clear hs hb
        rintro ρ w23 ⟨b23'0, H22, he0, hs, hb, hH⟩
        subst he0
        refine wpL_has hH ?_
        clear hH
        refine q2 (vb ((!b1) && (v2 != 0))) (xF hg40) (wpL_nil ?_)
        exact ⟨false, _, hg40, hs, hb, Has.mk (by kernel_rfl)⟩
       ·skip
        rcases Bool.eq_false_or_eq_true (!b1) with hg42 | hg42
        ·skip
         refine q1 (vi v2) (want1 rfl (yD 52 hg42)) (q1 (vb (v2 != 0)) (want1 rfl (yD 52 hg42)) (stp (v := (vb (v2 != 0))) (want1 rfl (yD 49 hg40)) (xT hg42) (wpL_nil ?_)))
         exact ⟨true, _, hg42, hs, hb, Has.mk (by kernel_rfl)⟩
        ·skip
         refine sk (yD 52 hg42) (sk (yD 52 hg42) (stp (v := (vb false)) (want1 rfl (yD 49 hg40)) (xF hg42) (wpL_nil ?_)))
         exact ⟨false, _, hg42, hs, hb, Has.mk (by kernel_rfl)⟩
    ·skip
     rcases Bool.eq_false_or_eq_true b1 with hg34 | hg34
     ·skip
      refine q1 (vi v2) (want1 rfl (yD 40 hg34)) (q1 (vb (decide (v2 < 0))) (want1 rfl (yD 40 hg34)) (q1 (vb (decide (v2 < 0))) (want1 rfl (yD 40 hg34)) ?_))
      refine wpL_join 4 (fun ρ wJ => ∃ b20'0 : Bool, ∃ HJ : Nat → Prop, ((decide (v2 < 0)) = b20'0) ∧ Hst w0 None w1 HJ wJ ∧ HB HJ wJ [] ∧ Has ρ [(3, (vb b1)), (10, (vi v2)), (40, (vb b1)), (47, (vb (b20'0 || (decide (v2 ≥ i1)))))]) ?_ ?_
      ·clear hs hb
       rintro ρ w20 ⟨b20'0, H19, he0, hs, hb, hH⟩
       subst he0
       refine wpL_has hH ?_
       clear hH
       refine q2 (vb ((decide (v2 < 0)) || (decide (v2 ≥ i1)))) (xT hg34) (wpL_nil ?_)
       exact ⟨true, _, hg34, hs, hb, Has.mk (by kernel_rfl)⟩
      ·skip
       rcases Bool.eq_false_or_eq_true (decide (v2 < 0)) with hg36 | hg36
       ·skip
        refine sk (yD 43 hg36) (sk (yD 43 hg36) (sk (yD 43 hg36) (stp (v := (vb true)) (want1 rfl (yD 40 hg34)) (xT hg36) (wpL_nil ?_))))
        exact ⟨true, _, hg36, hs, hb, Has.mk (by kernel_rfl)⟩
       ·skip
        refine q1 (vi v2) (want1 rfl (yD 43 hg36)) (q1 (vi i1) (want1 rfl (yD 43 hg36)) (q1 (vb (decide (v2 ≥ i1))) (want1 rfl (yD 43 hg36)) (stp (v := (vb (decide (v2 ≥ i1)))) (want1 rfl (yD 40 hg34)) (xF hg36) (wpL_nil ?_))))
        exact ⟨false, _, hg36, hs, hb, Has.mk (by kernel_rfl)⟩
     ·skip
      refine sk (yD 40 hg34) (sk (yD 40 hg34) (sk (yD 40 hg34) (st_not (by kernel_rfl) (st_not (by kernel_rfl) (st_not (by kernel_rfl) (sk (yD 40 hg34) (q2 (vb false) (xF hg34) (wpL_nil ?_))))))))
      exact ⟨false, _, hg34, hs, hb, Has.mk (by kernel_rfl)⟩
   ·clear hs hb
    rintro ρ w17 ⟨H16, hs, hb, hH⟩
    refine norm_has hH ?_
    clear hH
    refine th_n (wpE_ret ?_)
    replace h := h H16 w17 hs
    replace hs := hs.here
    refine res1 (.inl rfl) Try.results142 (v := (vb (!((b1 && ((decide (v2 < 0)) || (decide (v2 ≥ i1)))) || ((!b1) && (v2 != 0)))))) (by kernel_rfl) ?_
    exact ⟨(!((b1 && ((decide (v2 < 0)) || (decide (v2 ≥ i1)))) || ((!b1) && (v2 != 0)))), rfl, h⟩
def m_ref08_makes_j1 (p1 : Option Addr) (l1 : Sl) (i1 aA : Int) (aC aD : Int) (x1 : Bool) (w0 : World) (H : Nat → Prop) (w : World) (K : Bool → World → Prop) : Prop :=
 Br x1
  (K false w)
  (∃ a8 : Addr, At l1 i1 4 a8 ∧
  ∃ v8 : Int, w.cell? (a8.add 2) = some (vi v8) ∧
  ∃ a9 : Addr, At l1 v8 4 a9 ∧
  ∃ v9 : Int, w.cell? (a9.add 3) = some (vi v9) ∧
  Calls Try.prog 47 #[(vp p1), (vi v9)] w (fun e w9 => ∃ aF aL : Int, ∃ aN aO : Int, ∃ aP : ByteArray, ∃ aK aM : Int, ∃ r4 : Bool, e = .returned (.tuple #[(.agg #[(vi aF), (vi aL), (vi aN), (vu aO), (vs aP), (vi aK), (vi aM)]), (vb r4)]) ∧ 
   Kept H w w9 ∧
   ∀ (H6 : Nat → Prop) (w14 : World), Hst w0 H w9 H6 w14 →
   K ((aF == 6) && (aL == (cond (aA == 9) aD aC))) w14))
def m_ref08_makes (p1 : Option Addr) (l1 : Sl) (i1 : Int) (w0 : World) (K : Bool → World → Prop) : Prop :=
 ∃ a1 : Addr, At l1 i1 4 a1 ∧
 ∃ v1 : Int, w0.cell? (a1.add 3) = some (vi v1) ∧
 Calls Try.prog 47 #[(vp p1), (vi v1)] w0 (fun e w1 => ∃ aA aC : Int, ∃ aD aH : Int, ∃ aI : ByteArray, ∃ aB aE : Int, ∃ r1 : Bool, e = .returned (.tuple #[(.agg #[(vi aA), (vi aC), (vi aD), (vu aH), (vs aI), (vi aB), (vi aE)]), (vb r1)]) ∧ 
  Kept None w0 w1 ∧
  Br (aA == 4)
   (∀ (H1 : Nat → Prop) (w3 : World), Hst w0 None w1 H1 w3 →
   ∃ C1 : World → Prop, C1 w3.drew ∧ ∀ w4, w4 = w3.drew →
   Calls Try.prog 142 #[l1.v, (vi i1), (vb true), (vb true)] w4 (fun e w5 => ∃ r2 : Bool, e = .returned (vb r2) ∧ C1 w5 ∧ 
    Kept H1 w4 w5 ∧
    Br r2
     (∃ a2 : Addr, At l1 i1 4 a2 ∧
     ∃ v2 : Int, (∀ w', C1 w' → w'.cell? (a2.add 1) = some (vi v2)) ∧
     ∃ a3 : Addr, At l1 v2 4 a3 ∧
     ∃ v3 : Int, (∀ w', C1 w' → w'.cell? (a3.add 3) = some (vi v3)) ∧
     Br (v3 == aB)
      (∃ a4 : Addr, At l1 i1 4 a4 ∧
      ∃ v4 : Int, (∀ w', C1 w' → w'.cell? (a4.add 2) = some (vi v4)) ∧
      ∃ a5 : Addr, At l1 v4 4 a5 ∧
      ∃ v5 : Int, (∀ w', C1 w' → w'.cell? (a5.add 3) = some (vi v5)) ∧
      K (v5 == aE) w5)
      (K false w5))
     (K false w5)))
   (Br (aA == 5)
    (∀ (H1 : Nat → Prop) (w3 : World), Hst w0 None w1 H1 w3 →
    ∃ C2 : World → Prop, C2 w3.drew ∧ ∀ w6, w6 = w3.drew →
    Calls Try.prog 142 #[l1.v, (vi i1), (vb true), (vb false)] w6 (fun e w7 => ∃ r3 : Bool, e = .returned (vb r3) ∧ C2 w7 ∧ 
     Kept H1 w6 w7 ∧
     Br r3
      (∃ a6 : Addr, At l1 i1 4 a6 ∧
      ∃ v6 : Int, (∀ w', C2 w' → w'.cell? (a6.add 1) = some (vi v6)) ∧
      ∃ a7 : Addr, At l1 v6 4 a7 ∧
      ∃ v7 : Int, (∀ w', C2 w' → w'.cell? (a7.add 3) = some (vi v7)) ∧
      K (v7 == aB) w7)
      (K false w7)))
    (∀ y1 : Bool, y1 = (cond (aA == 7) (aA == 7) (cond (aA == 8) (aA == 8) (aA == 9))) →
    Br y1
     (∀ (H2 : Nat → Prop) (w8 : World), Hst w0 None w1 H2 w8 →
     ∃ C3 : World → Prop, C3 w8.drew ∧ ∀ w16, w16 = w8.drew →
     Calls Try.prog 142 #[l1.v, (vi i1), (vb true), (vb true)] w16 (fun e w17 => ∃ r5 : Bool, e = .returned (vb r5) ∧ C3 w17 ∧ 
      Kept H2 w16 w17 ∧
      Br (!r5)
       (m_ref08_makes_j1 p1 l1 i1 aA aC aD true w0 H2 w17 K)
       (∃ a10 : Addr, At l1 i1 4 a10 ∧
       ∃ v10 : Int, (∀ w', C3 w' → w'.cell? (a10.add 1) = some (vi v10)) ∧
       ∃ a11 : Addr, At l1 v10 4 a11 ∧
       ∃ v11 : Int, (∀ w', C3 w' → w'.cell? (a11.add 3) = some (vi v11)) ∧
       m_ref08_makes_j1 p1 l1 i1 aA aC aD (v11 != aB) w0 H2 w17 K)))
     (∀ (H2 : Nat → Prop) (w8 : World), Hst w0 None w1 H2 w8 →
     K false w8))))
theorem w_ref08_makes (p1 : Option Addr) (l1 : Sl) (i1 : Int) (w0 : World) (K : Bool → World → Prop) (h : m_ref08_makes p1 l1 i1 w0 K) :
  Calls Try.prog 143 #[(vp p1), l1.v, (vi i1)] w0 (fun e w' => ∃ r6 : Bool, e = .returned (vb r6) ∧ K r6 w') := by
 unfold m_ref08_makes at h
 refine calls_of_wpE (args := [(vp p1), l1.v, (vi i1)]) Try.func143 rfl Try.ntmps143 (Nat.le_of_ble_eq_true rfl) ?_
 have hs := Hst.start w0
 have hb := HB.nil None w0
 refine wpE_seq (rg (q0 (vb false) (wpL_nil (th_n (wpE_seq (rg (q0 (vp p1) (q0 l1.v (q0 (vi i1) ?_)))))))))
 obtain ⟨a1, hv22, h⟩ := h
 refine q2 (vp (some a1)) (x_indexAddr (s := l1) (k := .i64) (i := i1) (by kernel_rfl) (by kernel_rfl) (Try.runUnderlying76 _) (Try.sizeOf167 _) hv22) (q0 (vp (some (a1.add 3))) ?_)
 obtain ⟨v1, hv21, h⟩ := h
 refine q2 (vi v1) (xl (Try.isAgg41 _) hv21) ?_
 refine st_call (want0 rfl) (xc Try.call47) (h.mono ?_)
 rintro e w1 ⟨aA, aC, aD, aH, aI, aB, aE, r1, rfl, hk, h⟩
 refine ⟨_, rfl, ?_⟩
 obtain ⟨hs, hb⟩ := hk.hh hs hb
 refine q0 (.tuple #[(.agg #[(vi aA), (vi aC), (vi aD), (vu aH), (vs aI), (vi aB), (vi aE)]), (vb r1)]) (q0 (.agg #[(vi aA), (vi aC), (vi aD), (vu aH), (vs aI), (vi aB), (vi aE)]) (q0 (vb r1) (sn (O := (.cells #[(vi 0), (vi 0), (vi 0), (vu 0), (vs ⟨#[]⟩), (vi 0), (vi 0)] 93)) (x_alloc (Try.zeroValue93 _) rfl) ?_)))
 intro p2 w2 hn1
 obtain ⟨H1, hs, hb⟩ := hs.alloc hb hn1
 refine st_set (want0 rfl) (x_storeA (a := p2) (vs := [(vi aA), (vi aC), (vi aD), (vu aH), (vs aI), (vi aB), (vi aE)]) (by kernel_rfl) (by kernel_rfl) rfl (Try.sizeOf93 _) rfl (hb.canWs0 0 7 gZ (by kernel_rfl))) ?_
 intro w3 hn2
 have hsb : Hst w0 None w1 H1 w3 ∧ HB H1 w3 [(p2, [(vi aA), (vi aC), (vi aD), (vu aH), (vs aI), (vi aB), (vi aE)], 93)] := by
  rw [hn2]
  exact hb.store0 (i := 0) (vs := [(vi aA), (vi aC), (vi aD), (vu aH), (vs aI), (vi aB), (vi aE)]) hs gZ (by kernel_rfl) (by kernel_rfl)
 clear hs hb hn2
 obtain ⟨hs, hb⟩ := hsb
 refine q0 (vb r1) (wpL_nil (th_n (wpE_seq (wpE_seq (rg (q0 (vp (some p2)) (q2 (vi aA) (xl (Try.isAgg3 _) (hb.c0 0 gZ)) (wpL_nil (th_n (wpE_block (wpE_seq ?_)))))))))))
 refine rg (q0 (vb (aA == 4)) (q0 (vb (aA == 4)) (wpL_nil (th_n ?_))))
 refine wpE_cond (t := (aA == 4)) (by kernel_rfl) (fun hc1 => ?_) (fun hc1 => ?_)
 ·replace h := h.1 hc1
  refine wpE_seq ?_
  replace h := h H1 w3 hs
  replace hs := hs.here
  obtain ⟨C1, hC, h⟩ := h
  refine wpE_drawnC (fun x => C1 x ∧ HB H1 x [(p2, [(vi aA), (vi aC), (vi aD), (vu aH), (vs aI), (vi aB), (vi aE)], 93)]) [2] [] (by kernel_rfl) (by kernel_rfl) (by kernel_rfl) (by kernel_rfl) ⟨hC, hb.drew⟩ ?_
  clear hC
  intro w4 hw4
  replace h := h w4 hw4
  replace hs : Hst w0 H1 w3 H1 w4 := by rw [hw4]; exact hs.drew
  replace hb : HB H1 w4 [(p2, [(vi aA), (vi aC), (vi aD), (vu aH), (vs aI), (vi aB), (vi aE)], 93)] := by rw [hw4]; exact hb.drew
  replace hs := hs.here
  refine qx 0 l1.v Kp0 (qx 1 (vi i1) Kp1 (lgo (k := 2) (by kernel_rfl) ?_))
  refine sl_call Kp2 (want0 rfl) (by kernel_rfl) (xc Try.call142) (h.mono ?_)
  rintro e w5 ⟨r2, rfl, hC, hk, h⟩
  refine ⟨_, rfl, .inr ⟨hC, hb.kept hk⟩, ?_⟩
  obtain ⟨hs, hb⟩ := hk.hh hs hb
  refine qx 3 (vb r2) Kp3 (qgo (k := 4) (by kernel_rfl) ?_)
  rcases Bool.eq_false_or_eq_true r2 with hg1 | hg1
  ·replace h := h.1 hg1
   refine sx (v := l1.v) Kp4 (want1 rfl (yD 29 hg1)) (by kernel_rfl) (fun w' hw' => (by kernel_rfl)) (qw 5 l1.v Kp5 (want1 rfl (yD 29 hg1)) (qw 6 (vi i1) Kp6 (want1 rfl (yD 29 hg1)) (qgo (k := 7) (by kernel_rfl) ?_)))
   obtain ⟨a2, hv8, h⟩ := h
   refine sx (v := (vp (some a2))) Kp7 (want1 rfl (yD 29 hg1)) (by kernel_rfl) (fun w' hw' => (x_indexAddr (s := l1) (k := .i64) (i := i1) (by kernel_rfl) (by kernel_rfl) (Try.runUnderlying76 _) (Try.sizeOf167 _) hv8)) (qw 8 (vp (some (a2.add 1))) Kp8 (want1 rfl (yD 29 hg1)) (qgo (k := 9) (by kernel_rfl) ?_))
   obtain ⟨v2, hv7, h⟩ := h
   refine sx (v := (vi v2)) Kp9 (want1 rfl (yD 29 hg1)) (by kernel_rfl) (fun w' hw' => (xl (Try.isAgg3 _) (hv7 w' hw'.1))) (qgo (k := 10) (by kernel_rfl) ?_)
   obtain ⟨a3, hv6, h⟩ := h
   refine sx (v := (vp (some a3))) (pickA (S8 (pickS (pickS pickZ)))) (want1 rfl (yD 29 hg1)) (by kernel_rfl) (fun w' hw' => (x_indexAddr (s := l1) (k := .i64) (i := v2) (by kernel_rfl) (by kernel_rfl) (Try.runUnderlying76 _) (Try.sizeOf167 _) hv6)) (qw 11 (vp (some (a3.add 3))) (pickA (S8 (pickS (pickS (pickS pickZ))))) (want1 rfl (yD 29 hg1)) (qgo (k := 12) (by kernel_rfl) ?_))
   obtain ⟨v3, hv5, h⟩ := h
   refine sx (v := (vi v3)) (pickA (S8 (S4 pickZ))) (want1 rfl (yD 29 hg1)) (by kernel_rfl) (fun w' hw' => (xl (Try.isAgg41 _) (hv5 w' hw'.1))) (qw 13 (vp (some (p2.add 5))) (pickA (S8 (S4 (pickS pickZ)))) (want1 rfl (yD 29 hg1)) (qgo (k := 14) (by kernel_rfl) (sx (v := (vi aB)) (pickA (S8 (S4 (pickS (pickS pickZ))))) (want1 rfl (yD 29 hg1)) (by kernel_rfl) (fun w' hw' => (xl (Try.isAgg41 _) (hw'.2.cell 0 5 gZ (by kernel_rfl)))) (qw 15 (vb (v3 == aB)) (pickA (S8 (S4 (pickS (pickS (pickS pickZ)))))) (want1 rfl (yD 29 hg1)) (qz 16 (vb (v3 == aB)) (pickA (S8 (S8 pickZ))) (fun w' hw' => (xT hg1)) (qx 17 (vb (v3 == aB)) (pickA (S8 (S8 (pickS pickZ)))) (qgo (k := 18) (by kernel_rfl) ?_)))))))
   rcases Bool.eq_false_or_eq_true (v3 == aB) with hg2 | hg2
   ·replace h := h.1 hg2
    refine sx (v := l1.v) (pickA (S8 (S8 (pickS (pickS pickZ))))) (want1 rfl (yD 43 hg2)) (by kernel_rfl) (fun w' hw' => (by kernel_rfl)) (qw 19 l1.v (pickA (S8 (S8 (pickS (pickS (pickS pickZ)))))) (want1 rfl (yD 43 hg2)) (qw 20 (vi i1) (pickA (S8 (S8 (S4 pickZ)))) (want1 rfl (yD 43 hg2)) (qgo (k := 21) (by kernel_rfl) ?_)))
    obtain ⟨a4, hv4, h⟩ := h
    refine sx (v := (vp (some a4))) (pickA (S8 (S8 (S4 (pickS pickZ))))) (want1 rfl (yD 43 hg2)) (by kernel_rfl) (fun w' hw' => (x_indexAddr (s := l1) (k := .i64) (i := i1) (by kernel_rfl) (by kernel_rfl) (Try.runUnderlying76 _) (Try.sizeOf167 _) hv4)) (qw 22 (vp (some (a4.add 2))) (pickA (S8 (S8 (S4 (pickS (pickS pickZ)))))) (want1 rfl (yD 43 hg2)) (qgo (k := 23) (by kernel_rfl) ?_))
    obtain ⟨v4, hv3, h⟩ := h
    refine sx (v := (vi v4)) (pickA (S8 (S8 (S4 (pickS (pickS (pickS pickZ))))))) (want1 rfl (yD 43 hg2)) (by kernel_rfl) (fun w' hw' => (xl (Try.isAgg3 _) (hv3 w' hw'.1))) (qgo (k := 24) (by kernel_rfl) ?_)
    obtain ⟨a5, hv2, h⟩ := h
    refine sx (v := (vp (some a5))) (pickA (S8 (S8 (S8 pickZ)))) (want1 rfl (yD 43 hg2)) (by kernel_rfl) (fun w' hw' => (x_indexAddr (s := l1) (k := .i64) (i := v4) (by kernel_rfl) (by kernel_rfl) (Try.runUnderlying76 _) (Try.sizeOf167 _) hv2)) (qw 25 (vp (some (a5.add 3))) (pickA (S8 (S8 (S8 (pickS pickZ))))) (want1 rfl (yD 43 hg2)) (qgo (k := 26) (by kernel_rfl) ?_))
    obtain ⟨v5, hv1, h⟩ := h
    refine sx (v := (vi v5)) (pickA (S8 (S8 (S8 (pickS (pickS pickZ)))))) (want1 rfl (yD 43 hg2)) (by kernel_rfl) (fun w' hw' => (xl (Try.isAgg41 _) (hv1 w' hw'.1))) (qw 27 (vp (some (p2.add 6))) (pickA (S8 (S8 (S8 (pickS (pickS (pickS pickZ))))))) (want1 rfl (yD 43 hg2)) (qgo (k := 28) (by kernel_rfl) (sx (v := (vi aE)) (pickA (S8 (S8 (S8 (S4 pickZ))))) (want1 rfl (yD 43 hg2)) (by kernel_rfl) (fun w' hw' => (xl (Try.isAgg41 _) (hw'.2.cell 0 6 gZ (by kernel_rfl)))) (qw 29 (vb (v5 == aE)) (pickA (S8 (S8 (S8 (S4 (pickS pickZ)))))) (want1 rfl (yD 43 hg2)) (qz 30 (vb (v5 == aE)) (pickA (S8 (S8 (S8 (S4 (pickS (pickS pickZ))))))) (fun w' hw' => (xT hg2)) (qx 31 (vb (v5 == aE)) (pickA (S8 (S8 (S8 (S4 (pickS (pickS (pickS pickZ)))))))) (wpX_nil (by kernel_rfl) (th_n (wpE_ret (bl_r (th_r ?_)))))))))))
    refine res1 (.inl rfl) Try.results143 (v := (vb (v5 == aE))) (by kernel_rfl) ?_
    exact ⟨(v5 == aE), rfl, h⟩
   ·replace h := h.2 hg2
    refine sx_not (pickA (S8 (S8 (pickS (pickS pickZ))))) (unwant rfl (yD 43 hg2) rfl) (qn 19 (pickA (S8 (S8 (pickS (pickS (pickS pickZ)))))) (unwant rfl (yD 43 hg2) rfl) (qn 20 (pickA (S8 (S8 (S4 pickZ)))) (unwant rfl (yD 43 hg2) rfl) (qn 21 (pickA (S8 (S8 (S4 (pickS pickZ))))) (unwant rfl (yD 43 hg2) rfl) (qn 22 (pickA (S8 (S8 (S4 (pickS (pickS pickZ)))))) (unwant rfl (yD 43 hg2) rfl) (qn 23 (pickA (S8 (S8 (S4 (pickS (pickS (pickS pickZ))))))) (unwant rfl (yD 43 hg2) rfl) (qn 24 (pickA (S8 (S8 (S8 pickZ)))) (unwant rfl (yD 43 hg2) rfl) (qn 25 (pickA (S8 (S8 (S8 (pickS pickZ))))) (unwant rfl (yD 43 hg2) rfl) (qn 26 (pickA (S8 (S8 (S8 (pickS (pickS pickZ)))))) (unwant rfl (yD 43 hg2) rfl) (qn 27 (pickA (S8 (S8 (S8 (pickS (pickS (pickS pickZ))))))) (unwant rfl (yD 43 hg2) rfl) (qn 28 (pickA (S8 (S8 (S8 (S4 pickZ))))) (unwant rfl (yD 43 hg2) rfl) (qn 29 (pickA (S8 (S8 (S8 (S4 (pickS pickZ)))))) (unwant rfl (yD 43 hg2) rfl) ?_)))))))))))
    refine qz 30 (vb false) (pickA (S8 (S8 (S8 (S4 (pickS (pickS pickZ))))))) (fun w' hw' => (xF hg2)) (qx 31 (vb false) (pickA (S8 (S8 (S8 (S4 (pickS (pickS (pickS pickZ)))))))) (wpX_nil (by kernel_rfl) (th_n (wpE_ret (bl_r (th_r (res1 (.inl rfl) Try.results143 (v := (vb false)) (by kernel_rfl) ?_)))))))
    exact ⟨false, rfl, h⟩
  ·replace h := h.2 hg1
   refine sx_not Kp4 (unwant rfl (yD 29 hg1) rfl) (qn 5 Kp5 (unwant rfl (yD 29 hg1) rfl) (qn 6 Kp6 (unwant rfl (yD 29 hg1) rfl) (qn 7 Kp7 (unwant rfl (yD 29 hg1) rfl) (qn 8 Kp8 (unwant rfl (yD 29 hg1) rfl) (qn 9 Kp9 (unwant rfl (yD 29 hg1) rfl) (qn 10 (pickA (S8 (pickS (pickS pickZ)))) (unwant rfl (yD 29 hg1) rfl) (qn 11 (pickA (S8 (pickS (pickS (pickS pickZ))))) (unwant rfl (yD 29 hg1) rfl) (qn 12 (pickA (S8 (S4 pickZ))) (unwant rfl (yD 29 hg1) rfl) (qn 13 (pickA (S8 (S4 (pickS pickZ)))) (unwant rfl (yD 29 hg1) rfl) (qn 14 (pickA (S8 (S4 (pickS (pickS pickZ))))) (unwant rfl (yD 29 hg1) rfl) (qn 15 (pickA (S8 (S4 (pickS (pickS (pickS pickZ)))))) (unwant rfl (yD 29 hg1) rfl) ?_)))))))))))
   refine qz 16 (vb false) (pickA (S8 (S8 pickZ))) (fun w' hw' => (xF hg1)) (qx 17 (vb false) (pickA (S8 (S8 (pickS pickZ)))) (qn 18 (pickA (S8 (S8 (pickS (pickS pickZ))))) (unwant rfl (yD (c := false) 43 rfl) rfl) (qn 19 (pickA (S8 (S8 (pickS (pickS (pickS pickZ)))))) (unwant rfl (yD (c := false) 43 rfl) rfl) (qn 20 (pickA (S8 (S8 (S4 pickZ)))) (unwant rfl (yD (c := false) 43 rfl) rfl) (qn 21 (pickA (S8 (S8 (S4 (pickS pickZ))))) (unwant rfl (yD (c := false) 43 rfl) rfl) (qn 22 (pickA (S8 (S8 (S4 (pickS (pickS pickZ)))))) (unwant rfl (yD (c := false) 43 rfl) rfl) (qn 23 (pickA (S8 (S8 (S4 (pickS (pickS (pickS pickZ))))))) (unwant rfl (yD (c := false) 43 rfl) rfl) (qn 24 (pickA (S8 (S8 (S8 pickZ)))) (unwant rfl (yD (c := false) 43 rfl) rfl) (qn 25 (pickA (S8 (S8 (S8 (pickS pickZ))))) (unwant rfl (yD (c := false) 43 rfl) rfl) (qn 26 (pickA (S8 (S8 (S8 (pickS (pickS pickZ)))))) (unwant rfl (yD (c := false) 43 rfl) rfl) (qn 27 (pickA (S8 (S8 (S8 (pickS (pickS (pickS pickZ))))))) (unwant rfl (yD (c := false) 43 rfl) rfl) ?_)))))))))))
   refine qn 28 (pickA (S8 (S8 (S8 (S4 pickZ))))) (unwant rfl (yD (c := false) 43 rfl) rfl) (qn 29 (pickA (S8 (S8 (S8 (S4 (pickS pickZ)))))) (unwant rfl (yD (c := false) 43 rfl) rfl) (qx 30 (vb false) (pickA (S8 (S8 (S8 (S4 (pickS (pickS pickZ))))))) (qx 31 (vb false) (pickA (S8 (S8 (S8 (S4 (pickS (pickS (pickS pickZ)))))))) (wpX_nil (by kernel_rfl) (th_n (wpE_ret (bl_r (th_r (res1 (.inl rfl) Try.results143 (v := (vb false)) (by kernel_rfl) ?_)))))))))
   exact ⟨false, rfl, h⟩
 ·replace h := h.2 hc1
  refine wpE_seq (rg (q0 (vb (aA == 5)) (q0 (vb (aA == 5)) (wpL_nil (th_n ?_)))))
  refine wpE_cond (t := (aA == 5)) (by kernel_rfl) (fun hc2 => ?_) (fun hc2 => ?_)
  ·replace h := h.1 hc2
   refine wpE_seq ?_
   replace h := h H1 w3 hs
   replace hs := hs.here
   obtain ⟨C2, hC, h⟩ := h
   refine wpE_drawnC (fun x => C2 x ∧ HB H1 x [(p2, [(vi aA), (vi aC), (vi aD), (vu aH), (vs aI), (vi aB), (vi aE)], 93)]) [2] [] (by kernel_rfl) (by kernel_rfl) (by kernel_rfl) (by kernel_rfl) ⟨hC, hb.drew⟩ ?_
   clear hC
   intro w6 hw6
   replace h := h w6 hw6
   replace hs : Hst w0 H1 w3 H1 w6 := by rw [hw6]; exact hs.drew
   replace hb : HB H1 w6 [(p2, [(vi aA), (vi aC), (vi aD), (vu aH), (vs aI), (vi aB), (vi aE)], 93)] := by rw [hw6]; exact hb.drew
   replace hs := hs.here
   refine qx 0 l1.v Kp0 (qx 1 (vi i1) Kp1 (lgo (k := 2) (by kernel_rfl) ?_))
   refine sl_call Kp2 (want0 rfl) (by kernel_rfl) (xc Try.call142) (h.mono ?_)
   rintro e w7 ⟨r3, rfl, hC, hk, h⟩
   refine ⟨_, rfl, .inr ⟨hC, hb.kept hk⟩, ?_⟩
   obtain ⟨hs, hb⟩ := hk.hh hs hb
   refine qx 3 (vb r3) Kp3 (qgo (k := 4) (by kernel_rfl) ?_)
   rcases Bool.eq_false_or_eq_true r3 with hg3 | hg3
   ·replace h := h.1 hg3
    refine sx (v := l1.v) Kp4 (want1 rfl (yD 62 hg3)) (by kernel_rfl) (fun w' hw' => (by kernel_rfl)) (qw 5 l1.v Kp5 (want1 rfl (yD 62 hg3)) (qw 6 (vi i1) Kp6 (want1 rfl (yD 62 hg3)) (qgo (k := 7) (by kernel_rfl) ?_)))
    obtain ⟨a6, hv12, h⟩ := h
    refine sx (v := (vp (some a6))) Kp7 (want1 rfl (yD 62 hg3)) (by kernel_rfl) (fun w' hw' => (x_indexAddr (s := l1) (k := .i64) (i := i1) (by kernel_rfl) (by kernel_rfl) (Try.runUnderlying76 _) (Try.sizeOf167 _) hv12)) (qw 8 (vp (some (a6.add 1))) Kp8 (want1 rfl (yD 62 hg3)) (qgo (k := 9) (by kernel_rfl) ?_))
    obtain ⟨v6, hv11, h⟩ := h
    refine sx (v := (vi v6)) Kp9 (want1 rfl (yD 62 hg3)) (by kernel_rfl) (fun w' hw' => (xl (Try.isAgg3 _) (hv11 w' hw'.1))) (qgo (k := 10) (by kernel_rfl) ?_)
    obtain ⟨a7, hv10, h⟩ := h
    refine sx (v := (vp (some a7))) (pickA (S8 (pickS (pickS pickZ)))) (want1 rfl (yD 62 hg3)) (by kernel_rfl) (fun w' hw' => (x_indexAddr (s := l1) (k := .i64) (i := v6) (by kernel_rfl) (by kernel_rfl) (Try.runUnderlying76 _) (Try.sizeOf167 _) hv10)) (qw 11 (vp (some (a7.add 3))) (pickA (S8 (pickS (pickS (pickS pickZ))))) (want1 rfl (yD 62 hg3)) (qgo (k := 12) (by kernel_rfl) ?_))
    obtain ⟨v7, hv9, h⟩ := h
    refine sx (v := (vi v7)) (pickA (S8 (S4 pickZ))) (want1 rfl (yD 62 hg3)) (by kernel_rfl) (fun w' hw' => (xl (Try.isAgg41 _) (hv9 w' hw'.1))) (qw 13 (vp (some (p2.add 5))) (pickA (S8 (S4 (pickS pickZ)))) (want1 rfl (yD 62 hg3)) (qgo (k := 14) (by kernel_rfl) (sx (v := (vi aB)) (pickA (S8 (S4 (pickS (pickS pickZ))))) (want1 rfl (yD 62 hg3)) (by kernel_rfl) (fun w' hw' => (xl (Try.isAgg41 _) (hw'.2.cell 0 5 gZ (by kernel_rfl)))) (qw 15 (vb (v7 == aB)) (pickA (S8 (S4 (pickS (pickS (pickS pickZ)))))) (want1 rfl (yD 62 hg3)) (qz 16 (vb (v7 == aB)) (pickA (S8 (S8 pickZ))) (fun w' hw' => (xT hg3)) (qx 17 (vb (v7 == aB)) (pickA (S8 (S8 (pickS pickZ)))) (wpX_nil (by kernel_rfl) (th_n (wpE_ret (bl_r (th_r ?_)))))))))))
    refine res1 (.inl rfl) Try.results143 (v := (vb (v7 == aB))) (by kernel_rfl) ?_
    exact ⟨(v7 == aB), rfl, h⟩
   ·replace h := h.2 hg3
    refine sx_not Kp4 (unwant rfl (yD 62 hg3) rfl) (qn 5 Kp5 (unwant rfl (yD 62 hg3) rfl) (qn 6 Kp6 (unwant rfl (yD 62 hg3) rfl) (qn 7 Kp7 (unwant rfl (yD 62 hg3) rfl) (qn 8 Kp8 (unwant rfl (yD 62 hg3) rfl) (qn 9 Kp9 (unwant rfl (yD 62 hg3) rfl) (qn 10 (pickA (S8 (pickS (pickS pickZ)))) (unwant rfl (yD 62 hg3) rfl) (qn 11 (pickA (S8 (pickS (pickS (pickS pickZ))))) (unwant rfl (yD 62 hg3) rfl) (qn 12 (pickA (S8 (S4 pickZ))) (unwant rfl (yD 62 hg3) rfl) (qn 13 (pickA (S8 (S4 (pickS pickZ)))) (unwant rfl (yD 62 hg3) rfl) (qn 14 (pickA (S8 (S4 (pickS (pickS pickZ))))) (unwant rfl (yD 62 hg3) rfl) (qn 15 (pickA (S8 (S4 (pickS (pickS (pickS pickZ)))))) (unwant rfl (yD 62 hg3) rfl) ?_)))))))))))
    refine qz 16 (vb false) (pickA (S8 (S8 pickZ))) (fun w' hw' => (xF hg3)) (qx 17 (vb false) (pickA (S8 (S8 (pickS pickZ)))) (wpX_nil (by kernel_rfl) (th_n (wpE_ret (bl_r (th_r (res1 (.inl rfl) Try.results143 (v := (vb false)) (by kernel_rfl) ?_)))))))
    exact ⟨false, rfl, h⟩
  ·replace h := h.2 hc2
   refine wpE_seq (wpE_seq (rg (q0 (vb (aA == 7)) (q0 (vb (aA == 7)) (wpL_nil (th_n ?_))))))
   refine wpE_via (fun ρ wJ => ∃ b1'0 b1'1 y1 : Bool, ∃ HJ : Nat → Prop, ((aA == 7) = b1'0) ∧ ((aA == 8) = b1'1) ∧ (y1 = (cond b1'0 (aA == 7) (cond b1'1 (aA == 8) (aA == 9)))) ∧ Hst w0 None w1 HJ wJ ∧ HB HJ wJ [(p2, [(vi aA), (vi aC), (vi aD), (vu aH), (vs aI), (vi aB), (vi aE)], 93)] ∧ Has ρ [(0, (vp p1)), (1, l1.v), (2, (vi i1)), (7, (vp (some p2))), (76, (vb y1))]) ?_ ?_
   ·skip
    refine wpE_cond (t := (aA == 7)) (by kernel_rfl) (fun hc5 => ?_) (fun hc5 => ?_)
    ·skip
     refine wpE_skip (th_n ?_)
     exact ⟨true, _, _, _, hc5, rfl, rfl, hs, hb, Has.mk (by kernel_rfl)⟩
    ·skip
     refine wpE_seq (rg (q0 (vb (aA == 8)) (q0 (vb (aA == 8)) (wpL_nil (th_n ?_)))))
     refine wpE_cond (t := (aA == 8)) (by kernel_rfl) (fun hc6 => ?_) (fun hc6 => ?_)
     ·skip
      refine wpE_skip (th_n ?_)
      exact ⟨false, true, _, _, hc5, hc6, rfl, hs, hb, Has.mk (by kernel_rfl)⟩
     ·skip
      refine rg (q0 (vb (aA == 9)) (q0 (vb (aA == 9)) (wpL_nil (th_n ?_))))
      exact ⟨false, false, _, _, hc5, hc6, rfl, hs, hb, Has.mk (by kernel_rfl)⟩
   ·clear hs hb
    rintro ρ w8 ⟨b1'0, b1'1, y1, H2, he0, he1, hy1, hs, hb, hH⟩
    subst he0
    subst he1
    replace h := h y1 hy1
    refine norm_has hH ?_
    clear hH
    refine th_n ?_
    refine wpE_cond (t := y1) (by kernel_rfl) (fun hc7 => ?_) (fun hc7 => ?_)
    ·replace h := h.1 hc7
     refine wpE_seq (wpE_seq ?_)
     refine wpE_joinT (fun ρ w => ∃ x1 : Bool, ∃ H : Nat → Prop, Has ρ [(0, (vp p1)), (1, l1.v), (2, (vi i1)), (7, (vp (some p2))), (97, (vb x1))] ∧ Hst w0 H w H w ∧ HB H w [(p2, [(vi aA), (vi aC), (vi aD), (vu aH), (vs aI), (vi aB), (vi aE)], 93)] ∧ m_ref08_makes_j1 p1 l1 i1 aA aC aD x1 w0 H w K) ?_ ?_
     ·clear h hs hb
      rintro ρ w ⟨x1, H, hH, hs, hb, h⟩
      unfold m_ref08_makes_j1 at h
      refine wpE_has hH ?_
      clear hH
      refine wpE_cond (t := x1) (by kernel_rfl) (fun hc8 => ?_) (fun hc8 => ?_)
      ·replace h := h.1 hc8
       refine wpE_seq (rg (q0 (vb false) (wpL_nil (th_n (wpE_ret (th_r (bl_r (th_r (res1 (.inl rfl) Try.results143 (v := (vb false)) (by kernel_rfl) ?_)))))))))
       exact ⟨false, rfl, h⟩
      ·replace h := h.2 hc8
       refine wpE_skip (th_n (wpE_seq (rg (q0 (vp p1) (q0 l1.v (q0 l1.v (q0 (vi i1) ?_)))))))
       obtain ⟨a8, hv16, h⟩ := h
       refine q2 (vp (some a8)) (x_indexAddr (s := l1) (k := .i64) (i := i1) (by kernel_rfl) (by kernel_rfl) (Try.runUnderlying76 _) (Try.sizeOf167 _) hv16) (q0 (vp (some (a8.add 2))) ?_)
       obtain ⟨v8, hv15, h⟩ := h
       refine q2 (vi v8) (xl (Try.isAgg3 _) hv15) ?_
       obtain ⟨a9, hv14, h⟩ := h
       refine q2 (vp (some a9)) (x_indexAddr (s := l1) (k := .i64) (i := v8) (by kernel_rfl) (by kernel_rfl) (Try.runUnderlying76 _) (Try.sizeOf167 _) hv14) (q0 (vp (some (a9.add 3))) ?_)
       obtain ⟨v9, hv13, h⟩ := h
       refine q2 (vi v9) (xl (Try.isAgg41 _) hv13) ?_
       refine st_call (want0 rfl) (xc Try.call47) (h.mono ?_)
       rintro e w9 ⟨aF, aL, aN, aO, aP, aK, aM, r4, rfl, hk, h⟩
       refine ⟨_, rfl, ?_⟩
       obtain ⟨hs, hb⟩ := hk.hh hs hb
       refine q0 (.tuple #[(.agg #[(vi aF), (vi aL), (vi aN), (vu aO), (vs aP), (vi aK), (vi aM)]), (vb r4)]) (q0 (.agg #[(vi aF), (vi aL), (vi aN), (vu aO), (vs aP), (vi aK), (vi aM)]) (q0 (vb r4) (sn (O := (.cells #[(vi 0), (vi 0), (vi 0), (vu 0), (vs ⟨#[]⟩), (vi 0), (vi 0)] 93)) (x_alloc (Try.zeroValue93 _) rfl) ?_)))
       intro p3 w10 hn3
       obtain ⟨H3, hs, hb⟩ := hs.alloc hb hn3
       refine st_set (want0 rfl) (x_storeA (a := p3) (vs := [(vi aF), (vi aL), (vi aN), (vu aO), (vs aP), (vi aK), (vi aM)]) (by kernel_rfl) (by kernel_rfl) rfl (Try.sizeOf93 _) rfl (hb.canWs0 0 7 gZ (by kernel_rfl))) ?_
       intro w11 hn4
       have hsb : Hst w0 H w9 H3 w11 ∧ HB H3 w11 [(p3, [(vi aF), (vi aL), (vi aN), (vu aO), (vs aP), (vi aK), (vi aM)], 93), (p2, [(vi aA), (vi aC), (vi aD), (vu aH), (vs aI), (vi aB), (vi aE)], 93)] := by
        rw [hn4]
        exact hb.store0 (i := 0) (vs := [(vi aF), (vi aL), (vi aN), (vu aO), (vs aP), (vi aK), (vi aM)]) hs gZ (by kernel_rfl) (by kernel_rfl)
       clear hs hb hn4
       obtain ⟨hs, hb⟩ := hsb
       refine q0 (vb r4) (wpL_nil (th_n (wpE_seq (rg (q0 (vp (some (p2.add 1))) (q2 (vi aC) (xl (Try.isAgg3 _) (hb.c 1 1 (gS gZ))) (q0 (vi aC) (wpL_nil (th_n (wpE_seq (wpE_seq ?_)))))))))))
       refine rg (q0 (vp (some p2)) (q2 (vi aA) (xl (Try.isAgg3 _) (hb.c0 1 (gS gZ))) (q0 (vb (aA == 9)) (wpL_nil (th_n ?_)))))
       refine wpE_via (fun ρ wJ => ∃ b2'0 : Bool, ∃ HJ : Nat → Prop, ((aA == 9) = b2'0) ∧ Hst w0 H w9 HJ wJ ∧ HB HJ wJ [(p3, [(vi aF), (vi aL), (vi aN), (vu aO), (vs aP), (vi aK), (vi aM)], 93), (p2, [(vi aA), (vi aC), (vi aD), (vu aH), (vs aI), (vi aB), (vi aE)], 93)] ∧ Has ρ [(9, (vp (some p3))), (11, (vi (cond b2'0 aD aC)))]) ?_ ?_
       ·skip
        refine wpE_cond (t := (aA == 9)) (by kernel_rfl) (fun hc10 => ?_) (fun hc10 => ?_)
        ·skip
         refine rg (q0 (vp (some (p2.add 2))) (q2 (vi aD) (xl (Try.isAgg3 _) (hb.c 1 2 (gS gZ))) (q0 (vi aD) (wpL_nil (th_n ?_)))))
         exact ⟨true, _, hc10, hs, hb, Has.mk (by kernel_rfl)⟩
        ·skip
         refine wpE_skip (th_n ?_)
         exact ⟨false, _, hc10, hs, hb, Has.mk (by kernel_rfl)⟩
       ·clear hs hb
        rintro ρ w12 ⟨b2'0, H4, he0, hs, hb, hH⟩
        subst he0
        refine norm_has hH ?_
        clear hH
        refine th_n (wpE_seq ?_)
        refine wpE_via (fun ρ wJ => ∃ HJ : Nat → Prop, Hst w0 H w9 HJ wJ ∧ HB HJ wJ [(p3, [(vi aF), (vi aL), (vi aN), (vu aO), (vs aP), (vi aK), (vi aM)], 93), (p2, [(vi aA), (vi aC), (vi aD), (vu aH), (vs aI), (vi aB), (vi aE)], 93)] ∧ Has ρ [(6, (vb ((aF == 6) && (aL == (cond (aA == 9) aD aC)))))]) ?_ ?_
        ·skip
         refine rg (q0 (vp (some p3)) (q2 (vi aF) (xl (Try.isAgg3 _) (hb.c0 0 gZ)) (q0 (vb (aF == 6)) (q0 (vb (aF == 6)) ?_))))
         refine wpL_join 5 (fun ρ wJ => ∃ b5'0 : Bool, ∃ HJ : Nat → Prop, ((aF == 6) = b5'0) ∧ Hst w0 H w9 HJ wJ ∧ HB HJ wJ [(p3, [(vi aF), (vi aL), (vi aN), (vu aO), (vs aP), (vi aK), (vi aM)], 93), (p2, [(vi aA), (vi aC), (vi aD), (vu aH), (vs aI), (vi aB), (vi aE)], 93)] ∧ Has ρ [(127, (vb (b5'0 && (aL == (cond (aA == 9) aD aC)))))]) ?_ ?_
         ·clear hs hb
          rintro ρ w15 ⟨b5'0, H7, he0, hs, hb, hH⟩
          subst he0
          refine wpL_has hH ?_
          clear hH
          refine q0 (vb ((aF == 6) && (aL == (cond (aA == 9) aD aC)))) (wpL_nil (th_n ?_))
          exact ⟨_, hs, hb, Has.mk (by kernel_rfl)⟩
         ·skip
          rcases Bool.eq_false_or_eq_true (aF == 6) with hg7 | hg7
          ·skip
           refine q1 (vp (some (p3.add 1))) (want1 rfl (yD 122 hg7)) (stp (v := (vi aL)) (want1 rfl (yD 122 hg7)) (xl (Try.isAgg3 _) (hb.c 0 1 gZ)) (q1 (vi (cond (aA == 9) aD aC)) (want1 rfl (yD 122 hg7)) (q1 (vb (aL == (cond (aA == 9) aD aC))) (want1 rfl (yD 122 hg7)) (q2 (vb (aL == (cond (aA == 9) aD aC))) (xT hg7) (wpL_nil ?_)))))
           exact ⟨true, _, hg7, hs, hb, Has.mk (by kernel_rfl)⟩
          ·skip
           refine sk (yD 122 hg7) (sk (yD 122 hg7) (sk (yD 122 hg7) (sk (yD 122 hg7) (q2 (vb false) (xF hg7) (wpL_nil ?_)))))
           exact ⟨false, _, hg7, hs, hb, Has.mk (by kernel_rfl)⟩
        ·clear hs hb
         rintro ρ w14 ⟨H6, hs, hb, hH⟩
         refine norm_has hH ?_
         clear hH
         refine th_n (wpE_ret (bl_r (th_r ?_)))
         replace h := h H6 w14 hs
         replace hs := hs.here
         refine res1 (.inl rfl) Try.results143 (v := (vb ((aF == 6) && (aL == (cond (aA == 9) aD aC))))) (by kernel_rfl) ?_
         exact ⟨((aF == 6) && (aL == (cond (aA == 9) aD aC))), rfl, h⟩
     ·skip
      replace h := h H2 w8 hs
      replace hs := hs.here
      obtain ⟨C3, hC, h⟩ := h
      refine wpE_drawnC (fun x => C3 x ∧ HB H2 x [(p2, [(vi aA), (vi aC), (vi aD), (vu aH), (vs aI), (vi aB), (vi aE)], 93)]) [2] [] (by kernel_rfl) (by kernel_rfl) (by kernel_rfl) (by kernel_rfl) ⟨hC, hb.drew⟩ ?_
      clear hC
      intro w16 hw16
      replace h := h w16 hw16
      replace hs : Hst w0 H2 w8 H2 w16 := by rw [hw16]; exact hs.drew
      replace hb : HB H2 w16 [(p2, [(vi aA), (vi aC), (vi aD), (vu aH), (vs aI), (vi aB), (vi aE)], 93)] := by rw [hw16]; exact hb.drew
      replace hs := hs.here
      refine qx 0 l1.v Kp0 (qx 1 (vi i1) Kp1 (lgo (k := 2) (by kernel_rfl) ?_))
      refine sl_call Kp2 (want0 rfl) (by kernel_rfl) (xc Try.call142) (h.mono ?_)
      rintro e w17 ⟨r5, rfl, hC, hk, h⟩
      refine ⟨_, rfl, .inr ⟨hC, hb.kept hk⟩, ?_⟩
      obtain ⟨hs, hb⟩ := hk.hh hs hb
      refine qx 3 (vb (!r5)) Kp3 (qx 4 (vb (!r5)) Kp4 (qgo (k := 5) (by kernel_rfl) ?_))
      rcases Bool.eq_false_or_eq_true (!r5) with hg8 | hg8
      ·replace h := h.1 hg8
       refine sx_not Kp5 (unwant rfl (yD 84 hg8) rfl) (qn 6 Kp6 (unwant rfl (yD 84 hg8) rfl) (qn 7 Kp7 (unwant rfl (yD 84 hg8) rfl) (qn 8 Kp8 (unwant rfl (yD 84 hg8) rfl) (qn 9 Kp9 (unwant rfl (yD 84 hg8) rfl) (qn 10 (pickA (S8 (pickS (pickS pickZ)))) (unwant rfl (yD 84 hg8) rfl) (qn 11 (pickA (S8 (pickS (pickS (pickS pickZ))))) (unwant rfl (yD 84 hg8) rfl) (qn 12 (pickA (S8 (S4 pickZ))) (unwant rfl (yD 84 hg8) rfl) (qn 13 (pickA (S8 (S4 (pickS pickZ)))) (unwant rfl (yD 84 hg8) rfl) (qn 14 (pickA (S8 (S4 (pickS (pickS pickZ))))) (unwant rfl (yD 84 hg8) rfl) (qn 15 (pickA (S8 (S4 (pickS (pickS (pickS pickZ)))))) (unwant rfl (yD 84 hg8) rfl) (qn 16 (pickA (S8 (S8 pickZ))) (unwant rfl (yD 84 hg8) rfl) ?_)))))))))))
       refine qz 17 (vb true) (pickA (S8 (S8 (pickS pickZ)))) (fun w' hw' => (xT hg8)) (wpX_nil (by kernel_rfl) (th_n ?_))
       exact ⟨true, H2, Has.mk (by kernel_rfl), hs, hb, h⟩
      ·replace h := h.2 hg8
       refine sx (v := l1.v) Kp5 (want1 rfl (yD 84 hg8)) (by kernel_rfl) (fun w' hw' => (by kernel_rfl)) (qw 6 l1.v Kp6 (want1 rfl (yD 84 hg8)) (qw 7 (vi i1) Kp7 (want1 rfl (yD 84 hg8)) (qgo (k := 8) (by kernel_rfl) ?_)))
       obtain ⟨a10, hv20, h⟩ := h
       refine sx (v := (vp (some a10))) Kp8 (want1 rfl (yD 84 hg8)) (by kernel_rfl) (fun w' hw' => (x_indexAddr (s := l1) (k := .i64) (i := i1) (by kernel_rfl) (by kernel_rfl) (Try.runUnderlying76 _) (Try.sizeOf167 _) hv20)) (qw 9 (vp (some (a10.add 1))) Kp9 (want1 rfl (yD 84 hg8)) (qgo (k := 10) (by kernel_rfl) ?_))
       obtain ⟨v10, hv19, h⟩ := h
       refine sx (v := (vi v10)) (pickA (S8 (pickS (pickS pickZ)))) (want1 rfl (yD 84 hg8)) (by kernel_rfl) (fun w' hw' => (xl (Try.isAgg3 _) (hv19 w' hw'.1))) (qgo (k := 11) (by kernel_rfl) ?_)
       obtain ⟨a11, hv18, h⟩ := h
       refine sx (v := (vp (some a11))) (pickA (S8 (pickS (pickS (pickS pickZ))))) (want1 rfl (yD 84 hg8)) (by kernel_rfl) (fun w' hw' => (x_indexAddr (s := l1) (k := .i64) (i := v10) (by kernel_rfl) (by kernel_rfl) (Try.runUnderlying76 _) (Try.sizeOf167 _) hv18)) (qw 12 (vp (some (a11.add 3))) (pickA (S8 (S4 pickZ))) (want1 rfl (yD 84 hg8)) (qgo (k := 13) (by kernel_rfl) ?_))
       obtain ⟨v11, hv17, h⟩ := h
       refine sx (v := (vi v11)) (pickA (S8 (S4 (pickS pickZ)))) (want1 rfl (yD 84 hg8)) (by kernel_rfl) (fun w' hw' => (xl (Try.isAgg41 _) (hv17 w' hw'.1))) (qw 14 (vp (some (p2.add 5))) (pickA (S8 (S4 (pickS (pickS pickZ))))) (want1 rfl (yD 84 hg8)) (qgo (k := 15) (by kernel_rfl) (sx (v := (vi aB)) (pickA (S8 (S4 (pickS (pickS (pickS pickZ)))))) (want1 rfl (yD 84 hg8)) (by kernel_rfl) (fun w' hw' => (xl (Try.isAgg41 _) (hw'.2.cell 0 5 gZ (by kernel_rfl)))) (qw 16 (vb (v11 != aB)) (pickA (S8 (S8 pickZ))) (want1 rfl (yD 84 hg8)) (qz 17 (vb (v11 != aB)) (pickA (S8 (S8 (pickS pickZ)))) (fun w' hw' => (xF hg8)) (wpX_nil (by kernel_rfl) (th_n ?_)))))))
       exact ⟨(v11 != aB), H2, Has.mk (by kernel_rfl), hs, hb, h⟩
    ·replace h := h.2 hc7
     refine wpE_skip (bl_n (th_n (wpE_seq (rg (q0 (vb false) (wpL_nil (th_n (wpE_ret ?_))))))))
     replace h := h H2 w8 hs
     replace hs := hs.here
     refine res1 (.inl rfl) Try.results143 (v := (vb false)) (by kernel_rfl) ?_
     exact ⟨false, rfl, h⟩
def m_ref08_follows (p1 : Option Addr) (given1 l1 : Sl) (i1 : Int) (w0 : World) (K : Bool → World → Prop) : Prop :=
 ∃ a1 : Addr, At l1 i1 4 a1 ∧
 ∃ aG aQ : Int, ∃ aR aJ : Int, Row w0 a1 [(vi aG), (vi aQ), (vi aR), (vi aJ)] ∧
 ∀ (H1 : Nat → Prop) (w2 : World), Hst w0 None w0 H1 w2 →
 Calls Try.prog 94 #[(vp p1), (vi aJ)] w2 (fun e w3 => ∃ r1 : Bool, e = .returned (vb r1) ∧ 
  Kept H1 w2 w3 ∧
  Br (!r1)
   (K false w3)
   (Calls Try.prog 47 #[(vp p1), (vi aJ)] w3 (fun e w4 => ∃ aA aC : Int, ∃ aD aH : Int, ∃ aI : ByteArray, ∃ aB aE : Int, ∃ r2 : Bool, e = .returned (.tuple #[(.agg #[(vi aA), (vi aC), (vi aD), (vu aH), (vs aI), (vi aB), (vi aE)]), (vb r2)]) ∧ 
    Kept H1 w3 w4 ∧
    Br (aG == 0)
     (∀ (H2 : Nat → Prop) (w6 : World), Hst w0 H1 w4 H2 w6 →
     Calls Try.prog 142 #[l1.v, (vi i1), (vb false), (vb false)] w6 (fun e w7 => ∃ r3 : Bool, e = .returned (vb r3) ∧ 
      Kept H2 w6 w7 ∧
      Br r3
       (Calls Try.prog 95 #[given1.v, (vi aJ)] w7 (fun e w8 => ∃ r4 : Bool, e = .returned (vb r4) ∧ 
        Kept H2 w7 w8 ∧
        K r4 w8))
       (K false w7)))
     (∀ y1 : Bool, y1 = (cond (aG == 1) (aG == 1) (cond (aG == 2) (aG == 2) (aG == 3))) →
     Br y1
      (∀ (H3 : Nat → Prop) (w9 : World), Hst w0 H1 w4 H3 w9 →
      Calls Try.prog 142 #[l1.v, (vi i1), (vb true), (vb false)] w9 (fun e w10 => ∃ r5 : Bool, e = .returned (vb r5) ∧ 
       Kept H3 w9 w10 ∧
       Br (!r5)
        (K false w10)
        (∃ a2 : Addr, At l1 aQ 4 a2 ∧
        ∃ v1 : Int, w10.cell? (a2.add 3) = some (vi v1) ∧
        Calls Try.prog 47 #[(vp p1), (vi v1)] w10 (fun e w11 => ∃ aF aL : Int, ∃ aN aO : Int, ∃ aP : ByteArray, ∃ aK aM : Int, ∃ r6 : Bool, e = .returned (.tuple #[(.agg #[(vi aF), (vi aL), (vi aN), (vu aO), (vs aP), (vi aK), (vi aM)]), (vb r6)]) ∧ 
         Kept H3 w10 w11 ∧
         Br (aG == 1)
          (∀ (H6 : Nat → Prop) (w15 : World), Hst w0 H3 w11 H6 w15 →
          K ((aF == 4) && (aK == aJ)) w15)
          (Br (aG == 2)
           (∀ (H9 : Nat → Prop) (w18 : World), Hst w0 H3 w11 H9 w18 →
           K ((aF == 4) && (aM == aJ)) w18)
           (∀ (H12 : Nat → Prop) (w22 : World), Hst w0 H3 w11 H12 w22 →
           K ((s_ref08_shows aF) && (aK == aJ)) w22))))))
      (Br (aG == 4)
       (∀ (H3 : Nat → Prop) (w9 : World), Hst w0 H1 w4 H3 w9 →
       Calls Try.prog 142 #[l1.v, (vi i1), (vb false), (vb false)] w9 (fun e w25 => ∃ r7 : Bool, e = .returned (vb r7) ∧ 
        Kept H3 w9 w25 ∧
        ∀ (H16 : Nat → Prop) (w28 : World), Hst w0 H3 w25 H16 w28 →
        K (r7 && (((aA == 1) || (aA == 2)) || (aA == 3))) w28))
       (Br (aG == 5)
        (∀ (H3 : Nat → Prop) (w9 : World), Hst w0 H1 w4 H3 w9 →
        Calls Try.prog 143 #[(vp p1), l1.v, (vi i1)] w9 (fun e w31 => ∃ r8 : Bool, e = .returned (vb r8) ∧ 
         Kept H3 w9 w31 ∧
         K r8 w31))
        (∀ (H3 : Nat → Prop) (w9 : World), Hst w0 H1 w4 H3 w9 →
        K false w9)))))))
theorem w_ref08_follows (p1 : Option Addr) (given1 l1 : Sl) (i1 : Int) (w0 : World) (K : Bool → World → Prop) (h : m_ref08_follows p1 given1 l1 i1 w0 K) :
  Calls Try.prog 101 #[(vp p1), given1.v, l1.v, (vi i1)] w0 (fun e w' => ∃ r9 : Bool, e = .returned (vb r9) ∧ K r9 w') := by
 unfold m_ref08_follows at h
 refine calls_of_wpE (args := [(vp p1), given1.v, l1.v, (vi i1)]) Try.func101 rfl Try.ntmps101 (Nat.le_of_ble_eq_true rfl) ?_
 have hs := Hst.start w0
 have hb := HB.nil None w0
 refine wpE_seq (rg (q0 (vb false) (wpL_nil (th_n (wpE_seq (rg (q0 l1.v (q0 (vi i1) ?_))))))))
 obtain ⟨a1, hv4, h⟩ := h
 refine q2 (vp (some a1)) (x_indexAddr (s := l1) (k := .i64) (i := i1) (by kernel_rfl) (by kernel_rfl) (Try.runUnderlying76 _) (Try.sizeOf167 _) hv4) ?_
 obtain ⟨aG, aQ, aR, aJ, hv3, h⟩ := h
 refine q2 (.agg #[(vi aG), (vi aQ), (vi aR), (vi aJ)]) (x_loadA (a := a1) (vs := [(vi aG), (vi aQ), (vi aR), (vi aJ)]) (by kernel_rfl) (Try.isAgg167 _) (Try.sizeOf167 _) rfl hv3) (sn (O := (.cells #[(vi 0), (vi 0), (vi 0), (vi 0)] 167)) (x_alloc (Try.zeroValue167 _) rfl) ?_)
 intro p2 w1 hn1
 obtain ⟨H1, hs, hb⟩ := hs.alloc hb hn1
 refine st_set (want0 rfl) (x_storeA (a := p2) (vs := [(vi aG), (vi aQ), (vi aR), (vi aJ)]) (by kernel_rfl) (by kernel_rfl) rfl (Try.sizeOf167 _) rfl (hb.canWs0 0 4 gZ (by kernel_rfl))) ?_
 intro w2 hn2
 have hsb : Hst w0 None w0 H1 w2 ∧ HB H1 w2 [(p2, [(vi aG), (vi aQ), (vi aR), (vi aJ)], 167)] := by
  rw [hn2]
  exact hb.store0 (i := 0) (vs := [(vi aG), (vi aQ), (vi aR), (vi aJ)]) hs gZ (by kernel_rfl) (by kernel_rfl)
 clear hs hb hn2
 obtain ⟨hs, hb⟩ := hsb
 refine wpL_nil (th_n (wpE_seq (wpE_seq (rg (q0 (vp p1) (q0 (vp (some (p2.add 3))) (q2 (vi aJ) (xl (Try.isAgg41 _) (hb.c 0 3 gZ)) ?_)))))))
 replace h := h H1 w2 hs
 replace hs := hs.here
 refine st_call (want0 rfl) (xc Try.call94) (h.mono ?_)
 rintro e w3 ⟨r1, rfl, hk, h⟩
 refine ⟨_, rfl, ?_⟩
 obtain ⟨hs, hb⟩ := hk.hh hs hb
 refine q0 (vb (!r1)) (wpL_nil (th_n ?_))
 refine wpE_cond (t := (!r1)) (by kernel_rfl) (fun hc1 => ?_) (fun hc1 => ?_)
 ·replace h := h.1 hc1
  refine wpE_seq (rg (q0 (vb false) (wpL_nil (th_n (wpE_ret (th_r (res1 (.inl rfl) Try.results101 (v := (vb false)) (by kernel_rfl) ?_)))))))
  exact ⟨false, rfl, h⟩
 ·replace h := h.2 hc1
  refine wpE_skip (th_n (wpE_seq (rg (q0 (vp p1) (q0 (vp (some (p2.add 3))) (q2 (vi aJ) (xl (Try.isAgg41 _) (hb.c 0 3 gZ)) ?_))))))
  refine st_call (want0 rfl) (xc Try.call47) (h.mono ?_)
  rintro e w4 ⟨aA, aC, aD, aH, aI, aB, aE, r2, rfl, hk, h⟩
  refine ⟨_, rfl, ?_⟩
  obtain ⟨hs, hb⟩ := hk.hh hs hb
  refine q0 (.tuple #[(.agg #[(vi aA), (vi aC), (vi aD), (vu aH), (vs aI), (vi aB), (vi aE)]), (vb r2)]) (q0 (.agg #[(vi aA), (vi aC), (vi aD), (vu aH), (vs aI), (vi aB), (vi aE)]) (q0 (vb r2) (sn (O := (.cells #[(vi 0), (vi 0), (vi 0), (vu 0), (vs ⟨#[]⟩), (vi 0), (vi 0)] 93)) (x_alloc (Try.zeroValue93 _) rfl) ?_)))
  intro p3 w5 hn3
  obtain ⟨H2, hs, hb⟩ := hs.alloc hb hn3
  refine st_set (want0 rfl) (x_storeA (a := p3) (vs := [(vi aA), (vi aC), (vi aD), (vu aH), (vs aI), (vi aB), (vi aE)]) (by kernel_rfl) (by kernel_rfl) rfl (Try.sizeOf93 _) rfl (hb.canWs0 0 7 gZ (by kernel_rfl))) ?_
  intro w6 hn4
  have hsb : Hst w0 H1 w4 H2 w6 ∧ HB H2 w6 [(p3, [(vi aA), (vi aC), (vi aD), (vu aH), (vs aI), (vi aB), (vi aE)], 93), (p2, [(vi aG), (vi aQ), (vi aR), (vi aJ)], 167)] := by
   rw [hn4]
   exact hb.store0 (i := 0) (vs := [(vi aA), (vi aC), (vi aD), (vu aH), (vs aI), (vi aB), (vi aE)]) hs gZ (by kernel_rfl) (by kernel_rfl)
  clear hs hb hn4
  obtain ⟨hs, hb⟩ := hsb
  refine q0 (vb r2) (wpL_nil (th_n (wpE_seq (wpE_seq (rg (q0 (vp (some p2)) (q2 (vi aG) (xl (Try.isAgg3 _) (hb.c0 1 (gS gZ))) (wpL_nil (th_n (wpE_block (wpE_seq ?_)))))))))))
  refine rg (q0 (vb (aG == 0)) (q0 (vb (aG == 0)) (wpL_nil (th_n ?_))))
  refine wpE_cond (t := (aG == 0)) (by kernel_rfl) (fun hc2 => ?_) (fun hc2 => ?_)
  ·replace h := h.1 hc2
   refine wpE_seq (rg (q0 l1.v (q0 (vi i1) ?_)))
   replace h := h H2 w6 hs
   replace hs := hs.here
   refine st_call (want0 rfl) (xc Try.call142) (h.mono ?_)
   rintro e w7 ⟨r3, rfl, hk, h⟩
   refine ⟨_, rfl, ?_⟩
   obtain ⟨hs, hb⟩ := hk.hh hs hb
   refine q0 (vb r3) ?_
   rcases Bool.eq_false_or_eq_true r3 with hg1 | hg1
   ·replace h := h.1 hg1
    refine q1 given1.v (want1 rfl (yD 37 hg1)) (q1 (vp (some (p2.add 3))) (want1 rfl (yD 37 hg1)) (stp (v := (vi aJ)) (want1 rfl (yD 37 hg1)) (xl (Try.isAgg41 _) (hb.c 1 3 (gS gZ))) ?_))
    refine st_call (want1 rfl (yD 37 hg1)) (xc Try.call95) (h.mono ?_)
    rintro e w8 ⟨r4, rfl, hk, h⟩
    refine ⟨_, rfl, ?_⟩
    obtain ⟨hs, hb⟩ := hk.hh hs hb
    refine q2 (vb r4) (xT hg1) (q0 (vb r4) (wpL_nil (th_n (wpE_ret (bl_r (th_r (res1 (.inl rfl) Try.results101 (v := (vb r4)) (by kernel_rfl) ?_)))))))
    exact ⟨r4, rfl, h⟩
   ·replace h := h.2 hg1
    refine sk (yD 37 hg1) (sk (yD 37 hg1) (sk (yD 37 hg1) (sk (yD 37 hg1) (q2 (vb false) (xF hg1) (q0 (vb false) (wpL_nil (th_n (wpE_ret (bl_r (th_r (res1 (.inl rfl) Try.results101 (v := (vb false)) (by kernel_rfl) ?_)))))))))))
    exact ⟨false, rfl, h⟩
  ·replace h := h.2 hc2
   refine wpE_seq (wpE_seq (rg (q0 (vb (aG == 1)) (q0 (vb (aG == 1)) (wpL_nil (th_n ?_))))))
   refine wpE_via (fun ρ wJ => ∃ b1'0 b1'1 y1 : Bool, ∃ HJ : Nat → Prop, ((aG == 1) = b1'0) ∧ ((aG == 2) = b1'1) ∧ (y1 = (cond b1'0 (aG == 1) (cond b1'1 (aG == 2) (aG == 3)))) ∧ Hst w0 H1 w4 HJ wJ ∧ HB HJ wJ [(p3, [(vi aA), (vi aC), (vi aD), (vu aH), (vs aI), (vi aB), (vi aE)], 93), (p2, [(vi aG), (vi aQ), (vi aR), (vi aJ)], 167)] ∧ Has ρ [(0, (vp p1)), (2, l1.v), (3, (vi i1)), (9, (vp (some p2))), (10, (vp (some p3))), (31, (vi aG)), (43, (vb y1))]) ?_ ?_
   ·skip
    refine wpE_cond (t := (aG == 1)) (by kernel_rfl) (fun hc5 => ?_) (fun hc5 => ?_)
    ·skip
     refine wpE_skip (th_n ?_)
     exact ⟨true, _, _, _, hc5, rfl, rfl, hs, hb, Has.mk (by kernel_rfl)⟩
    ·skip
     refine wpE_seq (rg (q0 (vb (aG == 2)) (q0 (vb (aG == 2)) (wpL_nil (th_n ?_)))))
     refine wpE_cond (t := (aG == 2)) (by kernel_rfl) (fun hc6 => ?_) (fun hc6 => ?_)
     ·skip
      refine wpE_skip (th_n ?_)
      exact ⟨false, true, _, _, hc5, hc6, rfl, hs, hb, Has.mk (by kernel_rfl)⟩
     ·skip
      refine rg (q0 (vb (aG == 3)) (q0 (vb (aG == 3)) (wpL_nil (th_n ?_))))
      exact ⟨false, false, _, _, hc5, hc6, rfl, hs, hb, Has.mk (by kernel_rfl)⟩
   ·clear hs hb
    rintro ρ w9 ⟨b1'0, b1'1, y1, H3, he0, he1, hy1, hs, hb, hH⟩
    subst he0
    subst he1
    replace h := h y1 hy1
    refine norm_has hH ?_
    clear hH
    refine th_n ?_
    refine wpE_cond (t := y1) (by kernel_rfl) (fun hc7 => ?_) (fun hc7 => ?_)
    ·replace h := h.1 hc7
     refine wpE_seq (wpE_seq (rg (q0 l1.v (q0 (vi i1) ?_))))
     replace h := h H3 w9 hs
     replace hs := hs.here
     refine st_call (want0 rfl) (xc Try.call142) (h.mono ?_)
     rintro e w10 ⟨r5, rfl, hk, h⟩
     refine ⟨_, rfl, ?_⟩
     obtain ⟨hs, hb⟩ := hk.hh hs hb
     refine q0 (vb (!r5)) (wpL_nil (th_n ?_))
     refine wpE_cond (t := (!r5)) (by kernel_rfl) (fun hc8 => ?_) (fun hc8 => ?_)
     ·replace h := h.1 hc8
      refine wpE_seq (rg (q0 (vb false) (wpL_nil (th_n (wpE_ret (th_r (bl_r (th_r (res1 (.inl rfl) Try.results101 (v := (vb false)) (by kernel_rfl) ?_)))))))))
      exact ⟨false, rfl, h⟩
     ·replace h := h.2 hc8
      refine wpE_skip (th_n (wpE_seq (rg (q0 (vp p1) (q0 l1.v (q0 (vp (some (p2.add 1))) (q2 (vi aQ) (xl (Try.isAgg3 _) (hb.c 1 1 (gS gZ))) ?_)))))))
      obtain ⟨a2, hv2, h⟩ := h
      refine q2 (vp (some a2)) (x_indexAddr (s := l1) (k := .i64) (i := aQ) (by kernel_rfl) (by kernel_rfl) (Try.runUnderlying76 _) (Try.sizeOf167 _) hv2) (q0 (vp (some (a2.add 3))) ?_)
      obtain ⟨v1, hv1, h⟩ := h
      refine q2 (vi v1) (xl (Try.isAgg41 _) hv1) ?_
      refine st_call (want0 rfl) (xc Try.call47) (h.mono ?_)
      rintro e w11 ⟨aF, aL, aN, aO, aP, aK, aM, r6, rfl, hk, h⟩
      refine ⟨_, rfl, ?_⟩
      obtain ⟨hs, hb⟩ := hk.hh hs hb
      refine q0 (.tuple #[(.agg #[(vi aF), (vi aL), (vi aN), (vu aO), (vs aP), (vi aK), (vi aM)]), (vb r6)]) (q0 (.agg #[(vi aF), (vi aL), (vi aN), (vu aO), (vs aP), (vi aK), (vi aM)]) (q0 (vb r6) (sn (O := (.cells #[(vi 0), (vi 0), (vi 0), (vu 0), (vs ⟨#[]⟩), (vi 0), (vi 0)] 93)) (x_alloc (Try.zeroValue93 _) rfl) ?_)))
      intro p4 w12 hn5
      obtain ⟨H4, hs, hb⟩ := hs.alloc hb hn5
      refine st_set (want0 rfl) (x_storeA (a := p4) (vs := [(vi aF), (vi aL), (vi aN), (vu aO), (vs aP), (vi aK), (vi aM)]) (by kernel_rfl) (by kernel_rfl) rfl (Try.sizeOf93 _) rfl (hb.canWs0 0 7 gZ (by kernel_rfl))) ?_
      intro w13 hn6
      have hsb : Hst w0 H3 w11 H4 w13 ∧ HB H4 w13 [(p4, [(vi aF), (vi aL), (vi aN), (vu aO), (vs aP), (vi aK), (vi aM)], 93), (p3, [(vi aA), (vi aC), (vi aD), (vu aH), (vs aI), (vi aB), (vi aE)], 93), (p2, [(vi aG), (vi aQ), (vi aR), (vi aJ)], 167)] := by
       rw [hn6]
       exact hb.store0 (i := 0) (vs := [(vi aF), (vi aL), (vi aN), (vu aO), (vs aP), (vi aK), (vi aM)]) hs gZ (by kernel_rfl) (by kernel_rfl)
      clear hs hb hn6
      obtain ⟨hs, hb⟩ := hsb
      refine q0 (vb r6) (wpL_nil (th_n (wpE_seq (wpE_seq (rg (q0 (vp (some p2)) (q2 (vi aG) (xl (Try.isAgg3 _) (hb.c0 2 (gS (gS gZ)))) (wpL_nil (th_n (wpE_block (wpE_seq ?_)))))))))))
      refine rg (q0 (vb (aG == 1)) (q0 (vb (aG == 1)) (wpL_nil (th_n ?_))))
      refine wpE_cond (t := (aG == 1)) (by kernel_rfl) (fun hc9 => ?_) (fun hc9 => ?_)
      ·replace h := h.1 hc9
       refine wpE_seq ?_
       refine wpE_via (fun ρ wJ => ∃ HJ : Nat → Prop, Hst w0 H3 w11 HJ wJ ∧ HB HJ wJ [(p4, [(vi aF), (vi aL), (vi aN), (vu aO), (vs aP), (vi aK), (vi aM)], 93), (p3, [(vi aA), (vi aC), (vi aD), (vu aH), (vs aI), (vi aB), (vi aE)], 93), (p2, [(vi aG), (vi aQ), (vi aR), (vi aJ)], 167)] ∧ Has ρ [(8, (vb ((aF == 4) && (aK == aJ))))]) ?_ ?_
       ·skip
        refine rg (q0 (vp (some p4)) (q2 (vi aF) (xl (Try.isAgg3 _) (hb.c0 0 gZ)) (q0 (vb (aF == 4)) (q0 (vb (aF == 4)) ?_))))
        refine wpL_join 6 (fun ρ wJ => ∃ b4'0 : Bool, ∃ HJ : Nat → Prop, ((aF == 4) = b4'0) ∧ Hst w0 H3 w11 HJ wJ ∧ HB HJ wJ [(p4, [(vi aF), (vi aL), (vi aN), (vu aO), (vs aP), (vi aK), (vi aM)], 93), (p3, [(vi aA), (vi aC), (vi aD), (vu aH), (vs aI), (vi aB), (vi aE)], 93), (p2, [(vi aG), (vi aQ), (vi aR), (vi aJ)], 167)] ∧ Has ρ [(75, (vb (b4'0 && (aK == aJ))))]) ?_ ?_
        ·clear hs hb
         rintro ρ w16 ⟨b4'0, H7, he0, hs, hb, hH⟩
         subst he0
         refine wpL_has hH ?_
         clear hH
         refine q0 (vb ((aF == 4) && (aK == aJ))) (wpL_nil (th_n ?_))
         exact ⟨_, hs, hb, Has.mk (by kernel_rfl)⟩
        ·skip
         rcases Bool.eq_false_or_eq_true (aF == 4) with hg5 | hg5
         ·skip
          refine q1 (vp (some (p4.add 5))) (want1 rfl (yD 69 hg5)) (stp (v := (vi aK)) (want1 rfl (yD 69 hg5)) (xl (Try.isAgg41 _) (hb.c 0 5 gZ)) (q1 (vp (some (p2.add 3))) (want1 rfl (yD 69 hg5)) (stp (v := (vi aJ)) (want1 rfl (yD 69 hg5)) (xl (Try.isAgg41 _) (hb.c 2 3 (gS (gS gZ)))) (q1 (vb (aK == aJ)) (want1 rfl (yD 69 hg5)) (q2 (vb (aK == aJ)) (xT hg5) (wpL_nil ?_))))))
          exact ⟨true, _, hg5, hs, hb, Has.mk (by kernel_rfl)⟩
         ·skip
          refine sk (yD 69 hg5) (sk (yD 69 hg5) (sk (yD 69 hg5) (sk (yD 69 hg5) (sk (yD 69 hg5) (q2 (vb false) (xF hg5) (wpL_nil ?_))))))
          exact ⟨false, _, hg5, hs, hb, Has.mk (by kernel_rfl)⟩
       ·clear hs hb
        rintro ρ w15 ⟨H6, hs, hb, hH⟩
        refine norm_has hH ?_
        clear hH
        refine th_n (wpE_ret (bl_r (th_r (bl_r (th_r ?_)))))
        replace h := h H6 w15 hs
        replace hs := hs.here
        refine res1 (.inl rfl) Try.results101 (v := (vb ((aF == 4) && (aK == aJ)))) (by kernel_rfl) ?_
        exact ⟨((aF == 4) && (aK == aJ)), rfl, h⟩
      ·replace h := h.2 hc9
       refine wpE_seq (rg (q0 (vb (aG == 2)) (q0 (vb (aG == 2)) (wpL_nil (th_n ?_)))))
       refine wpE_cond (t := (aG == 2)) (by kernel_rfl) (fun hc10 => ?_) (fun hc10 => ?_)
       ·replace h := h.1 hc10
        refine wpE_seq ?_
        refine wpE_via (fun ρ wJ => ∃ HJ : Nat → Prop, Hst w0 H3 w11 HJ wJ ∧ HB HJ wJ [(p4, [(vi aF), (vi aL), (vi aN), (vu aO), (vs aP), (vi aK), (vi aM)], 93), (p3, [(vi aA), (vi aC), (vi aD), (vu aH), (vs aI), (vi aB), (vi aE)], 93), (p2, [(vi aG), (vi aQ), (vi aR), (vi aJ)], 167)] ∧ Has ρ [(8, (vb ((aF == 4) && (aM == aJ))))]) ?_ ?_
        ·skip
         refine rg (q0 (vp (some p4)) (q2 (vi aF) (xl (Try.isAgg3 _) (hb.c0 0 gZ)) (q0 (vb (aF == 4)) (q0 (vb (aF == 4)) ?_))))
         refine wpL_join 6 (fun ρ wJ => ∃ b7'0 : Bool, ∃ HJ : Nat → Prop, ((aF == 4) = b7'0) ∧ Hst w0 H3 w11 HJ wJ ∧ HB HJ wJ [(p4, [(vi aF), (vi aL), (vi aN), (vu aO), (vs aP), (vi aK), (vi aM)], 93), (p3, [(vi aA), (vi aC), (vi aD), (vu aH), (vs aI), (vi aB), (vi aE)], 93), (p2, [(vi aG), (vi aQ), (vi aR), (vi aJ)], 167)] ∧ Has ρ [(87, (vb (b7'0 && (aM == aJ))))]) ?_ ?_
         ·clear hs hb
          rintro ρ w19 ⟨b7'0, H10, he0, hs, hb, hH⟩
          subst he0
          refine wpL_has hH ?_
          clear hH
          refine q0 (vb ((aF == 4) && (aM == aJ))) (wpL_nil (th_n ?_))
          exact ⟨_, hs, hb, Has.mk (by kernel_rfl)⟩
         ·skip
          rcases Bool.eq_false_or_eq_true (aF == 4) with hg9 | hg9
          ·skip
           refine q1 (vp (some (p4.add 6))) (want1 rfl (yD 81 hg9)) (stp (v := (vi aM)) (want1 rfl (yD 81 hg9)) (xl (Try.isAgg41 _) (hb.c 0 6 gZ)) (q1 (vp (some (p2.add 3))) (want1 rfl (yD 81 hg9)) (stp (v := (vi aJ)) (want1 rfl (yD 81 hg9)) (xl (Try.isAgg41 _) (hb.c 2 3 (gS (gS gZ)))) (q1 (vb (aM == aJ)) (want1 rfl (yD 81 hg9)) (q2 (vb (aM == aJ)) (xT hg9) (wpL_nil ?_))))))
           exact ⟨true, _, hg9, hs, hb, Has.mk (by kernel_rfl)⟩
          ·skip
           refine sk (yD 81 hg9) (sk (yD 81 hg9) (sk (yD 81 hg9) (sk (yD 81 hg9) (sk (yD 81 hg9) (q2 (vb false) (xF hg9) (wpL_nil ?_))))))
           exact ⟨false, _, hg9, hs, hb, Has.mk (by kernel_rfl)⟩
        ·clear hs hb
         rintro ρ w18 ⟨H9, hs, hb, hH⟩
         refine norm_has hH ?_
         clear hH
         refine th_n (wpE_ret (bl_r (th_r (bl_r (th_r ?_)))))
         replace h := h H9 w18 hs
         replace hs := hs.here
         refine res1 (.inl rfl) Try.results101 (v := (vb ((aF == 4) && (aM == aJ)))) (by kernel_rfl) ?_
         exact ⟨((aF == 4) && (aM == aJ)), rfl, h⟩
       ·replace h := h.2 hc10
        refine wpE_skip (bl_n (th_n (wpE_seq ?_)))
        refine wpE_via (fun ρ wJ => ∃ HJ : Nat → Prop, Hst w0 H3 w11 HJ wJ ∧ HB HJ wJ [(p4, [(vi aF), (vi aL), (vi aN), (vu aO), (vs aP), (vi aK), (vi aM)], 93), (p3, [(vi aA), (vi aC), (vi aD), (vu aH), (vs aI), (vi aB), (vi aE)], 93), (p2, [(vi aG), (vi aQ), (vi aR), (vi aJ)], 167)] ∧ Has ρ [(8, (vb ((s_ref08_shows aF) && (aK == aJ))))]) ?_ ?_
        ·skip
         refine rg (q0 (vp (some p4)) (q2 (vi aF) (xl (Try.isAgg3 _) (hb.c0 0 gZ)) ?_))
         refine st_call (want0 rfl) (xc Try.call139) ((p_ref08_shows aF w13).mono ?_)
         rintro e w23 ⟨he, hE⟩
         refine ⟨(vb (s_ref08_shows aF)), he.trans (by kernel_rfl), ?_⟩
         replace hs := hs.pure hE
         replace hb := hb.pure hE
         clear hE he
         refine q0 (vb (s_ref08_shows aF)) ?_
         refine wpL_join 6 (fun ρ wJ => ∃ b10'0 : Bool, ∃ HJ : Nat → Prop, ((s_ref08_shows aF) = b10'0) ∧ Hst w0 H3 w11 HJ wJ ∧ HB HJ wJ [(p4, [(vi aF), (vi aL), (vi aN), (vu aO), (vs aP), (vi aK), (vi aM)], 93), (p3, [(vi aA), (vi aC), (vi aD), (vu aH), (vs aI), (vi aB), (vi aE)], 93), (p2, [(vi aG), (vi aQ), (vi aR), (vi aJ)], 167)] ∧ Has ρ [(97, (vb (b10'0 && (aK == aJ))))]) ?_ ?_
         ·clear hs hb
          rintro ρ w24 ⟨b10'0, H13, he0, hs, hb, hH⟩
          subst he0
          refine wpL_has hH ?_
          clear hH
          refine q0 (vb ((s_ref08_shows aF) && (aK == aJ))) (wpL_nil (th_n ?_))
          exact ⟨_, hs, hb, Has.mk (by kernel_rfl)⟩
         ·skip
          rcases Bool.eq_false_or_eq_true (s_ref08_shows aF) with hg13 | hg13
          ·skip
           refine q1 (vp (some (p4.add 5))) (want1 rfl (yD 91 hg13)) (stp (v := (vi aK)) (want1 rfl (yD 91 hg13)) (xl (Try.isAgg41 _) (hb.c 0 5 gZ)) (q1 (vp (some (p2.add 3))) (want1 rfl (yD 91 hg13)) (stp (v := (vi aJ)) (want1 rfl (yD 91 hg13)) (xl (Try.isAgg41 _) (hb.c 2 3 (gS (gS gZ)))) (q1 (vb (aK == aJ)) (want1 rfl (yD 91 hg13)) (q2 (vb (aK == aJ)) (xT hg13) (wpL_nil ?_))))))
           exact ⟨true, _, hg13, hs, hb, Has.mk (by kernel_rfl)⟩
          ·skip
           refine sk (yD 91 hg13) (sk (yD 91 hg13) (sk (yD 91 hg13) (sk (yD 91 hg13) (sk (yD 91 hg13) (q2 (vb false) (xF hg13) (wpL_nil ?_))))))
           exact ⟨false, _, hg13, hs, hb, Has.mk (by kernel_rfl)⟩
        ·clear hs hb
         rintro ρ w22 ⟨H12, hs, hb, hH⟩
         refine norm_has hH ?_
         clear hH
         refine th_n (wpE_ret (bl_r (th_r ?_)))
         replace h := h H12 w22 hs
         replace hs := hs.here
         refine res1 (.inl rfl) Try.results101 (v := (vb ((s_ref08_shows aF) && (aK == aJ)))) (by kernel_rfl) ?_
         exact ⟨((s_ref08_shows aF) && (aK == aJ)), rfl, h⟩
    ·replace h := h.2 hc7
     refine wpE_seq (rg (q0 (vb (aG == 4)) (q0 (vb (aG == 4)) (wpL_nil (th_n ?_)))))
     refine wpE_cond (t := (aG == 4)) (by kernel_rfl) (fun hc11 => ?_) (fun hc11 => ?_)
     ·replace h := h.1 hc11
      refine wpE_seq (rg (q0 l1.v (q0 (vi i1) ?_)))
      replace h := h H3 w9 hs
      replace hs := hs.here
      refine st_call (want0 rfl) (xc Try.call142) (h.mono ?_)
      rintro e w25 ⟨r7, rfl, hk, h⟩
      refine ⟨_, rfl, ?_⟩
      obtain ⟨hs, hb⟩ := hk.hh hs hb
      refine q0 (vb r7) ?_
      refine wpL_join 14 (fun ρ wJ => ∃ b13'0 : Bool, ∃ HJ : Nat → Prop, (r7 = b13'0) ∧ Hst w0 H3 w25 HJ wJ ∧ HB HJ wJ [(p3, [(vi aA), (vi aC), (vi aD), (vu aH), (vs aI), (vi aB), (vi aE)], 93), (p2, [(vi aG), (vi aQ), (vi aR), (vi aJ)], 167)] ∧ Has ρ [(117, (vb (b13'0 && (((aA == 1) || (aA == 2)) || (aA == 3)))))]) ?_ ?_
      ·clear hs hb
       rintro ρ w28 ⟨b13'0, H16, he0, hs, hb, hH⟩
       subst he0
       refine wpL_has hH ?_
       clear hH
       refine q0 (vb (r7 && (((aA == 1) || (aA == 2)) || (aA == 3)))) (wpL_nil (th_n (wpE_ret (bl_r (th_r ?_)))))
       replace h := h H16 w28 hs
       replace hs := hs.here
       refine res1 (.inl rfl) Try.results101 (v := (vb (r7 && (((aA == 1) || (aA == 2)) || (aA == 3))))) (by kernel_rfl) ?_
       exact ⟨(r7 && (((aA == 1) || (aA == 2)) || (aA == 3))), rfl, h⟩
      ·skip
       rcases Bool.eq_false_or_eq_true r7 with hg19 | hg19
       ·skip
        refine q1 (vp (some p3)) (want1 rfl (yD 103 hg19)) (stp (v := (vi aA)) (want1 rfl (yD 103 hg19)) (xl (Try.isAgg3 _) (hb.c0 0 gZ)) (q1 (vb (aA == 1)) (want1 rfl (yD 103 hg19)) (q1 (vb (aA == 1)) (want1 rfl (yD 103 hg19)) ?_)))
        refine wpL_join 4 (fun ρ wJ => ∃ b14'0 : Bool, ∃ HJ : Nat → Prop, ((aA == 1) = b14'0) ∧ Hst w0 H3 w25 HJ wJ ∧ HB HJ wJ [(p3, [(vi aA), (vi aC), (vi aD), (vu aH), (vs aI), (vi aB), (vi aE)], 93), (p2, [(vi aG), (vi aQ), (vi aR), (vi aJ)], 167)] ∧ Has ρ [(10, (vp (some p3))), (103, (vb r7)), (111, (vb (b14'0 || (aA == 2))))]) ?_ ?_
        ·clear hs hb
         rintro ρ w29 ⟨b14'0, H17, he0, hs, hb, hH⟩
         subst he0
         refine wpL_has hH ?_
         clear hH
         refine q1 (vb ((aA == 1) || (aA == 2))) (want1 rfl (yD 103 hg19)) ?_
         refine wpL_join 4 (fun ρ wJ => ∃ b15'0 : Bool, ∃ HJ : Nat → Prop, (((aA == 1) || (aA == 2)) = b15'0) ∧ Hst w0 H3 w25 HJ wJ ∧ HB HJ wJ [(p3, [(vi aA), (vi aC), (vi aD), (vu aH), (vs aI), (vi aB), (vi aE)], 93), (p2, [(vi aG), (vi aQ), (vi aR), (vi aJ)], 167)] ∧ Has ρ [(103, (vb r7)), (116, (vb (b15'0 || (aA == 3))))]) ?_ ?_
         ·clear hs hb
          rintro ρ w30 ⟨b15'0, H18, he0, hs, hb, hH⟩
          subst he0
          refine wpL_has hH ?_
          clear hH
          refine q2 (vb (((aA == 1) || (aA == 2)) || (aA == 3))) (xT hg19) (wpL_nil ?_)
          exact ⟨true, _, hg19, hs, hb, Has.mk (by kernel_rfl)⟩
         ·skip
          rcases Bool.eq_false_or_eq_true ((aA == 1) || (aA == 2)) with hg23 | hg23
          ·skip
           refine sk (yD 112 hg23) (sk (yD 112 hg23) (sk (yD 112 hg23) (stp (v := (vb true)) (want1 rfl (yD 103 hg19)) (xT hg23) (wpL_nil ?_))))
           exact ⟨true, _, hg23, hs, hb, Has.mk (by kernel_rfl)⟩
          ·skip
           refine q1 (vp (some p3)) (want1 rfl (yD 112 hg23)) (stp (v := (vi aA)) (want1 rfl (yD 112 hg23)) (xl (Try.isAgg3 _) (hb.c0 0 gZ)) (q1 (vb (aA == 3)) (want1 rfl (yD 112 hg23)) (stp (v := (vb (aA == 3))) (want1 rfl (yD 103 hg19)) (xF hg23) (wpL_nil ?_))))
           exact ⟨false, _, hg23, hs, hb, Has.mk (by kernel_rfl)⟩
        ·skip
         rcases Bool.eq_false_or_eq_true (aA == 1) with hg21 | hg21
         ·skip
          refine sk (yD 107 hg21) (sk (yD 107 hg21) (sk (yD 107 hg21) (stp (v := (vb true)) (want1 rfl (yD 103 hg19)) (xT hg21) (wpL_nil ?_))))
          exact ⟨true, _, hg21, hs, hb, Has.mk (by kernel_rfl)⟩
         ·skip
          refine q1 (vp (some p3)) (want1 rfl (yD 107 hg21)) (stp (v := (vi aA)) (want1 rfl (yD 107 hg21)) (xl (Try.isAgg3 _) (hb.c0 0 gZ)) (q1 (vb (aA == 2)) (want1 rfl (yD 107 hg21)) (stp (v := (vb (aA == 2))) (want1 rfl (yD 103 hg19)) (xF hg21) (wpL_nil ?_))))
          exact ⟨false, _, hg21, hs, hb, Has.mk (by kernel_rfl)⟩
       ·skip
        refine sk (yD 103 hg19) (sk (yD 103 hg19) (sk (yD 103 hg19) (sk (yD 103 hg19) (st_not (by kernel_rfl) (st_not (by kernel_rfl) (st_not (by kernel_rfl) (sk (yD 103 hg19) (sk (yD 103 hg19) (st_not (by kernel_rfl) (st_not (by kernel_rfl) (st_not (by kernel_rfl) ?_)))))))))))
        refine sk (yD 103 hg19) (q2 (vb false) (xF hg19) (wpL_nil ?_))
        exact ⟨false, _, hg19, hs, hb, Has.mk (by kernel_rfl)⟩
     ·replace h := h.2 hc11
      refine wpE_seq (rg (q0 (vb (aG == 5)) (q0 (vb (aG == 5)) (wpL_nil (th_n ?_)))))
      refine wpE_cond (t := (aG == 5)) (by kernel_rfl) (fun hc12 => ?_) (fun hc12 => ?_)
      ·replace h := h.1 hc12
       refine wpE_seq (rg (q0 (vp p1) (q0 l1.v (q0 (vi i1) ?_))))
       replace h := h H3 w9 hs
       replace hs := hs.here
       refine st_call (want0 rfl) (xc Try.call143) (h.mono ?_)
       rintro e w31 ⟨r8, rfl, hk, h⟩
       refine ⟨_, rfl, ?_⟩
       obtain ⟨hs, hb⟩ := hk.hh hs hb
       refine q0 (vb r8) (wpL_nil (th_n (wpE_ret (bl_r (th_r (res1 (.inl rfl) Try.results101 (v := (vb r8)) (by kernel_rfl) ?_))))))
       exact ⟨r8, rfl, h⟩
      ·replace h := h.2 hc12
       refine wpE_skip (bl_n (th_n (wpE_seq (rg (q0 (vb false) (wpL_nil (th_n (wpE_ret ?_))))))))
       replace h := h H3 w9 hs
       replace hs := hs.here
       refine res1 (.inl rfl) Try.results101 (v := (vb false)) (by kernel_rfl) ?_
       exact ⟨false, rfl, h⟩
def m_ref08_Check_l1 (p1 : Option Addr) (given1 l1 : Sl) (goal1 i1 : Int) (wl1 : World) (Kc1 : Int → World → Prop) (K : Int → Int → World → Prop) : Prop :=
 Br (decide (i1 < (l1.len : Int)))
  (Calls Try.prog 101 #[(vp p1), given1.v, l1.v, (vi i1)] wl1 (fun e w1 => ∃ r1 : Bool, e = .returned (vb r1) ∧ 
   Br (!r1)
    (K 80 i1 w1)
    (Kc1 (IntKind.i64.wrap (i1 + 1)) w1)))
  (Br (((l1.len : Int) : Int) == 0)
   (K 81 (l1.len : Int) wl1)
   (∃ a1 : Addr, At l1 (IntKind.i64.wrap ((l1.len : Int) - 1)) 4 a1 ∧
   ∃ v1 : Int, wl1.cell? (a1.add 3) = some (vi v1) ∧
   Br (v1 != goal1)
    (K 81 (l1.len : Int) wl1)
    (K 0 0 wl1)))
def m_ref08_Check (p1 : Option Addr) (given1 l1 : Sl) (goal1 : Int) (w0 : World) (K : Int → Int → World → Prop) : Prop :=
 ∃ (I1 : Int → World → Prop) (mu1 : Int → World → Nat), I1 0 w0 ∧
  ∀ (i1 : Int) (wl1 : World), I1 i1 wl1 → m_ref08_Check_l1 p1 given1 l1 goal1 i1 wl1 (fun y'0 w' => I1 y'0 w' ∧ mu1 y'0 w' < mu1 i1 wl1) K
theorem w_ref08_Check (p1 : Option Addr) (given1 l1 : Sl) (goal1 : Int) (w0 : World) (K : Int → Int → World → Prop) (h : m_ref08_Check p1 given1 l1 goal1 w0 K) :
  Calls Try.prog 42 #[(vp p1), given1.v, l1.v, (vi goal1)] w0 (fun e w' => ∃ r2 r3 : Int, e = .returned (.tuple #[(vi r2), (vi r3)]) ∧ K r2 r3 w') := by
 unfold m_ref08_Check at h
 refine calls_of_wpE (args := [(vp p1), given1.v, l1.v, (vi goal1)]) Try.func42 rfl Try.ntmps42 (Nat.le_of_ble_eq_true rfl) (wpE_seq (rg (q0 (vi 0) (q0 (vi 0) (wpL_nil (th_n (wpE_seq (wpE_seq (rg (q0 (vi 0) (wpL_nil ?_)))))))))))
 refine th_n (wpE_block ?_)
 obtain ⟨I1, mu1, h0, hr⟩ := h
 refine wpE_loop (σ := Int × World) (fun s ρ w => w = s.2 ∧ Has ρ [(0, (vp p1)), (1, given1.v), (2, l1.v), (3, (vi goal1)), (10, (vi s.1))] ∧ I1 s.1 s.2) (fun s => mu1 s.1 s.2) (0, w0) ⟨rfl, Has.mk (by kernel_rfl), h0⟩ ?_
 rintro ⟨i1, wl1⟩ ρ w ⟨hw, hH, hI⟩
 obtain rfl : wl1 = w := (show w = wl1 from hw).symm
 replace hH : Has ρ [(0, (vp p1)), (1, given1.v), (2, l1.v), (3, (vi goal1)), (10, (vi i1))] := hH
 have h := hr i1 wl1 hI
 clear hr h0
 unfold m_ref08_Check_l1 at h
 refine wpE_has hH ?_
 clear hH hI
 refine wpE_seq (wpE_seq (rg (q0 (vi i1) (q0 l1.v (q0 (vi (l1.len : Int)) (q0 (vb (decide (i1 < (l1.len : Int)))) (wpL_nil (th_n ?_))))))))
 refine wpE_cond (t := (decide (i1 < (l1.len : Int)))) (by kernel_rfl) (fun hc1 => ?_) (fun hc1 => ?_)
 ·replace h := h.1 hc1
  refine wpE_skip (th_n (wpE_seq (wpE_block (wpE_seq (rg (q0 (vp p1) (q0 given1.v (q0 l1.v (q0 (vi i1) ?_)))))))))
  refine st_call (want0 rfl) (xc Try.call101) (h.mono ?_)
  rintro e w1 ⟨r1, rfl, h⟩
  refine ⟨_, rfl, ?_⟩
  refine q0 (vb (!r1)) (wpL_nil (th_n ?_))
  refine wpE_cond (t := (!r1)) (by kernel_rfl) (fun hc2 => ?_) (fun hc2 => ?_)
  ·replace h := h.1 hc2
   refine wpE_seq (rg (q0 (vi i1) (q0 (vi 80) (q0 (vi i1) (wpL_nil (th_n (wpE_ret (bl_r (th_r (th_r (bl_r ?_)))))))))))
   refine th_r (res2 (.inl rfl) Try.results42 (v := (vi 80)) (by kernel_rfl) (v' := (vi i1)) (by kernel_rfl) ?_)
   exact ⟨80, i1, rfl, h⟩
  ·replace h := h.2 hc2
   refine wpE_skip (bl_n (th_n (rg (q0 (vi i1) (q0 (vi (IntKind.i64.wrap (i1 + 1))) (q0 (vi (IntKind.i64.wrap (i1 + 1))) (wpL_nil (th_n ?_))))))))
   exact ⟨((IntKind.i64.wrap (i1 + 1)), w1), ⟨rfl, Has.mk (by kernel_rfl), h.1⟩, h.2⟩
 ·replace h := h.2 hc1
  refine wpE_exit (th_x (th_x (bl_eq (th_n (wpE_seq (wpE_seq (rg (q0 l1.v (q0 (vi (l1.len : Int)) (q0 (vb (((l1.len : Int) : Int) == 0)) (q0 (vb (((l1.len : Int) : Int) == 0)) ?_)))))))))))
  rcases Bool.eq_false_or_eq_true (((l1.len : Int) : Int) == 0) with hg1 | hg1
  ·replace h := h.1 hg1
   refine sk (yD 27 hg1) (sk (yD 27 hg1) (sk (yD 27 hg1) (sk (yD 27 hg1) (sk (yD 27 hg1) (sk (yD 27 hg1) (sk (yD 27 hg1) (sk (yD 27 hg1) (sk (yD 27 hg1) (q2 (vb true) (xT hg1) (wpL_nil (th_n ?_)))))))))))
   refine wpE_condT (by kernel_rfl) (wpE_seq (rg (q0 l1.v (q0 (vi (l1.len : Int)) (q0 (vi 81) (q0 (vi (l1.len : Int)) (wpL_nil (th_n (wpE_ret (th_r (res2 (.inl rfl) Try.results42 (v := (vi 81)) (by kernel_rfl) (v' := (vi (l1.len : Int))) (by kernel_rfl) ?_)))))))))))
   exact ⟨81, (l1.len : Int), rfl, h⟩
  ·replace h := h.2 hg1
   refine q1 l1.v (want1 rfl (yD 27 hg1)) (q1 l1.v (want1 rfl (yD 27 hg1)) (q1 (vi (l1.len : Int)) (want1 rfl (yD 27 hg1)) (q1 (vi (IntKind.i64.wrap ((l1.len : Int) - 1))) (want1 rfl (yD 27 hg1)) ?_)))
   obtain ⟨a1, hv2, h⟩ := h
   refine stp (v := (vp (some a1))) (want1 rfl (yD 27 hg1)) (x_indexAddr (s := l1) (k := .i64) (i := (IntKind.i64.wrap ((l1.len : Int) - 1))) (by kernel_rfl) (by kernel_rfl) (Try.runUnderlying76 _) (Try.sizeOf167 _) hv2) (q1 (vp (some (a1.add 3))) (want1 rfl (yD 27 hg1)) ?_)
   obtain ⟨v1, hv1, h⟩ := h
   refine stp (v := (vi v1)) (want1 rfl (yD 27 hg1)) (xl (Try.isAgg41 _) hv1) (q1 (vi goal1) (want1 rfl (yD 27 hg1)) (q1 (vb (v1 != goal1)) (want1 rfl (yD 27 hg1)) (q2 (vb (v1 != goal1)) (xF hg1) (wpL_nil (th_n ?_)))))
   refine wpE_cond (t := (v1 != goal1)) (by kernel_rfl) (fun hc3 => ?_) (fun hc3 => ?_)
   ·replace h := h.1 hc3
    refine wpE_seq (rg (q0 l1.v (q0 (vi (l1.len : Int)) (q0 (vi 81) (q0 (vi (l1.len : Int)) (wpL_nil (th_n (wpE_ret (th_r (res2 (.inl rfl) Try.results42 (v := (vi 81)) (by kernel_rfl) (v' := (vi (l1.len : Int))) (by kernel_rfl) ?_))))))))))
    exact ⟨81, (l1.len : Int), rfl, h⟩
   ·replace h := h.2 hc3
    refine wpE_skip (th_n (wpE_seq (rg (q0 (vi 0) (q0 (vi 0) (wpL_nil (th_n (wpE_ret (res2 (.inl rfl) Try.results42 (v := (vi 0)) (by kernel_rfl) (v' := (vi 0)) (by kernel_rfl) ?_)))))))))
    exact ⟨0, 0, rfl, h⟩
end Go.Proofs
end
section
open Go Go.SE
namespace Go.Proofs
attribute [local irreducible] Calls
theorem c_r08_Has {S : Nat → Prop} (s : Sl) (ts : List Int) (v : Int) (w0 : World) (hs : Lst S w0 1 s (tmr ts)) (hn : ts.length ≤ 1000000) :
  Calls Try.prog 95 #[s.v, .int .i64 v] w0 (fun e w' => ∃ r : Bool, e = .returned (.bool r) ∧ (r = decide (v ∈ ts) ∧ w' = w0)) := by
 refine w_ref08_Has _ _ w0 (fun r w' => r = decide (v ∈ ts) ∧ w' = w0) ?_
 unfold m_ref08_Has
 have hl : s.len = ts.length := by rw [hs.len, tmr_len]
 refine ⟨fun i w' => w' = w0 ∧ ∃ j : Nat, i = j ∧ j ≤ ts.length ∧ v ∉ ts.take j, fun i _ => ((ts.length : Int) - i).toNat, ⟨rfl, 0, rfl, Nat.zero_le _, by simp⟩, ?_⟩
 rintro _ _ ⟨rfl, j, rfl, hj, hv⟩
 unfold m_ref08_Has_l1
 refine ⟨fun h => ?_, fun h => ?_⟩
 ·have hlt := lt_of_dec hl h
  obtain ⟨a, hat, _, hc⟩ := tm_nth hs hlt
  have htk : ts.take (j + 1) = ts.take j ++ [ts[j]] := List.take_succ_eq_append_getElem hlt
  refine ⟨a, hat, _, hc, fun h => ⟨?_, rfl⟩, fun h => ?_⟩
  ·have : ts[j] = v := by simpa using h
   rw [decide_eq_true]
   rw [← this]; exact List.getElem_mem hlt
  ·rw [wrap_succ hlt (by omega)]
   refine ⟨⟨rfl, j + 1, rfl, hlt, ?_⟩, lt_dec hlt⟩
   rw [htk, List.mem_append, List.mem_singleton]
   rintro (h' | h')
   ·exact hv h'
   ·simp [h'] at h
 ·have hge := eq_of_dec hl hj h
  subst hge
  rw [List.take_length] at hv
  exact ⟨by simp [hv], rfl⟩
def aheadS (i : Nat) (a b : Bool) (x y : Int) : Bool := (if a = true then Sp.ahead i x else x == 0) && (if b = true then Sp.ahead i y else y == 0)
theorem c_r08_ahead {Ss : Nat → Prop} (sl : Sl) (l : List Sp.Step) (i : Nat) (a b : Bool) (w0 : World) (hi : i < l.length) (hs : Lst Ss w0 4 sl (l.map strow)) :
  Calls Try.prog 142 #[sl.v, .int .i64 i, .bool a, .bool b] w0 (fun e w' => ∃ r : Bool, e = .returned (.bool r) ∧ (r = aheadS i a b l[i].a l[i].b ∧ Pure w0 w')) := by
 refine w_ref08_ahead _ _ _ _ w0 (fun r w' => r = aheadS i a b l[i].a l[i].b ∧ Pure w0 w') ?_
 unfold m_ref08_ahead
 obtain ⟨a1, at1, _, row1⟩ := st_nth hs (v := (i : Int)) (by omega) (by simpa using hi)
 have hti : ((i : Int).toNat) = i := by simp
 simp only [hti] at row1
 refine ⟨a1, at1, ?_⟩
 intro w1 hs1
 have E1 := hs1.first
 have r1 := E1.row row1 (fun h => h)
 refine ⟨_, r1 1 (by simp [strow]), a1, at1, _, r1 2 (by simp [strow]), fun h => ?_, fun h => ?_⟩
 ·intro H5 w6 hs6
  refine ⟨?_, E1.hst hs6⟩
  unfold aheadS Sp.ahead
  cases a with
  | true => simp at h; simp; omega
  | false => simp at h; simp [h]
 ·intro H16 w17 hs17
  refine ⟨?_, E1.hst hs17⟩
  unfold aheadS Sp.ahead
  cases a with
  | true =>
   simp at h
   have : (0 ≤ l[i].a ∧ l[i].a < i) := by omega
   cases b <;> simp [this] <;> (try omega)
   all_goals (rw [Bool.eq_iff_iff]; simp)
  | false =>
   simp at h
   cases b <;> simp [h]
   all_goals (rw [Bool.eq_iff_iff]; simp)
def makesS (L : Sp.Pool) (pre : List Sp.Step) (s : Sp.Step) : Bool :=
 if (Sp.nodeOf L s.t).kind = 4 then Sp.ahead pre.length s.a && Sp.ahead pre.length s.b && Sp.tAt pre s.a == (Sp.nodeOf L s.t).a && Sp.tAt pre s.b == (Sp.nodeOf L s.t).b
 else if (Sp.nodeOf L s.t).kind = 5 then Sp.ahead pre.length s.a && s.b == 0 && Sp.tAt pre s.a == (Sp.nodeOf L s.t).a
 else if Sp.showsK (Sp.nodeOf L s.t).kind = true then Sp.ahead pre.length s.a && Sp.ahead pre.length s.b && Sp.tAt pre s.a == (Sp.nodeOf L s.t).a && (Sp.nodeOf L (Sp.tAt pre s.b)).kind == 6 && (Sp.nodeOf L (Sp.tAt pre s.b)).frm == Sp.whoOf (Sp.nodeOf L s.t)
 else false
theorem c_r08_makes {Ss : Nat → Prop} (p : Addr) (sl : Sl) (l : List Sp.Step) (i : Nat) (w0 : World) {L : Sp.Pool} {FP : Nat → Prop} (hi : i < l.length) (hP : PoolR w0 p L FP) (hok : Sp.Ok L) (hs : Lst Ss w0 4 sl (l.map strow)) :
  Calls Try.prog 143 #[.pointer (some p), sl.v, .int .i64 i] w0 (fun e w' => ∃ r : Bool, e = .returned (.bool r) ∧ (r = makesS L (l.take i) l[i] ∧ Pure w0 w')) := by
 suffices key : ∀ K : Bool → World → Prop, (∀ w', Pure w0 w' → K (makesS L (l.take i) l[i]) w') → m_ref08_makes (some p) sl i w0 K from
  w_ref08_makes _ _ _ w0 _ (key _ (fun _ h => ⟨rfl, h⟩))
 intro K hK
 unfold m_ref08_makes
 obtain ⟨a1, at1, _, row1⟩ := st_nth hs (v := (i : Int)) (by omega) (by simpa using hi)
 have hti : ((i : Int).toNat) = i := by simp
 simp only [hti] at row1
 have hah : ∀ (a b : Bool) (w : World), Pure w0 w → Calls Try.prog 142 #[sl.v, .int .i64 i, .bool a, .bool b] w (fun e w' => ∃ r : Bool, e = .returned (.bool r) ∧ (r = aheadS i a b l[i].a l[i].b ∧ Pure w w')) := fun a b w E => c_r08_ahead sl l i a b w hi (hs.pure E)
 generalize hsi : l[i] = s at *
 obtain ⟨ru, va, vb, vt⟩ := s
 have cA : ∀ {w : World}, Pure w0 w → w.cell? (a1.add 1) = some (.int .i64 va) := fun E => (E.row row1 (fun h => h)) 1 (by simp [strow])
 have cB : ∀ {w : World}, Pure w0 w → w.cell? (a1.add 2) = some (.int .i64 vb) := fun E => (E.row row1 (fun h => h)) 2 (by simp [strow])
 have getS : ∀ (v : Int), 0 ≤ v → v < i → ∃ a, At sl v 4 a ∧ ∃ x, Sp.tAt (l.take i) v = x ∧ ∀ w, Pure w0 w → w.cell? (a.add 3) = some (.int .i64 x) := by
  intro v h0 hv
  obtain ⟨a, hat, _, hrow⟩ := st_nth hs h0 (by omega)
  refine ⟨a, hat, _, rfl, fun w E => ?_⟩
  have := (E.row hrow (fun h => h)) 3 (by simp [strow])
  rw [this, tAt_take h0 hv (by omega)]; rfl
 refine ⟨a1, at1, vt, row1 3 (by simp [strow]), ?_⟩
 refine (c_ref05_Node p vt w0 hP hok).mono ?_
 rintro _ w1 ⟨nk, nf, nt, nu, nx, na, nb, ok, rfl, ⟨hn, _⟩, E1⟩
 refine ⟨_, _, _, _, _, _, _, _, rfl, E1.keptP, ?_⟩
 have hk1 : (Sp.nodeOf L vt).kind = nk := by rw [← hn]
 have hfr : (Sp.nodeOf L vt).frm = nf := by rw [← hn]
 have hto : (Sp.nodeOf L vt).to = nt := by rw [← hn]
 have ha : (Sp.nodeOf L vt).a = na := by rw [← hn]
 have hb : (Sp.nodeOf L vt).b = nb := by rw [← hn]
 have hlen : (l.take i).length = i := by rw [List.length_take]; omega
 have hmk : makesS L (l.take i) ⟨ru, va, vb, vt⟩ = (if nk = 4 then Sp.ahead i va && Sp.ahead i vb && Sp.tAt (l.take i) va == na && Sp.tAt (l.take i) vb == nb
    else if nk = 5 then Sp.ahead i va && vb == 0 && Sp.tAt (l.take i) va == na
    else if Sp.showsK nk = true then Sp.ahead i va && Sp.ahead i vb && Sp.tAt (l.take i) va == na && (Sp.nodeOf L (Sp.tAt (l.take i) vb)).kind == 6 && (Sp.nodeOf L (Sp.tAt (l.take i) vb)).frm == Sp.whoOf (Sp.nodeOf L vt)
    else false) := by
  unfold makesS; simp only; rw [hlen, hk1, ha, hb]
 rw [hmk] at hK
 clear hmk
 refine ⟨fun k4 => ?_, fun k4 => ⟨fun k5 => ?_, fun k5 => ?_⟩⟩
 ·have k4 : nk = 4 := by simpa using k4
  rw [if_pos k4] at hK
  intro H1 w3 hs3
  have Ed : Pure w0 w3.drew := (E1.hst hs3).trans (Ext.drew w3)
  refine ⟨fun w' => Pure w0 w', Ed, ?_⟩
  rintro _ rfl
  refine (hah true true w3.drew Ed).mono ?_
  rintro _ w5 ⟨r2, rfl, rfl, E5⟩
  have E05 := Ed.trans E5
  simp only [aheadS, if_true]
  refine ⟨_, rfl, E05, E5.keptP, fun h => ?_, fun h => ?_⟩
  ·rw [Bool.and_eq_true] at h
   obtain ⟨h1, h2⟩ := h
   obtain ⟨a3, at3, x, hx, c3⟩ := getS va (ahead_iff.1 h1).1 (ahead_iff.1 h1).2
   obtain ⟨a5, at5, z, hz, c5⟩ := getS vb (ahead_iff.1 h2).1 (ahead_iff.1 h2).2
   rw [h1, h2, hx, hz] at hK
   refine ⟨a1, at1, va, fun w' E => cA E, a3, at3, x, fun w' E => c3 w' E, fun h => ⟨a1, at1, vb, fun w' E => cB E, a5, at5, z, fun w' E => c5 w' E, ?_⟩, fun h => ?_⟩
   ·have h : (x == na) = true := h
    simpa [h] using hK w5 E05
   ·have h : (x == na) = false := h
    simpa [h] using hK w5 E05
  ·have := hK w5 E05
   rw [h] at this; simpa using this
 ·have k4 : ¬ nk = 4 := by simpa using k4
  have k5 : nk = 5 := by simpa using k5
  rw [if_neg k4, if_pos k5] at hK
  intro H1 w3 hs3
  have Ed : Pure w0 w3.drew := (E1.hst hs3).trans (Ext.drew w3)
  refine ⟨fun w' => Pure w0 w', Ed, ?_⟩
  rintro _ rfl
  refine (hah true false w3.drew Ed).mono ?_
  rintro _ w5 ⟨r2, rfl, rfl, E5⟩
  have E05 := Ed.trans E5
  simp only [aheadS, if_true, Bool.false_eq_true, if_false]
  refine ⟨_, rfl, E05, E5.keptP, fun h => ?_, fun h => ?_⟩
  ·rw [Bool.and_eq_true] at h
   obtain ⟨h1, h2⟩ := h
   obtain ⟨a3, at3, x, hx, c3⟩ := getS va (ahead_iff.1 h1).1 (ahead_iff.1 h1).2
   rw [h1, h2, hx] at hK
   refine ⟨a1, at1, va, fun w' E => cA E, a3, at3, x, fun w' E => c3 w' E, ?_⟩
   simpa using hK w5 E05
  ·have := hK w5 E05
   rw [h] at this; simpa using this
 ·have k4 : ¬ nk = 4 := by simpa using k4
  have k5 : ¬ nk = 5 := by simpa using k5
  rw [if_neg k4, if_neg k5] at hK
  rintro y1 rfl
  have hy : (cond ((nk : Int) == 7) ((nk : Int) == 7) (cond ((nk : Int) == 8) ((nk : Int) == 8) ((nk : Int) == 9))) = Sp.showsK nk := by
   unfold Sp.showsK; cases (nk == 7) <;> cases (nk == 8) <;> simp
  rw [hy]
  refine ⟨fun k7 => ?_, fun k7 => ?_⟩
  ·rw [if_pos k7] at hK
   intro H2 w8 hs8
   have Ed : Pure w0 w8.drew := (E1.hst hs8).trans (Ext.drew w8)
   refine ⟨fun w' => Pure w0 w', Ed, ?_⟩
   rintro _ rfl
   refine (hah true true w8.drew Ed).mono ?_
   rintro _ w5 ⟨r2, rfl, rfl, E5⟩
   have E05 := Ed.trans E5
   simp only [aheadS, if_true]
   refine ⟨_, rfl, E05, E5.keptP, fun h => ?_, fun h => ?_⟩
   ·unfold m_ref08_makes_j1
    refine Br.t rfl ?_
    have h : (Sp.ahead i va && Sp.ahead i vb) = false := by rw [Bool.not_eq_true'] at h; exact h
    have := hK w5 E05
    rw [h] at this; simpa using this
   ·have h : (Sp.ahead i va && Sp.ahead i vb) = true := by simpa using h
    rw [Bool.and_eq_true] at h
    obtain ⟨h1, h2⟩ := h
    obtain ⟨a3, at3, x, hx, c3⟩ := getS va (ahead_iff.1 h1).1 (ahead_iff.1 h1).2
    obtain ⟨a5, at5, z, hz, c5⟩ := getS vb (ahead_iff.1 h2).1 (ahead_iff.1 h2).2
    rw [h1, h2, hx, hz] at hK
    refine ⟨a1, at1, va, fun w' E => cA E, a3, at3, x, fun w' E => c3 w' E, ?_⟩
    unfold m_ref08_makes_j1
    refine ⟨fun h => ?_, fun h => ?_⟩
    ·have h : (x == na) = false := by simpa using h
     simpa [h] using hK w5 E05
    ·have h : (x == na) = true := by simpa using h
     refine ⟨a1, at1, vb, cB E05, a5, at5, z, c5 w5 E05, ?_⟩
     have hPp : PoolR w5 p L FP := hP.pure E05
     refine (c_ref05_Node p z w5 hPp hok).mono ?_
     rintro _ w9 ⟨yk, yf, yt, yu, yx, ya, yb, _, rfl, ⟨hyn, _⟩, E9⟩
     refine ⟨_, _, _, _, _, _, _, _, rfl, E9.keptP, ?_⟩
     intro H6 w14 hs14
     have hwho : (cond ((nk : Int) == 9) nt nf) = Sp.whoOf (Sp.nodeOf L vt) := by
      unfold Sp.whoOf; rw [hk1, hfr, hto]
      by_cases h9 : nk = 9
      ·subst h9; simp
      ·rw [if_neg h9, show (nk == 9) = false from by simpa using h9]; rfl
     rw [hwho]
     have := hK w14 ((E05.trans E9).hst hs14)
     rw [← hyn] at this
     simpa [h] using this
  ·rw [if_neg (by simp [k7])] at hK
   intro H2 w8 hs8
   exact hK w8 (E1.hst hs8)
theorem c_r08_follows {Sg Ss : Nat → Prop} (p : Addr) (sg sl : Sl) (G : List Int) (l : List Sp.Step) (i : Nat) (w0 : World) {L : Sp.Pool} {FP : Nat → Prop} (hi : i < l.length) (hP : PoolR w0 p L FP) (hok : Sp.Ok L) (hg : Lst Sg w0 1 sg (tmr G)) (hs : Lst Ss w0 4 sl (l.map strow)) (hG : G.length ≤ 1000000) :
  Calls Try.prog 101 #[.pointer (some p), sg.v, sl.v, .int .i64 i] w0 (fun e w' => ∃ r : Bool, e = .returned (.bool r) ∧ (r = Sp.fol L G (l.take i) l[i] ∧ Pure w0 w')) := by
 suffices key : ∀ K : Bool → World → Prop, (∀ w', Pure w0 w' → K (Sp.fol L G (l.take i) l[i]) w') → m_ref08_follows (some p) sg sl i w0 K from
  w_ref08_follows _ _ _ _ w0 _ (key _ (fun _ h => ⟨rfl, h⟩))
 intro K hK
 unfold m_ref08_follows
 obtain ⟨a1, at1, _, row1⟩ := st_nth hs (v := (i : Int)) (by omega) (by simpa using hi)
 have hti : ((i : Int).toNat) = i := by simp
 simp only [hti] at row1
 have hah : ∀ (a b : Bool) (w : World), Pure w0 w → Calls Try.prog 142 #[sl.v, .int .i64 i, .bool a, .bool b] w (fun e w' => ∃ r : Bool, e = .returned (.bool r) ∧ (r = aheadS i a b l[i].a l[i].b ∧ Pure w w')) := fun a b w E => c_r08_ahead sl l i a b w hi (hs.pure E)
 have hmk : ∀ (w : World), Pure w0 w → Calls Try.prog 143 #[.pointer (some p), sl.v, .int .i64 i] w (fun e w' => ∃ r : Bool, e = .returned (.bool r) ∧ (r = makesS L (l.take i) l[i] ∧ Pure w w')) := fun w E => c_r08_makes p sl l i w hi (hP.pure E) hok (hs.pure E)
 generalize hsi : l[i] = s at *
 obtain ⟨ru, va, vb, vt⟩ := s
 refine ⟨a1, at1, ru, va, vb, vt, row1, ?_⟩
 intro H1 w2 hs2
 have E2 := hs2.first
 refine (c_ref05_In p vt w2 (hP.pure E2)).mono ?_
 rintro _ w2 ⟨r1, rfl, rfl, rfl⟩
 refine ⟨_, rfl, Kept.refl _, fun hc => ?_, fun hc => ?_⟩
 ·have hin : Sp.inP L vt = false := by simpa using hc
  have := hK w2 E2
  unfold Sp.fol at this; rw [if_pos hin] at this; exact this
 have hin : ¬ Sp.inP L vt = false := by simpa using hc
 refine (c_ref05_Node p vt w2 (hP.pure E2) hok).mono ?_
 rintro _ w4 ⟨nk, nf, nt, nu, nx, na, nb, ok, rfl, ⟨hn, _⟩, E4⟩
 have E04 := E2.trans E4
 refine ⟨_, _, _, _, _, _, _, _, rfl, E4.keptP, ?_⟩
 have hk1 : (Sp.nodeOf L vt).kind = nk := by rw [← hn]
 have hlen : (l.take i).length = i := by rw [List.length_take]; omega
 have hfol : Sp.fol L G (l.take i) ⟨ru, va, vb, vt⟩ = (if ru = 0 then va == 0 && vb == 0 && decide (vt ∈ G)
   else if ru = 1 ∨ ru = 2 ∨ ru = 3 then Sp.ahead i va && vb == 0 && Sp.arisesB L ru (Sp.tAt (l.take i) va) vt
   else if ru = 4 then va == 0 && vb == 0 && Sp.freeK nk
   else if ru = 5 then makesS L (l.take i) ⟨ru, va, vb, vt⟩
   else false) := by
  unfold Sp.fol makesS; simp only; rw [if_neg hin, hlen, hk1]
 rw [hfol] at hK
 clear hfol
 refine ⟨fun h0 => ?_, fun h0 => ?_⟩
 ·have h0 : ru = 0 := by simpa using h0
  rw [if_pos h0] at hK
  intro H2 w6 hs6
  have E6 := E04.hst hs6
  refine (hah false false w6 E6).mono ?_
  rintro _ w7 ⟨r3, rfl, rfl, E7⟩
  have E07 := E6.trans E7
  simp only [aheadS, Bool.false_eq_true, if_false]
  refine ⟨_, rfl, E7.keptP, fun h => ?_, fun h => ?_⟩
  ·refine (c_r08_Has sg G vt w7 (hg.pure E07) hG).mono ?_
   rintro _ w8 ⟨r4, rfl, rfl, rfl⟩
   rw [h] at hK
   exact ⟨_, rfl, Kept.refl _, by simpa using hK w8 E07⟩
  ·have := hK w7 E07
   rw [h] at this; simpa using this
 have h0 : ¬ ru = 0 := by simpa using h0
 rw [if_neg h0] at hK
 rintro y1 rfl
 have hy : (cond ((ru : Int) == 1) ((ru : Int) == 1) (cond ((ru : Int) == 2) ((ru : Int) == 2) ((ru : Int) == 3))) = decide (ru = 1 ∨ ru = 2 ∨ ru = 3) := by
  by_cases e1 : ru = 1
  ·subst e1; rfl
  ·by_cases e2 : ru = 2
   ·subst e2; rfl
   ·have : (ru == 1) = false := by simpa using e1
    have h2 : (ru == 2) = false := by simpa using e2
    rw [this, h2]; simp [e1, e2]; rfl
 rw [hy]
 refine ⟨fun hr => ?_, fun hr => ⟨fun h4 => ?_, fun h4 => ⟨fun h5 => ?_, fun h5 => ?_⟩⟩⟩
 ·have hr := of_decide_eq_true hr
  rw [if_pos hr] at hK
  intro H3 w9 hs9
  have E9 := E04.hst hs9
  refine (hah true false w9 E9).mono ?_
  rintro _ w10 ⟨r5, rfl, rfl, E10⟩
  have E010 := E9.trans E10
  simp only [aheadS, if_true, Bool.false_eq_true, if_false]
  refine ⟨_, rfl, E10.keptP, fun h => ?_, fun h => ?_⟩
  ·have h : (Sp.ahead i va && vb == 0) = false := by rw [Bool.not_eq_true'] at h; exact h
   have := hK w10 E010
   rw [h] at this; simpa using this
  ·have h : (Sp.ahead i va && vb == 0) = true := by simpa using h
   have h1 : Sp.ahead i va = true := by rw [Bool.and_eq_true] at h; exact h.1
   obtain ⟨a2, hat2, _, hrow2⟩ := st_nth hs (ahead_iff.1 h1).1 (by have := (ahead_iff.1 h1).2; omega)
   have hx := tAt_take (l := l) (ahead_iff.1 h1).1 (ahead_iff.1 h1).2 (by omega)
   have c2 : w10.cell? (a2.add 3) = some (.int .i64 (Sp.tAt (l.take i) va)) := by
    have := (E010.row hrow2 (fun h => h)) 3 (by simp [strow])
    rw [this, hx]; rfl
   rw [h] at hK
   generalize Sp.tAt (l.take i) va = x at *
   refine ⟨a2, hat2, x, c2, ?_⟩
   refine (c_ref05_Node p x w10 (hP.pure E010) hok).mono ?_
   rintro _ w11 ⟨xk, xf, xt, xu, xx, xa, xb, _, rfl, ⟨hxn, _⟩, E11⟩
   have E011 := E010.trans E11
   refine ⟨_, _, _, _, _, _, _, _, rfl, E11.keptP, ?_⟩
   have hxk : (Sp.nodeOf L x).kind = xk := by rw [← hxn]
   have hxa : (Sp.nodeOf L x).a = xa := by rw [← hxn]
   have hxb : (Sp.nodeOf L x).b = xb := by rw [← hxn]
   unfold Sp.arisesB at hK
   simp only [hxk, hxa, hxb] at hK
   refine ⟨fun h => ?_, fun h => ⟨fun h2 => ?_, fun h2 => ?_⟩⟩
   ·intro H6 w15 hs15
    have h : ru = 1 := by simpa using h
    subst h
    simpa using hK w15 (E011.hst hs15)
   ·intro H9 w18 hs18
    have h2 : ru = 2 := by simpa using h2
    subst h2
    simpa using hK w18 (E011.hst hs18)
   ·intro H12 w22 hs22
    have h : ¬ ru = 1 := by simpa using h
    have h2 : ¬ ru = 2 := by simpa using h2
    have h3 : ru = 3 := by omega
    subst h3
    have := hK w22 (E011.hst hs22)
    simpa [Sp.showsK, s_ref08_shows] using this
 ·have hr := of_decide_eq_false hr
  have h4 : ru = 4 := by simpa using h4
  rw [if_neg hr, if_pos h4] at hK
  intro H3 w9 hs9
  have E9 := E04.hst hs9
  refine (hah false false w9 E9).mono ?_
  rintro _ w25 ⟨r7, rfl, rfl, E25⟩
  refine ⟨_, rfl, E25.keptP, ?_⟩
  intro H16 w28 hs28
  simp only [aheadS, Bool.false_eq_true, if_false]
  exact hK w28 ((E9.trans E25).hst hs28)
 ·have hr := of_decide_eq_false hr
  have h4 : ¬ ru = 4 := by simpa using h4
  have h5 : ru = 5 := by simpa using h5
  rw [if_neg hr, if_neg h4, if_pos h5] at hK
  intro H3 w9 hs9
  have E9 := E04.hst hs9
  refine (hmk w9 E9).mono ?_
  rintro _ w31 ⟨r8, rfl, rfl, E31⟩
  exact ⟨_, rfl, E31.keptP, hK w31 (E9.trans E31)⟩
 ·have hr := of_decide_eq_false hr
  have h4 : ¬ ru = 4 := by simpa using h4
  have h5 : ¬ ru = 5 := by simpa using h5
  rw [if_neg hr, if_neg h4, if_neg h5] at hK
  intro H3 w9 hs9
  exact hK w9 (E04.hst hs9)
theorem c_r08_Check {Sg Ss : Nat → Prop} (p : Addr) (sg sl : Sl) (G : List Int) (l : List Sp.Step) (goal : Int) (w0 : World) {L : Sp.Pool} {FP : Nat → Prop} (hP : PoolR w0 p L FP) (hok : Sp.Ok L) (hg : Lst Sg w0 1 sg (tmr G)) (hs : Lst Ss w0 4 sl (l.map strow)) (hG : G.length ≤ 1000000) (hl : l.length ≤ 1000000) :
  Calls Try.prog 42 #[.pointer (some p), sg.v, sl.v, .int .i64 goal] w0 (fun e w' => ∃ r1 : Int, ∃ r2 : Int, e = .returned (.tuple #[.int .i64 r1, .int .i64 r2]) ∧ ((r1, r2) = Sp.check8 L G l goal ∧ Pure w0 w')) := by
 suffices key : ∀ K : Int → Int → World → Prop, (∀ r1 r2 w', (r1, r2) = Sp.check8 L G l goal → Pure w0 w' → K r1 r2 w') → m_ref08_Check (some p) sg sl goal w0 K from
  w_ref08_Check _ _ _ _ w0 _ (key _ (fun r1 r2 w' h E => ⟨h, E⟩))
 intro K hK
 unfold m_ref08_Check
 have hsl : sl.len = l.length := by rw [hs.len]; simp
 refine ⟨fun i w => ∃ j : Nat, i = j ∧ j ≤ l.length ∧ Pure w0 w ∧ Sp.badAt L G l l.length 0 = Sp.badAt L G l (l.length - j) j, fun i _ => ((l.length : Int) - i).toNat, ⟨0, rfl, Nat.zero_le _, Ext.refl _, by simp⟩, ?_⟩
 rintro _ wl ⟨j, rfl, hj, E, hb⟩
 unfold m_ref08_Check_l1
 refine ⟨fun h => ?_, fun h => ?_⟩
 ·have hlt := lt_of_dec hsl h
  refine (c_r08_follows p sg sl G l j wl hlt (hP.pure E) hok (hg.pure E) (hs.pure E) hG).mono ?_
  rintro _ w1 ⟨r, rfl, rfl, E1⟩
  have hn : l.length - j = (l.length - (j + 1)) + 1 := by omega
  rw [hn, bad_step hlt] at hb
  refine ⟨_, rfl, fun hc => ?_, fun hc => ?_⟩
  ·have hf : Sp.fol L G (l.take j) l[j] = false := by simpa using hc
   rw [if_neg (by simp [hf])] at hb
   exact hK _ _ _ (by unfold Sp.check8; rw [hb]) (E.trans E1)
  ·have hf : Sp.fol L G (l.take j) l[j] = true := by simpa using hc
   rw [if_pos hf] at hb
   rw [wrap_succ hlt (by omega)]
   exact ⟨⟨j + 1, rfl, hlt, E.trans E1, hb⟩, lt_dec hlt⟩
 ·have hge := eq_of_dec hsl hj h
  subst hge
  rw [bad_end (Nat.le_refl _)] at hb
  have hch : Sp.check8 L G l goal = if l.length = 0 ∨ Sp.tAt l ((l.length : Int) - 1) ≠ goal then (81, (l.length : Int)) else (0, 0) := by unfold Sp.check8; rw [hb]
  rw [hsl]
  refine ⟨fun h0 => ?_, fun h0 => ?_⟩
  ·have h0 : l.length = 0 := by simpa using h0
   exact hK _ _ _ (by rw [hch, if_pos (.inl h0)]) E
  ·have h0 : l.length ≠ 0 := by simpa using h0
   rw [IntWalk.i64_in _ (by omega)]
   obtain ⟨a, hat, _, hrow⟩ := st_nth hs (v := (l.length : Int) - 1) (by omega) (by omega)
   have e : ((l.length : Int) - 1) = ((l.length - 1 : Nat) : Int) := by omega
   have ht : Sp.tAt l ((l.length : Int) - 1) = (l[((l.length : Int) - 1).toNat]'(by omega)).t := by
    simp only [e, Int.toNat_natCast]
    exact Sp.tAt_of (by omega)
   refine ⟨a, hat, _, ((E.row hrow (fun h => h)) 3 (by simp [strow])).trans rfl, fun h => ?_, fun h => ?_⟩
   ·have h : Sp.tAt l ((l.length : Int) - 1) ≠ goal := by rw [ht]; simpa using h
    exact hK _ _ _ (by rw [hch, if_pos (.inr h)]) E
   ·have h : Sp.tAt l ((l.length : Int) - 1) = goal := by rw [ht]; simpa using h
    exact hK _ _ _ (by rw [hch, if_neg (by simp [h0, h])]) E
end Go.Proofs
end
section
open Go.SE
namespace Go.Sp
def upd (V : Int → Bool) (t : Int) (b : Bool) : Int → Bool := fun x => if x = t then b else V x
def overS (L : Pool) : Nat → Int → (Int → Bool) × List Int → (Int → Bool) × List Int
 | 0, _, st => st
 | n + 1, t, st => if inP L t = true ∧ st.1 t = false then
   let s2 := overS L n (nodeOf L t).b (overS L n (nodeOf L t).a (upd st.1 t true, st.2))
   (s2.1, s2.2 ++ [t])
  else st
def subs (L : Pool) (t : Int) : List Int := (overS L (t.toNat + 1) t (fun _ => false, [])).2
theorem Sub.head {L : Pool} {t y : Int} (h : Sub L t y) : y = t ∨ ∃ k ∈ kidsOf (nodeOf L t), Sub L k y := by
 induction h with
 | refl => exact .inl rfl
 | kid _ hk ih =>
  rcases ih with rfl | ⟨k, h1, h2⟩
  ·exact .inr ⟨_, hk, .refl _⟩
  ·exact .inr ⟨k, h1, h2.kid hk⟩
theorem Sub.le {L : Pool} (hW : Wf L) {t y : Int} (ht : inP L t = true) (h : Sub L t y) : inP L y = true ∧ y ≤ t := by
 induction h with
 | refl => exact ⟨ht, Int.le_refl _⟩
 | kid _ hk ih =>
  have := (hW.node ih.1).2.2.2.2.1 _ hk
  exact ⟨this.1, by omega⟩
theorem kid_ab {n : Node} {k : Int} (h : k ∈ kidsOf n) : k = n.a ∨ k = n.b := by
 unfold kidsOf at h
 have := List.mem_of_mem_take h
 simpa using this
theorem kid_of {L : Pool} (hW : Wf L) {t k : Int} (ht : inP L t = true) (h : k = (nodeOf L t).a ∨ k = (nodeOf L t).b) (hk : inP L k = true) : k ∈ kidsOf (nodeOf L t) := by
 have h1 := (hW.node ht).2.1
 have h2 := (hW.node ht).2.2.1
 have hk0 : k ≠ 0 := by have := (inP_iff.1 hk).1; omega
 unfold kidsOf
 rcases kids_le (nodeOf L t).kind with e | e | e
 ·have a0 := h1 (by omega); have b0 := h2 (by omega)
  rcases h with h | h
  ·exact absurd (h.trans a0) hk0
  ·exact absurd (h.trans b0) hk0
 ·have b0 := h2 (by omega)
  rcases h with h | h
  ·rw [e, h]; simp
  ·exact absurd (h.trans b0) hk0
 ·rw [e]; rcases h with h | h <;> simp [h]
structure OvOk (L : Pool) (st : (Int → Bool) × List Int) : Prop where
 marked : ∀ x ∈ st.2, st.1 x = true
 closed : ∀ x ∈ st.2, ∀ y, Sub L x y → y ∈ st.2
 nd : st.2.Nodup
 inp : ∀ x ∈ st.2, inP L x = true
structure OvRes (L : Pool) (t : Int) (st st' : (Int → Bool) × List Int) : Prop extends OvOk L st' where
 app : ∃ M, st'.2 = st.2 ++ M ∧ ∀ x ∈ M, Sub L t x ∧ inP L t = true
 keep : ∀ x, st.1 x = true → st'.1 x = true
 back : ∀ x, st'.1 x = true → st.1 x = true ∨ x ∈ st'.2
 all : inP L t = true → ∀ y, Sub L t y → y ∈ st'.2
theorem over_ok {L : Pool} (hW : Wf L) : ∀ (n : Nat) (t : Int) (st : (Int → Bool) × List Int), t.toNat < n → OvOk L st → (∀ x, st.1 x = true → x ≤ t → x ∈ st.2) → OvRes L t st (overS L n t st) := by
 intro n
 induction n with
 | zero => intro t st h; omega
 | succ n ih =>
  intro t st hn hst hm
  rw [overS]
  by_cases hc : inP L t = true ∧ st.1 t = false
  ·rw [if_pos hc]
   obtain ⟨hin, hv⟩ := hc
   have ht1 := (inP_iff.1 hin).1
   have hkid := (hW.node hin).2.2.2.2.1
   have low : ∀ k, k = (nodeOf L t).a ∨ k = (nodeOf L t).b → k < t := by
    intro k hk
    cases hp : inP L k with
    | true => exact (hkid k (kid_of hW hin hk hp)).2
    | false =>
     have h1 := (hW.node hin).2.1
     have h2 := (hW.node hin).2.2.1
     rcases kids_le (nodeOf L t).kind with e | e | e
     ·have := h1 (by omega); have := h2 (by omega); rcases hk with hk | hk <;> omega
     ·have b0 := h2 (by omega)
      rcases hk with hk | hk
      ·have := (hkid k (by unfold kidsOf; rw [e, hk]; simp)).2; exact this
      ·omega
     ·exact (hkid k (by unfold kidsOf; rw [e]; rcases hk with hk | hk <;> simp [hk])).2
   have o1 : OvOk L (upd st.1 t true, st.2) := ⟨fun x hx => by simp only [upd]; split <;> simp [hst.marked x hx], hst.closed, hst.nd, hst.inp⟩
   have r1 := ih (nodeOf L t).a (upd st.1 t true, st.2) (by have := low _ (.inl rfl); omega) o1 (fun x hx hle => by
    have := low _ (.inl rfl)
    simp only [upd] at hx
    rw [if_neg (by omega)] at hx
    exact hm x hx (by omega))
   generalize overS L n (nodeOf L t).a (upd st.1 t true, st.2) = s1 at *
   have r2 := ih (nodeOf L t).b s1 (by have := low _ (.inr rfl); omega) r1.toOvOk (fun x hx hle => by
    have := low _ (.inr rfl)
    rcases r1.back x hx with h | h
    ·simp only [upd] at h
     rw [if_neg (by omega)] at h
     have := hm x h (by omega)
     obtain ⟨M, e, _⟩ := r1.app
     simp only at e
     rw [e]; exact List.mem_append_left _ this
    ·exact h)
   generalize overS L n (nodeOf L t).b s1 = s2 at *
   obtain ⟨M1, e1, m1⟩ := r1.app
   obtain ⟨M2, e2, m2⟩ := r2.app
   simp only at e1
   have hvt : s2.1 t = true := r2.keep t (r1.keep t (by simp [upd]))
   have hto : t ∉ s2.2 := by
    rw [e2, e1]
    intro h
    rcases List.mem_append.1 h with h | h
    ·rcases List.mem_append.1 h with h | h
     ·have := hst.marked t h; rw [hv] at this; cases this
     ·obtain ⟨h1, h2⟩ := m1 t h
      have := (h1.le hW h2).2; have := low _ (.inl rfl); omega
    ·obtain ⟨h1, h2⟩ := m2 t h
     have := (h1.le hW h2).2; have := low _ (.inr rfl); omega
   have hall : ∀ y, Sub L t y → y ∈ s2.2 ++ [t] := by
    intro y hy
    rcases hy.head with rfl | ⟨k, hk, hs⟩
    ·simp
    ·refine List.mem_append_left _ ?_
     have hki := (hkid k hk).1
     rcases kid_ab hk with rfl | rfl
     ·rw [e2]; exact List.mem_append_left _ (r1.all hki y hs)
     ·exact r2.all hki y hs
   refine ⟨⟨fun x hx => ?_, fun x hx y hy => ?_, ?_, fun x hx => ?_⟩, ⟨M1 ++ M2 ++ [t], by simp [e2, e1], fun x hx => ?_⟩, fun x hx => ?_, fun x hx => ?_, fun _ => hall⟩
   ·simp only [List.mem_append, List.mem_singleton] at hx
    rcases hx with hx | rfl
    ·exact r2.marked x hx
    ·exact hvt
   ·simp only [List.mem_append, List.mem_singleton] at hx
    rcases hx with hx | rfl
    ·exact List.mem_append_left _ (r2.closed x hx y hy)
    ·exact hall y hy
   ·rw [List.nodup_append]
    exact ⟨r2.nd, by simp, fun x hx y hy e => by simp at hy; subst hy; exact hto (e ▸ hx)⟩
   ·simp only [List.mem_append, List.mem_singleton] at hx
    rcases hx with hx | rfl
    ·exact r2.inp x hx
    ·exact hin
   ·refine ⟨?_, hin⟩
    simp only [List.mem_append, List.mem_singleton] at hx
    rcases hx with (hx | hx) | rfl
    ·obtain ⟨h1, h2⟩ := m1 x hx
     exact (Sub.kid (.refl t) (kid_of hW hin (.inl rfl) h2)).trans h1
    ·obtain ⟨h1, h2⟩ := m2 x hx
     exact (Sub.kid (.refl t) (kid_of hW hin (.inr rfl) h2)).trans h1
    ·exact .refl _
   ·exact r2.keep x (r1.keep x (by simp only [upd]; split <;> simp [hx]))
   ·rcases r2.back x hx with h | h
    ·rcases r1.back x h with h' | h'
     ·simp only [upd] at h'
      split at h'
      ·rename_i e; subst e; right; simp
      ·exact .inl h'
     ·right; show x ∈ s2.2 ++ [t]; rw [e2]; exact List.mem_append_left _ (List.mem_append_left _ h')
    ·exact .inr (List.mem_append_left _ h)
  ·rw [if_neg hc]
   refine ⟨hst, ⟨[], by simp, by simp⟩, fun x h => h, fun x h => .inl h, fun hin y hy => ?_⟩
   have hv : st.1 t = true := by
    cases h : st.1 t with
    | true => rfl
    | false => exact absurd ⟨hin, h⟩ hc
   exact hst.closed t (hm t hv (Int.le_refl _)) y hy
theorem subs_mem {L : Pool} (hW : Wf L) {t x : Int} : x ∈ subs L t ↔ inP L t = true ∧ Sub L t x := by
 have r := over_ok hW (t.toNat + 1) t (fun _ => false, []) (by omega) ⟨by simp, by simp, by simp, by simp⟩ (by simp)
 constructor
 ·intro h
  obtain ⟨M, e, hm⟩ := r.app
  unfold subs at h
  rw [e] at h
  simp only [List.nil_append] at h
  exact ⟨(hm x h).2, (hm x h).1⟩
 ·intro h; exact r.all h.1 x h.2
theorem subs_few {L : Pool} (hW : Wf L) (t : Int) : (subs L t).length ≤ L.length := by
 have r := over_ok hW (t.toNat + 1) t (fun _ => false, []) (by omega) ⟨by simp, by simp, by simp, by simp⟩ (by simp)
 exact pool_few r.nd r.inp
end Go.Sp
end
section
open Go Go.SE
namespace Go.Proofs
attribute [local irreducible] Calls
theorem slT_bool : SlType Try.prog 70 4 1 1 := by
 refine ⟨Try.underlying70, ⟨Try.t4, _, by kernel_rfl, (by kernel_rfl : Try.t4.zero = some (.bool false)), by kernel_rfl, by kernel_rfl, rfl⟩, by omega⟩
theorem zero_bool : ∀ i z, Try.prog.info? 4 = some i → i.zero = some z → z.cells = #[Value.bool false] := by
 intro i z hi hz
 have h1 : Try.prog.info? 4 = some Try.t4 := by kernel_rfl
 rw [h1] at hi; cases hi
 have h2 : Try.t4.zero = some (.bool false) := by kernel_rfl
 rw [h2] at hz; cases hz; rfl
def brw (n : Nat) (V : Int → Bool) : List (List Value) := (List.range n).map fun i : Nat => [Value.bool (V (i : Int))]
theorem brw_len (n : Nat) (V : Int → Bool) : (brw n V).length = n := by simp [brw]
theorem brw_one (n : Nat) (V : Int → Bool) : ∀ q ∈ brw n V, q.all oneCell = true := by intro q hq; obtain ⟨t, _, rfl⟩ := List.mem_map.1 hq; rfl
theorem brw_sz (n : Nat) (V : Int → Bool) : ∀ q ∈ brw n V, q.length = 1 := by intro q hq; obtain ⟨t, _, rfl⟩ := List.mem_map.1 hq; rfl
theorem brw_false (n : Nat) : List.replicate n [Value.bool false] = brw n (fun _ => false) := by
 unfold brw; rw [List.map_const', List.length_range]
theorem brw_set (n : Nat) (V : Int → Bool) (t : Nat) (b : Bool) : (brw n V).set t [.bool b] = brw n (Sp.upd V (t : Int) b) := by
 apply List.ext_getElem?
 intro i
 rw [List.getElem?_set]
 by_cases h : t = i
 ·subst h
  rw [if_pos rfl]
  by_cases hl : t < n
  ·simp [brw, hl, Sp.upd]
  ·simp [brw, hl]
 ·rw [if_neg h]
  by_cases hl : i < n
  ·simp [brw, hl, Sp.upd, show ¬ (i : Int) = t by omega]
  ·simp [brw, hl]
section
variable {w w' : World} {e : TypeId} {s : Sl} {n : Nat} {V : Int → Bool}
theorem brw_get (h : Rws w e 1 s (brw n V)) {t : Int} (h0 : 0 ≤ t) (ht : t < n) : ∃ a, At s t 1 a ∧ s.blk a.block ∧ w.cell? a = some (.bool (V t)) := by
 obtain ⟨a, h1, h2, h3⟩ := h.at h0 (by rw [brw_len]; omega)
 refine ⟨a, h1, h3, ?_⟩
 have : (brw n V)[t.toNat]'(by rw [brw_len]; omega) = [Value.bool (V t)] := by
  simp only [brw, List.getElem_map, List.getElem_range]
  rw [show ((t.toNat : Nat) : Int) = t by omega]
 rw [this] at h2
 exact row_cell h2
theorem brw_put (h : Rws w e 1 s (brw n V)) {t : Int} (h0 : 0 ≤ t) (ht : t < n) : ∃ a, At s t 1 a ∧ s.blk a.block ∧ CanW w a ∧ ∀ b, Rws (w.setCell a (.bool b)) e 1 s (brw n (Sp.upd V t b)) ∧ Ext s.blk w (w.setCell a (.bool b)) := by
 have hset : ∀ b : Bool, ∃ a, At s t 1 a ∧ (∀ j, j < 1 → CanW w (a.add j)) ∧ ∀ w', w' = storeRow w a [Value.bool b] → Rws w' e 1 s ((brw n V).set t.toNat [.bool b]) ∧ Ext s.blk w w' := fun b => h.set (i := t.toNat) (by rw [brw_len]; omega) rfl (by omega)
 obtain ⟨a, hat, hw, _⟩ := hset true
 obtain ⟨a', h1, _, hblk⟩ := h.at h0 (by rw [brw_len]; omega)
 have same : ∀ {x : Addr}, At s t 1 x → x = a := fun hx => by
  obtain ⟨_, _, b1, hb1, rfl⟩ := hx
  obtain ⟨_, _, b2, hb2, rfl⟩ := hat
  rw [hb1] at hb2; cases hb2; rfl
 have h00 : a.add 0 = a := by simp [Addr.add]
 refine ⟨a, hat, ?_, by have := hw 0 (by omega); rwa [h00] at this, fun b => ?_⟩
 ·have := same h1; subst this; exact hblk
 ·obtain ⟨x, hx, _, hx2⟩ := hset b
  have := same hx; subst this
  have hst : storeRow w x [Value.bool b] = w.setCell x (.bool b) := by show w.setCell (x.add 0) (.bool b) = _; rw [h00]
  obtain ⟨r1, r2⟩ := hx2 _ rfl
  rw [hst] at r1 r2
  rw [brw_set, show ((t.toNat : Nat) : Int) = t by omega] at r1
  exact ⟨r1, r2⟩
end
structure WalkAt (w : World) (x q : Addr) (L : Sp.Pool) (st : (Int → Bool) × List Int) (FR : Nat → Prop) (sv so : Sl) : Prop where
 box : Box w x [.pointer (some q), sv.v, so.v] 221
 seen : Rws w 4 1 sv (brw (L.length + 1) st.1)
 out : Rws w 41 1 so (tmr st.2)
 pool : PoolR w q L FR
 n1 : ¬ sv.blk x.block
 n2 : ¬ so.blk x.block
 n3 : ∀ b, sv.blk b → ¬ so.blk b
 n4 : ∀ b, FR b → b ≠ x.block ∧ ¬ sv.blk b ∧ ¬ so.blk b
def WF (x : Addr) (sv so : Sl) (b : Nat) : Prop := b = x.block ∨ sv.blk b ∨ so.blk b
theorem PoolR.at7 {w : World} {q : Addr} {L : Sp.Pool} {FR : Nat → Prop} (h : PoolR w q L FR) {t : Int} (ht : Sp.inP L t = true) (hok : Sp.Ok L) : ∃ v, w.cell? q = some (Sl.v v) ∧ ∃ a, At v (IntKind.i64.wrap (t - 1)) 7 a ∧ w.cell? (a.add 5) = some (.int .i64 (Sp.nodeOf L t).a) ∧ w.cell? (a.add 6) = some (.int .i64 (Sp.nodeOf L t).b) := by
 obtain ⟨s1, s2, s3, h, _⟩ := h
 obtain ⟨i, hi, rfl⟩ := Sp.inP_at ht
 have := hok.few
 obtain ⟨a, h1, h2⟩ := h.r1.nth hi
 rw [IntWalk.i64_in _ (by omega), show (i : Int) + 1 - 1 = i by omega]
 have hn := Sp.nodeOf_lt hi
 have e0 : rnode L[i] = nrow (Sp.nodeOf L ((i : Int) + 1)) := by rw [hn]; rfl
 rw [e0] at h2
 exact ⟨s1, h.box.cell0, a, h1, h2 5 (by simp [nrow]), h2 6 (by simp [nrow])⟩
theorem c_ref05_over (x q : Addr) {L : Sp.Pool} (hW : Sp.Wf L) : ∀ (n : Nat) (t : Int) (w0 : World) (st : (Int → Bool) × List Int) (FR : Nat → Prop) (sv so : Sl), t.toNat < n → WalkAt w0 x q L st FR sv so → Sp.OvOk L st → (∀ y, st.1 y = true → y ≤ t → y ∈ st.2) →
  Calls Try.prog 144 #[.pointer (some x), .int .i64 t] w0 (fun e w' => e = .returned (.tuple #[]) ∧ ∃ so', WalkAt w' x q L (Sp.overS L n t st) FR sv so' ∧ Ext (WF x sv so) w0 w' ∧ ∀ b, so'.blk b → so.blk b ∨ w0.heap.size ≤ b) := by
 intro n
 induction n with
 | zero => intro t w0 st FR sv so h; omega
 | succ n ih =>
 intro t w0 st FR sv so hn h hst hm
 have hR := Sp.over_ok hW (n + 1) t st hn hst hm
 suffices key : ∀ K : World → Prop, (∀ so' w', WalkAt w' x q L (Sp.overS L (n + 1) t st) FR sv so' → Ext (WF x sv so) w0 w' → (∀ b, so'.blk b → so.blk b ∨ w0.heap.size ≤ b) → K w') → m_ref05_Walk_over (some x) t w0 K from
  w_ref05_Walk_over _ _ w0 _ (key _ (fun so' w' a b c => ⟨so', a, b, c⟩))
 intro K hK
 unfold m_ref05_Walk_over
 refine ⟨x, rfl, _, h.box.cell0, ?_⟩
 refine (c_ref05_In q t w0 h.pool).mono ?_
 rintro _ w0 ⟨r1, rfl, rfl, rfl⟩
 refine ⟨_, rfl, fun hc => ?_, fun hc => ?_⟩
 ·have hin : Sp.inP L t = false := by simpa using hc
  unfold m_ref05_Walk_over_j1
  refine Br.t rfl ?_
  rw [Sp.overS, if_neg (by simp [hin])] at hK
  exact hK so w0 h (Ext.refl _) (fun b hb => .inl hb)
 have hin : Sp.inP L t = true := by simpa using hc
 obtain ⟨t1, tL⟩ := Sp.inP_iff.1 hin
 obtain ⟨a13, at13, _, c13⟩ := brw_get h.seen (t := t) (by omega) (by omega)
 refine ⟨x, rfl, sv, h.box.cell rfl, a13, at13, _, c13, ?_⟩
 unfold m_ref05_Walk_over_j1
 refine ⟨fun hv => ?_, fun hv => ?_⟩
 ·rw [Sp.overS, if_neg (by simp [hv])] at hK
  exact hK so w0 h (Ext.refl _) (fun b hb => .inl hb)
 rw [Sp.overS, if_pos ⟨hin, hv⟩] at hK hR
 obtain ⟨a2, at2, hb2, cw2, hput⟩ := brw_put h.seen (t := t) (by omega) (by omega)
 refine ⟨x, rfl, sv, h.box.cell rfl, a2, at2, cw2, ?_⟩
 rintro _ rfl
 obtain ⟨R2, E2⟩ := hput true
 have A2 : WalkAt (w0.setCell a2 (.bool true)) x q L (Sp.upd st.1 t true, st.2) FR sv so :=
  ⟨h.box.ext E2 h.n1, R2, h.out.ext E2 (fun b hb hb2 => h.n3 b hb2 hb), h.pool.ext E2 (fun b hb hb2 => (h.n4 b hb).2.1 hb2), h.n1, h.n2, h.n3, h.n4⟩
 generalize w0.setCell a2 (.bool true) = w2 at *
 obtain ⟨v3, c3, a5, at5, ca, cb⟩ := A2.pool.at7 hin hW.ok
 refine ⟨x, rfl, _, A2.box.cell0, q, rfl, v3, c3, a5, at5, _, ca, ?_⟩
 have low : ∀ k, k = (Sp.nodeOf L t).a ∨ k = (Sp.nodeOf L t).b → k < t := by
  intro k hk
  have hkid := (hW.node hin).2.2.2.2.1
  cases hp : Sp.inP L k with
  | true => exact (hkid k (Sp.kid_of hW hin hk hp)).2
  | false =>
   have h1 := (hW.node hin).2.1
   have h2 := (hW.node hin).2.2.1
   rcases Sp.kids_le (Sp.nodeOf L t).kind with e | e | e
   ·have := h1 (by omega); have := h2 (by omega); rcases hk with hk | hk <;> omega
   ·have b0 := h2 (by omega)
    rcases hk with hk | hk
    ·have := (hkid k (by unfold Sp.kidsOf; rw [e, hk]; simp)).2; exact this
    ·omega
   ·exact (hkid k (by unfold Sp.kidsOf; rw [e]; rcases hk with hk | hk <;> simp [hk])).2
 have la := low _ (.inl rfl)
 have lb := low _ (.inr rfl)
 have o1 : Sp.OvOk L (Sp.upd st.1 t true, st.2) := ⟨fun y hy => by simp only [Sp.upd]; split <;> simp [hst.marked y hy], hst.closed, hst.nd, hst.inp⟩
 have m1 : ∀ y, (Sp.upd st.1 t true, st.2).1 y = true → y ≤ (Sp.nodeOf L t).a → y ∈ (Sp.upd st.1 t true, st.2).2 := fun y hy hle => by
  simp only [Sp.upd] at hy
  rw [if_neg (by omega)] at hy
  exact hm y hy (by omega)
 have r1 := Sp.over_ok hW n (Sp.nodeOf L t).a _ (by omega) o1 m1
 refine (ih (Sp.nodeOf L t).a w2 _ FR sv so (by omega) A2 o1 m1).mono ?_
 rintro _ w3 ⟨rfl, so3, A3, X3, f3⟩
 generalize hs1 : Sp.overS L n (Sp.nodeOf L t).a (Sp.upd st.1 t true, st.2) = s1 at *
 obtain ⟨v6, c6, a8, at8, _, cb3⟩ := A3.pool.at7 hin hW.ok
 refine ⟨rfl, x, rfl, _, A3.box.cell0, q, rfl, v6, c6, a8, at8, _, cb3, ?_⟩
 have m2 : ∀ y, s1.1 y = true → y ≤ (Sp.nodeOf L t).b → y ∈ s1.2 := fun y hy hle => by
  rcases r1.back y hy with h' | h'
  ·simp only [Sp.upd] at h'
   rw [if_neg (by omega)] at h'
   have := hm y h' (by omega)
   obtain ⟨M, e, _⟩ := r1.app
   simp only at e
   rw [e]; exact List.mem_append_left _ this
  ·exact h'
 have r2 := Sp.over_ok hW n (Sp.nodeOf L t).b s1 (by omega) r1.toOvOk m2
 refine (ih (Sp.nodeOf L t).b w3 s1 FR sv so3 (by omega) A3 r1.toOvOk m2).mono ?_
 rintro _ w4 ⟨rfl, so4, A4, X4, f4⟩
 generalize hs2 : Sp.overS L n (Sp.nodeOf L t).b s1 = s2 at *
 refine ⟨rfl, x, rfl, so4, A4.box.cell rfl, ?_⟩
 intro p1 w5 h5
 have E5 : Pure w4 w5 := Ext.new h5
 have hfew : s2.2.length ≤ 65536 := by have := Sp.pool_few r2.nd r2.inp; have := hW.ok.few; omega
 obtain ⟨s1', w6, hr6, R6, X6, f6⟩ := (A4.out.pure E5).append (P := Try.prog) (ty := 26) (c := 1) slT_tm (r := [.int .i64 t]) (Box.of_new h5).row rfl rfl (by rw [tmr_len]; omega) (by rw [tmr_len]; simp [maxLen]; omega)
 have b6 := (A4.box.pure E5).ext X6 A4.n2
 refine ⟨s1', w6, hr6, x, rfl, b6.canW (by simp), ?_⟩
 rintro _ rfl
 have E7 := Ext.setCell (w := w6) (x.add 2) s1'.v
 rw [add_block] at E7
 have z2 : w0.heap.size ≤ w2.heap.size := E2.size
 have z3 := X3.size
 have z4 := X4.size
 have z5 := E5.size
 have f6' : ∀ b, s1'.blk b → so4.blk b ∨ w4.heap.size ≤ b := fun b hb => (f6 b hb).imp_right (fun h => by omega)
 have nx : ¬ s1'.blk x.block := fun hh => (f6' _ hh).elim A4.n2 (fun hh => by have := A4.box.lt; omega)
 have nv : ∀ b, sv.blk b → ¬ s1'.blk b := fun b hb hh => (f6' b hh).elim (A4.n3 b hb) (fun hh => by have := A4.seen.lt hb; omega)
 have hfin := hK s1' (w6.setCell (x.add 2) s1'.v)
 refine hfin ⟨b6.set 2 s1'.v, ((A4.seen.pure E5).ext X6 A4.n3).ext E7 (fun b hb e => A4.n1 (e ▸ hb)), ?_, ((A4.pool.pure E5).ext X6 (fun b hb => (A4.n4 b hb).2.2)).ext E7 (fun b hb e => (A4.n4 b hb).1 e), A4.n1, nx, nv, fun b hb => ⟨(A4.n4 b hb).1, (A4.n4 b hb).2.1, fun hh => (f6' b hh).elim (A4.n4 b hb).2.2 (fun hh => by have := A4.pool.lt hb; omega)⟩⟩ ?_ ?_
 ·show Rws _ _ _ _ (tmr (s2.2 ++ [t]))
  rw [show tmr (s2.2 ++ [t]) = tmr s2.2 ++ [[.int .i64 t]] by simp [tmr]]
  exact R6.ext E7 (fun b hb e => nx (e ▸ hb))
 ·have f34 : ∀ b, so4.blk b → b < w0.heap.size → so.blk b := fun b hb hlt => by
   rcases f4 b hb with h1 | h1
   ·exact (f3 b h1).elim id (fun h2 => by omega)
   ·omega
  have f33 : ∀ b, so3.blk b → b < w0.heap.size → so.blk b := fun b hb hlt => (f3 b hb).elim id (fun h2 => by omega)
  refine ((((E2.mono (fun b _ hb => .inr (.inl hb))).trans X3).trans' X4 (fun i hi hb => ?_)).trans' (E5.pure (F := WF x sv so4)) (fun i hi hb => ?_)).trans' ((X6.mono (fun b _ hb => .inr (.inr hb))).trans (E7.mono (fun b _ e => .inl e))) (fun i hi (hb : WF x sv so4 i) => ?_)
  ·rcases hb with hb | hb | hb
   ·exact .inl hb
   ·exact .inr (.inl hb)
   ·exact .inr (.inr (f33 i hb hi))
  ·rcases hb with hb | hb | hb
   ·exact .inl hb
   ·exact .inr (.inl hb)
   ·exact .inr (.inr (f34 i hb hi))
  ·rcases hb with hb | hb | hb
   ·exact .inl hb
   ·exact .inr (.inl hb)
   ·exact .inr (.inr (f34 i hb hi))
 ·intro b hb
  rcases f6' b hb with h1 | h1
  ·rcases f4 b h1 with h2 | h2
   ·exact (f3 b h2).imp_right (fun h => by omega)
   ·right; omega
  ·right; omega
theorem c_ref05_Subs (q : Addr) (t : Int) (w0 : World) {L : Sp.Pool} {FR : Nat → Prop} (hW : Sp.Wf L) (hP : PoolR w0 q L FR) :
  Calls Try.prog 102 #[.pointer (some q), .int .i64 t] w0 (fun e w' => ∃ r : Sl, e = .returned r.v ∧ RetO w0 41 1 (tmr (Sp.subs L t)) r w') := by
 refine w_ref05_Pool_Subs _ _ w0 (fun r w' => RetO w0 41 1 (tmr (Sp.subs L t)) r w') ?_
 unfold m_ref05_Pool_Subs
 obtain ⟨v1, hv1, hv1l⟩ : ∃ v1 : Sl, w0.cell? q = some v1.v ∧ v1.len = L.length := by
  obtain ⟨s1, s2, s3, h, _⟩ := hP
  exact ⟨s1, h.box.cell0, by rw [h.r1.len]; simp⟩
 have hL := hW.ok.few
 refine ⟨q, rfl, v1, hv1, ?_⟩
 rw [hv1l, IntWalk.i64_in _ (by omega), show ((L.length : Int) + 1) = ((L.length + 1 : Nat) : Int) by omega]
 obtain ⟨w1, hr1, R1, E1⟩ := Rws.make (P := Try.prog) slT_bool zero_bool (k := .i64) (k' := .i64) (n := L.length + 1) (by omega) (by simp [maxLen]; omega) w0
 rw [brw_false] at R1
 refine ⟨_, w1, hr1, ?_⟩
 intro p2 w2 h2
 have E2 : Pure w1 w2 := Ext.new h2
 have hp2 := h2.at_size
 have hnil : ∀ b, ¬ Sl.nil.blk b := fun b hb => by obtain ⟨a, h, _⟩ := hb; cases h
 have hsv : ∀ b, (Sl.mk (some ⟨w0.heap.size, 0, none⟩) (L.length + 1) (L.length + 1)).blk b → b = w0.heap.size := by rintro b ⟨a, ha, rfl⟩; cases ha; rfl
 have z1 := E1.size
 have l1 : w0.heap.size < w1.heap.size := R1.lt ⟨_, rfl, rfl⟩
 have A2 : WalkAt w2 p2 q L (fun _ => false, []) FR ⟨some ⟨w0.heap.size, 0, none⟩, L.length + 1, L.length + 1⟩ Sl.nil := by
  refine ⟨Box.of_new h2, R1.pure E2, Rws.nil _ _ _, (hP.pure E1).pure E2, fun hb => by have := hsv _ hb; omega, hnil _, fun b _ => hnil b, fun b hb => ⟨fun e => ?_, fun hh => ?_, hnil b⟩⟩
  ·have := hP.lt hb; omega
  ·have := hsv _ hh; have := hP.lt hb; omega
 refine (c_ref05_over p2 q hW (t.toNat + 1) t w2 _ FR _ Sl.nil (by omega) A2 ⟨by simp, by simp, by simp, by simp⟩ (by simp)).mono ?_
 rintro _ w3 ⟨rfl, so, A3, X3, f3⟩
 refine ⟨rfl, so, A3.box.cell rfl, A3.out, fun b hb => ?_, (E1.trans E2).trans' X3 (fun i hi hb => ?_)⟩
 ·rcases f3 b hb with h | h
  ·exact (hnil b h).elim
  ·have := E2.size; omega
 ·rcases hb with hb | hb | hb
  ·omega
  ·have := hsv _ hb; omega
  ·exact hnil _ hb
end Go.Proofs
end
section
open Go Go.SE
namespace Go.Proofs
attribute [local irreducible] Calls
structure K8S (w : World) (x q : Addr) (G : List Int) (sg : Sl) : Prop where
 box : Box w x [.pointer (some q), sg.v] 66
 giv : Rws w 41 1 sg (tmr G)
 n1 : ¬ sg.blk x.block
def K8At (w : World) (x q : Addr) (G : List Int) (F : Nat → Prop) : Prop := ∃ sg, K8S w x q G sg ∧ ∀ b, F b ↔ (b = x.block ∨ sg.blk b)
section
variable {w w' : World} {x q : Addr} {G : List Int} {F : Nat → Prop}
theorem K8At.ext {X : Nat → Prop} (h : K8At w x q G F) (hE : Ext X w w') (hd : ∀ b, F b → ¬ X b) : K8At w' x q G F := by
 obtain ⟨sg, h, hF⟩ := h
 exact ⟨sg, ⟨h.box.ext hE (hd _ ((hF _).2 (.inl rfl))), h.giv.ext hE (fun b hb => hd _ ((hF _).2 (.inr hb))), h.n1⟩, hF⟩
theorem K8At.pure (h : K8At w x q G F) (hE : Pure w w') : K8At w' x q G F := h.ext hE (fun _ _ h => h)
theorem K8At.lt (h : K8At w x q G F) {b : Nat} (hb : F b) : b < w.heap.size := by
 obtain ⟨sg, h, hF⟩ := h
 rcases (hF b).1 hb with rfl | hb
 ·exact h.box.lt
 ·exact h.giv.lt hb
end
theorem c_r08_Add (x q : Addr) (t : Int) (w0 : World) {L : Sp.Pool} {G : List Int} {F FR : Nat → Prop} (h : K8At w0 x q G F) (hP : PoolR w0 q L FR) (hn : G.length ≤ 100000) :
  Calls Try.prog 38 #[.pointer (some x), .int .i64 t] w0 (fun e w' => ∃ r : Int, e = .returned (.int .i64 r) ∧ ∃ F', K8At w' x q (Sp.giveT L G t) F' ∧ Ext F w0 w' ∧ ∀ b, F' b → F b ∨ w0.heap.size ≤ b) := by
 refine w_ref08_Know_Add _ _ w0 (fun r w' => ∃ F', K8At w' x q (Sp.giveT L G t) F' ∧ Ext F w0 w' ∧ ∀ b, F' b → F b ∨ w0.heap.size ≤ b) ?_
 unfold m_ref08_Know_Add
 have hA := h
 obtain ⟨sg, h, hF⟩ := h
 refine ⟨x, rfl, _, h.box.cell0, ?_⟩
 refine (c_ref05_In q t w0 hP).mono ?_
 rintro _ w0 ⟨r1, rfl, rfl, rfl⟩
 refine ⟨_, rfl, fun hc => ?_, fun hc => ?_⟩
 ·have hin : Sp.inP L t = false := by simpa using hc
  have : Sp.giveT L G t = G := by unfold Sp.giveT; rw [if_neg (by simp [hin])]
  rw [this]; exact ⟨F, hA, Ext.refl _, fun b hb => .inl hb⟩
 have hin : Sp.inP L t = true := by simpa using hc
 have hg : Sp.giveT L G t = Sp.addT G t := by unfold Sp.giveT; rw [if_pos hin]
 rw [hg]
 refine ⟨x, rfl, sg, h.box.cell rfl, ?_⟩
 refine (c_r08_Has sg G t w0 h.giv.lst (by omega)).mono ?_
 rintro _ w0 ⟨r2, rfl, rfl, rfl⟩
 refine ⟨_, rfl, fun hc => ?_, fun hc => ?_⟩
 ·have hnG : t ∉ G := by simpa using hc
  have hadd : Sp.addT G t = G ++ [t] := if_neg hnG
  rw [hadd]
  refine ⟨x, rfl, sg, h.box.cell rfl, ?_⟩
  intro p1 w3 h3
  have E3 : Pure w0 w3 := Ext.new h3
  obtain ⟨s1, w4, hr4, R4, X4, f4⟩ := (h.giv.pure E3).append (P := Try.prog) (ty := 26) (c := 1) slT_tm (r := [.int .i64 t]) (Box.of_new h3).row rfl rfl (by rw [tmr_len]; omega) (by rw [tmr_len]; simp [maxLen]; omega)
  have b4 := (h.box.pure E3).ext X4 h.n1
  refine ⟨s1, w4, hr4, x, rfl, b4.canW (by simp), ?_⟩
  rintro _ rfl
  have E5 := Ext.setCell (w := w4) (x.add 1) s1.v
  rw [add_block] at E5
  have f4' : ∀ b, s1.blk b → sg.blk b ∨ w0.heap.size ≤ b := fun b hb => (f4 b hb).imp_right (fun h => by have := E3.size; omega)
  have nx : ¬ s1.blk x.block := fun hh => (f4' _ hh).elim h.n1 (fun hh => by have := h.box.lt; omega)
  refine ⟨fun b => b = x.block ∨ s1.blk b, ⟨s1, ⟨b4.set 1 s1.v, by rw [show tmr (G ++ [t]) = tmr G ++ [[.int .i64 t]] by simp [tmr]]; exact R4.ext E5 (fun b hb e => nx (e ▸ hb)), nx⟩, fun b => Iff.rfl⟩, ?_, fun b hb => ?_⟩
  ·exact ((E3.pure (F := F)).trans (X4.mono (fun b _ hb => (hF b).2 (.inr hb)))).trans (E5.mono (fun b _ e => (hF b).2 (.inl e)))
  ·rcases hb with hb | hb
   ·exact .inl ((hF b).2 (.inl hb))
   ·exact (f4' b hb).imp_left (fun h => (hF b).2 (.inr h))
 ·have hG : t ∈ G := by simpa using hc
  have hadd : Sp.addT G t = G := if_pos hG
  rw [hadd]; exact ⟨F, hA, Ext.refl _, fun b hb => .inl hb⟩
theorem shows_eq (k : Int) : s_ref08_shows k = Sp.showsK k := rfl
theorem c_r08_seen (x q : Addr) (w0 : World) {L : Sp.Pool} {G : List Int} {F FR : Nat → Prop} (h : K8At w0 x q G F) (hP : PoolR w0 q L FR) (hW : Sp.Wf L) (hG : ∀ g ∈ G, Sp.inP L g = true) (hGn : G.length ≤ 100000) :
  Calls Try.prog 96 #[.pointer (some x)] w0 (fun e w' => ∃ r : Sl, e = .returned r.v ∧ ∃ V, RetO w0 4 1 (brw (L.length + 1) V) r w' ∧ ∀ t, Sp.inP L t = true → (V t = true ↔ Sp.Seen L G t)) := by
 suffices key : ∀ K : Sl → World → Prop, (∀ r w' V, RetO w0 4 1 (brw (L.length + 1) V) r w' → (∀ t, Sp.inP L t = true → (V t = true ↔ Sp.Seen L G t)) → K r w') → m_ref08_Know_seen (some x) w0 K from
  w_ref08_Know_seen _ w0 _ (key _ (fun r w' V a b => ⟨V, a, b⟩))
 intro K hK
 unfold m_ref08_Know_seen
 have hL := hW.ok.few
 obtain ⟨sg, h, hF⟩ := h
 obtain ⟨v2, hv2, hv2l⟩ : ∃ v1 : Sl, w0.cell? q = some v1.v ∧ v1.len = L.length := by
  obtain ⟨s1, s2, s3, h, _⟩ := hP
  exact ⟨s1, h.box.cell0, by rw [h.r1.len]; simp⟩
 refine ⟨x, rfl, _, h.box.cell0, q, rfl, v2, hv2, ?_⟩
 rw [hv2l, IntWalk.i64_in _ (by omega), show ((L.length : Int) + 1) = ((L.length + 1 : Nat) : Int) by omega]
 obtain ⟨w1, hr1, R1, E1⟩ := Rws.make (P := Try.prog) slT_bool zero_bool (k := .i64) (k' := .i64) (n := L.length + 1) (by omega) (by simp [maxLen]; omega) w0
 rw [brw_false] at R1
 refine ⟨_, w1, hr1, E1.keptP, ?_⟩
 generalize hsv : (Sl.mk (some ⟨w0.heap.size, 0, none⟩) (L.length + 1) (L.length + 1)) = sv at *
 have hsvb : ∀ b, sv.blk b → b = w0.heap.size := by subst hsv; rintro b ⟨a, ha, rfl⟩; cases ha; rfl
 have nF : ∀ b, sv.blk b → ∀ {Z : Nat → Prop}, (∀ c, Z c → c < w0.heap.size) → ¬ Z b := fun b hb Z hz hh => by have := hsvb b hb; have := hz b hh; omega
 have hlg : sg.len = G.length := by rw [h.giv.len, tmr_len]
 refine ⟨fun i H w' => ∃ j : Nat, i = j ∧ j ≤ G.length ∧ Pure w0 w' ∧ (∀ b, sv.blk b → ¬ H b) ∧ ∃ V, Rws w' 4 1 sv (brw (L.length + 1) V) ∧ ∀ t, V t = true ↔ t ∈ G.take j, fun i _ => ((G.length : Int) - i).toNat, ⟨0, rfl, Nat.zero_le _, E1, fun b _ h => h, _, R1, by simp⟩, ?_⟩
 rintro _ Hl wl hl ⟨j, rfl, hj, El, hv, V, RV, hV⟩
 have hx := h.box.pure El
 have hg := h.giv.pure El
 unfold m_ref08_Know_seen_l1
 refine ⟨x, rfl, sg, hx.cell rfl, fun hc => ?_, fun hc => ?_⟩
 ·have hlt := lt_of_dec hlg hc
  obtain ⟨a5, at5, _, c5⟩ := tm_nth hg.lst hlt
  have htk : G.take (j + 1) = G.take j ++ [G[j]] := List.take_succ_eq_append_getElem hlt
  have hgi := Sp.inP_iff.1 (hG _ (List.getElem_mem hlt))
  obtain ⟨a6, at6, hb6, cw6, hput⟩ := brw_put RV (t := G[j]) (by omega) (by omega)
  refine ⟨x, rfl, sg, hx.cell rfl, a5, at5, _, c5, a6, at6, cw6, hv _ hb6, ?_⟩
  rintro _ rfl
  obtain ⟨R2, E2⟩ := hput true
  rw [wrap_succ hlt (by omega)]
  refine ⟨⟨j + 1, rfl, hlt, El.trans' E2 (fun i hi hb => by have := hsvb i hb; omega), hv, _, R2, fun t => ?_⟩, lt_dec hlt⟩
  rw [htk, List.mem_append, List.mem_singleton]
  simp only [Sp.upd]
  split
  ·rename_i e; simp [e]
  ·rename_i e; rw [hV]; exact ⟨.inl, fun h => h.elim id (fun h => absurd h e)⟩
 ·have hge := eq_of_dec hlg hj hc
  subst hge
  rw [List.take_length] at hV
  obtain ⟨v7, hv7, hv7l⟩ : ∃ v1 : Sl, wl.cell? q = some v1.v ∧ v1.len = L.length := by
   obtain ⟨s1, s2, s3, h, _⟩ := hP.pure El
   exact ⟨s1, h.box.cell0, by rw [h.r1.len]; simp⟩
  refine ⟨x, rfl, _, hx.cell0, q, rfl, v7, hv7, ?_⟩
  rw [hv7l]
  refine ⟨fun i H w' => ∃ j : Nat, i = (L.length : Int) - j ∧ j ≤ L.length ∧ Pure w0 w' ∧ (∀ b, sv.blk b → ¬ H b) ∧ ∃ V, Rws w' 4 1 sv (brw (L.length + 1) V) ∧ (∀ t, V t = true → Sp.Seen L G t) ∧ (∀ g ∈ G, V g = true) ∧ ∀ u, i < u → u ≤ L.length → V u = true → ∀ r y, Sp.Arises L r u y → V y = true, fun i _ => i.toNat,
   ⟨0, by simp, Nat.zero_le _, El, hv, V, RV, fun t ht => .given ((hV t).1 ht), fun g hg => (hV g).2 hg, fun u h1 h2 => by omega⟩, ?_⟩
  rintro _ Hm wm hm ⟨j, rfl, hj, Em, hvm, V, RV, h1, h2, h3⟩
  unfold m_ref08_Know_seen_l2
  refine ⟨fun hc => ?_, fun hc => ?_⟩
  ·have hc := of_decide_eq_true hc
   have hin : Sp.inP L ((L.length : Int) - j) = true := Sp.inP_iff.2 ⟨by omega, by omega⟩
   have hwr : IntKind.i64.wrap (((L.length : Int) - j) - 1) = (L.length : Int) - ((j + 1 : Nat) : Int) := by rw [IntWalk.i64_in _ (by omega)]; omega
   generalize ht : (L.length : Int) - j = t at *
   refine ⟨x, rfl, _, (h.box.pure Em).cell0, ?_⟩
   refine (c_ref05_Node q t wm (hP.pure Em) hW.ok).mono ?_
   rintro _ w3 ⟨nk, nf, nt, nu, nx, na, nb, ok, rfl, ⟨hn, _⟩, E3⟩
   refine ⟨_, _, _, _, _, _, _, _, rfl, E3.keptP, ?_⟩
   have hk1 : (Sp.nodeOf L t).kind = nk := by rw [← hn]
   have ha : (Sp.nodeOf L t).a = na := by rw [← hn]
   have hb : (Sp.nodeOf L t).b = nb := by rw [← hn]
   obtain ⟨a12, at12, _, _⟩ := brw_get (RV.pure E3) (t := t) (by omega) (by omega)
   refine ⟨a12, at12, ?_⟩
   intro H1 w5 hs5
   have hs3 : Hst w0 Hm w3 Hm w3 := hm.again E3.keptP
   have O5 : Own H1 w5 4 1 sv (brw (L.length + 1) V) := (Own.hst ⟨RV.pure E3, hvm⟩ hs5)
   have E5 := (Em.trans E3).hst hs5
   obtain ⟨a12', at12', _, c12⟩ := brw_get O5.rows (t := t) (by omega) (by omega)
   have : a12' = a12 := by
    obtain ⟨_, _, b1, hb1, rfl⟩ := at12
    obtain ⟨_, _, b2, hb2, rfl⟩ := at12'
    rw [hb1] at hb2; cases hb2; rfl
   subst this
   refine ⟨_, c12, ?_⟩
   intro H3 w11 hs11
   have O11 := O5.hst hs11
   have E11 := E5.hst hs11
   unfold m_ref08_Know_seen_j3
   rw [shows_eq]
   have hmu : ∀ y : Int, y = (L.length : Int) - ((j + 1 : Nat) : Int) → y.toNat < t.toNat := fun y e => by omega
   refine ⟨fun hx1 => ?_, fun hx1 => ?_⟩
   ·rw [Bool.and_eq_true, Bool.or_eq_true] at hx1
    obtain ⟨hvt, hkk⟩ := hx1
    have hsn := h1 t hvt
    have hna : Sp.inP L na = true ∧ na < t ∧ Sp.Seen L G na := by
     rcases hkk with hk | hk
     ·have hk4 : nk = 4 := by simpa using hk
      have := (Sp.kids4 hW hin (by rw [hk1]; exact hk4)).1
      rw [ha] at this
      exact ⟨this.1, this.2, .from hsn (.inl ⟨rfl, by rw [hk1]; exact hk4, ha⟩)⟩
     ·have := Sp.kids7 hW hin (by rw [hk1]; exact hk)
      rw [ha] at this
      exact ⟨this.1, this.2, .from hsn (.inr (.inr ⟨rfl, by rw [hk1]; exact hk, ha⟩))⟩
    have hna1 := Sp.inP_iff.1 hna.1
    obtain ⟨a10, at10, hb10, cw10, hput⟩ := brw_put O11.rows (t := na) (by omega) (by omega)
    refine ⟨a10, at10, cw10, O11.vis _ hb10, ?_⟩
    rintro _ rfl
    obtain ⟨R6, X6⟩ := hput true
    have E6 : Pure w0 (w11.setCell a10 (.bool true)) := E11.trans' X6 (fun i hi hb => by have := hsvb i hb; omega)
    generalize w11.setCell a10 (.bool true) = w6 at *
    refine ⟨fun hk => ?_, fun hk => ?_⟩
    ·have hk4 : nk = 4 := by simpa using hk
     have hnb := (Sp.kids4 hW hin (by rw [hk1]; exact hk4)).2
     rw [hb] at hnb
     have hnb1 := Sp.inP_iff.1 hnb.1
     obtain ⟨a11, at11, hb11, cw11, hput⟩ := brw_put R6 (t := nb) (by omega) (by omega)
     refine ⟨a11, at11, cw11, O11.vis _ hb11, ?_⟩
     rintro _ rfl
     obtain ⟨R7, X7⟩ := hput true
     have E7 : Pure w0 (w6.setCell a11 (.bool true)) := E6.trans' X7 (fun i hi hb => by have := hsvb i hb; omega)
     refine ⟨⟨j + 1, hwr, by omega, E7, O11.vis, _, R7, fun y hy => ?_, fun g hg => ?_, fun u hu1 hu2 hu3 r y hay => ?_⟩, hmu _ hwr⟩
     ·simp only [Sp.upd] at hy
      split at hy
      ·rename_i e; rw [e]; exact .from hsn (.inr (.inl ⟨rfl, by rw [hk1]; exact hk4, hb⟩))
      ·split at hy
       ·rename_i e; rw [e]; exact hna.2.2
       ·exact h1 y hy
     ·simp only [Sp.upd]; split
      ·rfl
      ·split
       ·rfl
       ·exact h2 g hg
     ·rw [hwr] at hu1
      have hc3 : ∀ y, V y = true → Sp.upd (Sp.upd V na true) nb true y = true := fun y hy => by simp only [Sp.upd]; split <;> (try split) <;> simp_all
      by_cases hut : u = t
      ·subst hut
       rcases hay with ⟨_, _, e⟩ | ⟨_, _, e⟩ | ⟨_, hk7, _⟩
       ·rw [← e, ha]; simp only [Sp.upd]; split <;> simp
       ·rw [← e, hb]; simp [Sp.upd]
       ·rw [hk1, hk4] at hk7; cases hk7
      ·simp only [Sp.upd] at hu3
       rw [if_neg (by omega), if_neg (by omega)] at hu3
       exact hc3 y (h3 u (by omega) hu2 hu3 r y hay)
    ·have hk4 : ¬ nk = 4 := by simpa using hk
     refine ⟨⟨j + 1, hwr, by omega, E6, O11.vis, _, R6, fun y hy => ?_, fun g hg => ?_, fun u hu1 hu2 hu3 r y hay => ?_⟩, hmu _ hwr⟩
     ·simp only [Sp.upd] at hy
      split at hy
      ·rename_i e; rw [e]; exact hna.2.2
      ·exact h1 y hy
     ·simp only [Sp.upd]; split
      ·rfl
      ·exact h2 g hg
     ·rw [hwr] at hu1
      by_cases hut : u = t
      ·subst hut
       rcases hay with ⟨_, hk', _⟩ | ⟨_, hk', _⟩ | ⟨_, _, e⟩
       ·rw [hk1] at hk'; exact absurd hk' hk4
       ·rw [hk1] at hk'; exact absurd hk' hk4
       ·rw [← e, ha]; simp [Sp.upd]
      ·simp only [Sp.upd] at hu3
       rw [if_neg (by omega)] at hu3
       have := h3 u (by omega) hu2 hu3 r y hay
       simp only [Sp.upd]; split
       ·rfl
       ·exact this
   ·refine ⟨⟨j + 1, hwr, by omega, E11, O11.vis, V, O11.rows, h1, h2, fun u hu1 hu2 hu3 r y hay => ?_⟩, hmu _ hwr⟩
    rw [hwr] at hu1
    by_cases hut : u = t
    ·subst hut
     rw [hu3] at hx1
     simp only [Bool.true_and, Bool.or_eq_false_iff] at hx1
     rcases hay with ⟨_, hk', _⟩ | ⟨_, hk', _⟩ | ⟨_, hk', _⟩
     ·rw [hk1] at hk'; rw [hk'] at hx1; simp at hx1
     ·rw [hk1] at hk'; rw [hk'] at hx1; simp at hx1
     ·rw [hk1] at hk'; rw [hk'] at hx1; simp at hx1
    ·exact h3 u (by omega) hu2 hu3 r y hay
  ·have hc := of_decide_eq_false hc
   have hj : (L.length : Int) - j = 0 := by omega
   refine hK sv wm V ⟨RV, fun b hb => by have := hsvb b hb; omega, Em⟩ (fun t ht => ⟨h1 t, fun hs => ?_⟩)
   have : ∀ t, Sp.Seen L G t → Sp.inP L t = true ∧ V t = true := by
    intro t hs
    induction hs with
    | given hg => exact ⟨hG _ hg, h2 _ hg⟩
    | «from» _ hay ih =>
     have hu := Sp.inP_iff.1 ih.1
     exact ⟨(hay.inp hW ih.1).1, h3 _ (by omega) (by omega) ih.2 _ _ hay⟩
   exact (this t hs).2
theorem c_r08_key (x q : Addr) (name : Int) (si : Sl) (w0 : World) {L : Sp.Pool} {G : List Int} {F FR : Nat → Prop} {V : Int → Bool} (h : K8At w0 x q G F) (hP : PoolR w0 q L FR) (hok : Sp.Ok L) (hV : Rws w0 4 1 si (brw (L.length + 1) V)) :
  Calls Try.prog 97 #[.pointer (some x), si.v, .int .i64 name] w0 (fun e w' => ∃ r : Bool, e = .returned (.bool r) ∧ (r = ((Sp.keyOf L name).2 && V (Sp.keyOf L name).1) ∧ Pure w0 w')) := by
 refine w_ref08_Know_key _ _ _ w0 (fun r w' => r = ((Sp.keyOf L name).2 && V (Sp.keyOf L name).1) ∧ Pure w0 w') ?_
 unfold m_ref08_Know_key
 obtain ⟨sg, h, hF⟩ := h
 refine ⟨x, rfl, _, h.box.cell0, ?_⟩
 refine (c_ref05_Has q (Sp.keyNode name) w0 hP hok).mono ?_
 rintro _ w1 ⟨r1, r2, rfl, hr, E1⟩
 have hke : Sp.keyOf L name = (r1, r2) := by
  unfold Sp.keyOf
  cases hf : Sp.find L (Sp.keyNode name) with
  | none => rw [hf] at hr; simp only at hr; rw [hr.1, hr.2]
  | some i => rw [hf] at hr; simp only at hr; rw [hr.1, hr.2]
 rw [hke]
 refine ⟨_, _, rfl, fun h => ?_, fun h => ⟨by simp [h], E1⟩⟩
 have hko := Sp.keyOf_ok (L := L) (n := name) (by rw [hke]; exact h)
 rw [hke] at hko
 have hin := Sp.inP_iff.1 hko.1
 simp only at hin
 obtain ⟨a, hat, _, hc⟩ := brw_get (hV.pure E1) (t := r1) (by omega) (by omega)
 exact ⟨a, hat, _, hc, by simp [h], E1⟩
end Go.Proofs
end
section
open Go Go.SE
namespace Go.Sp
def l8a : Node := ⟨2, 0, 0, 1, ⟨#[]⟩, 0, 0⟩
def l8b : Node := ⟨1, 2, 0, 0, ⟨#[]⟩, 0, 0⟩
def l8c : Node := ⟨4, 0, 0, 0, ⟨#[]⟩, 1, 2⟩
def l8s : Node := ⟨7, 0, 0, 0, ⟨#[]⟩, 3, 0⟩
def l8h : Node := ⟨5, 0, 0, 0, ⟨#[]⟩, 1, 0⟩
def l8k : Node := ⟨6, 0, 0, 0, ⟨#[]⟩, 0, 0⟩
def l8u : Node := ⟨7, 0, 0, 0, ⟨#[]⟩, 1, 0⟩
def l81 : Pool := [⟨l8a, 1, 1⟩]
def l82 : Pool := [⟨l8a, 1, 1⟩, ⟨l8b, 1, 1⟩]
def l83 : Pool := [⟨l8a, 1, 1⟩, ⟨l8b, 1, 1⟩, ⟨l8c, 3, 2⟩]
def l84 : Pool := [⟨l8a, 1, 1⟩, ⟨l8b, 1, 1⟩, ⟨l8c, 3, 2⟩, ⟨l8s, 4, 3⟩]
def l85 : Pool := [⟨l8a, 1, 1⟩, ⟨l8b, 1, 1⟩, ⟨l8c, 3, 2⟩, ⟨l8s, 4, 3⟩, ⟨l8h, 2, 2⟩]
def l86 : Pool := [⟨l8a, 1, 1⟩, ⟨l8b, 1, 1⟩, ⟨l8c, 3, 2⟩, ⟨l8s, 4, 3⟩, ⟨l8h, 2, 2⟩, ⟨l8k, 1, 1⟩]
def l87 : Pool := [⟨l8a, 1, 1⟩, ⟨l8b, 1, 1⟩, ⟨l8c, 3, 2⟩, ⟨l8s, 4, 3⟩, ⟨l8h, 2, 2⟩, ⟨l8k, 1, 1⟩, ⟨l8u, 2, 2⟩]
theorem l8m1 : make [] l8a = (1, 0, l81) := by kernel_rfl
theorem l8m2 : make l81 l8b = (2, 0, l82) := by kernel_rfl
theorem l8m3 : make l82 l8c = (3, 0, l83) := by kernel_rfl
theorem l8m4 : make l83 l8s = (4, 0, l84) := by kernel_rfl
theorem l8m5 : make l84 l8h = (5, 0, l85) := by kernel_rfl
theorem l8m6 : make l85 l8k = (6, 0, l86) := by kernel_rfl
theorem l8m7 : make l86 l8u = (7, 0, l87) := by kernel_rfl
theorem l8w1 : Wf l81 := by have := make_wf Wf.nil l8a; rwa [l8m1] at this
theorem l8w2 : Wf l82 := by have := make_wf l8w1 l8b; rwa [l8m2] at this
theorem l8w3 : Wf l83 := by have := make_wf l8w2 l8c; rwa [l8m3] at this
theorem l8w4 : Wf l84 := by have := make_wf l8w3 l8s; rwa [l8m4] at this
theorem l8w5 : Wf l85 := by have := make_wf l8w4 l8h; rwa [l8m5] at this
theorem l8w6 : Wf l86 := by have := make_wf l8w5 l8k; rwa [l8m6] at this
theorem l8w7 : Wf l87 := by have := make_wf l8w6 l8u; rwa [l8m7] at this
theorem l8n : nodeOf l87 1 = l8a ∧ nodeOf l87 2 = l8b ∧ nodeOf l87 3 = l8c ∧ nodeOf l87 4 = l8s ∧ nodeOf l87 5 = l8h ∧ nodeOf l87 6 = l8k ∧ nodeOf l87 7 = l8u := ⟨by kernel_rfl, by kernel_rfl, by kernel_rfl, by kernel_rfl, by kernel_rfl, by kernel_rfl, by kernel_rfl⟩
theorem l8in : inP l87 4 = true ∧ inP l87 6 = true ∧ inP l87 99 = false := ⟨by kernel_rfl, by kernel_rfl, by kernel_rfl⟩
theorem l8key : keyOf l87 0 = (6, true) := by kernel_rfl
theorem l8see {G : List Int} (hG : ∀ t ∈ G, t = 4 ∨ t = 6) {t : Int} (h : Seen l87 G t) : (t = 4 ∨ t = 3 ∨ t = 1 ∨ t = 2) ∨ t = 6 := by
 induction h with
 | given hg => rcases hG _ hg with h | h <;> simp [h]
 | «from» _ ha ih =>
  obtain ⟨n1, n2, n3, n4, _, n6, _⟩ := l8n
  rcases ih with (rfl | rfl | rfl | rfl) | rfl
  ·unfold Arises at ha; rw [n4] at ha; simp [l8s, showsK] at ha; left; omega
  ·unfold Arises at ha; rw [n3] at ha; simp [l8c, showsK] at ha; left; omega
  ·unfold Arises at ha; rw [n1] at ha; simp [l8a, showsK] at ha
  ·unfold Arises at ha; rw [n2] at ha; simp [l8b, showsK] at ha
  ·unfold Arises at ha; rw [n6] at ha; simp [l8k, showsK] at ha
theorem l8see6 {t : Int} (h : Seen l87 [4] t) : t = 4 ∨ t = 3 ∨ t = 1 ∨ t = 2 := by
 induction h with
 | given hg => simp at hg; simp [hg]
 | «from» _ ha ih =>
  obtain ⟨n1, n2, n3, n4, _, _, _⟩ := l8n
  rcases ih with rfl | rfl | rfl | rfl
  ·unfold Arises at ha; rw [n4] at ha; simp [l8s, showsK] at ha; omega
  ·unfold Arises at ha; rw [n3] at ha; simp [l8c, showsK] at ha; omega
  ·unfold Arises at ha; rw [n1] at ha; simp [l8a, showsK] at ha
  ·unfold Arises at ha; rw [n2] at ha; simp [l8b, showsK] at ha
theorem l8seen {G : List Int} (h : 4 ∈ G) : Seen l87 G 1 := by
 obtain ⟨_, _, n3, n4, _, _, _⟩ := l8n
 refine .from (r := 1) (u := 3) (.from (r := 3) (u := 4) (.given h) (.inr (.inr ⟨rfl, ?_, ?_⟩))) (.inl ⟨rfl, ?_, ?_⟩)
 ·rw [n4]; rfl
 ·rw [n4]; rfl
 ·rw [n3]; rfl
 ·rw [n3]; rfl
theorem l8hash {K : Int → Prop} : Drv l87 K 5 := by
 obtain ⟨n1, _, _, _, n5, _, _⟩ := l8n
 refine .hash (by rw [n5]; rfl) (.free ?_)
 rw [n5]; show freeK (nodeOf l87 1).kind = true; rw [n1]; rfl
theorem l8u_no {K : Int → Prop} (h7 : ¬ K 7) (h6 : ¬ K 6) : ¬ Drv l87 K 7 := fun h => by
 obtain ⟨_, _, _, _, _, _, n7⟩ := l8n
 rcases h.inv with h | h | ⟨h, _⟩ | ⟨h, _⟩ | ⟨_, _, _, h⟩
 ·exact h7 h
 ·rw [n7] at h; cases h
 ·rw [n7] at h; cases h
 ·rw [n7] at h; cases h
 ·rw [n7] at h
  have : keyOf l87 (whoOf l8u) = (6, true) := l8key
  rw [this] at h; exact h6 h
theorem l8u_yes {K : Int → Prop} (h6 : K 6) : Drv l87 K 7 := by
 obtain ⟨n1, _, _, _, _, _, n7⟩ := l8n
 have hk : keyOf l87 (whoOf l8u) = (6, true) := l8key
 refine .signed (by rw [n7]; rfl) (.free ?_) (by rw [n7, hk]) (by rw [n7, hk]; exact h6)
 rw [n7]; show freeK (nodeOf l87 1).kind = true; rw [n1]; rfl
theorem KnowOk.nil (L : Pool) : KnowOk L [] [] := ⟨⟨by simp [wkeys], by simp [wkeys], fun i hi => by simp at hi⟩, by simp [wkeys], by simp, by simp⟩
end Go.Sp
end
section
open Go Go.SE
namespace Go.Proofs
attribute [local irreducible] Calls
theorem append_in {P : Program} {t ty e : TypeId} {sz bytes : Nat} (T : SlType P t e sz bytes) {w : World} {p : Addr} {c : List Value} {Tp : TypeId} (hB : Box w p c Tp) {s : Sl} {rs : List (List Value)} (hR : Rws w e sz s rs) (hp : ¬ s.blk p.block) {a : Addr} {r : List Value} (hr : Row w a r) (hl : r.length = sz) (h1 : r.all oneCell = true) (hb : (rs.length + 1) * bytes ≤ 140737488355328) (hm : rs.length + 1 ≤ maxLen) :
  ∃ s' w', (Builtin.append_ #[t, t] ty #[s.v, (Sl.mk (some a) 1 1).v]).run P w = .ok s'.v w' ∧ Rws w' e sz s' (rs ++ [r]) ∧ Box w' p c Tp ∧ ¬ s'.blk p.block ∧ Ext s.blk w w' ∧ (∀ b, s'.blk b → s.blk b ∨ w.heap.size ≤ b) := by
 obtain ⟨s', w', hr', hR', hE, hb'⟩ := hR.append T (ty := ty) (c := 1) hr hl h1 hb hm
 exact ⟨s', w', hr', hR', hB.ext hE hp, fun h => (hb' _ h).elim hp (fun h => by have := hB.lt; omega), hE, hb'⟩
theorem plainErr_val (n : Sp.Node) : Sp.plainErr n = 53 ∨ Sp.plainErr n = 0 := by
 unfold Sp.plainErr; simp only; split
 ·exact .inl rfl
 ·exact .inr rfl
theorem c_ref05_Make (p : Addr) (n : Sp.Node) (w0 : World) {L : Sp.Pool} {F : Nat → Prop} (hP : PoolR w0 p L F) (hok : Sp.Ok L) : Calls Try.prog 146 #[.pointer (some p), nkey n] w0
  (fun e w' => ∃ r1 r2 : Int, e = .returned (.tuple #[.int .i64 r1, .int .i64 r2]) ∧ ((r1, r2) = ((Sp.make L n).1, (Sp.make L n).2.1) ∧ ∃ F', PoolR w' p (Sp.make L n).2.2 F' ∧ Ext F w0 w' ∧ ∀ b, F' b → F b ∨ w0.heap.size ≤ b)) := by
 obtain ⟨k, f, t, u, x, a, b⟩ := n
 generalize hn : (⟨k, f, t, u, x, a, b⟩ : Sp.Node) = n
 have hnk : nkey n = .agg #[.int .i64 k, .int .i64 f, .int .i64 t, .int .u64 u, .string x, .int .i64 a, .int .i64 b] := by rw [← hn]; rfl
 rw [hnk]
 suffices key : ∀ K : Int → Int → World → Prop, (∀ r1 r2 w', ((r1, r2) = ((Sp.make L n).1, (Sp.make L n).2.1) ∧ ∃ F', PoolR w' p (Sp.make L n).2.2 F' ∧ Ext F w0 w' ∧ ∀ b, F' b → F b ∨ w0.heap.size ≤ b) → K r1 r2 w') → m_ref05_Pool_Make (some p) k f t u x a b w0 K from
  w_ref05_Pool_Make _ _ _ _ _ _ _ _ w0 _ (key _ (fun _ _ _ h => h))
 intro K hK
 have hsh := ref05_shape n
 have hkd := ref05_kids k
 rw [← hn] at hsh
 simp only at hsh
 rw [hn] at hsh
 have hna : n.a = a := by rw [← hn]
 have hnb : n.b = b := by rw [← hn]
 have hnkk : n.kind = k := by rw [← hn]
 have hk := Sp.kids_le k
 have same : ∀ (r1 r2 : Int) (w' : World), Pure w0 w' → Sp.make L n = (r1, r2, L) → K r1 r2 w' := fun r1 r2 w' E h => hK _ _ _ ⟨by rw [h], F, by rw [h]; exact hP.pure E, E.pure, fun b h => .inl h⟩
 have bad : ∀ (er : Int) (w' : World), er ≠ 0 → Pure w0 w' → Sp.check L n = (0, 0, er) → K 0 er w' := fun er w' h0 E h => same 0 er w' E (by unfold Sp.make; simp [h, h0])
 unfold m_ref05_Pool_Make
 rw [hsh, hkd]
 have good : Sp.nodeErr n = 0 → Sp.check L n = (if (Sp.kidsOf n).any (fun t => !Sp.inP L t) then (0, 0, 51) else if 1 + ((Sp.kidsOf n).map (Sp.sizeOf L)).sum > 4096 ∨ (Sp.kidsOf n).foldl (fun d t => max d (Sp.depthOf L t)) 0 + 1 > 64 then (0, 0, 52) else (1 + ((Sp.kidsOf n).map (Sp.sizeOf L)).sum, (Sp.kidsOf n).foldl (fun d t => max d (Sp.depthOf L t)) 0 + 1, 0)) := by
  intro h
  unfold Sp.nodeErr at h
  unfold Sp.check
  split at h
  ·cases h
  ·rename_i h1
   simp only
   rw [if_neg h1]
   split at h
   ·cases h
   ·rename_i h2
    rw [if_neg h2, if_neg (by simpa using h)]
 refine ⟨fun h => ?_, fun h => ?_⟩
 ·intro H1 w2 hs2
  have h : Sp.nodeErr n ≠ 0 := by simpa using h
  refine bad _ _ h hs2.first ?_
  unfold Sp.nodeErr at h ⊢
  unfold Sp.check
  by_cases h1 : Sp.plainErr n ≠ 0
  ·rw [if_pos h1, if_pos h1]
   have : Sp.plainErr n = 53 := (plainErr_val n).resolve_right h1
   rw [this]
  ·rw [if_neg h1] at h ⊢
   simp only
   rw [if_neg h1]
   by_cases h2 : ((decide ((Sp.shapeOf n.kind).kids < 1) && n.a != 0) || (decide ((Sp.shapeOf n.kind).kids < 2) && n.b != 0)) = true
   ·rw [if_pos h2, if_pos h2]
   ·rw [if_neg h2] at h ⊢; rw [if_neg h2, if_pos h]
 have h0 : Sp.nodeErr n = 0 := by simpa using h
 have hchk := good h0
 have hzero : ((Sp.shapeOf k).kids < 1 → a = 0) ∧ ((Sp.shapeOf k).kids < 2 → b = 0) := by
  unfold Sp.nodeErr at h0
  split at h0
  ·cases h0
  ·split at h0
   ·cases h0
   ·rename_i _ h2
    rw [hnkk, hna, hnb] at h2
    simp at h2
    exact h2
 have hz0 : Sp.inP L 0 = false := by simp [Sp.inP]
 have hs0 : Sp.sizeOf L 0 = 0 := by simp [Sp.sizeOf, Sp.get, hz0]
 have hd0 : Sp.depthOf L 0 = 0 := by simp [Sp.depthOf, Sp.get, hz0]
 have hsa := hok.sizeOf a
 have hsb := hok.sizeOf b
 have hda := hok.depthOf a
 have hdb := hok.depthOf b
 have hany : (Sp.kidsOf n).any (fun t => !Sp.inP L t) = ((decide (1 ≤ (Sp.shapeOf k).kids) && !Sp.inP L a) || (decide ((Sp.shapeOf k).kids = 2) && !Sp.inP L b)) := by
  unfold Sp.kidsOf; rw [hnkk, hna, hnb]
  rcases hk with h | h | h <;> rw [h] <;> simp
 have hsum : ((Sp.kidsOf n).map (Sp.sizeOf L)).sum = Sp.sizeOf L a + Sp.sizeOf L b := by
  unfold Sp.kidsOf; rw [hnkk, hna, hnb]
  rcases hk with h | h | h <;> rw [h] <;> simp
  ·rw [hzero.1 (by omega), hzero.2 (by omega), hs0]; rfl
  ·rw [hzero.2 (by omega), hs0]; omega
 have hmax : (Sp.kidsOf n).foldl (fun d t => max d (Sp.depthOf L t)) 0 = max (Sp.depthOf L a) (Sp.depthOf L b) := by
  unfold Sp.kidsOf; rw [hnkk, hna, hnb]
  rcases hk with h | h | h <;> rw [h] <;> simp
  ·rw [hzero.1 (by omega), hzero.2 (by omega), hd0]; omega
  ·rw [hzero.2 (by omega), hd0]; omega
  ·omega
 rw [hany, hsum, hmax] at hchk
 have J1 : ∀ (x1 : Bool) (H : Nat → Prop) (w : World), Hst w0 H w H w → Pure w0 w → x1 = ((decide (1 ≤ (Sp.shapeOf k).kids) && !Sp.inP L a) || (decide ((Sp.shapeOf k).kids = 2) && !Sp.inP L b)) → m_ref05_Pool_Make_j1 (some p) k f t u x a b x1 w0 H w K := by
  intro x1 H w hs E hx
  rw [← hx] at hchk
  unfold m_ref05_Pool_Make_j1
  refine ⟨fun h => bad 51 w (by omega) E (by rw [hchk, h]; rfl), fun h => ?_⟩
  rw [h, if_neg (by simp)] at hchk
  refine ⟨fun _ => True, trivial, ?_⟩
  rintro _ rfl
  have Ed : Pure w0 w.drew := E.trans (Ext.drew w)
  refine (c_ref05_Size p a w.drew (hP.pure Ed) hok).mono ?_
  rintro _ _ ⟨_, rfl, rfl, rfl⟩
  refine ⟨_, rfl, trivial, Kept.refl _, ?_⟩
  refine (c_ref05_Size p b w.drew (hP.pure Ed) hok).mono ?_
  rintro _ _ ⟨_, rfl, rfl, rfl⟩
  refine ⟨_, rfl, trivial, Kept.refl _, fun _ => True, trivial, ?_⟩
  rintro _ rfl
  have Ed2 : Pure w0 w.drew.drew := Ed.trans (Ext.drew w.drew)
  refine (c_ref05_Depth p a w.drew.drew (hP.pure Ed2) hok).mono ?_
  rintro _ _ ⟨_, rfl, rfl, rfl⟩
  refine ⟨_, rfl, trivial, Kept.refl _, ?_⟩
  refine (c_ref05_Depth p b w.drew.drew (hP.pure Ed2) hok).mono ?_
  rintro _ _ ⟨_, rfl, rfl, rfl⟩
  refine ⟨_, rfl, trivial, Kept.refl _, _, fun w' _ => run_max_int2 _ _ _ _ _ _ _, ?_⟩
  have hmx : (if Sp.depthOf L b > Sp.depthOf L a then Sp.depthOf L b else Sp.depthOf L a) = max (Sp.depthOf L a) (Sp.depthOf L b) := by
   split <;> omega
  generalize hz : (if Sp.depthOf L b > Sp.depthOf L a then Sp.depthOf L b else Sp.depthOf L a) = z at *
  have hz64 : 0 ≤ z ∧ z ≤ 64 := by rw [hmx]; omega
  have e1 : IntKind.i64.wrap (IntKind.i64.wrap (1 + Sp.sizeOf L a) + Sp.sizeOf L b) = 1 + (Sp.sizeOf L a + Sp.sizeOf L b) := by
   rw [i64 (n := 1 + Sp.sizeOf L a) (by omega) (by omega), i64 (by omega) (by omega)]; omega
  have e2 : IntKind.i64.wrap (1 + z) = z + 1 := by rw [i64 (by omega) (by omega)]; omega
  rw [e1, e2]
  rw [← hmx] at hchk
  rintro y1 rfl
  have hsx : Hst w0 H w.drew.drew H w.drew.drew := (hs.drew.here.drew).here
  refine ⟨fun h => ?_, fun h => ?_⟩
  ·intro H2 w10 hs10
   refine bad 52 w10 (by omega) (Ed2.hst hs10) ?_
   rw [hchk, if_pos (by simpa using h)]
  ·intro H2 w10 hs10
   have hck : Sp.check L n = (1 + (Sp.sizeOf L a + Sp.sizeOf L b), z + 1, 0) := by rw [hchk, if_neg (by simp at h; omega)]
   have E10 := Ed2.hst hs10
   rw [← hnk]
   refine (c_ref05_Has p n w10 (hP.pure E10) hok).mono ?_
   rintro _ w11 ⟨r, ok, rfl, hfd, E11⟩
   refine ⟨_, _, rfl, E11.keptP, ?_⟩
   have E11' := E10.trans E11
   have hs11 : Hst w0 H2 w11 H2 w11 := hs10.again E11.keptP
   cases hf : Sp.find L n with
   | some i =>
    rw [hf] at hfd
    obtain ⟨rfl, rfl⟩ := hfd
    exact Br.t rfl (same _ _ _ E11' (by unfold Sp.make; simp [hck, hf]))
   | none =>
    rw [hf] at hfd
    obtain ⟨rfl, rfl⟩ := hfd
    refine Br.f rfl ?_
    obtain ⟨s1, s2, s3, hS, hF⟩ := hP.pure E11'
    have hlen : s1.len = L.length := by rw [hS.r1.len]; simp
    refine ⟨p, rfl, s1, hS.box.cell0, fun h => ?_, fun h => ?_⟩
    ·have h2 : 65536 ≤ L.length := by have h := of_decide_eq_true h; omega
     exact same _ _ _ E11' (by unfold Sp.make; simp [hck, hf, h2])
    ·have h2 : ¬ 65536 ≤ L.length := by have h := of_decide_eq_false h; omega
     have hmk : Sp.make L n = ((L.length : Int) + 1, 0, L ++ [⟨n, 1 + (Sp.sizeOf L a + Sp.sizeOf L b), z + 1⟩]) := by unfold Sp.make; simp [hck, hf, h2]
     have hvis : ∀ b, F b → ¬ H2 b := fun b hb h2 => by have := hP.lt hb; have := hs11.old b h2; omega
     have hpF : F p.block := (hF _).2 (.inl rfl)
     refine ⟨fun w' => w'.cell? p = some s1.v, hS.box.cell0, ?_⟩
     rintro _ rfl
     have E12 : Pure w11 w11.drew := Ext.drew w11
     refine ⟨p, rfl, s1, fun w' h' => h', ?_⟩
     intro p3 w13 h13
     have E13 : Pure w11 w13 := E12.trans (Ext.new h13)
     have B13 := hS.box.pure E13
     refine ⟨B13.cell0, ?_⟩
     obtain ⟨t1, w14, hr14, R14, B14, np1, X14, nb1⟩ := append_in (P := Try.prog) (ty := 72) slT_node B13 (hS.r1.pure E13) hS.n1 (a := p3) (r := nrow n) (by rw [← hn]; exact (Box.of_new h13).row) rfl rfl (by simp; omega) (by simp [maxLen]; omega)
     refine ⟨t1, w14, hr14, B14.cell0, X14.kept (fun b hb h => hvis b ((hF b).2 (.inr (.inl h))) hb), p, rfl, B14.canW0 (by simp), hvis _ hpF, ?_⟩
     rintro w15 hw15
     have B15 : Box w15 p [t1.v, s2.v, s3.v] 75 := by rw [hw15]; exact B14.set0
     have X15 : Ext (· = p.block) w14 w15 := by rw [hw15]; exact Ext.setCell p _
     clear hw15
     have R15 := R14.ext X15 (fun b hb e => np1 (e ▸ hb))
     have R2 := ((hS.r2.pure E13).ext X14 (fun b h2 h1 => hS.d12 b h1 h2)).ext X15 (fun b hb e => hS.n2 (e ▸ hb))
     have R3 := ((hS.r3.pure E13).ext X14 (fun b h2 h1 => hS.d13 b h1 h2)).ext X15 (fun b hb e => hS.n3 (e ▸ hb))
     have d12' : ∀ b, t1.blk b → ¬ s2.blk b := fun b hb h2 => (nb1 b hb).elim (fun h => hS.d12 b h h2) (fun h => by have := hS.r2.lt h2; have := E13.size; omega)
     have d13' : ∀ b, t1.blk b → ¬ s3.blk b := fun b hb h2 => (nb1 b hb).elim (fun h => hS.d13 b h h2) (fun h => by have := hS.r3.lt h2; have := E13.size; omega)
     refine ⟨p, rfl, s2, B15.cell rfl, ?_⟩
     intro p4 w16 h16
     have E16 : Pure w15 w16 := Ext.new h16
     have B16 := B15.pure E16
     obtain ⟨t2, w17, hr17, R17, B17, np2, X17, nb2⟩ := append_in (P := Try.prog) (ty := 73) slT_int B16 (R2.pure E16) hS.n2 (a := p4) (r := [.int .i64 (1 + (Sp.sizeOf L a + Sp.sizeOf L b))]) (Box.of_new h16).row rfl rfl (by simp; omega) (by simp [maxLen]; omega)
     refine ⟨t2, w17, hr17, X17.kept (fun b hb h => hvis b ((hF b).2 (.inr (.inr (.inl h)))) hb), p, rfl, B17.canW (by simp), by rw [add_block]; exact hvis _ hpF, ?_⟩
     rintro w18 hw18
     have B18 : Box w18 p [t1.v, t2.v, s3.v] 75 := by rw [hw18]; exact B17.set 1 _
     have X18 : Ext (· = p.block) w17 w18 := by rw [hw18]; have := Ext.setCell (w := w17) (p.add 1) t2.v; rw [add_block] at this; exact this
     clear hw18
     have Q1 := ((R15.pure E16).ext X17 (fun b h1 h2 => d12' b h1 h2)).ext X18 (fun b hb e => np1 (e ▸ hb))
     have Q2 := R17.ext X18 (fun b hb e => np2 (e ▸ hb))
     have Q3 := ((R3.pure E16).ext X17 (fun b h3 h2 => hS.d23 b h2 h3)).ext X18 (fun b hb e => hS.n3 (e ▸ hb))
     have d12'' : ∀ b, t1.blk b → ¬ t2.blk b := fun b hb h2 => (nb2 b h2).elim (fun h => d12' b hb h) (fun h => by have := (R15.pure E16).lt hb; omega)
     have d23' : ∀ b, t2.blk b → ¬ s3.blk b := fun b hb h2 => (nb2 b hb).elim (fun h => hS.d23 b h h2) (fun h => by have := (R3.pure E16).lt h2; omega)
     refine ⟨p, rfl, s3, B18.cell rfl, ?_⟩
     intro p5 w19 h19
     have E19 : Pure w18 w19 := Ext.new h19
     have B19 := B18.pure E19
     obtain ⟨t3, w20, hr20, R20, B20, np3, X20, nb3⟩ := append_in (P := Try.prog) (ty := 73) slT_int B19 (Q3.pure E19) hS.n3 (a := p5) (r := [.int .i64 (z + 1)]) (Box.of_new h19).row rfl rfl (by simp; omega) (by simp [maxLen]; omega)
     refine ⟨t3, w20, hr20, X20.kept (fun b hb h => hvis b ((hF b).2 (.inr (.inr (.inr h)))) hb), p, rfl, B20.canW (by simp), by rw [add_block]; exact hvis _ hpF, ?_⟩
     rintro w21 hw21
     have B21 : Box w21 p [t1.v, t2.v, t3.v] 75 := by rw [hw21]; exact B20.set 2 _
     have X21 : Ext (· = p.block) w20 w21 := by rw [hw21]; have := Ext.setCell (w := w20) (p.add 2) t3.v; rw [add_block] at this; exact this
     clear hw21
     have d13'' : ∀ b, t1.blk b → ¬ t3.blk b := fun b hb h2 => (nb3 b h2).elim (fun h => d13' b hb h) (fun h => by have := (Q1.pure E19).lt hb; omega)
     have d23'' : ∀ b, t2.blk b → ¬ t3.blk b := fun b hb h2 => (nb3 b h2).elim (fun h => d23' b hb h) (fun h => by have := (Q2.pure E19).lt hb; omega)
     have Z1 := ((Q1.pure E19).ext X20 (fun b h1 h2 => d13' b h1 h2)).ext X21 (fun b hb e => np1 (e ▸ hb))
     have Z2 := ((Q2.pure E19).ext X20 (fun b h1 h2 => d23' b h1 h2)).ext X21 (fun b hb e => np2 (e ▸ hb))
     have Z3 := R20.ext X21 (fun b hb e => np3 (e ▸ hb))
     have hl1 : (t1.len : Int) = L.length + 1 := by rw [R14.len]; simp
     refine ⟨p, rfl, t1, B21.cell0, ?_⟩
     rw [hl1]
     refine hK _ _ _ ⟨by rw [hmk], fun b => b = p.block ∨ t1.blk b ∨ t2.blk b ∨ t3.blk b, ?_, ?_, ?_⟩
     ·rw [hmk]
      exact ⟨t1, t2, t3, ⟨B21, by simpa [rnode] using Z1, by simpa [rsize] using Z2, by simpa [rdepth] using Z3, np1, np2, np3, d12'', d13'', d23''⟩, fun _ => Iff.rfl⟩
     ·have a1 : Ext F w0 w14 := (E11'.trans E13).pure.trans' X14 (fun i _ h => (hF i).2 (.inr (.inl h)))
      have a2 : Ext F w0 w15 := a1.trans' X15 (fun i _ h => (hF i).2 (.inl h))
      have a3 : Ext F w0 w17 := (a2.thenPure E16).trans' X17 (fun i _ h => (hF i).2 (.inr (.inr (.inl h))))
      have a4 : Ext F w0 w18 := a3.trans' X18 (fun i _ h => (hF i).2 (.inl h))
      have a5 : Ext F w0 w20 := (a4.thenPure E19).trans' X20 (fun i _ h => (hF i).2 (.inr (.inr (.inr h))))
      exact a5.trans' X21 (fun i _ h => (hF i).2 (.inl h))
     ·have z13 : w0.heap.size ≤ w13.heap.size := (E11'.trans E13).size
      have z16 : w0.heap.size ≤ w16.heap.size := by have := X14.size; have := X15.size; have := E16.size; omega
      have z19 : w0.heap.size ≤ w19.heap.size := by have := X17.size; have := X18.size; have := E19.size; omega
      rintro b (rfl | hb | hb | hb)
      ·exact .inl hpF
      ·exact (nb1 b hb).imp (fun h => (hF b).2 (.inr (.inl h))) (fun h => by omega)
      ·exact (nb2 b hb).imp (fun h => (hF b).2 (.inr (.inr (.inl h)))) (fun h => by omega)
      ·exact (nb3 b hb).imp (fun h => (hF b).2 (.inr (.inr (.inr h)))) (fun h => by omega)
 have J2 : ∀ (x2 : Bool) (H : Nat → Prop) (w : World), Hst w0 H w H w → Pure w0 w → x2 = (decide (1 ≤ (Sp.shapeOf k).kids) && !Sp.inP L a) → m_ref05_Pool_Make_j2 (some p) k f t u x a b x2 w0 H w K := by
  intro x2 H w hs E hx
  unfold m_ref05_Pool_Make_j2
  rw [hkd]
  refine ⟨fun h => J1 true H w hs E (by rw [← hx, h]; rfl), fun h => ⟨fun h2 => ?_, fun h2 => J1 false H w hs E ?_⟩⟩
  ·refine (c_ref05_In p b w (hP.pure E)).mono ?_
   rintro _ _ ⟨_, rfl, rfl, rfl⟩
   refine ⟨_, rfl, Kept.refl _, J1 _ H _ hs E ?_⟩
   have h2 : (Sp.shapeOf k).kids = 2 := by simpa using h2
   rw [← hx, h]; simp [h2]
  ·have h2 : (Sp.shapeOf k).kids ≠ 2 := by simpa using h2
   rw [← hx, h]; simp [h2]
 refine ⟨fun h => ?_, fun h => ?_⟩
 ·intro H1 w3 hs3
  refine (c_ref05_In p a w3 (hP.pure hs3.first)).mono ?_
  rintro _ _ ⟨_, rfl, rfl, rfl⟩
  refine ⟨_, rfl, Kept.refl _, J2 _ H1 _ hs3.here hs3.first ?_⟩
  have : 1 ≤ (Sp.shapeOf k).kids := by have := of_decide_eq_true h; omega
  simp [this]
 ·intro H1 w3 hs3
  refine J2 _ H1 _ hs3.here hs3.first ?_
  have : ¬ 1 ≤ (Sp.shapeOf k).kids := by have := of_decide_eq_false h; omega
  simp [this]
end Go.Proofs
end
section
open Go Go.SE
namespace Go.Proofs
attribute [local irreducible] Calls
def trow (t : Sp.Tree) (s : Sl) : List Value := [.int .i64 t.node.kind, .int .i64 t.node.frm, .int .i64 t.node.to, .int .u64 t.node.num, .string t.node.text, s.v]
inductive TreeAt (S : Nat → Prop) (w : World) : Sl → Sp.Tree → Prop
 | mk (k f t u : Int) (x : ByteArray) (ks : List Sp.Tree) (s : Sl) (rs : Nat → Sl) (len : s.len = ks.length) (fit : ks.length ≤ 9223372036854775807)
   (row : ∀ i (h : i < ks.length), ∃ a, At s i 6 a ∧ S a.block ∧ Row w a (trow ks[i] (rs i))) (kid : ∀ i (h : i < ks.length), TreeAt S w (rs i) ks[i]) : TreeAt S w s (.mk k f t u x ks)
theorem TreeAt.ext {S F : Nat → Prop} {w w' : World} {s : Sl} {t : Sp.Tree} (h : TreeAt S w s t) (hE : Ext F w w') (hd : ∀ b, S b → ¬ F b) : TreeAt S w' s t := by
 induction h with
 | mk k f t u x ks s rs len fit row kid ih =>
  exact .mk k f t u x ks s rs len fit (fun i h => let ⟨a, h1, h2, h3⟩ := row i h; ⟨a, h1, h2, hE.row h3 (hd _ h2)⟩) ih
theorem TreeAt.pure {S : Nat → Prop} {w w' : World} {s : Sl} {t : Sp.Tree} (h : TreeAt S w s t) (hE : Pure w w') : TreeAt S w' s t := h.ext hE (fun _ _ h => h)
theorem TreeAt.mono {S S' : Nat → Prop} {w : World} {s : Sl} {t : Sp.Tree} (h : TreeAt S w s t) (hd : ∀ b, S b → S' b) : TreeAt S' w s t := by
 induction h with
 | mk k f t u x ks s rs len fit row kid ih =>
  exact .mk k f t u x ks s rs len fit (fun i h => let ⟨a, h1, h2, h3⟩ := row i h; ⟨a, h1, hd _ h2, h3⟩) ih
theorem TreeAt.lt {S : Nat → Prop} {w : World} {s : Sl} {t : Sp.Tree} (h : TreeAt S w s t) : TreeAt (fun b => S b ∧ b < w.heap.size) w s t := by
 induction h with
 | mk k f t u x ks s rs len fit row kid ih =>
  refine .mk k f t u x ks s rs len fit (fun i h => let ⟨a, h1, h2, h3⟩ := row i h; ⟨a, h1, ⟨h2, ?_⟩, h3⟩) ih
  have := h3 0 (by simp [trow])
  unfold World.cell? at this
  refine Classical.byContradiction fun hge => ?_
  have : w.heap[(a.add 0).block]? = none := by rw [add_block]; exact Array.getElem?_eq_none (by omega)
  simp_all [trow]
theorem c_nodeOf (k f t u : Int) (x : ByteArray) (s : Sl) (w : World) :
  Calls Try.prog 156 #[.agg #[.int .i64 k, .int .i64 f, .int .i64 t, .int .u64 u, .string x, s.v]] w
   (fun e w' => ∃ k' : Int, ∃ f' : Int, ∃ t' : Int, ∃ u' : Int, ∃ x' : ByteArray, ∃ a : Int, ∃ b : Int, e = .returned (.agg #[.int .i64 k', .int .i64 f', .int .i64 t', .int .u64 u', .string x', .int .i64 a, .int .i64 b]) ∧ ((⟨k', f', t', u', x', a, b⟩ : Sp.Node) = ⟨k, f, t, u, x, 0, 0⟩ ∧ Pure w w')) := by
 refine w_term_nodeOf _ _ _ _ _ _ w (fun k' f' t' u' x' a b w' => (⟨k', f', t', u', x', a, b⟩ : Sp.Node) = ⟨k, f, t, u, x, 0, 0⟩ ∧ Pure w w') ?_
 unfold m_term_nodeOf
 intro p1 w1 h1 p2 w2 h2
 have E1 : Pure w w1 := Ext.new h1
 have b1 := (Box.of_new h1).pure (Ext.new h2)
 refine ⟨_, b1.cell0, _, b1.cell rfl, _, b1.cell rfl, _, b1.cell rfl, _, b1.cell rfl, ?_⟩
 exact bx 7 (Box.of_new h2) rfl rfl (fun w' b E => ⟨_, _, _, _, _, _, _, b.row, rfl, (E1.trans (Ext.new h2)).own (New.own E1 h2) E⟩)
theorem looks_mono (t : Sp.Tree) : ∀ i n : Int, 0 ≤ n → 0 ≤ (Sp.looks i n t).2 := by
 induction t using Sp.Tree.ind with
 | h k f t u x ks ih =>
  have : ∀ (ks : List Sp.Tree), (∀ i (hi : i < ks.length), ∀ j n : Int, 0 ≤ n → 0 ≤ (Sp.looks j n ks[i]).2) → ∀ i e n : Int, 0 ≤ n → 0 ≤ (Sp.looksAll i e n ks).2 := by
   intro ks
   induction ks with
   | nil => intro _ i e n h; simpa [Sp.looksAll] using h
   | cons t ts iht =>
    intro hh i e n h
    unfold Sp.looksAll
    split
    ·exact iht (fun i hi => hh (i + 1) (by simpa using hi)) _ _ _ (hh 0 (by simp) i n h)
    ·exact h
  intro i n h
  unfold Sp.looks
  split
  ·exact h
  ·split
   ·exact h
   ·exact this ks ih _ _ _ (by omega)
theorem looksAll_drop {ks : List Sp.Tree} {j : Nat} (hj : j < ks.length) (i n : Int) : Sp.looksAll i 0 n (ks.drop j) = Sp.looksAll i (Sp.looks i n ks[j]).1 (Sp.looks i n ks[j]).2 (ks.drop (j + 1)) := by
 rw [List.drop_eq_getElem_cons hj, Sp.looksAll, if_pos rfl]
theorem looksAll_bad {ks : List Sp.Tree} {e : Int} (h : e ≠ 0) (i n : Int) : Sp.looksAll i e n ks = (e, n) := by
 cases ks <;> simp [Sp.looksAll, h]
theorem c_looks {S : Nat → Prop} (q : Addr) (hq : ¬ S q.block) (T : TypeId) (t : Sp.Tree) : ∀ (s : Sl) (inside seen : Int) (w : World), 0 ≤ inside → 0 ≤ seen → TreeAt S w s t → Box w q [.int .i64 seen] T →
  Calls Try.prog 116 #[.agg (trow t s).toArray, .int .i64 inside, .pointer (some q)] w
   (fun e w' => ∃ r : Int, e = .returned (.int .i64 r) ∧ (r = (Sp.looks inside seen t).1 ∧ Box w' q [.int .i64 (Sp.looks inside seen t).2] T ∧ Ext (· = q.block) w w')) := by
 induction t using Sp.Tree.ind with
 | h k f t u x ks ih =>
 intro s inside seen w hi0 hn0 hT hB
 suffices key : ∀ K : Int → World → Prop, (∀ r w', (r = (Sp.looks inside seen (.mk k f t u x ks)).1 ∧ Box w' q [.int .i64 (Sp.looks inside seen (.mk k f t u x ks)).2] T ∧ Ext (· = q.block) w w') → K r w') → m_term_looks k f t u x s inside (some q) w K from
  w_term_looks _ _ _ _ _ _ _ _ w _ (key _ (fun _ _ h => h))
 intro K hK
 unfold m_term_looks
 intro p1 w1 h1
 have b1 := Box.of_new h1
 have E1 : Pure w w1 := Ext.new h1
 have n1 : q.block ≠ p1.block := New.ne h1 hB.blk
 have hB1 := hB.pure E1
 have hT1 := hT.pure E1
 refine ⟨q, rfl, seen, hB1.cell0, fun h => ?_, fun h => ⟨fun h' => ?_, fun h' => ?_⟩⟩
 ·have h := of_decide_eq_true h
  have : Sp.looks inside seen (.mk k f t u x ks) = (52, seen) := by rw [Sp.looks, if_pos (by omega)]
  rw [this] at hK; exact hK _ _ ⟨rfl, hB1, E1.pure⟩
 ·have h := of_decide_eq_false h; have h' := of_decide_eq_true h'
  have : Sp.looks inside seen (.mk k f t u x ks) = (52, seen) := by rw [Sp.looks, if_neg (by omega), if_pos (by omega)]
  rw [this] at hK; exact hK _ _ ⟨rfl, hB1, E1.pure⟩
 have h := of_decide_eq_false h; have h' := of_decide_eq_false h'
 have hsp : Sp.looks inside seen (.mk k f t u x ks) = Sp.looksAll (inside + 1) (Sp.ownErr ⟨k, f, t, u, x, 0, 0⟩ ks.length) (seen + 1) ks := by rw [Sp.looks, if_neg (by omega), if_neg (by omega)]
 rw [hsp] at hK
 unfold m_term_looks_j1
 refine ⟨q, rfl, seen, hB1.cell0, q, rfl, hB1.canW0 (by simp), ?_⟩
 rw [i64 (n := seen + 1) (by omega) (by omega)]
 intro w2 hw2
 have hB2 : Box w2 q [.int .i64 (seen + 1)] T := by rw [hw2]; exact hB1.set0
 have E12 : Ext (· = q.block) w1 w2 := by rw [hw2]; exact Ext.setCell q _
 clear hw2
 have b2 := b1.ext E12 (fun e => n1 e.symm)
 have hT2 := hT1.ext E12 (fun b hb e => hq (e ▸ hb))
 have E2 : Ext (· = q.block) w w2 := E1.pure.trans E12
 refine ⟨_, _, _, _, _, _, b2.row, ?_⟩
 refine (c_nodeOf _ _ _ _ _ _ w2).mono ?_
 rintro _ w3 ⟨k', f', t', u', x', a', b', rfl, hn, E23⟩
 cases hn
 refine ⟨_, _, _, _, _, _, _, rfl, ?_⟩
 intro p2 w4 h4
 have n2 : p1.block ≠ p2.block := New.ne h4 (b2.pure E23).blk
 have E24 : Pure w2 w4 := E23.trans (Ext.new h4)
 have o2 := New.own E23 h4
 refine bx 7 (Box.of_new h4) rfl rfl (fun w5 c2 E45 => ?_)
 have E25 : Pure w2 w5 := E24.own o2 E45
 refine ⟨_, _, _, _, _, _, _, c2.row, ?_⟩
 refine (c_plain _ _ _ _ _ _ _ w5).mono ?_
 rintro _ w6 ⟨s1, s2, s3, s4, s5, pe, rfl, ⟨hs, hpe⟩, E56⟩
 refine ⟨_, _, _, _, _, _, rfl, ?_⟩
 intro p3 w7 h7
 have n3 : p2.block ≠ p3.block := New.ne h7 (c2.pure E56).blk
 have E27 : Pure w2 w7 := (E25.trans E56).trans (Ext.new h7)
 have o3 := New.own (E25.trans E56) h7
 refine bx 5 (Box.of_new h7) rfl rfl (fun w8 c3 E78 => ?_)
 have E28 : Pure w2 w8 := E27.own o3 E78
 have d2 := ((c2.pure E56).pure (Ext.new h7)).ext E78 n3
 have d1 := b2.pure E28
 have hB8 := hB2.pure E28
 have hT8 := hT2.pure E28
 have E8 : Ext (· = q.block) w w8 := E2.thenPure E28
 clear E78 E27 E56 E25 E45 E24 E23 E12 c2 b2 b1 hT2 hT1 hB1 h1 h4 h7
 have hlen : s.len = ks.length := by cases hT; assumption
 have hfit : ks.length ≤ 9223372036854775807 := by cases hT; assumption
 have hsh : Sp.shapeOf k = ⟨s1, s2, s3, s4, s5⟩ := hs.symm
 have J3 : ∀ e w', Pure w8 w' → e = Sp.ownErr ⟨k, f, t, u, x, 0, 0⟩ ks.length → m_term_looks_j3 inside (some q) p1 e w' K := by
  intro e w' E hown
  rw [← hown] at hK
  unfold m_term_looks_j3
  refine ⟨fun e i w' => ∃ j : Nat, i = j ∧ j ≤ ks.length ∧ ∃ n : Int, 0 ≤ n ∧ Ext (· = q.block) w8 w' ∧ Box w' q [.int .i64 n] T ∧ Sp.looksAll (inside + 1) e n (ks.drop j) = Sp.looksAll (inside + 1) (Sp.ownErr ⟨k, f, t, u, x, 0, 0⟩ ks.length) (seen + 1) ks, fun _ i _ => ((ks.length : Int) - i).toNat, ⟨0, rfl, Nat.zero_le _, seen + 1, by omega, E.pure, hB8.pure E, by rw [hown]; rfl⟩, ?_⟩
  rintro e1 _ wl ⟨j, rfl, hj, n, hn, El, hBl, heq⟩
  unfold m_term_looks_l4
  have dl := d1.ext El (fun e => n1 e.symm)
  have hTl := hT8.ext El (fun b hb e => hq (e ▸ hb))
  rw [← hown] at heq
  have fin : ∀ n', Sp.looksAll (inside + 1) e ((seen : Int) + 1) ks = (e1, n') → n' = n → K e1 wl := by
   rintro n' h rfl
   refine hK _ _ ⟨by rw [h], by rw [h]; exact hBl, E8.trans El⟩
  refine ⟨s, dl.cell rfl, fun hlt => ⟨fun he => ?_, fun he => ?_⟩, fun hlt => ?_⟩
  ·have hlt : j < ks.length := by have h := of_decide_eq_true hlt; omega
   have he : e1 = 0 := by simpa using he
   subst he
   cases hTl with
   | mk _ _ _ _ _ _ _ rs len fit row kid =>
   obtain ⟨a, hat, ha, hr⟩ := row j hlt
   refine ⟨s, dl.cell rfl, a, hat, _, _, _, _, _, rs j, hr, ?_⟩
   rw [i64 (n := inside + 1) (by omega) (by omega)]
   refine (ih j hlt (rs j) (inside + 1) n wl (by omega) hn (kid j hlt) hBl).mono ?_
   rintro _ w9 ⟨r, rfl, rfl, hB9, E9⟩
   rw [looksAll_drop hlt] at heq
   refine ⟨_, rfl, ⟨j + 1, ?_, hlt, _, looks_mono _ _ _ hn, El.trans E9, hB9, by rw [← hown]; exact heq⟩, ?_⟩
   ·rw [i64 (by omega) (by omega)]; omega
   ·show ((ks.length : Int) - IntKind.i64.wrap ((j : Int) + 1)).toNat < ((ks.length : Int) - (j : Int)).toNat
    rw [i64 (by omega) (by omega)]; omega
  ·have he : e1 ≠ 0 := by simpa using he
   rw [looksAll_bad he] at heq
   exact fin _ heq.symm rfl
  ·have hge : j = ks.length := by have h := of_decide_eq_false hlt; omega
   rw [hge, List.drop_length, Sp.looksAll] at heq
   exact fin _ heq.symm rfl
 have J2 : ∀ e1, e1 = (if pe = 0 then if (ks.length : Int) ≠ s5 then 53 else 0 else pe) → m_term_looks_j2 inside (some q) p1 p2 p3 e1 w8 K := by
  intro e1 he1
  have hown : Sp.ownErr ⟨k, f, t, u, x, 0, 0⟩ ks.length = if e1 = 0 then Sp.fieldsErr ⟨s1, s2, s3, s4, s5⟩ ⟨k, f, t, u, x, 0, 0⟩ else e1 := by
   unfold Sp.ownErr
   simp only [hsh, ← hpe, he1]
  unfold m_term_looks_j2
  refine ⟨fun h => ⟨_, _, _, _, _, c3.row, _, _, _, _, _, _, _, d2.row, ?_⟩, fun h => J3 _ _ (Ext.refl _) ?_⟩
  ·have h : e1 = 0 := by simpa using h
   refine (c_fields _ _ _ _ _ _ _ _ _ _ _ _ _).mono ?_
   rintro _ w9 ⟨_, rfl, rfl, E9⟩
   exact ⟨_, rfl, J3 _ _ E9 (by rw [hown, if_pos h])⟩
  ·have h : e1 ≠ 0 := by simpa using h
   rw [hown, if_neg h]
 refine ⟨fun h => ⟨s, d1.cell rfl, s5, c3.cell rfl, fun h5 => J2 _ ?_, fun h5 => J2 _ ?_⟩, fun h => J2 _ ?_⟩
 ·have h : pe = 0 := by simpa using h
  have h5 : (s.len : Int) ≠ s5 := by simpa using h5
  rw [if_pos h, if_pos (by omega)]
 ·have h : pe = 0 := by simpa using h
  have h5 : (s.len : Int) = s5 := by simpa using h5
  rw [if_pos h, if_neg (by omega), h]
 ·have h : pe ≠ 0 := by simpa using h
  rw [if_neg h]
end Go.Proofs
end
section
open Go Go.SE
namespace Go.Proofs
attribute [local irreducible] Calls
theorem c_New (w : World) : Calls Try.prog 72 #[] w (fun e w' => ∃ r : Option Addr, e = .returned (.pointer r) ∧ ∃ p, r = some p ∧ Pure w w' ∧ ∃ F, PoolAt w' p [] F ∧ ∀ b, F b → w.heap.size ≤ b) := by
 refine w_term_New w (fun r w' => ∃ p, r = some p ∧ Pure w w' ∧ ∃ F, PoolAt w' p [] F ∧ ∀ b, F b → w.heap.size ≤ b) ?_
 unfold m_term_New
 intro p1 w1 h1 p2 w2 h2
 have E1 : Pure w w1 := Ext.new h1
 have m2 : CMap w2 p1.block [] := (CMap.of_new h1).ext (Ext.new h2 : Pure w1 w2) id
 have n12 : p1.block ≠ p2.block := New.ne h2 h1.block_new
 refine ⟨p2, rfl, E1.trans (Ext.new h2), fun b => b = p2.block ∨ Sl.nil.blk b ∨ b = p1.block, ⟨Sl.nil, p1.block, ⟨Box.of_new h2, by simpa using Rws.nil _ _ _, by simpa [pmap] using m2, n12, ?_, ?_⟩, fun _ => Iff.rfl⟩, ?_⟩
 ·rintro ⟨a, h, _⟩; cases h
 ·rintro ⟨a, h, _⟩; cases h
 ·rintro b (rfl | ⟨a, h, _⟩ | rfl)
  ·exact New.own E1 h2
  ·cases h
  ·exact New.own (Ext.refl w) h1
theorem pmap_take (L : Sp.Pool) (n : Nat) : pmap (L.take n) = (pmap L).take n := by
 apply List.ext_getElem?; intro i
 simp only [pmap, List.getElem?_map, List.getElem?_zipIdx, List.getElem?_take]
 split <;> simp
theorem pmap_fst (L : Sp.Pool) : (pmap L).map (·.1) = (L.map (·.node)).map nkey := by
 apply List.ext_getElem?; intro i
 simp only [pmap, List.getElem?_map, List.getElem?_zipIdx]
 cases L[i]? <;> simp
theorem c_cut (p : Addr) (n : Nat) (w : World) {L : Sp.Pool} {F : Nat → Prop} (hP : PoolAt w p L F) (hok : Sp.Ok L) (hn : n ≤ L.length) :
  Calls Try.prog 118 #[.pointer (some p), .int .i64 n] w (fun e w' => e = .returned (.tuple #[]) ∧ PoolAt w' p (L.take n) F ∧ Ext F w w') := by
 suffices key : ∀ K : World → Prop, (∀ w', PoolAt w' p (L.take n) F ∧ Ext F w w' → K w') → m_term_Pool_cut (some p) n w K from
  w_term_Pool_cut _ _ w _ (key _ (fun _ h => h))
 intro K hK
 unfold m_term_Pool_cut
 obtain ⟨s, m, hS, hF⟩ := hP
 have hfew := hok.few
 have hcap : s.len ≤ s.cap := by
  have := hS.rows.len
  rcases hS.rows.own with ⟨rfl, _⟩ | ⟨g, cur, _, _, hc, _⟩
  ·simp [Sl.nil]
  ·omega
 obtain ⟨s1, hr1, hl1⟩ := hS.rows.lst.lo (P := Try.prog) slT_entry hcap (k := .i64) (n := n) (by omega) (by simpa using hn)
 have hlen1 : s1.len = L.length - n := by rw [hl1.len]; simp
 refine ⟨p, rfl, s, hS.box.cell0, s1, hr1, ?_⟩
 refine ⟨fun x w' => ∃ j : Nat, x = j ∧ j ≤ L.length - n ∧ Ext (· = m) w w' ∧ CMap w' m ((pmap L).take n ++ (pmap L).drop (n + j)), fun x _ => ((L.length : Int) - x).toNat, ⟨0, rfl, Nat.zero_le _, Ext.refl w, by simpa using hS.map⟩, ?_⟩
 rintro _ wl ⟨j, rfl, hj, El, hml⟩
 have hboxl := hS.box.ext El hS.n1.symm
 have hrowsl := hS.rows.ext El (fun b hb e => hS.n3 (e ▸ hb))
 unfold m_term_Pool_cut_l1
 refine ⟨fun h => ?_, fun h => ?_⟩
 ·have hlt : n + j < L.length := by have h := of_decide_eq_true h; omega
  have hll := hl1.ext El (fun b hb e => hS.n3 (e ▸ hb))
  obtain ⟨a, hat, _, hrow⟩ := hll.at_ j (by simp; omega)
  generalize he : L[n + j] = e at *
  have hrow' : Row wl a (erow e) := by
   have : ((L.map erow).drop ((n : Int).toNat))[j]'(by simp; omega) = erow e := by simp [he]
   rw [this] at hrow; exact hrow
  obtain ⟨nd, sz, dp⟩ := e
  obtain ⟨k, f, t, u, x, a1, b1⟩ := nd
  refine ⟨a, hat, _, _, _, _, _, _, _, _, _, hrow', ?_⟩
  intro p2 w1 h1
  have E1 : Pure wl w1 := Ext.new h1
  have o1 := New.own (Ext.refl wl) h1
  refine bx 9 (Box.of_new h1) rfl rfl (fun w2 b2 E => ?_)
  have E2 : Pure wl w2 := E1.own o1 E
  refine ⟨fun w' => w'.cell? (p.add 1) = some (.map (some m)) ∧ Row w' p2 (nrow ⟨k, f, t, u, x, a1, b1⟩), ⟨(hboxl.pure (E2.thenPure (Ext.drew w2))).cell (i := 1) rfl, ?_⟩, ?_⟩
  ·have : Row w2 p2 (nrow ⟨k, f, t, u, x, a1, b1⟩) := fun i hi => by
    have := b2.row i (by simp [nrow] at hi ⊢; omega)
    rw [this]
    have h7 : i < 7 := by simpa [nrow] using hi
    have : i = 0 ∨ i = 1 ∨ i = 2 ∨ i = 3 ∨ i = 4 ∨ i = 5 ∨ i = 6 := by omega
    rcases this with rfl | rfl | rfl | rfl | rfl | rfl | rfl <;> rfl
   exact Ext.row (F := None) (Ext.drew w2) this id
  intro w3 hw3
  have E3 : Pure wl w3 := by rw [hw3]; exact E2.thenPure (Ext.drew w2)
  clear hw3
  refine ⟨p, rfl, some m, fun w' h => h.1, k, f, t, u, x, a1, b1, fun w' h => h.2, ?_⟩
  have hm3 := hml.ext E3 id
  have hpl : (pmap L).length = L.length := by simp [pmap]
  have hget : (pmap L)[n + j]? = some (nkey ⟨k, f, t, u, x, a1, b1⟩, .int .i64 (n + j + 1 : Nat)) := by
   simp only [pmap, List.getElem?_map, List.getElem?_zipIdx, List.getElem?_eq_getElem hlt, he]; simp
  have hidx : ((pmap L).take n ++ (pmap L).drop (n + j))[n]? = some (nkey ⟨k, f, t, u, x, a1, b1⟩, .int .i64 (n + j + 1 : Nat)) := by
   have e0 : n + j + (n - ((pmap L).take n).length) = n + j := by rw [List.length_take]; omega
   rw [List.getElem?_append_right (by rw [List.length_take]; omega), List.getElem?_drop, e0, hget]
  have hnd : ((pmap L).map (·.1)).Nodup := by
   rw [pmap_fst, List.nodup_iff_pairwise_ne, List.pairwise_map]
   exact hok.nodup.imp (fun h e => h (nkey_inj.1 e))
  have hsub : List.Sublist ((pmap L).take n ++ (pmap L).drop (n + j)) (pmap L) := by
   conv => rhs; rw [← List.take_append_drop n (pmap L)]
   refine (List.Sublist.refl _).append ?_
   have e0 : (pmap L).drop (n + j) = ((pmap L).drop n).drop j := by rw [List.drop_drop]
   rw [e0]; exact List.drop_sublist _ _
  have hnd2 : (((pmap L).take n ++ (pmap L).drop (n + j)).map (·.1)).Nodup := hnd.sublist (hsub.map _)
  obtain ⟨w4, hr4, hm4, E4⟩ := hm3.delete (P := Try.prog) (Q := 93) (z := 0) Try.underlying181 keyOK_node (fun q hq => pmap_keys q (hsub.subset hq)) ⟨_, rfl⟩ hidx (fun i u hi => by
   obtain ⟨hi1, hi2⟩ := List.getElem?_eq_some_iff.1 hi
   obtain ⟨hn1, hn2⟩ := List.getElem?_eq_some_iff.1 hidx
   refine Classical.byContradiction fun hne => ?_
   have hne := List.pairwise_iff_getElem.1 hnd2
   rcases Nat.lt_or_gt_of_ne ‹_› with hlt | hlt
   ·exact hne i n (by simpa using hi1) (by simpa using hn1) hlt (by rw [List.getElem_map, List.getElem_map, hi2, hn2])
   ·exact hne n i (by simpa using hn1) (by simpa using hi1) hlt (by rw [List.getElem_map, List.getElem_map, hi2, hn2]))
  refine ⟨w4, hr4, ⟨j + 1, ?_, by omega, (El.trans E3.pure).trans E4, ?_⟩, ?_⟩
  ·rw [i64 (by omega) (by omega)]; omega
  ·rw [List.eraseIdx_append_of_length_le (by rw [List.length_take]; omega)] at hm4
   have : n - ((pmap L).take n).length = 0 := by rw [List.length_take]; omega
   rw [this] at hm4
   have hd : ((pmap L).drop (n + j)).eraseIdx 0 = (pmap L).drop (n + (j + 1)) := by
    rw [List.drop_eq_getElem_cons (by omega)]; simp; rfl
   rw [hd] at hm4; exact hm4
  ·show ((L.length : Int) - IntKind.i64.wrap ((j : Int) + 1)).toNat < ((L.length : Int) - (j : Int)).toNat
   rw [i64 (by omega) (by omega)]; omega
 ·have hge : n + j = L.length := by have h := of_decide_eq_false h; omega
  have hpl : (pmap L).length = L.length := by simp [pmap]
  rw [hge, ← hpl, List.drop_length, List.append_nil] at hml
  obtain ⟨s2, hr2, hrows2, hb2⟩ := hrowsl.hi (P := Try.prog) slT_entry (k := .i64) (n := n) (by omega) (by simpa using hn)
  refine ⟨p, rfl, s, hboxl.cell0, s2, hr2, p, rfl, hboxl.canW0 (by simp), ?_⟩
  rintro w5 hw5
  have hbox5 : Box w5 p [s2.v, .map (some m)] 183 := by rw [hw5]; exact hboxl.set0
  have E5 : Ext (· = p.block) wl w5 := by rw [hw5]; exact Ext.setCell p _
  clear hw5
  refine hK _ ⟨⟨s2, m, ⟨hbox5, ?_, ?_, hS.n1, fun h => hS.n2 ((hb2 _).1 h), fun h => hS.n3 ((hb2 _).1 h)⟩, fun b => by rw [hF b, hb2 b]⟩, ?_⟩
  ·have := hrows2.ext E5 (fun b hb e => hS.n2 (by rw [← e]; exact (hb2 _).1 hb))
   simpa using this
  ·rw [pmap_take]; exact hml.ext E5 hS.n1
  ·exact (El.mono (fun i _ h => (hF i).2 (.inr (.inr h)))).trans' E5 (fun i _ h => (hF i).2 (.inl h))
end Go.Proofs
end
section
open Go Go.SE
namespace Go.Proofs
attribute [local irreducible] Calls
theorem growAll_bad {n : Sp.Node} {i : Nat} {L : Sp.Pool} {t : Sp.Tree} {ts : List Sp.Tree} (h : (Sp.grow L t).2.1 ≠ 0) : Sp.growAll n i L (t :: ts) = (0, (Sp.grow L t).2.1, (Sp.grow L t).2.2) := by rw [Sp.growAll, if_pos h]
theorem growAll_good {n : Sp.Node} {i : Nat} {L : Sp.Pool} {t : Sp.Tree} {ts : List Sp.Tree} (h : (Sp.grow L t).2.1 = 0) : Sp.growAll n i L (t :: ts) = Sp.growAll (if i = 0 then { n with a := (Sp.grow L t).1 } else { n with b := (Sp.grow L t).1 }) (i + 1) (Sp.grow L t).2.2 ts := by rw [Sp.growAll, if_neg (by simp [h])]
def Sp.Tree.two (t : Sp.Tree) : Prop := Sp.Tree.rec (motive_1 := fun _ => Prop) (motive_2 := fun _ => Prop) (fun _ _ _ _ _ ks h => ks.length ≤ 2 ∧ h) True (fun _ _ h1 h2 => h1 ∧ h2) t
def twoAll : List Sp.Tree → Prop
 | [] => True
 | t :: ts => Sp.Tree.two t ∧ twoAll ts
theorem two_mk {k f t u : Int} {x : ByteArray} {ks : List Sp.Tree} : Sp.Tree.two (.mk k f t u x ks) ↔ ks.length ≤ 2 ∧ twoAll ks := by
 have : ∀ ks : List Sp.Tree, (Sp.Tree.rec_1 (motive_1 := fun _ => Prop) (motive_2 := fun _ => Prop) (fun _ _ _ _ _ ks h => ks.length ≤ 2 ∧ h) True (fun _ _ h1 h2 => h1 ∧ h2) ks : Prop) = twoAll ks := by
  intro ks
  induction ks with
  | nil => rfl
  | cons t ts ih => show (Sp.Tree.two t ∧ _) = (Sp.Tree.two t ∧ _); rw [ih]
 show (ks.length ≤ 2 ∧ _) ↔ _
 rw [this]
theorem twoAll_get {ks : List Sp.Tree} (h : twoAll ks) {i : Nat} (hi : i < ks.length) : Sp.Tree.two ks[i] := by
 induction ks generalizing i with
 | nil => simp at hi
 | cons t ts ih =>
  cases i with
  | zero => exact h.1
  | succ i => exact ih h.2 (by simpa using hi)
theorem c_grow {S : Nat → Prop} (p : Addr) (t : Sp.Tree) : ∀ (s : Sl) (w : World) (L : Sp.Pool) (F : Nat → Prop), Sp.Tree.two t → TreeAt S w s t → PoolAt w p L F → Sp.Ok L → (∀ b, F b → ¬ S b) → (∀ b, S b → b < w.heap.size) →
  Calls Try.prog 117 #[.pointer (some p), .agg (trow t s).toArray] w
   (fun e w' => ∃ r1 : Int, ∃ r2 : Int, e = .returned (.tuple #[.int .i64 r1, .int .i64 r2]) ∧ ((r1, r2) = ((Sp.grow L t).1, (Sp.grow L t).2.1) ∧ ∃ F', PoolAt w' p (Sp.grow L t).2.2 F' ∧ Ext F w w' ∧ ∀ b, F' b → F b ∨ w.heap.size ≤ b)) := by
 induction t using Sp.Tree.ind with
 | h k f t u x ks ih =>
 intro s w L F h2 hT hP hok hFS hSw
 suffices key : ∀ K : Int → Int → World → Prop, (∀ r1 r2 w', ((r1, r2) = ((Sp.grow L (.mk k f t u x ks)).1, (Sp.grow L (.mk k f t u x ks)).2.1) ∧ ∃ F', PoolAt w' p (Sp.grow L (.mk k f t u x ks)).2.2 F' ∧ Ext F w w' ∧ ∀ b, F' b → F b ∨ w.heap.size ≤ b) → K r1 r2 w') → m_term_Pool_grow (some p) k f t u x s w K from
  w_term_Pool_grow _ _ _ _ _ _ _ w _ (key _ (fun _ _ _ h => h))
 intro K hK
 obtain ⟨hk2, hall⟩ := two_mk.1 h2
 unfold m_term_Pool_grow
 intro p2 w1 h1
 have b1 := Box.of_new h1
 have E1 : Pure w w1 := Ext.new h1
 refine ⟨_, _, _, _, _, _, b1.row, ?_⟩
 refine (c_nodeOf _ _ _ _ _ _ w1).mono ?_
 rintro _ w2 ⟨k', f', t', u', x', a', b', rfl, hn, E12⟩
 cases hn
 refine ⟨_, _, _, _, _, _, _, rfl, ?_⟩
 intro p3 w3 h3
 have E3 : Pure w w3 := (E1.trans E12).trans (Ext.new h3)
 have o3 := New.own (E1.trans E12) h3
 have n23 : p2.block ≠ p3.block := New.ne h3 (b1.pure E12).blk
 refine bx 7 (Box.of_new h3) rfl rfl (fun w4 b3 E34 => ?_)
 have E4 : Pure w w4 := E3.own o3 E34
 have b2 := ((b1.pure E12).pure (Ext.new h3)).ext E34 n23
 intro p4 w5 h5
 have E5 : Pure w w5 := E4.trans (Ext.new h5)
 have o4 := New.own E4 h5
 have n34 : p3.block ≠ p4.block := New.ne h5 b3.blk
 have c3 := b3.pure (Ext.new h5 : Pure w4 w5)
 have c4 := Box.of_new h5
 have c2 := b2.pure (Ext.new h5 : Pure w4 w5)
 refine ⟨s, c2.cell rfl, ?_⟩
 have hsp : Sp.grow L (.mk k f t u x ks) = Sp.growAll ⟨k, f, t, u, x, 0, 0⟩ 0 L ks := by rw [Sp.grow]
 rw [hsp] at hK
 have hlen : s.len = ks.length := by cases hT; assumption
 refine ⟨fun i w' => ∃ j : Nat, i = j ∧ j ≤ ks.length ∧ ∃ (nd : Sp.Node) (L' : Sp.Pool) (F' : Nat → Prop), Sp.growAll ⟨k, f, t, u, x, 0, 0⟩ 0 L ks = Sp.growAll nd j L' (ks.drop j) ∧ Sp.Ok L' ∧ PoolAt w' p L' F' ∧ (∀ b, F' b → F b ∨ w.heap.size ≤ b) ∧ ¬ F' p3.block ∧ ¬ F' p4.block ∧ Ext F w w' ∧ Box w' p3 (nrow nd) 93 ∧ Box w' p4 [.pointer (some (p3.add 5)), .pointer (some (p3.add 6))] 256, fun i _ => ((ks.length : Int) - i).toNat,
  ⟨0, rfl, Nat.zero_le _, ⟨k, f, t, u, x, 0, 0⟩, L, F, by simp, hok, hP.pure E5, fun b h => .inl h, fun h => by have := hP.lt h; omega, fun h => by have := hP.lt h; omega, E5.pure, c3, c4⟩, ?_⟩
 rintro _ wl ⟨j, rfl, hj, nd, L', F', heq, hok', hPl, hF', hn3, hn4, El, d3, d4⟩
 unfold m_term_Pool_grow_l1
 refine ⟨fun h => ?_, fun h => ?_⟩
 ·have hlt : j < ks.length := by have h := of_decide_eq_true h; omega
  have hTl : TreeAt S wl s (.mk k f t u x ks) := hT.ext El (fun b hs hf => hFS b hf hs)
  have hkid : ∀ i (h : i < ks.length), ∃ a r, At s i 6 a ∧ Row wl a (trow ks[i] r) ∧ TreeAt S wl r ks[i] := by
   cases hTl with
   | mk _ _ _ _ _ _ _ rs len fit row kid => exact fun i h => let ⟨a, h1, _, h3⟩ := row i h; ⟨a, rs i, h1, h3, kid i h⟩
  obtain ⟨a, r, hat, hrow, hTk⟩ := hkid j hlt
  refine ⟨a, hat, _, _, _, _, _, r, hrow, ?_⟩
  intro p5 w6 h6
  have o5 := New.own (Ext.refl wl) h6
  refine bx 6 (Box.of_new h6) rfl rfl (fun w7 b5 E67 => ?_)
  have E7 : Pure wl w7 := Ext.own (Ext.new h6) o5 E67
  refine ⟨_, _, _, _, _, r, b5.row, ?_⟩
  have hsz : w.heap.size ≤ wl.heap.size := El.size
  refine (ih j hlt r w7 L' F' (twoAll_get hall hlt) (hTk.pure E7) (hPl.pure E7) hok' (fun b hb hs => (hF' b hb).elim (fun h => hFS b h hs) (fun h => by have := hSw b hs; omega)) (fun b hs => by have := hSw b hs; have := E7.size; omega)).mono ?_
  rintro _ w8 ⟨r1, r2, rfl, hr, F8, hP8, E8, hF8⟩
  have e1 : r1 = (Sp.grow L' ks[j]).1 := congrArg Prod.fst hr
  have e2 : r2 = (Sp.grow L' ks[j]).2.1 := congrArg Prod.snd hr
  rw [List.drop_eq_getElem_cons hlt] at heq
  have hF8' : ∀ b, F8 b → F b ∨ w.heap.size ≤ b := fun b hb => (hF8 b hb).elim (hF' b) (fun h => by right; have := E7.size; omega)
  have Ew8 : Ext F w w8 := (El.thenPure E7).trans' E8 (fun i hi h => (hF' i h).elim id (fun h => by omega))
  refine ⟨_, _, rfl, fun h => ?_, fun h => ?_⟩
  ·have h : (Sp.grow L' ks[j]).2.1 ≠ 0 := by rw [← e2]; simpa using h
   rw [growAll_bad h] at heq
   refine hK _ _ _ ?_
   rw [heq]; exact ⟨by rw [e2], F8, hP8, Ew8, hF8'⟩
  ·have h : (Sp.grow L' ks[j]).2.1 = 0 := by rw [← e2]; simpa using h
   rw [growAll_good h] at heq
   have q3 := (d3.pure E7).ext E8 hn3
   have q4 := (d4.pure E7).ext E8 hn4
   have hs7 : wl.heap.size ≤ w7.heap.size := E7.size
   have n38 : ¬ F8 p3.block := fun h => (hF8 _ h).elim hn3 (fun h => by have := (d3.pure E7).lt; omega)
   have n48 : ¬ F8 p4.block := fun h => (hF8 _ h).elim hn4 (fun h => by have := (d4.pure E7).lt; omega)
   have hok8 := (Sp.grow_facts ks[j] L' hok').1
   have fin : ∀ (w9 : World) (nd' : Sp.Node), nd' = (if j = 0 then { nd with a := (Sp.grow L' ks[j]).1 } else { nd with b := (Sp.grow L' ks[j]).1 }) → Box w9 p3 (nrow nd') 93 → Ext (· = p3.block) w8 w9 →
     (∃ j' : Nat, IntKind.i64.wrap ((j : Int) + 1) = j' ∧ j' ≤ ks.length ∧ ∃ (nd : Sp.Node) (L' : Sp.Pool) (F' : Nat → Prop), Sp.growAll ⟨k, f, t, u, x, 0, 0⟩ 0 L ks = Sp.growAll nd j' L' (ks.drop j') ∧ Sp.Ok L' ∧ PoolAt w9 p L' F' ∧ (∀ b, F' b → F b ∨ w.heap.size ≤ b) ∧ ¬ F' p3.block ∧ ¬ F' p4.block ∧ Ext F w w9 ∧ Box w9 p3 (nrow nd) 93 ∧ Box w9 p4 [.pointer (some (p3.add 5)), .pointer (some (p3.add 6))] 256) ∧ ((ks.length : Int) - IntKind.i64.wrap ((j : Int) + 1)).toNat < ((ks.length : Int) - (j : Int)).toNat := by
    intro w9 nd' hnd B9 E9
    rw [i64 (by omega) (by omega)]
    refine ⟨⟨j + 1, by omega, hlt, nd', _, F8, by rw [heq, hnd], hok8, hP8.ext E9 (fun b hb e => n38 (e ▸ hb)), hF8', n38, n48, Ew8.trans' E9 (fun i hi h => by subst h; omega), B9, q4.ext E9 n34.symm⟩, by omega⟩
   have hj2 : j = 0 ∨ j = 1 := by omega
   rcases hj2 with rfl | rfl
   ·refine ⟨p4, ⟨by omega, by simp, p4, rfl, rfl⟩, some (p3.add 5), q4.cell0, p3.add 5, rfl, q3.canW (by simp [nrow]), ?_⟩
    intro w9 hw9
    refine fin w9 _ rfl ?_ ?_
    ·rw [hw9, e1]; exact q3.set 5 _
    ·rw [hw9]; have := Ext.setCell (w := w8) (p3.add 5) (.int .i64 r1); rw [add_block] at this; exact this
   ·refine ⟨p4.add 1, ⟨by omega, by simp, p4, rfl, rfl⟩, some (p3.add 6), q4.cell rfl, p3.add 6, rfl, q3.canW (by simp [nrow]), ?_⟩
    intro w9 hw9
    refine fin w9 _ rfl ?_ ?_
    ·rw [hw9, e1]; exact q3.set 6 _
    ·rw [hw9]; have := Ext.setCell (w := w8) (p3.add 6) (.int .i64 r1); rw [add_block] at this; exact this
 ·have hge : j = ks.length := by have h := of_decide_eq_false h; omega
  rw [hge, List.drop_length, Sp.growAll] at heq
  obtain ⟨k0, f0, t0, u0, x0, a0, b0⟩ := nd
  refine ⟨_, _, _, _, _, _, _, d3.row, ?_⟩
  refine (c_Make p k0 f0 t0 u0 x0 a0 b0 wl hPl hok').mono ?_
  rintro _ w9 ⟨r1, r2, rfl, hr, F9, hP9, E9, hF9⟩
  have hsz : w.heap.size ≤ wl.heap.size := El.size
  refine ⟨_, _, rfl, hK _ _ _ ?_⟩
  rw [heq]
  exact ⟨hr, F9, hP9, El.trans' E9 (fun i hi h => (hF' i h).elim id (fun h => by omega)), fun b hb => (hF9 b hb).elim (hF' b) (fun h => by right; omega)⟩
theorem looks_two (t : Sp.Tree) : ∀ i n : Int, (Sp.looks i n t).1 = 0 → Sp.Tree.two t := by
 induction t using Sp.Tree.ind with
 | h k f t u x ks ih =>
  have hA : ∀ (ks : List Sp.Tree), (∀ i (hi : i < ks.length), ∀ j n : Int, (Sp.looks j n ks[i]).1 = 0 → Sp.Tree.two ks[i]) → ∀ i e n : Int, (Sp.looksAll i e n ks).1 = 0 → e = 0 ∧ twoAll ks := by
   intro ks
   induction ks with
   | nil => intro _ i e n h; exact ⟨by simpa [Sp.looksAll] using h, trivial⟩
   | cons t ts iht =>
    intro hh i e n h
    unfold Sp.looksAll at h
    split at h
    ·rename_i he
     have := iht (fun i hi => hh (i + 1) (by simpa using hi)) _ _ _ h
     exact ⟨he, hh 0 (by simp) i n this.1, this.2⟩
    ·rename_i he; exact absurd h he
  intro i n h
  unfold Sp.looks at h
  split at h
  ·cases h
  ·split at h
   ·cases h
   ·have := hA ks ih _ _ _ h
    refine two_mk.2 ⟨?_, this.2⟩
    have ho := this.1
    unfold Sp.ownErr at ho
    simp only at ho
    have hk := Sp.kids_le k
    by_cases hp : Sp.plainErr ⟨k, f, t, u, x, 0, 0⟩ = 0
    ·rw [if_pos hp] at ho
     by_cases hl : (ks.length : Int) ≠ (Sp.shapeOf k).kids
     ·rw [if_pos hl] at ho; simp at ho
     ·omega
    ·rw [if_neg hp, if_neg hp] at ho; exact absurd ho hp
theorem c_Of {S : Nat → Prop} (p : Addr) (t : Sp.Tree) (s : Sl) (w : World) {L : Sp.Pool} {F : Nat → Prop} (hT : TreeAt S w s t) (hP : PoolAt w p L F) (hok : Sp.Ok L) (hFS : ∀ b, F b → ¬ S b) (hSw : ∀ b, S b → b < w.heap.size) :
  Calls Try.prog 73 #[.pointer (some p), .agg (trow t s).toArray] w
   (fun e w' => ∃ r1 : Int, ∃ r2 : Int, e = .returned (.tuple #[.int .i64 r1, .int .i64 r2]) ∧ ((r1, r2) = ((Sp.of L t).1, (Sp.of L t).2.1) ∧ ∃ F', PoolAt w' p (Sp.of L t).2.2 F' ∧ Ext F w w' ∧ ∀ b, F' b → F b ∨ w.heap.size ≤ b)) := by
 obtain ⟨k, f, to, u, x, ks⟩ := t
 suffices key : ∀ K : Int → Int → World → Prop, (∀ r1 r2 w', ((r1, r2) = ((Sp.of L (.mk k f to u x ks)).1, (Sp.of L (.mk k f to u x ks)).2.1) ∧ ∃ F', PoolAt w' p (Sp.of L (.mk k f to u x ks)).2.2 F' ∧ Ext F w w' ∧ ∀ b, F' b → F b ∨ w.heap.size ≤ b) → K r1 r2 w') → m_term_Pool_Of (some p) k f to u x s w K from
  w_term_Pool_Of _ _ _ _ _ _ _ w _ (key _ (fun _ _ _ h => h))
 intro K hK
 unfold m_term_Pool_Of
 intro p2 w1 h1
 have b1 := Box.of_new h1
 have E1 : Pure w w1 := Ext.new h1
 refine Br.f rfl ?_
 intro p3 w2 h2
 have E2 : Pure w w2 := E1.trans (Ext.new h2)
 have o3 := New.own E1 h2
 have c3 := Box.of_new h2
 have n23 : p2.block ≠ p3.block := New.ne h2 b1.blk
 refine ⟨c3.canW0 (by simp), ?_⟩
 intro w3 hw3
 have c3' : Box w3 p3 [.int .i64 0] 3 := by rw [hw3]; exact c3.set0
 have E23 : Ext (· = p3.block) w2 w3 := by rw [hw3]; exact Ext.setCell p3 _
 clear hw3
 have E3 : Pure w w3 := E2.own o3 E23
 have b3 := (b1.pure (Ext.new h2 : Pure w1 w2)).ext E23 n23
 refine ⟨_, _, _, _, _, s, b3.row, ?_⟩
 generalize ht : Sp.Tree.mk k f to u x ks = t at *
 have htr : (Value.agg #[.int .i64 k, .int .i64 f, .int .i64 to, .int .u64 u, .string x, s.v]) = .agg (trow t s).toArray := by rw [← ht]; rfl
 rw [htr]
 refine (c_looks p3 (fun h => by have := hSw _ h; omega) _ t s 0 0 w3 (by omega) (by omega) (hT.pure E3) c3').mono ?_
 rintro _ w4 ⟨r1, rfl, rfl, _, E34⟩
 have E4 : Pure w w4 := E3.own o3 E34
 have b4 := b3.ext E34 n23
 have same : ∀ w', Pure w w' → ∃ F', PoolAt w' p L F' ∧ Ext F w w' ∧ ∀ b, F' b → F b ∨ w.heap.size ≤ b := fun w' E => ⟨F, hP.pure E, E.pure, fun _ h => .inl h⟩
 refine ⟨_, rfl, fun h => ?_, fun h => ?_⟩
 ·have h : (Sp.looks 0 0 t).1 ≠ 0 := by simpa using h
  have : Sp.of L t = (0, (Sp.looks 0 0 t).1, L) := by rw [Sp.of, if_pos h]
  refine hK _ _ _ ?_
  rw [this]; exact ⟨rfl, same _ E4⟩
 ·have h : (Sp.looks 0 0 t).1 = 0 := by simpa using h
  have hP4 := hP.pure E4
  obtain ⟨s0, m0, hS0, hF0⟩ := id hP4
  have hl0 : s0.len = L.length := by rw [hS0.rows.len]; simp
  refine ⟨p, rfl, s0, hS0.box.cell0, _, _, _, _, _, s, b4.row, ?_⟩
  rw [htr]
  refine (c_grow p t s w4 L F (looks_two t _ _ h) (hT.pure E4) hP4 hok hFS (fun b hb => by have := hSw b hb; have := E4.size; omega)).mono ?_
  rintro _ w5 ⟨r1, r2, rfl, hr, F5, hP5, E45, hF5⟩
  have e1 : r1 = (Sp.grow L t).1 := congrArg Prod.fst hr
  have e2 : r2 = (Sp.grow L t).2.1 := congrArg Prod.snd hr
  have hs4 : w.heap.size ≤ w4.heap.size := E4.size
  have E5 : Ext F w w5 := E4.pure.trans E45
  have hF5' : ∀ b, F5 b → F b ∨ w.heap.size ≤ b := fun b hb => (hF5 b hb).elim .inl (fun h => .inr (by omega))
  refine ⟨_, _, rfl, fun h' => ?_, fun h' => ?_⟩
  ·have h' : (Sp.grow L t).2.1 ≠ 0 := by rw [← e2]; simpa using h'
   obtain ⟨hok5, M, hM⟩ := Sp.grow_facts t L hok
   rw [hl0]
   refine (c_cut p L.length w5 hP5 hok5 (by rw [hM]; simp)).mono ?_
   rintro _ w6 ⟨rfl, hP6, E56⟩
   have : Sp.of L t = (0, (Sp.grow L t).2.1, L) := by rw [Sp.of, if_neg (by simp [h]), if_pos h']
   refine ⟨rfl, hK _ _ _ ?_⟩
   rw [this]
   rw [hM, List.take_left] at hP6
   exact ⟨by rw [e2], F5, hP6, E5.trans' E56 (fun i hi h => (hF5' i h).elim id (fun h => by omega)), hF5'⟩
  ·have h' : (Sp.grow L t).2.1 = 0 := by rw [← e2]; simpa using h'
   have : Sp.of L t = ((Sp.grow L t).1, 0, (Sp.grow L t).2.2) := by rw [Sp.of, if_neg (by simp [h]), if_neg (by simp [h'])]
   refine hK _ _ _ ?_
   rw [this]
   exact ⟨by rw [e1], F5, hP5, E5, hF5'⟩
end Go.Proofs
end
section
open Go Go.SE
namespace Go.Proofs
attribute [local irreducible] Calls
theorem fieldsErr_ne (s : Sp.Shape) (n : Sp.Node) : Sp.fieldsErr s n ≠ 53 := by
 unfold Sp.fieldsErr
 split
 ·omega
 ·split <;> omega
theorem ownErr_eq (k f t u : Int) (x : ByteArray) (len : Nat) : Sp.ownErr ⟨k, f, t, u, x, 0, 0⟩ len = (if (Sp.nodeErr ⟨k, f, t, u, x, 0, 0⟩ ≠ 53 ∧ (len : Int) ≠ (Sp.shapeOf k).kids) then 53 else Sp.nodeErr ⟨k, f, t, u, x, 0, 0⟩) := by
 unfold Sp.ownErr Sp.nodeErr
 simp only
 rcases plainErr_val ⟨k, f, t, u, x, 0, 0⟩ with h | h
 ·rw [h]; simp
 ·rw [h]
  have := fieldsErr_ne (Sp.shapeOf k) ⟨k, f, t, u, x, 0, 0⟩
  by_cases h2 : (len : Int) = (Sp.shapeOf k).kids <;> simp [h2, this]
theorem c_ref05_looked {S : Nat → Prop} (q : Addr) (hq : ¬ S q.block) (T : TypeId) (t : Sp.Tree) : ∀ (s : Sl) (inside seen : Int) (w0 : World), 0 ≤ inside → 0 ≤ seen → TreeAt S w0 s t → (∀ b, S b → b < w0.heap.size) → Box w0 q [.int .i64 seen] T →
  Calls Try.prog 159 #[.agg (trow t s).toArray, .int .i64 inside, .pointer (some q)] w0
   (fun e w' => ∃ r : Int, e = .returned (.int .i64 r) ∧ (r = (Sp.looks inside seen t).1 ∧ Box w' q [.int .i64 (Sp.looks inside seen t).2] T ∧ Ext (· = q.block) w0 w')) := by
 induction t using Sp.Tree.ind with
 | h k f t u x ks ih =>
 intro s inside seen w0 hi0 hn0 hT hSw hB
 suffices key : ∀ K : Int → World → Prop, (∀ r w', (r = (Sp.looks inside seen (.mk k f t u x ks)).1 ∧ Box w' q [.int .i64 (Sp.looks inside seen (.mk k f t u x ks)).2] T ∧ Ext (· = q.block) w0 w') → K r w') → m_ref05_looked k f t u x s inside (some q) w0 K from
  w_ref05_looked _ _ _ _ _ _ _ _ w0 _ (key _ (fun _ _ h => h))
 intro K hK
 have hql := hB.lt
 unfold m_ref05_looked
 refine ⟨q, rfl, ?_⟩
 intro H1 w1 hs1
 have hB1 := hB.pure hs1.first
 refine ⟨seen, hB1.cell0, ?_⟩
 intro H5 w13 hs5
 have E13 := hs1.first.hst hs5
 have hB13 := hB.pure E13
 have hq0 : ∀ {H w' H' w''}, Hst w0 H w' H' w'' → ¬ H' q.block := fun h hh => by have := h.old _ hh; omega
 unfold m_ref05_looked_j1
 refine ⟨fun h => ?_, fun h => ?_⟩
 ·have : Sp.looks inside seen (.mk k f t u x ks) = (52, seen) := by
   rw [Sp.looks]
   simp only [Bool.or_eq_true, decide_eq_true_eq] at h
   by_cases h1 : 4096 ≤ seen
   ·rw [if_pos h1]
   ·rw [if_neg h1, if_pos (by omega)]
  rw [this] at hK; exact hK _ _ ⟨rfl, hB13, E13.pure⟩
 ·have h1 : ¬ 4096 ≤ seen ∧ ¬ 64 ≤ inside := by
   simp only [Bool.or_eq_false_iff, decide_eq_false_iff_not] at h; omega
  have hsp : Sp.looks inside seen (.mk k f t u x ks) = Sp.looksAll (inside + 1) (Sp.ownErr ⟨k, f, t, u, x, 0, 0⟩ ks.length) (seen + 1) ks := by rw [Sp.looks, if_neg h1.1, if_neg h1.2]
  rw [hsp] at hK
  have hlen : s.len = ks.length := by cases hT; assumption
  have hfit : ks.length ≤ 9223372036854775807 := by cases hT; assumption
  refine ⟨q, rfl, seen, hB13.cell0, q, rfl, hB13.canW0 (by simp), hq0 hs5, ?_⟩
  rw [i64 (n := seen + 1) (by omega) (by omega)]
  rintro w2 hw2
  have hB2 : Box w2 q [.int .i64 (seen + 1)] T := by rw [hw2]; exact hB13.set0
  have E2 : Ext (· = q.block) w0 w2 := by rw [hw2]; exact E13.pure.trans (Ext.setCell q _)
  clear hw2
  rintro y1 rfl
  have hsh := ref05_shape ⟨k, f, t, u, x, 0, 0⟩
  simp only at hsh
  rw [hsh, ref05_kids, hlen]
  have hown : cond ((Sp.nodeErr ⟨k, f, t, u, x, 0, 0⟩ != 53) && ((ks.length : Int) != (Sp.shapeOf k).kids)) 53 (Sp.nodeErr ⟨k, f, t, u, x, 0, 0⟩) = Sp.ownErr ⟨k, f, t, u, x, 0, 0⟩ ks.length := by
   rw [ownErr_eq]
   by_cases h2 : Sp.nodeErr ⟨k, f, t, u, x, 0, 0⟩ = 53
   ·simp [h2]
   ·by_cases h3 : (ks.length : Int) = (Sp.shapeOf k).kids
    ·simp [h3]
    ·have e1 : (Sp.nodeErr ⟨k, f, t, u, x, 0, 0⟩ != 53) = true := by simpa using h2
     have e2 : ((ks.length : Int) != (Sp.shapeOf k).kids) = true := by simpa using h3
     rw [e1, e2, if_pos ⟨h2, h3⟩]; rfl
  rw [hown]
  intro H3 w10 hs3
  have E10 : Ext (· = q.block) w0 w10 := E2.hst hs3
  have hB10 := hB2.ext hs3.ext (hq0 hs3)
  refine ⟨fun e i H w' => ∃ j : Nat, i = j ∧ j ≤ ks.length ∧ ∃ n : Int, 0 ≤ n ∧ Ext (· = q.block) w0 w' ∧ Box w' q [.int .i64 n] T ∧ Sp.looksAll (inside + 1) e n (ks.drop j) = Sp.looksAll (inside + 1) (Sp.ownErr ⟨k, f, t, u, x, 0, 0⟩ ks.length) (seen + 1) ks, fun _ i _ => ((ks.length : Int) - i).toNat, ⟨0, rfl, Nat.zero_le _, seen + 1, by omega, E10, hB10, rfl⟩, ?_⟩
  rintro e1 _ Hl wl hl ⟨j, rfl, hj, n, hn, El, hBl, heq⟩
  unfold m_ref05_looked_l2
  have hTl := hT.ext El (fun b hb e => hq (e ▸ hb))
  refine ⟨fun hc => ?_, fun hc => ?_⟩
  ·simp only [Bool.and_eq_true, beq_iff_eq] at hc
   obtain ⟨he, hlt⟩ := hc
   have hlt := lt_of_dec hlen hlt
   subst he
   cases hTl with
   | mk _ _ _ _ _ _ _ rs len fit row kid =>
   obtain ⟨a, hat, ha, hr⟩ := row j hlt
   refine ⟨a, hat, ?_⟩
   intro H4 w11 hs4
   have E11 := El.hst hs4
   have hT11 := hT.ext E11 (fun b hb e => hq (e ▸ hb))
   have hr11 : Row w11 a (trow ks[j] (rs j)) := hs4.ext.row hr (fun hh => by have := hs4.old _ hh; have := hSw _ ha; omega)
   have hk11 : TreeAt S w11 (rs j) ks[j] := (kid j hlt).ext hs4.ext (fun b hb hh => by have := hs4.old _ hh; have := hSw _ hb; omega)
   have hB11 := hBl.ext hs4.ext (hq0 hs4)
   refine ⟨_, _, _, _, _, rs j, hr11, ?_⟩
   rw [i64 (n := inside + 1) (by omega) (by omega)]
   refine (ih j hlt (rs j) (inside + 1) n w11 (by omega) hn hk11 (fun b hb => by have := hSw b hb; have := E11.size; omega) hB11).mono ?_
   rintro _ w12 ⟨r, rfl, rfl, hB12, E12⟩
   refine ⟨_, rfl, E12.kept (fun b hb e => hq0 hs4 (e ▸ hb)), ?_⟩
   rw [wrap_succ hlt (by omega)]
   refine ⟨⟨j + 1, rfl, hlt, _, looks_mono ks[j] (inside + 1) n hn, E11.trans E12, hB12, ?_⟩, lt_dec hlt⟩
   rw [← heq]; exact (looksAll_drop hlt (inside + 1) n).symm
  ·intro H4 w11 hs4
   have hfin : Sp.looksAll (inside + 1) e1 n (ks.drop j) = (e1, n) := by
    by_cases he : e1 = 0
    ·have hge : j = ks.length := by
      rw [he] at hc
      have hc : decide ((j : Int) < (s.len : Int)) = false := by simpa using hc
      exact eq_of_dec hlen hj hc
     rw [hge, List.drop_length]; rfl
    ·exact looksAll_bad he _ _
   rw [hfin] at heq
   refine hK _ _ ⟨by rw [← heq], ?_, El.hst hs4⟩
   rw [← heq]; exact hBl.ext hs4.ext (hq0 hs4)
theorem c_ref05_Looks {S : Nat → Prop} (t : Sp.Tree) (s : Sl) (w0 : World) (hT : TreeAt S w0 s t) (hSw : ∀ b, S b → b < w0.heap.size) :
  Calls Try.prog 125 #[.agg (trow t s).toArray] w0 (fun e w' => ∃ r : Int, e = .returned (.int .i64 r) ∧ (r = (Sp.looks 0 0 t).1 ∧ Pure w0 w')) := by
 obtain ⟨k, f, to, u, x, ks⟩ := t
 refine w_ref05_Looks _ _ _ _ _ _ w0 (fun r w' => r = (Sp.looks 0 0 (.mk k f to u x ks)).1 ∧ Pure w0 w') ?_
 unfold m_ref05_Looks
 intro H1 w1 hs1 p w2 h2
 have b2 := Box.of_new h2
 have E2 : Pure w0 w2 := hs1.first.trans (Ext.new h2)
 have o2 := New.own hs1.first h2
 have hpH : ¬ H1 p.block := fun hh => by have := hs1.lt _ hh; have := h2.at_size; omega
 refine ⟨b2.canW0 (by simp), hpH, ?_⟩
 rintro w3 hw3
 have b3 : Box w3 p [.int .i64 0] 3 := by rw [hw3]; exact b2.set0
 have E3 : Pure w0 w3 := by rw [hw3]; exact E2.own o2 (Ext.setCell p _)
 clear hw3
 refine (c_ref05_looked p (fun h => by have := hSw _ h; omega) _ _ s 0 0 w3 (Int.le_refl _) (Int.le_refl _) (hT.pure E3) (fun b hb => by have := hSw b hb; have := E3.size; omega) b3).mono ?_
 rintro _ w4 ⟨r, rfl, rfl, _, E4⟩
 exact ⟨_, rfl, E4.kept (fun b hb e => hpH (e ▸ hb)), rfl, E3.own o2 E4⟩
end Go.Proofs
end
