import Derived.Test.YtcldldjildmdlaaGreatProg
import Derived.KernelRfl
import Derived.Test.YtcldldjildmdlaaGreatPa2
section
open Go Go.SE
open Go.IntKind renaming i64 → q6
namespace Go.Proofs
set_option maxRecDepth 100000
set_option maxHeartbeats 4000000
attribute [local irreducible] wpL wpX opE wpE Calls
def m_G2 (p1 : Option Addr) (w0 : World) (K : (Option Addr) → WP) : Prop :=
 Br (Option.isNone p1)
  (K none w0)
  (∀ (p2 : Addr) (w1 : World), New w0 (.map #[] 0) p2 w1 →
  ∀ (p3 : Addr) (w2 : World), New w1 (.cells #[(vp p1), Sl.nil.v, (.map (some p2.block)), Sl.nil.v] 109) p3 w2 →
  K (some p3) w2)
theorem w_G2 (p1 : Option Addr) (w0 : World) (K : (Option Addr) → WP) (h : m_G2 p1 w0 K) :
  Calls Tryz.prog 20 #[(vp p1)] w0 (fun e w' => ∃ r1 : Option Addr, e = .returned (vp r1) ∧ K r1 w') := by
 unfold m_G2 at h
 refine cw (args := [(vp p1)]) Tryz.func20 Tryz.ntmps20 (wpE_seq (rg (q0 (vp none) (wpL_nil (th_n (wpE_seq (wpE_seq (rg (q0 (vp p1) (q2 (vb (Option.isNone p1)) (x_ptreq (by kernel_rfl) rfl Tryz.underlying26) (wpL_nil ?_)))))))))))
 refine th_n ?_
 refine wpE_cond (t := (Option.isNone p1)) (by kernel_rfl) (fun hc1 => ?_) (fun hc1 => ?_)
 ·have h := h.1 hc1
  refine wpE_seq (rg (q0 (vp none) (wpL_nil (th_n (wpE_ret (th_r (rs1 Tryz.results20 (v := (vp none)) ?_)))))))
  exact ⟨none, rfl, h⟩
 ·have h := h.2 hc1
  refine wpE_skip (th_n (wpE_seq (rg (q0 (vp p1) (st_new (O := (.map #[] 0)) (fun p => .map (some p.block)) (want0 rfl) (by kernel_rfl) ?_)))))
  intro p2 w1 hn2
  have h := h p2 w1 hn2
  refine q0 (.agg #[(vp p1), Sl.nil.v, (.map (some p2.block)), Sl.nil.v]) (sn (O := (.cells #[(vp p1), Sl.nil.v, (.map (some p2.block)), Sl.nil.v] 109)) xb ?_)
  intro p3 w2 hn1
  have h := h p3 w2 hn1
  refine q0 (vp (some p3)) (wpL_nil (th_n (wpE_ret (rs1 Tryz.results20 (v := (vp (some p3))) ?_))))
  exact ⟨(some p3), rfl, h⟩
def m_H2 (k1 : Option Addr) (w0 : World) (K : (Option Addr) → WP) : Prop :=
 Br (Option.isNone k1)
  (K none w0)
  (∃ C1 : WP, C1 w0.drew ∧ ∀ w1, w1 = w0.drew →
  ∃ a1 : Addr, k1 = some a1 ∧
  ∃ v1 : Option Addr, (∀ w', C1 w' → w'.cell? a1 = some (vp v1)) ∧
  ∃ a2 : Addr, k1 = some a2 ∧
  ∃ v2 : Sl, (∀ w', C1 w' → w'.cell? (a2.add 1) = some v2.v) ∧
  ∃ a3 : Addr, k1 = some a3 ∧
  ∃ v3 : Option Nat, (∀ w', C1 w' → w'.cell? (a3.add 2) = some (.map v3)) ∧
  ∃ a4 : Addr, k1 = some a4 ∧
  ∃ v4 : Sl, (∀ w', C1 w' → w'.cell? (a4.add 3) = some v4.v) ∧
  Calls Tryz.prog 56 #[v2.v] w1 (fun e w2 => ∃ r1 : Sl, e = .returned r1.v ∧ C1 w2 ∧ 
   Kept None w1 w2 ∧
   Calls Tryz.prog 57 #[(.map v3)] w2 (fun e w3 => ∃ r2 : Option Nat, e = .returned (.map r2) ∧ C1 w3 ∧ 
    Kept None w2 w3 ∧
    Calls Tryz.prog 56 #[v4.v] w3 (fun e w4 => ∃ r3 : Sl, e = .returned r3.v ∧ C1 w4 ∧ 
     Kept None w3 w4 ∧
     ∀ (p1 : Addr) (w5 : World), New w4 (.cells #[(vp v1), r1.v, (.map r2), r3.v] 109) p1 w5 → C1 w5 ∧
     K (some p1) w5))))
theorem w_H2 (k1 : Option Addr) (w0 : World) (K : (Option Addr) → WP) (h : m_H2 k1 w0 K) :
  Calls Tryz.prog 21 #[(vp k1)] w0 (fun e w' => ∃ r4 : Option Addr, e = .returned (vp r4) ∧ K r4 w') := by
 unfold m_H2 at h
 refine cw (args := [(vp k1)]) Tryz.func21 Tryz.ntmps21 ?_
 have hs := Hst.start w0
 have hb := HB.nil None w0
 refine wpE_seq (rg (q0 (vp none) (wpL_nil (th_n (wpE_seq (wpE_seq (rg (q0 (vp k1) (q2 (vb (Option.isNone k1)) (x_ptreq (by kernel_rfl) rfl Tryz.underlying55) (wpL_nil (th_n ?_)))))))))))
 refine wpE_cond (t := (Option.isNone k1)) (by kernel_rfl) (fun hc1 => ?_) (fun hc1 => ?_)
 ·have h := h.1 hc1
  refine wpE_seq (rg (q0 (vp none) (wpL_nil (th_n (wpE_ret (th_r (rs1 Tryz.results21 (v := (vp none)) ?_)))))))
  exact ⟨none, rfl, h⟩
 ·have h := h.2 hc1
  refine wpE_skip (th_n (wpE_seq ?_))
  obtain ⟨C1, hC, h⟩ := h
  refine wpE_drawnC C1 [8, 13, 18, 20] [] (by kernel_rfl) (by kernel_rfl) (by kernel_rfl) (by kernel_rfl) hC ?_
  intro w1 hw1
  have h := h w1 hw1
  have hs : Hst w0 None w0 None w1 := by rw [hw1]; exact hs.drew
  have hb : HB None w1 [] := by rw [hw1]; exact hb.drew
  have hs := hs.here
  refine qx 0 (vp k1) Kp0 (qg 1 ?_)
  obtain ⟨a1, hp1, h⟩ := h
  refine sy (v := (vp (some a1))) Kp1 (fun _ _ => (x_nilCheck (p := k1) (by kernel_rfl) hp1)) (qx 2 (vp (some a1)) Kp2 (qg 3 ?_))
  obtain ⟨v1, hv4, h⟩ := h
  refine sy (v := (vp v1)) Kp3 (fun w' hw' => (xl (Tryz.isAgg26 _) (hv4 w' hw'))) (qx 4 (vp k1) Kp4 (qg 5 ?_))
  obtain ⟨a2, hp2, h⟩ := h
  refine sy (v := (vp (some a2))) Kp5 (fun _ _ => (x_nilCheck (p := k1) (by kernel_rfl) hp2)) (qx 6 (vp (some (a2.add 1))) Kp6 (qg 7 ?_))
  obtain ⟨v2, hv3, h⟩ := h
  refine sy (v := v2.v) Kp7 (fun w' hw' => (xl (Tryz.isAgg52 _) (hv3 w' hw'))) (qx 9 (vp k1) Kp9 (qg 10 ?_))
  obtain ⟨a3, hp3, h⟩ := h
  refine sy (v := (vp (some a3))) (pickA (S8 (pickS (pickS pickZ)))) (fun _ _ => (x_nilCheck (p := k1) (by kernel_rfl) hp3)) (qx 11 (vp (some (a3.add 2))) (pickA (S8 (pickS (pickS (pickS pickZ))))) (qg 12 ?_))
  obtain ⟨v3, hv2, h⟩ := h
  refine sy (v := (.map v3)) (pickA (S8 (S4 pickZ))) (fun w' hw' => (xl (Tryz.isAgg107 _) (hv2 w' hw'))) (qx 14 (vp k1) (pickA (S8 (S4 (pickS (pickS pickZ))))) (qg 15 ?_))
  obtain ⟨a4, hp4, h⟩ := h
  refine sy (v := (vp (some a4))) (pickA (S8 (S4 (pickS (pickS (pickS pickZ)))))) (fun _ _ => (x_nilCheck (p := k1) (by kernel_rfl) hp4)) (qx 16 (vp (some (a4.add 3))) (pickA (S8 (S8 pickZ))) (qg 17 ?_))
  obtain ⟨v4, hv1, h⟩ := h
  refine sy (v := v4.v) (pickA (S8 (S8 (pickS pickZ)))) (fun w' hw' => (xl (Tryz.isAgg52 _) (hv1 w' hw'))) (lg 8 ?_)
  refine sl_call Kp8 (want0 rfl) (by kernel_rfl) (xc Tryz.call56) (h.mono ?_)
  rintro e w2 ⟨r1, rfl, hC, hk, h⟩
  refine ⟨_, rfl, .inr hC, ?_⟩
  obtain ⟨hs, hb⟩ := hk.hh hs hb
  refine lg 13 ?_
  refine sl_call (pickA (S8 (S4 (pickS pickZ)))) (want0 rfl) (by kernel_rfl) (xc Tryz.call57) (h.mono ?_)
  rintro e w3 ⟨r2, rfl, hC, hk, h⟩
  refine ⟨_, rfl, .inr hC, ?_⟩
  obtain ⟨hs, hb⟩ := hk.hh hs hb
  refine lg 18 ?_
  refine sl_call (pickA (S8 (S8 (pickS (pickS pickZ))))) (want0 rfl) (by kernel_rfl) (xc Tryz.call56) (h.mono ?_)
  rintro e w4 ⟨r3, rfl, hC, hk, h⟩
  refine ⟨_, rfl, .inr hC, ?_⟩
  obtain ⟨hs, hb⟩ := hk.hh hs hb
  refine qx 19 (.agg #[(vp v1), r1.v, (.map r2), r3.v]) (pickA (S8 (S8 (pickS (pickS (pickS pickZ)))))) (lg 20 (sl_new (O := (.cells #[(vp v1), r1.v, (.map r2), r3.v] 109)) (fun p => .pointer (some p)) (pickA (S8 (S8 (S4 pickZ)))) (want0 rfl) (by kernel_rfl) xb ?_))
  intro p1 w5 hn1
  have h := h p1 w5 hn1
  refine ⟨.inr h.1, ?_⟩
  have h := h.2
  have hs := hs.again (Ext.new (F := None) hn1).keptP
  have hb := hb.kept (Ext.new (F := None) hn1).keptP
  refine qx 21 (vp (some p1)) (pickA (S8 (S8 (S4 (pickS pickZ))))) (wn (th_n (wpE_ret (rs1 Tryz.results21 (v := (vp (some p1))) ?_))))
  exact ⟨(some p1), rfl, h⟩
def m_S_j2 (p1 : Addr) (at1 : Int) (p5 a9 : Addr) (w0 : World) (H : NP) (w : World) (Kc1 : Int → NP → WP) (_K : WP) : Prop :=
 ∃ v15 : Int, w.cell? a9 = some (vi v15) ∧
 Br (v15 == 4)
  (∃ v16 : Int, w.cell? (a9.add 5) = some (vi v16) ∧
  Calls Tryz.prog 97 #[(vi v16), (vi 1), (vp (some p1)), (vp (some p5))] w (fun e w13 => e = .returned (.tuple #[]) ∧ 
   Kept H w w13 ∧
   ∃ v17 : Int, w13.cell? (a9.add 6) = some (vi v17) ∧
   Calls Tryz.prog 97 #[(vi v17), (vi 2), (vp (some p1)), (vp (some p5))] w13 (fun e w14 => e = .returned (.tuple #[]) ∧ 
    Kept H w13 w14 ∧
    Kc1 (q6.wrap (at1 + 1)) H w14)))
  (∀ y1 : Bool, y1 = (cond (v15 == 7) (v15 == 7) (cond (v15 == 8) (v15 == 8) (v15 == 9))) →
  Br y1
   (∀ (H3 : NP) (w15 : World), Hst w0 H w H3 w15 →
   ∃ v18 : Int, w15.cell? (a9.add 5) = some (vi v18) ∧
   Calls Tryz.prog 97 #[(vi v18), (vi 3), (vp (some p1)), (vp (some p5))] w15 (fun e w16 => e = .returned (.tuple #[]) ∧ 
    Kept H3 w15 w16 ∧
    Kc1 (q6.wrap (at1 + 1)) H3 w16))
   (∀ (H3 : NP) (w15 : World), Hst w0 H w H3 w15 →
   Kc1 (q6.wrap (at1 + 1)) H3 w15))
def m_S_l1 (p1 : Addr) (at1 : Int) (w0 : World) (Hl1 : NP) (wl1 : World) (Kc1 : Int → NP → WP) (K : WP) : Prop :=
 ∃ v10 : Option Addr, wl1.cell? p1 = some (vp v10) ∧
 ∃ a6 : Addr, v10 = some a6 ∧
 ∃ v11 : Sl, wl1.cell? (a6.add 3) = some v11.v ∧
 Br (decide (at1 < (v11.len : Int)))
  (∃ v12 : Option Addr, wl1.cell? p1 = some (vp v12) ∧
  ∃ a7 : Addr, v12 = some a7 ∧
  ∃ v13 : Sl, wl1.cell? (a7.add 3) = some v13.v ∧
  ∃ a8 : Addr, At v13 at1 1 a8 ∧
  ∃ v14 : Int, wl1.cell? a8 = some (vi v14) ∧
  ∀ (p5 : Addr) (w11 : World), New wl1 (.cells #[(vi 0)] 30) p5 w11 →
  CanW w11 p5 ∧ ¬ Hl1 p5.block ∧ ∀ w12 : World, w12 = w11.setCell p5 (vi v14) →
  ∃ C3 : WP, C3 w12.drew ∧ ∀ w17, w17 = w12.drew →
  ∃ v19 : Option Addr, (∀ w', C3 w' → w'.cell? p1 = some (vp v19)) ∧
  ∃ a10 : Addr, v19 = some a10 ∧
  ∃ v20 : Option Addr, (∀ w', C3 w' → w'.cell? a10 = some (vp v20)) ∧
  ∃ v21 : Int, (∀ w', C3 w' → w'.cell? p5 = some (vi v21)) ∧
  (Calls Tryz.prog 43 #[(vp v20), (vi v21)] w17 (fun e w18 => ∃ aA aG : Int, ∃ aI aK : Int, ∃ aL : ByteArray, ∃ aC aF : Int, ∃ r1 : Bool, e = .returned (.tuple #[(.agg #[(vi aA), (vi aG), (vi aI), (vu aK), (vs aL), (vi aC), (vi aF)]), (vb r1)]) ∧ C3 w18 ∧ 
   Kept Hl1 w17 w18 ∧
   ∀ (p6 : Addr) (w19 : World), New w18 (.cells #[(vi 0), (vi 0), (vi 0), (vu 0), (vs ⟨#[]⟩), (vi 0), (vi 0)] 86) p6 w19 → C3 w19 ∧
   (∀ j, j < 7 → CanW w19 (p6.add j)) ∧ ¬ Hl1 p6.block ∧ ∀ w20 : World, w20 = storeRow w19 p6 [(vi aA), (vi aG), (vi aI), (vu aK), (vs aL), (vi aC), (vi aF)] → C3 w20 ∧
   m_S_j2 p1 at1 p5 p6 w0 Hl1 w20 Kc1 K)) ∧
  (∀ (p7 : Addr) (w21 : World), New w17 (.cells #[(vi 0), (vi 0), (vi 0), (vu 0), (vs ⟨#[]⟩), (vi 0), (vi 0)] 86) p7 w21 → C3 w21 ∧
  Calls Tryz.prog 43 #[(vp v20), (vi v21)] w21 (fun e w22 => ∃ aZ bA : Int, ∃ bB bC : Int, ∃ bD : ByteArray, ∃ bE bF : Int, ∃ r2 : Bool, e = .returned (.tuple #[(.agg #[(vi aZ), (vi bA), (vi bB), (vu bC), (vs bD), (vi bE), (vi bF)]), (vb r2)]) ∧ C3 w22 ∧ 
   Kept Hl1 w21 w22 ∧
   (∀ j, j < 7 → CanW w22 (p7.add j)) ∧ ¬ Hl1 p7.block ∧ ∀ w23 : World, w23 = storeRow w22 p7 [(vi aZ), (vi bA), (vi bB), (vu bC), (vs bD), (vi bE), (vi bF)] → C3 w23 ∧
   m_S_j2 p1 at1 p5 p7 w0 Hl1 w23 Kc1 K)))
  (K wl1)
def m_S (k1 : Option Addr) (t1 wrule1 wfrom1 : Int) (w0 : World) (K : WP) : Prop :=
 ∀ (p1 : Addr) (w1 : World), New w0 (.cells #[(vp k1)] 55) p1 w1 →
 ∀ (H1 : NP) (w2 : World), Hst w0 None w1 H1 w2 →
 ∃ v1 : Option Addr, w2.cell? p1 = some (vp v1) ∧
 ∃ a1 : Addr, v1 = some a1 ∧
 ∃ v2 : Option Nat, w2.cell? (a1.add 2) = some (.map v2) ∧
 ∃ vrule1 vfrom1 : Int, ∃ ok1 : Bool, (Instr.lookup 107 (.map v2) (vi t1) true).run Tryz.prog w2 = .ok (.tuple #[(.agg #[(vi vrule1), (vi vfrom1)]), (vb ok1)]) w2 ∧
 Br ok1
  (∀ (H2 : NP) (w4 : World), Hst w0 H1 w2 H2 w4 →
  K w4)
  (∀ (H2 : NP) (w4 : World), Hst w0 H1 w2 H2 w4 →
  ∃ C1 : WP, C1 w4.drew ∧ ∀ w5, w5 = w4.drew →
  ∃ v3 : Option Addr, (∀ w', C1 w' → w'.cell? p1 = some (vp v3)) ∧
  ∃ a2 : Addr, v3 = some a2 ∧
  ∃ v4 : Option Nat, (∀ w', C1 w' → w'.cell? (a2.add 2) = some (.map v4)) ∧
  ∃ w6 : World, (Instr.mapUpdate 107 (.map v4) (vi t1) (.agg #[(vi wrule1), (vi wfrom1)])).run Tryz.prog w5 = .ok () w6 ∧
  Kept H2 w5 w6 ∧
  ∃ v5 : Option Addr, w6.cell? p1 = some (vp v5) ∧
  ∃ a3 : Addr, v5 = some a3 ∧
  ∃ v6 : Sl, w6.cell? (a3.add 3) = some v6.v ∧
  ∃ C2 : WP, C2 w6.drew ∧ ∀ w7, w7 = w6.drew →
  ∃ v7 : Option Addr, (∀ w', C2 w' → w'.cell? p1 = some (vp v7)) ∧
  ∃ v8 : Option Addr, (∀ w', C2 w' → w'.cell? p1 = some (vp v8)) ∧
  ∃ a4 : Addr, v8 = some a4 ∧
  ∃ v9 : Sl, (∀ w', C2 w' → w'.cell? (a4.add 3) = some v9.v) ∧
  ∀ (p4 : Addr) (w8 : World), New w7 (.cells #[(vi t1)] 30) p4 w8 → C2 w8 ∧
  ∃ s1 : Sl, ∃ w9 : World, (Builtin.append_ #[52, 52] 52 #[v9.v, (Sl.mk (some p4) 1 1).v]).run Tryz.prog w8 = .ok s1.v w9 ∧ C2 w9 ∧
  Kept H2 w8 w9 ∧
  ∃ a5 : Addr, v7 = some a5 ∧
  CanW w9 (a5.add 3) ∧ ¬ H2 (a5.add 3).block ∧ ∀ w10 : World, w10 = w9.setCell (a5.add 3) s1.v →
  ∃ (I1 : Int → NP → WP) (mu1 : Int → World → Nat), I1 (v6.len : Int) H2 w10 ∧
   ∀ (at1 : Int) (Hl1 : NP) (wl1 : World), Hst w0 Hl1 wl1 Hl1 wl1 → I1 at1 Hl1 wl1 → m_S_l1 p1 at1 w0 Hl1 wl1 (fun y'0 H' w' => I1 y'0 H' w' ∧ mu1 y'0 w' < mu1 at1 wl1) K)
theorem w_S (k1 : Option Addr) (t1 wrule1 wfrom1 : Int) (w0 : World) (K : WP) (h : m_S k1 t1 wrule1 wfrom1 w0 K) :
  Calls Tryz.prog 59 #[(vp k1), (vi t1), (.agg #[(vi wrule1), (vi wfrom1)])] w0 (fun e w' => e = .returned (.tuple #[]) ∧ K  w') := by
 unfold m_S at h
 refine cw (args := [(vp k1), (vi t1), (.agg #[(vi wrule1), (vi wfrom1)])]) Tryz.func59 Tryz.ntmps59 ?_
 have hs := Hst.start w0
 have hb := HB.nil None w0
 refine wpE_seq (rg (sn (O := (.cells #[(vp k1)] 55)) xb ?_))
 intro p1 w1 hn12
 have h := h p1 w1 hn12
 have hs := hs.again (Ext.new (F := None) hn12).keptP
 have hb := hb.kept (Ext.new (F := None) hn12).keptP
 refine sn (O := (.cells #[(vi wrule1), (vi wfrom1)] 113)) xb ?_
 intro p2 w2 hn1
 obtain ⟨H1, hs, hb⟩ := hs.alloc hb hn1
 refine wpL_nil (th_n (wpE_seq (wpE_seq (rg ?_))))
 have h := h H1 w2 hs
 have hs := hs.here
 obtain ⟨v1, hv25, h⟩ := h
 refine q2 (vp v1) (xl (Tryz.isAgg55 _) hv25) ?_
 obtain ⟨a1, hp1, h⟩ := h
 refine q2 (vp (some a1)) (x_nilCheck (p := v1) (by kernel_rfl) hp1) (q0 (vp (some (a1.add 2))) ?_)
 obtain ⟨v2, hv24, h⟩ := h
 refine q2 (.map v2) (xl (Tryz.isAgg107 _) hv24) (q0 (vi t1) ?_)
 obtain ⟨vrule1, vfrom1, ok1, hv23, h⟩ := h
 refine q2 (.tuple #[(.agg #[(vi vrule1), (vi vfrom1)]), (vb ok1)]) (x_lookup (by kernel_rfl) (by kernel_rfl) hv23) (q0 (.tuple #[(.agg #[(vi vrule1), (vi vfrom1)]), (vb ok1)]) (q0 (.agg #[(vi vrule1), (vi vfrom1)]) (q0 (vb ok1) (sn (O := (.cells #[(vi 0), (vi 0)] 113)) (x_alloc (Tryz.zeroValue113 _) rfl) ?_))))
 intro p3 w3 hn2
 obtain ⟨H2, hs, hb⟩ := hs.alloc hb hn2
 refine st_set (want0 rfl) (x_storeA (a := p3) (vs := [(vi vrule1), (vi vfrom1)]) (by kernel_rfl) (by kernel_rfl) rfl (Tryz.sizeOf113 _) rfl (hb.canWs0 0 2 gZ (by kernel_rfl))) ?_
 intro w4 hn3
 have hsb : Hst w0 H1 w2 H2 w4 ∧ HB H2 w4 [(p3, [(vi vrule1), (vi vfrom1)], 113), (p2, [(vi wrule1), (vi wfrom1)], 113)] := by
  rw [hn3]
  exact hb.store0 (i := 0) (vs := [(vi vrule1), (vi vfrom1)]) hs gZ (by kernel_rfl) (by kernel_rfl)
 obtain ⟨hs, hb⟩ := hsb
 refine q0 (vb ok1) (wpL_nil (th_n (wpE_seq (rg (q0 (vb ok1) (wpL_nil (th_n ?_)))))))
 refine wpE_cond (t := ok1) (by kernel_rfl) (fun hc1 => ?_) (fun hc1 => ?_)
 ·have h := h.1 hc1
  refine wpE_ret (th_r ?_)
  have h := h H2 w4 hs
  have hs := hs.here
  refine res0 (.inl rfl) Tryz.results59 ?_
  exact ⟨rfl, h⟩
 ·have h := h.2 hc1
  refine wpE_skip (th_n (wpE_seq ?_))
  have h := h H2 w4 hs
  have hs := hs.here
  obtain ⟨C1, hC, h⟩ := h
  refine wpE_drawnC (fun x => C1 x ∧ HB H2 x [(p3, [(vi vrule1), (vi vfrom1)], 113), (p2, [(vi wrule1), (vi wfrom1)], 113)]) [6] [6] (by kernel_rfl) (by kernel_rfl) (by kernel_rfl) (by kernel_rfl) ⟨hC, hb.drew⟩ ?_
  intro w5 hw5
  have h := h w5 hw5
  have hs : Hst w0 H2 w4 H2 w5 := by rw [hw5]; exact hs.drew
  have hb : HB H2 w5 [(p3, [(vi vrule1), (vi vfrom1)], 113), (p2, [(vi wrule1), (vi wfrom1)], 113)] := by rw [hw5]; exact hb.drew
  have hs := hs.here
  refine qg 0 ?_
  obtain ⟨v3, hv22, h⟩ := h
  refine sy (v := (vp v3)) Kp0 (fun w' hw' => (xl (Tryz.isAgg55 _) (hv22 w' hw'.1))) (qg 1 ?_)
  obtain ⟨a2, hp2, h⟩ := h
  refine sy (v := (vp (some a2))) Kp1 (fun _ _ => (x_nilCheck (p := v3) (by kernel_rfl) hp2)) (qx 2 (vp (some (a2.add 2))) Kp2 (qg 3 ?_))
  obtain ⟨v4, hv21, h⟩ := h
  refine sy (v := (.map v4)) Kp3 (fun w' hw' => (xl (Tryz.isAgg107 _) (hv21 w' hw'.1))) (qx 4 (vi t1) Kp4 (qz 5 (.agg #[(vi wrule1), (vi wfrom1)]) Kp5 (fun w' hw' => (x_loadA (a := p2) (vs := [(vi wrule1), (vi wfrom1)]) (by kernel_rfl) (Tryz.isAgg113 _) (Tryz.sizeOf113 _) rfl (hw'.2.row0 1 2 (gS gZ) (by kernel_rfl)))) (lg 6 ?_)))
  obtain ⟨w6, hv20, hk, h⟩ := h
  refine sl_skip Kp6 (want0 rfl) (by kernel_rfl) (x_mapUpdate (by kernel_rfl) (by kernel_rfl) (by kernel_rfl) hv20) (.inl (by kernel_rfl)) ?_
  obtain ⟨hs, hb⟩ := hk.hh hs hb
  refine wn (th_n (wpE_seq (rg ?_)))
  obtain ⟨v5, hv19, h⟩ := h
  refine q2 (vp v5) (xl (Tryz.isAgg55 _) hv19) ?_
  obtain ⟨a3, hp3, h⟩ := h
  refine q2 (vp (some a3)) (x_nilCheck (p := v5) (by kernel_rfl) hp3) (q0 (vp (some (a3.add 3))) ?_)
  obtain ⟨v6, hv18, h⟩ := h
  refine q2 v6.v (xl (Tryz.isAgg52 _) hv18) (q0 (vi (v6.len : Int)) (q0 (vi (v6.len : Int)) (wpL_nil (th_n (wpE_seq ?_)))))
  obtain ⟨C2, hC, h⟩ := h
  refine wpE_drawnC (fun x => C2 x ∧ HB H2 x [(p3, [(vi vrule1), (vi vfrom1)], 113), (p2, [(vi wrule1), (vi wfrom1)], 113)]) [6, 7, 10] [10] (by kernel_rfl) (by kernel_rfl) (by kernel_rfl) (by kernel_rfl) ⟨hC, hb.drew⟩ ?_
  intro w7 hw7
  have h := h w7 hw7
  have hs : Hst w0 H2 w6 H2 w7 := by rw [hw7]; exact hs.drew
  have hb : HB H2 w7 [(p3, [(vi vrule1), (vi vfrom1)], 113), (p2, [(vi wrule1), (vi wfrom1)], 113)] := by rw [hw7]; exact hb.drew
  have hs := hs.here
  refine qg 0 ?_
  obtain ⟨v7, hv17, h⟩ := h
  refine sy (v := (vp v7)) Kp0 (fun w' hw' => (xl (Tryz.isAgg55 _) (hv17 w' hw'.1))) (qg 1 ?_)
  obtain ⟨v8, hv16, h⟩ := h
  refine sy (v := (vp v8)) Kp1 (fun w' hw' => (xl (Tryz.isAgg55 _) (hv16 w' hw'.1))) (qg 2 ?_)
  obtain ⟨a4, hp4, h⟩ := h
  refine sy (v := (vp (some a4))) Kp2 (fun _ _ => (x_nilCheck (p := v8) (by kernel_rfl) hp4)) (qx 3 (vp (some (a4.add 3))) Kp3 (qg 4 ?_))
  obtain ⟨v9, hv15, h⟩ := h
  refine sy (v := v9.v) Kp4 (fun w' hw' => (xl (Tryz.isAgg52 _) (hv15 w' hw'.1))) (qx 5 (vi t1) Kp5 (lg 6 (sl_new (O := (.cells #[(vi t1)] 30)) (fun p => (Sl.mk (some p) 1 1).v) Kp6 (want0 rfl) (by kernel_rfl) (x_buildSlice (vs := #[(0, (vi t1))]) (by kernel_rfl) (by kernel_rfl)) ?_)))
  intro p4 w8 hn11
  have h := h p4 w8 hn11
  refine ⟨.inr ⟨h.1, hb.kept (Ext.new (F := None) hn11).keptP⟩, ?_⟩
  have h := h.2
  have hs := hs.again (Ext.new (F := None) hn11).keptP
  have hb := hb.kept (Ext.new (F := None) hn11).keptP
  refine lg 7 ?_
  obtain ⟨s1, w9, hv14, hC, hk, h⟩ := h
  refine sl (v := s1.v) Kp7 (want0 rfl) (by kernel_rfl) (x_builtin (args := #[v9.v, (Sl.mk (some p4) 1 1).v]) (by kernel_rfl) (fun _ => rfl) hv14) (.inr ⟨hC, hb.kept hk⟩) ?_
  obtain ⟨hs, hb⟩ := hk.hh hs hb
  refine qg 8 ?_
  obtain ⟨a5, hp5, h⟩ := h
  refine sy (v := (vp (some a5))) Kp8 (fun _ _ => (x_nilCheck (p := v7) (by kernel_rfl) hp5)) (qx 9 (vp (some (a5.add 3))) Kp9 (lg 10 ?_))
  obtain ⟨hp6, hnh, h⟩ := h
  refine sl_t (pickA (S8 (pickS (pickS pickZ)))) (xs (v := s1.v) (Tryz.sizeOf52 _) hp6) ?_
  intro w10 hn4
  have h := h w10 hn4
  refine ⟨.inl (by kernel_rfl), ?_⟩
  have hk := Kept.sc hnh hn4
  obtain ⟨hs, hb⟩ := hk.hh hs hb
  refine wn (th_n (wpE_block ?_))
  obtain ⟨I1, mu1, h0, hr⟩ := h
  refine wpE_loop (σ := Int × NP × World) (fun s ρ w => w = s.2.2 ∧ Has ρ [(3, (vp (some p1))), (8, (vi s.1))] ∧ Hst w0 s.2.1 w s.2.1 w ∧ HB s.2.1 w [(p3, [(vi vrule1), (vi vfrom1)], 113), (p2, [(vi wrule1), (vi wfrom1)], 113)] ∧ I1 s.1 s.2.1 s.2.2) (fun s => mu1 s.1 s.2.2) ((v6.len : Int), H2, w10) ⟨rfl, hm, hs, hb, h0⟩ ?_
  rintro ⟨at1, Hl1, wl1⟩ ρ w ⟨hw, hH, hs, hb, hI⟩
  obtain rfl : wl1 = w := (show w = wl1 from hw).symm
  have hH : Has ρ [(3, (vp (some p1))), (8, (vi at1))] := hH
  have hs : Hst w0 Hl1 wl1 Hl1 wl1 := hs
  have hb : HB Hl1 wl1 [(p3, [(vi vrule1), (vi vfrom1)], 113), (p2, [(vi wrule1), (vi wfrom1)], 113)] := hb
  have h := hr at1 Hl1 wl1 hs hI
  unfold m_S_l1 at h
  refine wpE_has hH ?_
  refine wpE_seq (wpE_seq (rg (q0 (vi at1) ?_)))
  obtain ⟨v10, hv13, h⟩ := h
  refine q2 (vp v10) (xl (Tryz.isAgg55 _) hv13) ?_
  obtain ⟨a6, hp7, h⟩ := h
  refine q2 (vp (some a6)) (x_nilCheck (p := v10) (by kernel_rfl) hp7) (q0 (vp (some (a6.add 3))) ?_)
  obtain ⟨v11, hv12, h⟩ := h
  refine q2 v11.v (xl (Tryz.isAgg52 _) hv12) (q0 (vi (v11.len : Int)) (q0 (vb (decide (at1 < (v11.len : Int)))) (wpL_nil (th_n ?_))))
  refine wpE_cond (t := (decide (at1 < (v11.len : Int)))) (by kernel_rfl) (fun hc2 => ?_) (fun hc2 => ?_)
  ·have h := h.1 hc2
   refine wpE_skip (th_n (wpE_seq (wpE_block (wpE_seq (rg ?_)))))
   obtain ⟨v12, hv11, h⟩ := h
   refine q2 (vp v12) (xl (Tryz.isAgg55 _) hv11) ?_
   obtain ⟨a7, hp8, h⟩ := h
   refine q2 (vp (some a7)) (x_nilCheck (p := v12) (by kernel_rfl) hp8) (q0 (vp (some (a7.add 3))) ?_)
   obtain ⟨v13, hv10, h⟩ := h
   refine q2 v13.v (xl (Tryz.isAgg52 _) hv10) (q0 (vi at1) ?_)
   obtain ⟨a8, hv9, h⟩ := h
   refine q2 (vp (some a8)) (xi (Tryz.runUnderlying52 _) (Tryz.sizeOf30 _) hv9) ?_
   obtain ⟨v14, hv8, h⟩ := h
   refine q2 (vi v14) (xl (Tryz.isAgg30 _) hv8) (sn (O := (.cells #[(vi 0)] 30)) (x_alloc (Tryz.zeroValue30 _) rfl) ?_)
   intro p5 w11 hn10
   have h := h p5 w11 hn10
   have hs := hs.again (Ext.new (F := None) hn10).keptP
   have hb := hb.kept (Ext.new (F := None) hn10).keptP
   obtain ⟨hp9, hnh, h⟩ := h
   refine st_set (want0 rfl) (x_store (a := p5) (v := (vi v14)) (by kernel_rfl) (by kernel_rfl) rfl (Tryz.sizeOf30 _) hp9) ?_
   intro w12 hn5
   have h := h w12 hn5
   have hk := Kept.sc hnh hn5
   obtain ⟨hs, hb⟩ := hk.hh hs hb
   refine wpL_nil (th_n (wpE_seq ?_))
   refine wpE_joinT (fun ρ w => ∃ a9 : Addr, ∃ H : NP, Has ρ [(3, (vp (some p1))), (8, (vi at1)), (9, (vp (some p5))), (10, (vp (some a9)))] ∧ Hst w0 H w H w ∧ HB H w [(p3, [(vi vrule1), (vi vfrom1)], 113), (p2, [(vi wrule1), (vi wfrom1)], 113)] ∧ m_S_j2 p1 at1 p5 a9 w0 H w (fun y'0 H' w' => I1 y'0 H' w' ∧ mu1 y'0 w' < mu1 at1 wl1) K) ?_ ?_
   ·rintro ρ w ⟨a9, H, hH, hs, hb, h⟩
    unfold m_S_j2 at h
    refine wpE_has hH ?_
    refine wpE_seq (rg (q0 (.func (.func 97) #[] #[(vp (some p1)), (vp (some p5))]) (q0 (.func (.func 97) #[] #[(vp (some p1)), (vp (some p5))]) (wpL_nil (th_n (wpE_seq (rg (q0 (vp (some a9)) ?_))))))))
    obtain ⟨v15, hv4, h⟩ := h
    refine q2 (vi v15) (xl (Tryz.isAgg3 _) hv4) (wpL_nil (th_n (wpE_block (wpE_seq (rg (q0 (vb (v15 == 4)) (q0 (vb (v15 == 4)) (wpL_nil (th_n ?_)))))))))
    refine wpE_cond (t := (v15 == 4)) (by kernel_rfl) (fun hc3 => ?_) (fun hc3 => ?_)
    ·have h := h.1 hc3
     refine wpE_seq (rg (q0 (.func (.func 97) #[] #[(vp (some p1)), (vp (some p5))]) (q0 (vp (some (a9.add 5))) ?_)))
     obtain ⟨v16, hv2, h⟩ := h
     refine q2 (vi v16) (xl (Tryz.isAgg30 _) hv2) ?_
     refine st_call (want0 rfl) (x_callm (fs := #[]) (caps := #[(vp (some p1)), (vp (some p5))]) (args := #[(vi v16), (vi 1)]) (args' := #[(vi v16), (vi 1), (vp (some p1)), (vp (some p5))]) (by kernel_rfl) Tryz.call97 (by kernel_rfl) (by kernel_rfl)) (h.mono ?_)
     rintro e w13 ⟨rfl, hk, h⟩
     refine ⟨_, rfl, ?_⟩
     obtain ⟨hs, hb⟩ := hk.hh hs hb
     refine wpL_nil (th_n (rg (q0 (.func (.func 97) #[] #[(vp (some p1)), (vp (some p5))]) (q0 (vp (some (a9.add 6))) ?_))))
     obtain ⟨v17, hv1, h⟩ := h
     refine q2 (vi v17) (xl (Tryz.isAgg30 _) hv1) ?_
     refine st_call (want0 rfl) (x_callm (fs := #[]) (caps := #[(vp (some p1)), (vp (some p5))]) (args := #[(vi v17), (vi 2)]) (args' := #[(vi v17), (vi 2), (vp (some p1)), (vp (some p5))]) (by kernel_rfl) Tryz.call97 (by kernel_rfl) (by kernel_rfl)) (h.mono ?_)
     rintro e w14 ⟨rfl, hk, h⟩
     refine ⟨_, rfl, ?_⟩
     obtain ⟨hs, hb⟩ := hk.hh hs hb
     refine wpL_nil (bl_n (bl_n (th_n (rg (q0 (vi at1) (q0 (vi (q6.wrap (at1 + 1))) (q0 (vi (q6.wrap (at1 + 1))) (wpL_nil (th_n ?_)))))))))
     exact ⟨((q6.wrap (at1 + 1)), H, w14), ⟨rfl, hm, hs, hb, h.1⟩, h.2⟩
    ·have h := h.2 hc3
     refine wpE_seq (wpE_seq (rg (q0 (vb (v15 == 7)) (q0 (vb (v15 == 7)) (wpL_nil (th_n ?_))))))
     refine wpE_via (fun ρ wJ => ∃ b1'0 b1'1 y1 : Bool, ∃ HJ : NP, ((v15 == 7) = b1'0) ∧ ((v15 == 8) = b1'1) ∧ (y1 = (cond b1'0 (v15 == 7) (cond b1'1 (v15 == 8) (v15 == 9)))) ∧ Hst w0 H w HJ wJ ∧ HB HJ wJ [(p3, [(vi vrule1), (vi vfrom1)], 113), (p2, [(vi wrule1), (vi wfrom1)], 113)] ∧ Has ρ [(3, (vp (some p1))), (8, (vi at1)), (10, (vp (some a9))), (12, (.func (.func 97) #[] #[(vp (some p1)), (vp (some p5))])), (82, (vb y1))]) ?_ ?_
     ·refine wpE_cond (t := (v15 == 7)) (by kernel_rfl) (fun hc6 => ?_) (fun hc6 => ?_)
      ·refine wpE_skip (th_n ?_)
       exact ⟨true, _, _, _, hc6, rfl, rfl, hs, hb, hm⟩
      ·refine wpE_seq (rg (q0 (vb (v15 == 8)) (q0 (vb (v15 == 8)) (wpL_nil (th_n ?_)))))
       refine wpE_cond (t := (v15 == 8)) (by kernel_rfl) (fun hc7 => ?_) (fun hc7 => ?_)
       ·refine wpE_skip (th_n ?_)
        exact ⟨false, true, _, _, hc6, hc7, rfl, hs, hb, hm⟩
       ·refine rg (q0 (vb (v15 == 9)) (q0 (vb (v15 == 9)) (wpL_nil (th_n ?_))))
        exact ⟨false, false, _, _, hc6, hc7, rfl, hs, hb, hm⟩
     ·rintro ρ w15 ⟨b1'0, b1'1, y1, H3, he0, he1, hy1, hs, hb, hH⟩
      subst he0
      subst he1
      have h := h y1 hy1
      refine norm_has hH ?_
      refine th_n ?_
      refine wpE_cond (t := y1) (by kernel_rfl) (fun hc8 => ?_) (fun hc8 => ?_)
      ·have h := h.1 hc8
       refine rg (q0 (.func (.func 97) #[] #[(vp (some p1)), (vp (some p5))]) (q0 (vp (some (a9.add 5))) ?_))
       have h := h H3 w15 hs
       have hs := hs.here
       obtain ⟨v18, hv3, h⟩ := h
       refine q2 (vi v18) (xl (Tryz.isAgg30 _) hv3) ?_
       refine st_call (want0 rfl) (x_callm (fs := #[]) (caps := #[(vp (some p1)), (vp (some p5))]) (args := #[(vi v18), (vi 3)]) (args' := #[(vi v18), (vi 3), (vp (some p1)), (vp (some p5))]) (by kernel_rfl) Tryz.call97 (by kernel_rfl) (by kernel_rfl)) (h.mono ?_)
       rintro e w16 ⟨rfl, hk, h⟩
       refine ⟨_, rfl, ?_⟩
       obtain ⟨hs, hb⟩ := hk.hh hs hb
       refine wpL_nil (bl_n (bl_n (th_n (rg (q0 (vi at1) (q0 (vi (q6.wrap (at1 + 1))) (q0 (vi (q6.wrap (at1 + 1))) (wpL_nil (th_n ?_)))))))))
       exact ⟨((q6.wrap (at1 + 1)), H3, w16), ⟨rfl, hm, hs, hb, h.1⟩, h.2⟩
      ·have h := h.2 hc8
       refine wpE_skip (bl_n (bl_n (th_n (rg (q0 (vi at1) (q0 (vi (q6.wrap (at1 + 1))) (q0 (vi (q6.wrap (at1 + 1))) (wpL_nil ?_))))))))
       have h := h H3 w15 hs
       have hs := hs.here
       refine th_n ?_
       exact ⟨((q6.wrap (at1 + 1)), H3, w15), ⟨rfl, hm, hs, hb, h.1⟩, h.2⟩
   ·obtain ⟨C3, hC, h⟩ := h
    refine wpE_drawnC (fun x => C3 x ∧ HB Hl1 x [(p3, [(vi vrule1), (vi vfrom1)], 113), (p2, [(vi wrule1), (vi wfrom1)], 113)]) [5, 9, 10] [] (by kernel_rfl) (by kernel_rfl) (by kernel_rfl) (by kernel_rfl) ⟨hC, hb.drew⟩ ?_
    intro w17 hw17
    have h := h w17 hw17
    have hs : Hst w0 Hl1 w12 Hl1 w17 := by rw [hw17]; exact hs.drew
    have hb : HB Hl1 w17 [(p3, [(vi vrule1), (vi vfrom1)], 113), (p2, [(vi wrule1), (vi wfrom1)], 113)] := by rw [hw17]; exact hb.drew
    have hs := hs.here
    refine qg 0 ?_
    obtain ⟨v19, hv7, h⟩ := h
    refine sy (v := (vp v19)) Kp0 (fun w' hw' => (xl (Tryz.isAgg55 _) (hv7 w' hw'.1))) (qg 1 ?_)
    obtain ⟨a10, hp10, h⟩ := h
    refine sy (v := (vp (some a10))) Kp1 (fun _ _ => (x_nilCheck (p := v19) (by kernel_rfl) hp10)) (qx 2 (vp (some a10)) Kp2 (qg 3 ?_))
    obtain ⟨v20, hv6, h⟩ := h
    refine sy (v := (vp v20)) Kp3 (fun w' hw' => (xl (Tryz.isAgg26 _) (hv6 w' hw'.1))) (qg 4 ?_)
    obtain ⟨v21, hv5, h⟩ := h
    refine sy (v := (vi v21)) Kp4 (fun w' hw' => (xl (Tryz.isAgg30 _) (hv5 w' hw'.1))) ?_
    refine lgo2 (k := 5) (k' := 9) (by kernel_rfl) ?_ ?_
    ·have h := h.1
     refine sl_call Kp5 (want0 rfl) (by kernel_rfl) (xc Tryz.call43) (h.mono ?_)
     rintro e w18 ⟨aA, aG, aI, aK, aL, aC, aF, r1, rfl, hC, hk, h⟩
     refine ⟨_, rfl, .inr ⟨hC, hb.kept hk⟩, ?_⟩
     obtain ⟨hs, hb⟩ := hk.hh hs hb
     refine qx 6 (.tuple #[(.agg #[(vi aA), (vi aG), (vi aI), (vu aK), (vs aL), (vi aC), (vi aF)]), (vb r1)]) Kp6 (qx 7 (.agg #[(vi aA), (vi aG), (vi aI), (vu aK), (vs aL), (vi aC), (vi aF)]) Kp7 (qx 8 (vb r1) Kp8 (lg 9 (sl_new (O := (.cells #[(vi 0), (vi 0), (vi 0), (vu 0), (vs ⟨#[]⟩), (vi 0), (vi 0)] 86)) (fun p => .pointer (some p)) Kp9 (want0 rfl) (by kernel_rfl) (x_alloc (Tryz.zeroValue86 _) rfl) ?_))))
     intro p6 w19 hn7
     have h := h p6 w19 hn7
     refine ⟨.inr ⟨h.1, hb.kept (Ext.new (F := None) hn7).keptP⟩, ?_⟩
     have h := h.2
     have hs := hs.again (Ext.new (F := None) hn7).keptP
     have hb := hb.kept (Ext.new (F := None) hn7).keptP
     refine lg 10 ?_
     obtain ⟨hp11, hnh, h⟩ := h
     refine sl_set (pickA (S8 (pickS (pickS pickZ)))) (want0 rfl) (by kernel_rfl) (x_storeA (a := p6) (vs := [(vi aA), (vi aG), (vi aI), (vu aK), (vs aL), (vi aC), (vi aF)]) (by kernel_rfl) (by kernel_rfl) rfl (Tryz.sizeOf86 _) rfl hp11) ?_
     intro w20 hn6
     have h := h w20 hn6
     refine ⟨.inr ⟨h.1, hb.kept (by rw [hn6]; exact Kept.storeRow hnh)⟩, ?_⟩
     have h := h.2
     have hk : Kept Hl1 w19 w20 := by rw [hn6]; exact Kept.storeRow hnh
     obtain ⟨hs, hb⟩ := hk.hh hs hb
     refine qx 11 (vb r1) (pickA (S8 (pickS (pickS (pickS pickZ))))) (wn (th_n ?_))
     exact ⟨p6, Hl1, hm, hs, hb, h⟩
    ·have h := h.2
     refine sl_new (O := (.cells #[(vi 0), (vi 0), (vi 0), (vu 0), (vs ⟨#[]⟩), (vi 0), (vi 0)] 86)) (fun p => .pointer (some p)) Kp9 (want0 rfl) (by kernel_rfl) (x_alloc (Tryz.zeroValue86 _) rfl) ?_
     intro p7 w21 hn9
     have h := h p7 w21 hn9
     refine ⟨.inr ⟨h.1, hb.kept (Ext.new (F := None) hn9).keptP⟩, ?_⟩
     have h := h.2
     have hs := hs.again (Ext.new (F := None) hn9).keptP
     have hb := hb.kept (Ext.new (F := None) hn9).keptP
     refine lg 5 ?_
     refine sl_call Kp5 (want0 rfl) (by kernel_rfl) (xc Tryz.call43) (h.mono ?_)
     rintro e w22 ⟨aZ, bA, bB, bC, bD, bE, bF, r2, rfl, hC, hk, h⟩
     refine ⟨_, rfl, .inr ⟨hC, hb.kept hk⟩, ?_⟩
     obtain ⟨hs, hb⟩ := hk.hh hs hb
     refine qx 6 (.tuple #[(.agg #[(vi aZ), (vi bA), (vi bB), (vu bC), (vs bD), (vi bE), (vi bF)]), (vb r2)]) Kp6 (qx 7 (.agg #[(vi aZ), (vi bA), (vi bB), (vu bC), (vs bD), (vi bE), (vi bF)]) Kp7 (qx 8 (vb r2) Kp8 (lg 10 ?_)))
     obtain ⟨hp12, hnh, h⟩ := h
     refine sl_set (pickA (S8 (pickS (pickS pickZ)))) (want0 rfl) (by kernel_rfl) (x_storeA (a := p7) (vs := [(vi aZ), (vi bA), (vi bB), (vu bC), (vs bD), (vi bE), (vi bF)]) (by kernel_rfl) (by kernel_rfl) rfl (Tryz.sizeOf86 _) rfl hp12) ?_
     intro w23 hn8
     have h := h w23 hn8
     refine ⟨.inr ⟨h.1, hb.kept (by rw [hn8]; exact Kept.storeRow hnh)⟩, ?_⟩
     have h := h.2
     have hk : Kept Hl1 w22 w23 := by rw [hn8]; exact Kept.storeRow hnh
     obtain ⟨hs, hb⟩ := hk.hh hs hb
     refine qx 11 (vb r2) (pickA (S8 (pickS (pickS (pickS pickZ))))) (wn (th_n ?_))
     exact ⟨p7, Hl1, hm, hs, hb, h⟩
  ·have h := h.2 hc2
   refine wpE_exit (th_x (th_x (bl_eq (res0 (.inr rfl) Tryz.results59 ?_))))
   exact ⟨rfl, h⟩
def m_W1 (k1 : Option Addr) (t1 : Int) (w0 : World) (K : Int → WP) : Prop :=
 Br (Option.isNone k1)
  (K 7 w0)
  (∃ a1 : Addr, k1 = some a1 ∧
  ∃ v1 : Option Addr, w0.cell? a1 = some (vp v1) ∧
  Calls Tryz.prog 43 #[(vp v1), (vi t1)] w0 (fun e w1 => ∃ aA aG : Int, ∃ aI aK : Int, ∃ aL : ByteArray, ∃ aC aF : Int, ∃ r1 : Bool, e = .returned (.tuple #[(.agg #[(vi aA), (vi aG), (vi aI), (vu aK), (vs aL), (vi aC), (vi aF)]), (vb r1)]) ∧ 
   Kept None w0 w1 ∧
   Br (!r1)
    (∀ (H1 : NP) (w3 : World), Hst w0 None w1 H1 w3 →
    K 51 w3)
    (∃ a2 : Addr, k1 = some a2 ∧
    ∀ (H1 : NP) (w3 : World), Hst w0 None w1 H1 w3 →
    ∃ v2 : Sl, w3.cell? (a2.add 1) = some v2.v ∧
    Calls Tryz.prog 58 #[v2.v, (vi t1)] w3 (fun e w4 => ∃ r2 : Bool, e = .returned (vb r2) ∧ 
     Kept H1 w3 w4 ∧
     Br (!r2)
      (∃ a3 : Addr, k1 = some a3 ∧
      ∃ v3 : Sl, w4.cell? (a3.add 1) = some v3.v ∧
      ∀ (p2 : Addr) (w5 : World), New w4 (.cells #[(vi t1)] 30) p2 w5 →
      ∃ s1 : Sl, ∃ w6 : World, (Builtin.append_ #[52, 52] 52 #[v3.v, (Sl.mk (some p2) 1 1).v]).run Tryz.prog w5 = .ok s1.v w6 ∧
      Kept H1 w5 w6 ∧
      ∃ a4 : Addr, k1 = some a4 ∧
      CanW w6 (a4.add 1) ∧ ¬ H1 (a4.add 1).block ∧ ∀ w7 : World, w7 = w6.setCell (a4.add 1) s1.v →
      Calls Tryz.prog 59 #[(vp k1), (vi t1), (.agg #[(vi 0), (vi 0)])] w7 (fun e w8 => e = .returned (.tuple #[]) ∧ 
       Kept H1 w7 w8 ∧
       K 0 w8))
      (Calls Tryz.prog 59 #[(vp k1), (vi t1), (.agg #[(vi 0), (vi 0)])] w4 (fun e w9 => e = .returned (.tuple #[]) ∧ 
       Kept H1 w4 w9 ∧
       K 0 w9))))))
theorem w_W1 (k1 : Option Addr) (t1 : Int) (w0 : World) (K : Int → WP) (h : m_W1 k1 t1 w0 K) :
  Calls Tryz.prog 23 #[(vp k1), (vi t1)] w0 (fun e w' => ∃ r3 : Int, e = .returned (vi r3) ∧ K r3 w') := by
 unfold m_W1 at h
 refine cw (args := [(vp k1), (vi t1)]) Tryz.func23 Tryz.ntmps23 ?_
 have hs := Hst.start w0
 have hb := HB.nil None w0
 refine wpE_seq (rg (q0 (vi 0) (wpL_nil (th_n (wpE_seq (wpE_seq (rg (q0 (vp k1) (q2 (vb (Option.isNone k1)) (x_ptreq (by kernel_rfl) rfl Tryz.underlying55) (wpL_nil (th_n ?_)))))))))))
 refine wpE_cond (t := (Option.isNone k1)) (by kernel_rfl) (fun hc1 => ?_) (fun hc1 => ?_)
 ·have h := h.1 hc1
  refine wpE_seq (rg (q0 (vi 7) (wpL_nil (th_n (wpE_ret (th_r (rs1 Tryz.results23 (v := (vi 7)) ?_)))))))
  exact ⟨7, rfl, h⟩
 ·have h := h.2 hc1
  refine wpE_skip (th_n (wpE_seq (wpE_seq (rg (q0 (vp k1) ?_)))))
  obtain ⟨a1, hp1, h⟩ := h
  refine q2 (vp (some a1)) (x_nilCheck (p := k1) (by kernel_rfl) hp1) (q0 (vp (some a1)) ?_)
  obtain ⟨v1, hv4, h⟩ := h
  refine q2 (vp v1) (xl (Tryz.isAgg26 _) hv4) (q0 (vi t1) ?_)
  refine sc Tryz.call43 (h.mono ?_)
  rintro e w1 ⟨aA, aG, aI, aK, aL, aC, aF, r1, rfl, hk, h⟩
  refine ⟨_, rfl, ?_⟩
  obtain ⟨hs, hb⟩ := hk.hh hs hb
  refine q0 (.tuple #[(.agg #[(vi aA), (vi aG), (vi aI), (vu aK), (vs aL), (vi aC), (vi aF)]), (vb r1)]) (q0 (.agg #[(vi aA), (vi aG), (vi aI), (vu aK), (vs aL), (vi aC), (vi aF)]) (q0 (vb r1) (sn (O := (.cells #[(vi 0), (vi 0), (vi 0), (vu 0), (vs ⟨#[]⟩), (vi 0), (vi 0)] 86)) (x_alloc (Tryz.zeroValue86 _) rfl) ?_)))
  intro p1 w2 hn1
  obtain ⟨H1, hs, hb⟩ := hs.alloc hb hn1
  refine st_set (want0 rfl) (x_storeA (a := p1) (vs := [(vi aA), (vi aG), (vi aI), (vu aK), (vs aL), (vi aC), (vi aF)]) (by kernel_rfl) (by kernel_rfl) rfl (Tryz.sizeOf86 _) rfl (hb.canWs0 0 7 gZ (by kernel_rfl))) ?_
  intro w3 hn2
  have hsb : Hst w0 None w1 H1 w3 ∧ HB H1 w3 [(p1, [(vi aA), (vi aG), (vi aI), (vu aK), (vs aL), (vi aC), (vi aF)], 86)] := by
   rw [hn2]
   exact hb.store0 (i := 0) (vs := [(vi aA), (vi aG), (vi aI), (vu aK), (vs aL), (vi aC), (vi aF)]) hs gZ (by kernel_rfl) (by kernel_rfl)
  obtain ⟨hs, hb⟩ := hsb
  refine q0 (vb r1) (wpL_nil (th_n (wpE_seq (rg (q0 (vb r1) (q0 (vb (!r1)) (wpL_nil (th_n ?_))))))))
  refine wpE_cond (t := (!r1)) (by kernel_rfl) (fun hc2 => ?_) (fun hc2 => ?_)
  ·have h := h.1 hc2
   refine wpE_seq (rg (q0 (vi 51) (wpL_nil (th_n (wpE_ret (th_r ?_))))))
   have h := h H1 w3 hs
   have hs := hs.here
   refine rs1 Tryz.results23 (v := (vi 51)) ?_
   exact ⟨51, rfl, h⟩
  ·have h := h.2 hc2
   refine wpE_skip (th_n (wpE_seq (wpE_seq (rg (q0 (vp k1) ?_)))))
   obtain ⟨a2, hp2, h⟩ := h
   refine q2 (vp (some a2)) (x_nilCheck (p := k1) (by kernel_rfl) hp2) (q0 (vp (some (a2.add 1))) ?_)
   have h := h H1 w3 hs
   have hs := hs.here
   obtain ⟨v2, hv3, h⟩ := h
   refine q2 v2.v (xl (Tryz.isAgg52 _) hv3) (q0 (vi t1) ?_)
   refine sc Tryz.call58 (h.mono ?_)
   rintro e w4 ⟨r2, rfl, hk, h⟩
   refine ⟨_, rfl, ?_⟩
   obtain ⟨hs, hb⟩ := hk.hh hs hb
   refine q0 (vb (!r2)) (wpL_nil (th_n ?_))
   refine wpE_cond (t := (!r2)) (by kernel_rfl) (fun hc3 => ?_) (fun hc3 => ?_)
   ·have h := h.1 hc3
    refine rg (q0 (vp k1) (q0 (vp k1) ?_))
    obtain ⟨a3, hp3, h⟩ := h
    refine q2 (vp (some a3)) (x_nilCheck (p := k1) (by kernel_rfl) hp3) (q0 (vp (some (a3.add 1))) ?_)
    obtain ⟨v3, hv2, h⟩ := h
    refine q2 v3.v (xl (Tryz.isAgg52 _) hv2) (q0 (vi t1) (st_new (O := (.cells #[(vi t1)] 30)) (fun p => (Sl.mk (some p) 1 1).v) (want0 rfl) (x_buildSlice (vs := #[(0, (vi t1))]) (by kernel_rfl) (by kernel_rfl)) ?_))
    intro p2 w5 hn4
    have h := h p2 w5 hn4
    have hs := hs.again (Ext.new (F := None) hn4).keptP
    have hb := hb.kept (Ext.new (F := None) hn4).keptP
    obtain ⟨s1, w6, hv1, hk, h⟩ := h
    refine st (v := s1.v) (want0 rfl) (x_builtin (args := #[v3.v, (Sl.mk (some p2) 1 1).v]) (by kernel_rfl) (fun _ => rfl) hv1) ?_
    obtain ⟨hs, hb⟩ := hk.hh hs hb
    obtain ⟨a4, hp4, h⟩ := h
    refine q2 (vp (some a4)) (x_nilCheck (p := k1) (by kernel_rfl) hp4) (q0 (vp (some (a4.add 1))) ?_)
    obtain ⟨hp5, hnh, h⟩ := h
    refine st_set (want0 rfl) (x_store (a := (a4.add 1)) (v := s1.v) (by kernel_rfl) (by kernel_rfl) rfl (Tryz.sizeOf52 _) hp5) ?_
    intro w7 hn3
    have h := h w7 hn3
    have hk := Kept.sc hnh hn3
    obtain ⟨hs, hb⟩ := hk.hh hs hb
    refine wpL_nil (th_n (wpE_seq (rg (q0 (vp k1) (q0 (vi t1) (q0 (.agg #[(vi 0), (vi 0)]) ?_))))))
    refine sc Tryz.call59 (h.mono ?_)
    rintro e w8 ⟨rfl, hk, h⟩
    refine ⟨_, rfl, ?_⟩
    obtain ⟨hs, hb⟩ := hk.hh hs hb
    refine wpL_nil (th_n (wpE_seq (rg (q0 (vi 0) (wpL_nil (th_n (wpE_ret (rs1 Tryz.results23 (v := (vi 0)) ?_))))))))
    exact ⟨0, rfl, h⟩
   ·have h := h.2 hc3
    refine wpE_skip (th_n (wpE_seq (rg (q0 (vp k1) (q0 (vi t1) (q0 (.agg #[(vi 0), (vi 0)]) ?_))))))
    refine sc Tryz.call59 (h.mono ?_)
    rintro e w9 ⟨rfl, hk, h⟩
    refine ⟨_, rfl, ?_⟩
    obtain ⟨hs, hb⟩ := hk.hh hs hb
    refine wpL_nil (th_n (wpE_seq (rg (q0 (vi 0) (wpL_nil (th_n (wpE_ret (rs1 Tryz.results23 (v := (vi 0)) ?_))))))))
    exact ⟨0, rfl, h⟩
def m_X1 (k1 : Option Addr) (t1 : Int) (w0 : World) (K : Sl → Bool → WP) : Prop :=
 ∀ (p1 : Addr) (w1 : World), New w0 (.cells #[(vp k1)] 55) p1 w1 →
 ∃ v1 : Option Addr, w1.cell? p1 = some (vp v1) ∧
 Br (Option.isNone v1)
  (K Sl.nil false w1)
  (∀ (p2 : Addr) (w2 : World), New w1 (.cells #[Sl.nil.v] 101) p2 w2 →
  ∀ (p3 : Addr) (w3 : World), New w2 (.map #[] 0) p3 w3 →
  ∀ (p4 : Addr) (w4 : World), New w3 (.cells #[(.map none)] 152) p4 w4 →
  CanW w4 p4 ∧ ∀ w5 : World, w5 = w4.setCell p4 (.map (some p3.block)) →
  ∀ (p5 : Addr) (w6 : World), New w5 (.map #[] 0) p5 w6 →
  ∀ (p6 : Addr) (w7 : World), New w6 (.cells #[(.map none)] 153) p6 w7 →
  CanW w7 p6 ∧ ∀ w8 : World, w8 = w7.setCell p6 (.map (some p5.block)) →
  ∀ (p7 : Addr) (w9 : World), New w8 (.cells #[(.nilFunc : Value)] 154) p7 w9 →
  CanW w9 p7 ∧ ∀ w10 : World, w10 = w9.setCell p7 (.func (.func 92) #[] #[(vp (some p4)), (vp (some p6)), (vp (some p1)), (vp (some p7)), (vp (some p2))]) →
  ∃ v2 : Value, w10.cell? p7 = some v2 ∧
  ∃ (f1 : FuncId) (fs1 cs1 : Array Value), v2 = .func (.func f1) fs1 cs1 ∧
  (∀ args w, (callFunc f1 args).run Tryz.prog w = .ok (.enter f1 args) w) ∧ Calls Tryz.prog f1 (fs1 ++ #[(vi t1)] ++ cs1) w10 (fun e w11 => ∃ r1 : Int, ∃ r2 : Bool, e = .returned (.tuple #[(vi r1), (vb r2)]) ∧ 
   Br (!r2)
    (K Sl.nil false w11)
    (∃ v3 : Sl, w11.cell? p2 = some v3.v ∧
    K v3 true w11)))
theorem w_X1 (k1 : Option Addr) (t1 : Int) (w0 : World) (K : Sl → Bool → WP) (h : m_X1 k1 t1 w0 K) :
  Calls Tryz.prog 51 #[(vp k1), (vi t1)] w0 (fun e w' => ∃ r3 : Sl, ∃ r4 : Bool, e = .returned (.tuple #[r3.v, (vb r4)]) ∧ K r3 r4 w') := by
 unfold m_X1 at h
 refine cw (args := [(vp k1), (vi t1)]) Tryz.func51 Tryz.ntmps51 (wpE_seq (rg (sn (O := (.cells #[(vp k1)] 55)) xb ?_)))
 intro p1 w1 hn10
 have h := h p1 w1 hn10
 refine q0 Sl.nil.v (q0 (vb false) (wpL_nil (th_n (wpE_seq (wpE_seq (rg ?_))))))
 obtain ⟨v1, hv3, h⟩ := h
 refine q2 (vp v1) (xl (Tryz.isAgg55 _) hv3) (q2 (vb (Option.isNone v1)) (x_ptreq (by kernel_rfl) rfl Tryz.underlying55) (wpL_nil (th_n ?_)))
 refine wpE_cond (t := (Option.isNone v1)) (by kernel_rfl) (fun hc1 => ?_) (fun hc1 => ?_)
 ·have h := h.1 hc1
  refine wpE_seq (rg (q0 Sl.nil.v (q0 (vb false) (wpL_nil (th_n (wpE_ret (th_r (res2 (.inl rfl) Tryz.results51 (v := Sl.nil.v) (by kernel_rfl) (v' := (vb false)) (by kernel_rfl) ?_))))))))
  exact ⟨Sl.nil, false, rfl, h⟩
 ·have h := h.2 hc1
  refine wpE_skip (th_n (wpE_seq (rg (sn (O := (.cells #[Sl.nil.v] 101)) (x_alloc (Tryz.zeroValue101 _) rfl) ?_))))
  intro p2 w2 hn9
  have h := h p2 w2 hn9
  refine wpL_nil (th_n (wpE_seq (rg (st_new (O := (.map #[] 0)) (fun p => .map (some p.block)) (want0 rfl) (by kernel_rfl) ?_))))
  intro p3 w3 hn8
  have h := h p3 w3 hn8
  refine sn (O := (.cells #[(.map none)] 152)) (x_alloc (Tryz.zeroValue152 _) rfl) ?_
  intro p4 w4 hn7
  have h := h p4 w4 hn7
  obtain ⟨hp1, h⟩ := h
  refine st_set (want0 rfl) (x_store (a := p4) (v := (.map (some p3.block))) (by kernel_rfl) (by kernel_rfl) rfl (Tryz.sizeOf152 _) hp1) ?_
  intro w5 hn1
  have h := h w5 hn1
  refine wpL_nil (th_n (wpE_seq (rg (st_new (O := (.map #[] 0)) (fun p => .map (some p.block)) (want0 rfl) (by kernel_rfl) ?_))))
  intro p5 w6 hn6
  have h := h p5 w6 hn6
  refine sn (O := (.cells #[(.map none)] 153)) (x_alloc (Tryz.zeroValue153 _) rfl) ?_
  intro p6 w7 hn5
  have h := h p6 w7 hn5
  obtain ⟨hp2, h⟩ := h
  refine st_set (want0 rfl) (x_store (a := p6) (v := (.map (some p5.block))) (by kernel_rfl) (by kernel_rfl) rfl (Tryz.sizeOf153 _) hp2) ?_
  intro w8 hn2
  have h := h w8 hn2
  refine wpL_nil (th_n (wpE_seq (rg (sn (O := (.cells #[(.nilFunc : Value)] 154)) (x_alloc (Tryz.zeroValue154 _) rfl) ?_))))
  intro p7 w9 hn4
  have h := h p7 w9 hn4
  refine wpL_nil (th_n (wpE_seq (rg (q0 (.func (.func 92) #[] #[(vp (some p4)), (vp (some p6)), (vp (some p1)), (vp (some p7)), (vp (some p2))]) ?_))))
  obtain ⟨hp3, h⟩ := h
  refine st_set (want0 rfl) (x_store (a := p7) (v := (.func (.func 92) #[] #[(vp (some p4)), (vp (some p6)), (vp (some p1)), (vp (some p7)), (vp (some p2))])) (by kernel_rfl) (by kernel_rfl) rfl (Tryz.sizeOf154 _) hp3) ?_
  intro w10 hn3
  have h := h w10 hn3
  refine wpL_nil (th_n (wpE_seq (wpE_seq (rg ?_))))
  obtain ⟨v2, hv2, h⟩ := h
  refine q2 v2 (xl (Tryz.isAgg154 _) hv2) (q0 (vi t1) ?_)
  obtain ⟨f1, fs1, cs1, hp4, h⟩ := h
  obtain ⟨hf1, h⟩ := h
  refine st_call (want0 rfl) (x_callmE (fs := fs1) (caps := cs1) (args := #[(vi t1)]) (by kernel_rfl) hp4 hf1 (by kernel_rfl) rfl) (h.mono ?_)
  rintro e w11 ⟨r1, r2, rfl, h⟩
  refine ⟨_, rfl, ?_⟩
  refine q0 (.tuple #[(vi r1), (vb r2)]) (q0 (vi r1) (q0 (vb r2) (q0 (vi r1) (q0 (vb r2) (wpL_nil (th_n (wpE_seq (rg (q0 (vb r2) (q0 (vb (!r2)) (wpL_nil ?_)))))))))))
  refine th_n ?_
  refine wpE_cond (t := (!r2)) (by kernel_rfl) (fun hc2 => ?_) (fun hc2 => ?_)
  ·have h := h.1 hc2
   refine wpE_seq (rg (q0 Sl.nil.v (q0 (vb false) (wpL_nil (th_n (wpE_ret (th_r (res2 (.inl rfl) Tryz.results51 (v := Sl.nil.v) (by kernel_rfl) (v' := (vb false)) (by kernel_rfl) ?_))))))))
   exact ⟨Sl.nil, false, rfl, h⟩
  ·have h := h.2 hc2
   refine wpE_skip (th_n (wpE_seq (rg ?_)))
   obtain ⟨v3, hv1, h⟩ := h
   refine q2 v3.v (xl (Tryz.isAgg101 _) hv1) (q0 v3.v (q0 (vb true) (wpL_nil (th_n (wpE_ret (res2 (.inl rfl) Tryz.results51 (v := v3.v) (by kernel_rfl) (v' := (vb true)) (by kernel_rfl) ?_))))))
   exact ⟨v3, true, rfl, h⟩
def s_B (kind1 rule1 : Int) : Bool × Bool :=
 (((cond (rule1 == 1) (rule1 == 1) (cond (rule1 == 2) (rule1 == 2) (rule1 == 3))) || (rule1 == 5)), (!(cond (rule1 == 1) (rule1 == 1) (cond (rule1 == 2) (rule1 == 2) (rule1 == 3))) && ((rule1 == 5) && (kind1 != 5))))
theorem pw_B (kind1 rule1 : Int) (w0 : World) :
  Calls Tryz.prog 138 #[(vi kind1), (vi rule1)] w0 (fun e w' => ∃ b'0 b'1 : Bool, ((cond (rule1 == 1) (rule1 == 1) (cond (rule1 == 2) (rule1 == 2) (rule1 == 3))) = b'0 ∧ (rule1 == 5) = b'1) ∧ (e = .returned (.tuple #[(vb (b'0 || b'1)), (vb (!b'0 && (b'1 && (kind1 != 5))))])) ∧ Pure w0 w') := by
 refine cw (args := [(vi kind1), (vi rule1)]) Tryz.func138 Tryz.ntmps138 (wpE_seq (rg (q0 (vb false) (q0 (vb false) (wpL_nil (th_n (wpE_seq (wpE_seq (rg (q0 (vi rule1) (wpL_nil ?_)))))))))))
 refine th_n (wpE_block (wpE_seq (wpE_seq (rg (q0 (vb (rule1 == 1)) (q0 (vb (rule1 == 1)) (wpL_nil (th_n ?_))))))))
 refine wpE_via (fun ρ wJ => ∃ b1'0 b1'1 : Bool, ((rule1 == 1) = b1'0) ∧ ((rule1 == 2) = b1'1) ∧ w0 = wJ ∧ Has ρ [(0, (vi kind1)), (6, (vi rule1)), (7, (vb (cond b1'0 (rule1 == 1) (cond b1'1 (rule1 == 2) (rule1 == 3)))))]) ?_ ?_
 ·refine wpE_cond (t := (rule1 == 1)) (by kernel_rfl) (fun hc3 => ?_) (fun hc3 => ?_)
  ·refine wpE_skip (th_n ?_)
   exact ⟨true, _, hc3, rfl, rfl, hm⟩
  ·refine wpE_seq (rg (q0 (vb (rule1 == 2)) (q0 (vb (rule1 == 2)) (wpL_nil (th_n ?_)))))
   refine wpE_cond (t := (rule1 == 2)) (by kernel_rfl) (fun hc4 => ?_) (fun hc4 => ?_)
   ·refine wpE_skip (th_n ?_)
    exact ⟨false, true, hc3, hc4, rfl, hm⟩
   ·refine rg (q0 (vb (rule1 == 3)) (q0 (vb (rule1 == 3)) (wpL_nil (th_n ?_))))
    exact ⟨false, false, hc3, hc4, rfl, hm⟩
 ·rintro ρ w1 ⟨b1'0, b1'1, he0, he1, hw, hH⟩
  subst he0
  subst he1
  subst hw
  refine norm_has hH ?_
  refine th_n ?_
  refine wpE_cond (t := (cond (rule1 == 1) (rule1 == 1) (cond (rule1 == 2) (rule1 == 2) (rule1 == 3)))) (by kernel_rfl) (fun hc5 => ?_) (fun hc5 => ?_)
  ·refine wpE_seq (rg (q0 (vb true) (q0 (vb false) (wpL_nil (th_n (wpE_ret (bl_r (th_r (res2 (.inl rfl) Tryz.results138 (v := (vb true)) (by kernel_rfl) (v' := (vb false)) (by kernel_rfl) ?_)))))))))
   exact ⟨true, _, ⟨hc5, rfl⟩, by kernel_rfl, Ext.refl _⟩
  ·refine wpE_seq (rg (q0 (vb (rule1 == 5)) (q0 (vb (rule1 == 5)) (wpL_nil (th_n ?_)))))
   refine wpE_cond (t := (rule1 == 5)) (by kernel_rfl) (fun hc6 => ?_) (fun hc6 => ?_)
   ·refine wpE_seq (rg (q0 (vi kind1) (q0 (vb (kind1 != 5)) (q0 (vb true) (q0 (vb (kind1 != 5)) (wpL_nil (th_n (wpE_ret (bl_r (th_r (res2 (.inl rfl) Tryz.results138 (v := (vb true)) (by kernel_rfl) (v' := (vb (kind1 != 5))) (by kernel_rfl) ?_)))))))))))
    exact ⟨false, true, ⟨hc5, hc6⟩, by kernel_rfl, Ext.refl _⟩
   ·refine wpE_skip (bl_n (th_n (wpE_seq (rg (q0 (vb false) (q0 (vb false) (wpL_nil (th_n (wpE_ret (res2 (.inl rfl) Tryz.results138 (v := (vb false)) (by kernel_rfl) (v' := (vb false)) (by kernel_rfl) ?_))))))))))
    exact ⟨false, false, ⟨hc5, hc6⟩, by kernel_rfl, Ext.refl _⟩
theorem p_B (kind1 rule1 : Int) (w0 : World) : Calls Tryz.prog 138 #[(.int .i64 kind1), (.int .i64 rule1)] w0 (fun e w' => e = .returned (.tuple #[(.bool (s_B kind1 rule1).1), (.bool (s_B kind1 rule1).2)]) ∧ Pure w0 w') := by
 refine (pw_B kind1 rule1 w0).mono ?_
 rintro e w' ⟨b'0, b'1, ⟨e0, e1⟩, h, E⟩
 subst e0
 subst e1
 exact ⟨h, E⟩
def m_L_j3 (l1 : Sl) (aD aC : Int) (aP aO who1 : Int) (w0 : World) (H : NP) (w : World) (K : Bool → WP) : Prop :=
 ∃ a2 : Addr, At l1 aD 4 a2 ∧
 ∀ (w57 : World), Hst w0 H w H w57 →
 ∃ v1 : Int, w57.cell? (a2.add 3) = some (vi v1) ∧
 Br (v1 == aC)
  (Br (aP == 6)
   (K (aO == who1) w57)
   (K false w57))
  (K false w57)
def m_L_j2 (given1 l1 : Sl) (aB aD : Int) (aH aJ : Int) (aA aG : Int) (aI aC : Int) (aF aE : Int) (aM aN : Int) (aP aO : Int) (aU aV : Int) (aW : ByteArray) (aX aY : Int) (w0 : World) (H : NP) (w : World) (K : Bool → WP) : Prop :=
 Br (aB == 0)
  (Calls Tryz.prog 58 #[given1.v, (vi aJ)] w (fun e w38 => ∃ r2 : Bool, e = .returned (vb r2) ∧ 
   Kept H w w38 ∧
   K r2 w38))
  (Br (aB == 1)
   (∀ (H35 : NP) (w40 : World), Hst w0 H w H35 w40 →
   K ((aE == 4) && (aM == aJ)) w40)
   (Br (aB == 2)
    (∀ (H38 : NP) (w43 : World), Hst w0 H w H38 w43 →
    K ((aE == 4) && (aN == aJ)) w43)
    (Br (aB == 3)
     (∀ (H43 : NP) (w48 : World), Hst w0 H w H43 w48 →
     K ((((aE == 7) || (aE == 8)) || (aE == 9)) && (aM == aJ)) w48)
     (Br (aB == 4)
      (∀ (H49 : NP) (w54 : World), Hst w0 H w H49 w54 →
      K (((aA == 1) || (aA == 2)) || (aA == 3)) w54)
      (Br (aB == 5)
       (Br (aA == 4)
        (∃ a3 : Addr, At l1 aD 4 a3 ∧
        ∀ (w58 : World), Hst w0 H w H w58 →
        ∃ v2 : Int, w58.cell? (a3.add 3) = some (vi v2) ∧
        Br (v2 == aC)
         (∃ a4 : Addr, At l1 aH 4 a4 ∧
         ∃ v3 : Int, w58.cell? (a4.add 3) = some (vi v3) ∧
         K (v3 == aF) w58)
         (K false w58))
        (Br (aA == 5)
         (∃ a5 : Addr, At l1 aD 4 a5 ∧
         ∀ (w59 : World), Hst w0 H w H w59 →
         ∃ v4 : Int, w59.cell? (a5.add 3) = some (vi v4) ∧
         K (v4 == aC) w59)
         (Br (aA == 9)
          (m_L_j3 l1 aD aC aP aO aI w0 H w K)
          (Br (cond (aA == 7) (aA == 7) (aA == 8))
           (∀ (H52 : NP) (w60 : World), Hst w0 H w H52 w60 →
           m_L_j3 l1 aD aC aP aO aG w0 H52 w60 K)
           (∀ (H52 : NP) (w60 : World), Hst w0 H w H52 w60 →
           K false w60)))))
       (K false w))))))
def m_L_j1 (p1 : Option Addr) (given1 l1 : Sl) (aB aD : Int) (aH aJ : Int) (aA aG : Int) (aI aC : Int) (aF aE : Int) (aQ aR aS : Int) (aT : ByteArray) (aM aN : Int) (w0 : World) (H : NP) (w : World) (K : Bool → WP) : Prop :=
 Br ((s_B aA aB).2)
  (∃ a6 : Addr, At l1 aH 4 a6 ∧
  ∃ v5 : Int, w.cell? (a6.add 3) = some (vi v5) ∧
  Calls Tryz.prog 43 #[(vp p1), (vi v5)] w (fun e w61 => ∃ aZ bA : Int, ∃ bB bC : Int, ∃ bD : ByteArray, ∃ bE bF : Int, ∃ r3 : Bool, e = .returned (.tuple #[(.agg #[(vi aZ), (vi bA), (vi bB), (vu bC), (vs bD), (vi bE), (vi bF)]), (vb r3)]) ∧ 
   Kept H w w61 ∧
   ∀ (w62 : World), Hst w0 H w61 H w62 →
   m_L_j2 given1 l1 aB aD aH aJ aA aG aI aC aF aE aM aN aZ bA bB bC bD bE bF w0 H w62 K))
  (m_L_j2 given1 l1 aB aD aH aJ aA aG aI aC aF aE aM aN 0 0 0 0 ⟨#[]⟩ 0 0 w0 H w K)
def m_L (p1 : Option Addr) (given1 l1 : Sl) (i1 : Int) (w0 : World) (K : Bool → WP) : Prop :=
 ∃ a1 : Addr, At l1 i1 4 a1 ∧
 ∃ aB aD : Int, ∃ aH aJ : Int, Row w0 a1 [(vi aB), (vi aD), (vi aH), (vi aJ)] ∧
 ∀ (H1 : NP) (w2 : World), Hst w0 None w0 H1 w2 →
 Calls Tryz.prog 43 #[(vp p1), (vi aJ)] w2 (fun e w3 => ∃ aA aG : Int, ∃ aI aK : Int, ∃ aL : ByteArray, ∃ aC aF : Int, ∃ r1 : Bool, e = .returned (.tuple #[(.agg #[(vi aA), (vi aG), (vi aI), (vu aK), (vs aL), (vi aC), (vi aF)]), (vb r1)]) ∧ 
  Kept H1 w2 w3 ∧
  Br (!r1)
   (∀ (H2 : NP) (w5 : World), Hst w0 H1 w3 H2 w5 →
   K false w5)
   (∀ y1 : Bool, y1 = ((((((s_B aA aB).1) && ((decide (aD < 0)) || (decide (aD ≥ i1)))) || ((!((s_B aA aB).1)) && (aD != 0))) || (((s_B aA aB).2) && ((decide (aH < 0)) || (decide (aH ≥ i1))))) || ((!((s_B aA aB).2)) && (aH != 0))) →
   Br y1
    (∀ (H17 : NP) (w21 : World), Hst w0 H1 w3 H17 w21 →
    K false w21)
    (Br ((s_B aA aB).1)
     (∃ a7 : Addr, At l1 aD 4 a7 ∧
     ∀ (H33 : NP) (w37 : World), Hst w0 H1 w3 H33 w37 →
     ∃ v6 : Int, w37.cell? (a7.add 3) = some (vi v6) ∧
     Calls Tryz.prog 43 #[(vp p1), (vi v6)] w37 (fun e w63 => ∃ bJ bK : Int, ∃ bL bM : Int, ∃ bN : ByteArray, ∃ bO bP : Int, ∃ r4 : Bool, e = .returned (.tuple #[(.agg #[(vi bJ), (vi bK), (vi bL), (vu bM), (vs bN), (vi bO), (vi bP)]), (vb r4)]) ∧ 
      Kept H33 w37 w63 ∧
      ∀ (w64 : World), Hst w0 H33 w63 H33 w64 →
      m_L_j1 p1 given1 l1 aB aD aH aJ aA aG aI aC aF bJ bK bL bM bN bO bP w0 H33 w64 K))
     (∀ (H33 : NP) (w37 : World), Hst w0 H1 w3 H33 w37 →
     m_L_j1 p1 given1 l1 aB aD aH aJ aA aG aI aC aF 0 0 0 0 ⟨#[]⟩ 0 0 w0 H33 w37 K))))
theorem w_L (p1 : Option Addr) (given1 l1 : Sl) (i1 : Int) (w0 : World) (K : Bool → WP) (h : m_L p1 given1 l1 i1 w0 K) :
  Calls Tryz.prog 94 #[(vp p1), given1.v, l1.v, (vi i1)] w0 (fun e w' => ∃ r5 : Bool, e = .returned (vb r5) ∧ K r5 w') := by
 unfold m_L at h
 refine cw (args := [(vp p1), given1.v, l1.v, (vi i1)]) Tryz.func94 Tryz.ntmps94 ?_
 have hs := Hst.start w0
 have hb := HB.nil None w0
 refine wpE_seq (rg (q0 (vb false) (wpL_nil (th_n (wpE_seq (rg (q0 l1.v (q0 (vi i1) ?_))))))))
 obtain ⟨a1, hv14, h⟩ := h
 refine q2 (vp (some a1)) (xi (Tryz.runUnderlying101 _) (Tryz.sizeOf157 _) hv14) ?_
 obtain ⟨aB, aD, aH, aJ, hv13, h⟩ := h
 refine q2 (.agg #[(vi aB), (vi aD), (vi aH), (vi aJ)]) (x_loadA (a := a1) (vs := [(vi aB), (vi aD), (vi aH), (vi aJ)]) (by kernel_rfl) (Tryz.isAgg157 _) (Tryz.sizeOf157 _) rfl hv13) (sn (O := (.cells #[(vi 0), (vi 0), (vi 0), (vi 0)] 157)) (x_alloc (Tryz.zeroValue157 _) rfl) ?_)
 intro p2 w1 hn1
 obtain ⟨H1, hs, hb⟩ := hs.alloc hb hn1
 refine st_set (want0 rfl) (x_storeA (a := p2) (vs := [(vi aB), (vi aD), (vi aH), (vi aJ)]) (by kernel_rfl) (by kernel_rfl) rfl (Tryz.sizeOf157 _) rfl (hb.canWs0 0 4 gZ (by kernel_rfl))) ?_
 intro w2 hn2
 have hsb : Hst w0 None w0 H1 w2 ∧ HB H1 w2 [(p2, [(vi aB), (vi aD), (vi aH), (vi aJ)], 157)] := by
  rw [hn2]
  exact hb.store0 (i := 0) (vs := [(vi aB), (vi aD), (vi aH), (vi aJ)]) hs gZ (by kernel_rfl) (by kernel_rfl)
 obtain ⟨hs, hb⟩ := hsb
 refine wpL_nil (th_n (wpE_seq (rg (q0 (vp p1) (q0 (vp (some (p2.add 3))) (q2 (vi aJ) (xl (Tryz.isAgg30 _) (hb.c 0 3 gZ)) ?_))))))
 have h := h H1 w2 hs
 have hs := hs.here
 refine sc Tryz.call43 (h.mono ?_)
 rintro e w3 ⟨aA, aG, aI, aK, aL, aC, aF, r1, rfl, hk, h⟩
 refine ⟨_, rfl, ?_⟩
 obtain ⟨hs, hb⟩ := hk.hh hs hb
 refine q0 (.tuple #[(.agg #[(vi aA), (vi aG), (vi aI), (vu aK), (vs aL), (vi aC), (vi aF)]), (vb r1)]) (q0 (.agg #[(vi aA), (vi aG), (vi aI), (vu aK), (vs aL), (vi aC), (vi aF)]) (q0 (vb r1) (sn (O := (.cells #[(vi 0), (vi 0), (vi 0), (vu 0), (vs ⟨#[]⟩), (vi 0), (vi 0)] 86)) (x_alloc (Tryz.zeroValue86 _) rfl) ?_)))
 intro p3 w4 hn3
 obtain ⟨H2, hs, hb⟩ := hs.alloc hb hn3
 refine st_set (want0 rfl) (x_storeA (a := p3) (vs := [(vi aA), (vi aG), (vi aI), (vu aK), (vs aL), (vi aC), (vi aF)]) (by kernel_rfl) (by kernel_rfl) rfl (Tryz.sizeOf86 _) rfl (hb.canWs0 0 7 gZ (by kernel_rfl))) ?_
 intro w5 hn4
 have hsb : Hst w0 H1 w3 H2 w5 ∧ HB H2 w5 [(p3, [(vi aA), (vi aG), (vi aI), (vu aK), (vs aL), (vi aC), (vi aF)], 86), (p2, [(vi aB), (vi aD), (vi aH), (vi aJ)], 157)] := by
  rw [hn4]
  exact hb.store0 (i := 0) (vs := [(vi aA), (vi aG), (vi aI), (vu aK), (vs aL), (vi aC), (vi aF)]) hs gZ (by kernel_rfl) (by kernel_rfl)
 obtain ⟨hs, hb⟩ := hsb
 refine q0 (vb r1) (wpL_nil (th_n (wpE_seq (wpE_seq (rg (q0 (vb r1) (q0 (vb (!r1)) (wpL_nil (th_n ?_)))))))))
 refine wpE_cond (t := (!r1)) (by kernel_rfl) (fun hc1 => ?_) (fun hc1 => ?_)
 ·have h := h.1 hc1
  refine wpE_seq (rg (q0 (vb false) (wpL_nil (th_n (wpE_ret (th_r ?_))))))
  have h := h H2 w5 hs
  have hs := hs.here
  refine rs1 Tryz.results94 (v := (vb false)) ?_
  exact ⟨false, rfl, h⟩
 ·have h := h.2 hc1
  refine wpE_skip (th_n (wpE_seq (rg (q0 (vp (some p3)) (q2 (vi aA) (xl (Tryz.isAgg3 _) (hb.c0 0 gZ)) (q0 (vp (some p2)) (q2 (vi aB) (xl (Tryz.isAgg3 _) (hb.c0 1 (gS gZ))) ?_)))))))
  refine sc Tryz.call138 ((p_B aA aB w5).mono ?_)
  rintro e w6 ⟨he, hE⟩
  refine ⟨(.tuple #[(vb (s_B aA aB).1), (vb (s_B aA aB).2)]), he.trans (by kernel_rfl), ?_⟩
  have hs := hs.pure hE
  have hb := hb.pure hE
  refine q0 (.tuple #[(vb (s_B aA aB).1), (vb (s_B aA aB).2)]) (q0 (vb (s_B aA aB).1) (q0 (vb (s_B aA aB).2) (q0 (vb (s_B aA aB).1) (q0 (vb (s_B aA aB).2) (wpL_nil (th_n (wpE_seq (wpE_seq ?_))))))))
  refine wpE_via (fun ρ wJ => ∃ b15'0 y1 : Bool, ∃ HJ : NP, ((((((s_B aA aB).1) && ((decide (aD < 0)) || (decide (aD ≥ i1)))) || ((!((s_B aA aB).1)) && (aD != 0))) || (((s_B aA aB).2) && ((decide (aH < 0)) || (decide (aH ≥ i1))))) = b15'0) ∧ (y1 = (b15'0 || ((!((s_B aA aB).2)) && (aH != 0)))) ∧ Hst w0 H1 w3 HJ wJ ∧ HB HJ wJ [(p3, [(vi aA), (vi aG), (vi aI), (vu aK), (vs aL), (vi aC), (vi aF)], 86), (p2, [(vi aB), (vi aD), (vi aH), (vi aJ)], 157)] ∧ Has ρ [(0, (vp p1)), (1, given1.v), (2, l1.v), (9, (vp (some p2))), (10, (vp (some p3))), (12, (vb (s_B aA aB).1)), (13, (vb (s_B aA aB).2)), (81, (vb y1))]) ?_ ?_
  ·refine rg (q0 (vb (s_B aA aB).1) (q0 (vb (s_B aA aB).1) ?_))
   refine wpL_join 10 (fun ρ wJ => ∃ b17'0 : Bool, ∃ HJ : NP, ((s_B aA aB).1 = b17'0) ∧ Hst w0 H1 w3 HJ wJ ∧ HB HJ wJ [(p3, [(vi aA), (vi aG), (vi aI), (vu aK), (vs aL), (vi aC), (vi aF)], 86), (p2, [(vi aB), (vi aD), (vi aH), (vi aJ)], 157)] ∧ Has ρ [(0, (vp p1)), (1, given1.v), (2, l1.v), (3, (vi i1)), (9, (vp (some p2))), (10, (vp (some p3))), (12, (vb (s_B aA aB).1)), (13, (vb (s_B aA aB).2)), (49, (vb (b17'0 && ((decide (aD < 0)) || (decide (aD ≥ i1))))))]) ?_ ?_
   ·rintro ρ w23 ⟨b17'0, H19, he0, hs, hb, hH⟩
    subst he0
    refine wpL_has hH ?_
    refine q0 (vb (((s_B aA aB).1) && ((decide (aD < 0)) || (decide (aD ≥ i1))))) ?_
    refine wpL_join 8 (fun ρ wJ => ∃ b20'0 : Bool, ∃ HJ : NP, ((((s_B aA aB).1) && ((decide (aD < 0)) || (decide (aD ≥ i1)))) = b20'0) ∧ Hst w0 H1 w3 HJ wJ ∧ HB HJ wJ [(p3, [(vi aA), (vi aG), (vi aI), (vu aK), (vs aL), (vi aC), (vi aF)], 86), (p2, [(vi aB), (vi aD), (vi aH), (vi aJ)], 157)] ∧ Has ρ [(0, (vp p1)), (1, given1.v), (2, l1.v), (3, (vi i1)), (9, (vp (some p2))), (10, (vp (some p3))), (12, (vb (s_B aA aB).1)), (13, (vb (s_B aA aB).2)), (58, (vb (b20'0 || ((!((s_B aA aB).1)) && (aD != 0)))))]) ?_ ?_
    ·rintro ρ w26 ⟨b20'0, H22, he0, hs, hb, hH⟩
     subst he0
     refine wpL_has hH ?_
     refine q0 (vb ((((s_B aA aB).1) && ((decide (aD < 0)) || (decide (aD ≥ i1)))) || ((!((s_B aA aB).1)) && (aD != 0)))) ?_
     refine wpL_join 13 (fun ρ wJ => ∃ b25'0 : Bool, ∃ HJ : NP, (((((s_B aA aB).1) && ((decide (aD < 0)) || (decide (aD ≥ i1)))) || ((!((s_B aA aB).1)) && (aD != 0))) = b25'0) ∧ Hst w0 H1 w3 HJ wJ ∧ HB HJ wJ [(p3, [(vi aA), (vi aG), (vi aI), (vu aK), (vs aL), (vi aC), (vi aF)], 86), (p2, [(vi aB), (vi aD), (vi aH), (vi aJ)], 157)] ∧ Has ρ [(0, (vp p1)), (1, given1.v), (2, l1.v), (9, (vp (some p2))), (10, (vp (some p3))), (12, (vb (s_B aA aB).1)), (13, (vb (s_B aA aB).2)), (72, (vb (b25'0 || (((s_B aA aB).2) && ((decide (aH < 0)) || (decide (aH ≥ i1)))))))]) ?_ ?_
     ·rintro ρ w31 ⟨b25'0, H27, he0, hs, hb, hH⟩
      subst he0
      refine wpL_has hH ?_
      refine q0 (vb (((((s_B aA aB).1) && ((decide (aD < 0)) || (decide (aD ≥ i1)))) || ((!((s_B aA aB).1)) && (aD != 0))) || (((s_B aA aB).2) && ((decide (aH < 0)) || (decide (aH ≥ i1)))))) ?_
      rcases Bool.eq_false_or_eq_true (((((s_B aA aB).1) && ((decide (aD < 0)) || (decide (aD ≥ i1)))) || ((!((s_B aA aB).1)) && (aD != 0))) || (((s_B aA aB).2) && ((decide (aH < 0)) || (decide (aH ≥ i1))))) with hg56 | hg56
      ·refine sk (yD 73 hg56) (sk (yD 73 hg56) (sk (yD 73 hg56) (sm (sm (sm (sk (yD 73 hg56) (q2 (vb true) (xT hg56) (wpL_nil (th_n ?_)))))))))
       exact ⟨true, _, _, hg56, rfl, hs, hb, hm⟩
      ·refine q1 (vb (s_B aA aB).2) (want1 rfl (yD 73 hg56)) (q1 (vb (!((s_B aA aB).2))) (want1 rfl (yD 73 hg56)) (q1 (vb (!((s_B aA aB).2))) (want1 rfl (yD 73 hg56)) ?_))
       refine wpL_join 4 (fun ρ wJ => ∃ b29'0 : Bool, ∃ HJ : NP, ((!((s_B aA aB).2)) = b29'0) ∧ Hst w0 H1 w3 HJ wJ ∧ HB HJ wJ [(p3, [(vi aA), (vi aG), (vi aI), (vu aK), (vs aL), (vi aC), (vi aF)], 86), (p2, [(vi aB), (vi aD), (vi aH), (vi aJ)], 157)] ∧ Has ρ [(0, (vp p1)), (1, given1.v), (2, l1.v), (9, (vp (some p2))), (10, (vp (some p3))), (12, (vb (s_B aA aB).1)), (13, (vb (s_B aA aB).2)), (73, (vb (((((s_B aA aB).1) && ((decide (aD < 0)) || (decide (aD ≥ i1)))) || ((!((s_B aA aB).1)) && (aD != 0))) || (((s_B aA aB).2) && ((decide (aH < 0)) || (decide (aH ≥ i1))))))), (80, (vb (b29'0 && (aH != 0))))]) ?_ ?_
       ·rintro ρ w35 ⟨b29'0, H31, he0, hs, hb, hH⟩
        subst he0
        refine wpL_has hH ?_
        refine q2 (vb ((!((s_B aA aB).2)) && (aH != 0))) (xF hg56) (wpL_nil (th_n ?_))
        exact ⟨false, _, _, hg56, rfl, hs, hb, hm⟩
       ·rcases Bool.eq_false_or_eq_true (!((s_B aA aB).2)) with hg58 | hg58
        ·refine q1 (vp (some (p2.add 2))) (want1 rfl (yD 76 hg58)) (stp (v := (vi aH)) (want1 rfl (yD 76 hg58)) (xl (Tryz.isAgg3 _) (hb.c 1 2 (gS gZ))) (q1 (vb (aH != 0)) (want1 rfl (yD 76 hg58)) (stp (v := (vb (aH != 0))) (want1 rfl (yD 73 hg56)) (xT hg58) (wpL_nil ?_))))
         exact ⟨true, _, hg58, hs, hb, hm⟩
        ·refine sk (yD 76 hg58) (sk (yD 76 hg58) (sk (yD 76 hg58) (stp (v := (vb false)) (want1 rfl (yD 73 hg56)) (xF hg58) (wpL_nil ?_))))
         exact ⟨false, _, hg58, hs, hb, hm⟩
     ·rcases Bool.eq_false_or_eq_true ((((s_B aA aB).1) && ((decide (aD < 0)) || (decide (aD ≥ i1)))) || ((!((s_B aA aB).1)) && (aD != 0))) with hg49 | hg49
      ·refine sk (yD 59 hg49) (sk (yD 59 hg49) (sm (sm (sm (sm (sm (sm (sm (sm (sm (sk (yD 59 hg49) ?_)))))))))))
       refine q2 (vb true) (xT hg49) (wpL_nil ?_)
       exact ⟨true, _, hg49, hs, hb, hm⟩
      ·refine q1 (vb (s_B aA aB).2) (want1 rfl (yD 59 hg49)) (q1 (vb (s_B aA aB).2) (want1 rfl (yD 59 hg49)) ?_)
       refine wpL_join 10 (fun ρ wJ => ∃ b27'0 : Bool, ∃ HJ : NP, ((s_B aA aB).2 = b27'0) ∧ Hst w0 H1 w3 HJ wJ ∧ HB HJ wJ [(p3, [(vi aA), (vi aG), (vi aI), (vu aK), (vs aL), (vi aC), (vi aF)], 86), (p2, [(vi aB), (vi aD), (vi aH), (vi aJ)], 157)] ∧ Has ρ [(0, (vp p1)), (1, given1.v), (2, l1.v), (9, (vp (some p2))), (10, (vp (some p3))), (12, (vb (s_B aA aB).1)), (13, (vb (s_B aA aB).2)), (59, (vb ((((s_B aA aB).1) && ((decide (aD < 0)) || (decide (aD ≥ i1)))) || ((!((s_B aA aB).1)) && (aD != 0))))), (71, (vb (b27'0 && ((decide (aH < 0)) || (decide (aH ≥ i1))))))]) ?_ ?_
       ·rintro ρ w33 ⟨b27'0, H29, he0, hs, hb, hH⟩
        subst he0
        refine wpL_has hH ?_
        refine q2 (vb (((s_B aA aB).2) && ((decide (aH < 0)) || (decide (aH ≥ i1))))) (xF hg49) (wpL_nil ?_)
        exact ⟨false, _, hg49, hs, hb, hm⟩
       ·rcases Bool.eq_false_or_eq_true ((s_B aA aB).2) with hg53 | hg53
        ·refine q1 (vp (some (p2.add 2))) (want1 rfl (yD 61 hg53)) (stp (v := (vi aH)) (want1 rfl (yD 61 hg53)) (xl (Tryz.isAgg3 _) (hb.c 1 2 (gS gZ))) (q1 (vb (decide (aH < 0))) (want1 rfl (yD 61 hg53)) (q1 (vb (decide (aH < 0))) (want1 rfl (yD 61 hg53)) ?_)))
         refine wpL_join 5 (fun ρ wJ => ∃ b28'0 : Bool, ∃ HJ : NP, ((decide (aH < 0)) = b28'0) ∧ Hst w0 H1 w3 HJ wJ ∧ HB HJ wJ [(p3, [(vi aA), (vi aG), (vi aI), (vu aK), (vs aL), (vi aC), (vi aF)], 86), (p2, [(vi aB), (vi aD), (vi aH), (vi aJ)], 157)] ∧ Has ρ [(0, (vp p1)), (1, given1.v), (2, l1.v), (9, (vp (some p2))), (10, (vp (some p3))), (12, (vb (s_B aA aB).1)), (13, (vb (s_B aA aB).2)), (59, (vb ((((s_B aA aB).1) && ((decide (aD < 0)) || (decide (aD ≥ i1)))) || ((!((s_B aA aB).1)) && (aD != 0))))), (61, (vb (s_B aA aB).2)), (70, (vb (b28'0 || (decide (aH ≥ i1)))))]) ?_ ?_
         ·rintro ρ w34 ⟨b28'0, H30, he0, hs, hb, hH⟩
          subst he0
          refine wpL_has hH ?_
          refine stp (v := (vb ((decide (aH < 0)) || (decide (aH ≥ i1))))) (want1 rfl (yD 59 hg49)) (xT hg53) (wpL_nil ?_)
          exact ⟨true, _, hg53, hs, hb, hm⟩
         ·rcases Bool.eq_false_or_eq_true (decide (aH < 0)) with hg55 | hg55
          ·refine sk (yD 65 hg55) (sk (yD 65 hg55) (sk (yD 65 hg55) (sk (yD 65 hg55) (stp (v := (vb true)) (want1 rfl (yD 61 hg53)) (xT hg55) (wpL_nil ?_)))))
           exact ⟨true, _, hg55, hs, hb, hm⟩
          ·refine q1 (vp (some (p2.add 2))) (want1 rfl (yD 65 hg55)) (stp (v := (vi aH)) (want1 rfl (yD 65 hg55)) (xl (Tryz.isAgg3 _) (hb.c 1 2 (gS gZ))) (q1 (vi i1) (want1 rfl (yD 65 hg55)) (q1 (vb (decide (aH ≥ i1))) (want1 rfl (yD 65 hg55)) (stp (v := (vb (decide (aH ≥ i1)))) (want1 rfl (yD 61 hg53)) (xF hg55) (wpL_nil ?_)))))
           exact ⟨false, _, hg55, hs, hb, hm⟩
        ·refine sk (yD 61 hg53) (sk (yD 61 hg53) (sk (yD 61 hg53) (sk (yD 61 hg53) (sm (sm (sm (sm (sk (yD 61 hg53) (stp (v := (vb false)) (want1 rfl (yD 59 hg49)) (xF hg53) (wpL_nil ?_))))))))))
         exact ⟨false, _, hg53, hs, hb, hm⟩
    ·rcases Bool.eq_false_or_eq_true (((s_B aA aB).1) && ((decide (aD < 0)) || (decide (aD ≥ i1)))) with hg39 | hg39
     ·refine sk (yD 50 hg39) (sk (yD 50 hg39) (sk (yD 50 hg39) (sm (sm (sm (sk (yD 50 hg39) (q2 (vb true) (xT hg39) (wpL_nil ?_))))))))
      exact ⟨true, _, hg39, hs, hb, hm⟩
     ·refine q1 (vb (s_B aA aB).1) (want1 rfl (yD 50 hg39)) (q1 (vb (!((s_B aA aB).1))) (want1 rfl (yD 50 hg39)) (q1 (vb (!((s_B aA aB).1))) (want1 rfl (yD 50 hg39)) ?_))
      refine wpL_join 4 (fun ρ wJ => ∃ b21'0 : Bool, ∃ HJ : NP, ((!((s_B aA aB).1)) = b21'0) ∧ Hst w0 H1 w3 HJ wJ ∧ HB HJ wJ [(p3, [(vi aA), (vi aG), (vi aI), (vu aK), (vs aL), (vi aC), (vi aF)], 86), (p2, [(vi aB), (vi aD), (vi aH), (vi aJ)], 157)] ∧ Has ρ [(0, (vp p1)), (1, given1.v), (2, l1.v), (3, (vi i1)), (9, (vp (some p2))), (10, (vp (some p3))), (12, (vb (s_B aA aB).1)), (13, (vb (s_B aA aB).2)), (50, (vb (((s_B aA aB).1) && ((decide (aD < 0)) || (decide (aD ≥ i1)))))), (57, (vb (b21'0 && (aD != 0))))]) ?_ ?_
      ·rintro ρ w27 ⟨b21'0, H23, he0, hs, hb, hH⟩
       subst he0
       refine wpL_has hH ?_
       refine q2 (vb ((!((s_B aA aB).1)) && (aD != 0))) (xF hg39) (wpL_nil ?_)
       exact ⟨false, _, hg39, hs, hb, hm⟩
      ·rcases Bool.eq_false_or_eq_true (!((s_B aA aB).1)) with hg41 | hg41
       ·refine q1 (vp (some (p2.add 1))) (want1 rfl (yD 53 hg41)) (stp (v := (vi aD)) (want1 rfl (yD 53 hg41)) (xl (Tryz.isAgg3 _) (hb.c 1 1 (gS gZ))) (q1 (vb (aD != 0)) (want1 rfl (yD 53 hg41)) (stp (v := (vb (aD != 0))) (want1 rfl (yD 50 hg39)) (xT hg41) (wpL_nil ?_))))
        exact ⟨true, _, hg41, hs, hb, hm⟩
       ·refine sk (yD 53 hg41) (sk (yD 53 hg41) (sk (yD 53 hg41) (stp (v := (vb false)) (want1 rfl (yD 50 hg39)) (xF hg41) (wpL_nil ?_))))
        exact ⟨false, _, hg41, hs, hb, hm⟩
   ·rcases Bool.eq_false_or_eq_true ((s_B aA aB).1) with hg33 | hg33
    ·refine q1 (vp (some (p2.add 1))) (want1 rfl (yD 39 hg33)) (stp (v := (vi aD)) (want1 rfl (yD 39 hg33)) (xl (Tryz.isAgg3 _) (hb.c 1 1 (gS gZ))) (q1 (vb (decide (aD < 0))) (want1 rfl (yD 39 hg33)) (q1 (vb (decide (aD < 0))) (want1 rfl (yD 39 hg33)) ?_)))
     refine wpL_join 5 (fun ρ wJ => ∃ b18'0 : Bool, ∃ HJ : NP, ((decide (aD < 0)) = b18'0) ∧ Hst w0 H1 w3 HJ wJ ∧ HB HJ wJ [(p3, [(vi aA), (vi aG), (vi aI), (vu aK), (vs aL), (vi aC), (vi aF)], 86), (p2, [(vi aB), (vi aD), (vi aH), (vi aJ)], 157)] ∧ Has ρ [(0, (vp p1)), (1, given1.v), (2, l1.v), (3, (vi i1)), (9, (vp (some p2))), (10, (vp (some p3))), (12, (vb (s_B aA aB).1)), (13, (vb (s_B aA aB).2)), (39, (vb (s_B aA aB).1)), (48, (vb (b18'0 || (decide (aD ≥ i1)))))]) ?_ ?_
     ·rintro ρ w24 ⟨b18'0, H20, he0, hs, hb, hH⟩
      subst he0
      refine wpL_has hH ?_
      refine q2 (vb ((decide (aD < 0)) || (decide (aD ≥ i1)))) (xT hg33) (wpL_nil ?_)
      exact ⟨true, _, hg33, hs, hb, hm⟩
     ·rcases Bool.eq_false_or_eq_true (decide (aD < 0)) with hg35 | hg35
      ·refine sk (yD 43 hg35) (sk (yD 43 hg35) (sk (yD 43 hg35) (sk (yD 43 hg35) (stp (v := (vb true)) (want1 rfl (yD 39 hg33)) (xT hg35) (wpL_nil ?_)))))
       exact ⟨true, _, hg35, hs, hb, hm⟩
      ·refine q1 (vp (some (p2.add 1))) (want1 rfl (yD 43 hg35)) (stp (v := (vi aD)) (want1 rfl (yD 43 hg35)) (xl (Tryz.isAgg3 _) (hb.c 1 1 (gS gZ))) (q1 (vi i1) (want1 rfl (yD 43 hg35)) (q1 (vb (decide (aD ≥ i1))) (want1 rfl (yD 43 hg35)) (stp (v := (vb (decide (aD ≥ i1)))) (want1 rfl (yD 39 hg33)) (xF hg35) (wpL_nil ?_)))))
       exact ⟨false, _, hg35, hs, hb, hm⟩
    ·refine sk (yD 39 hg33) (sk (yD 39 hg33) (sk (yD 39 hg33) (sk (yD 39 hg33) (sm (sm (sm (sm (sk (yD 39 hg33) (q2 (vb false) (xF hg33) (wpL_nil ?_))))))))))
     exact ⟨false, _, hg33, hs, hb, hm⟩
  ·rintro ρ w21 ⟨b15'0, y1, H17, he0, hy1, hs, hb, hH⟩
   subst he0
   have h := h y1 hy1
   refine norm_has hH ?_
   refine th_n ?_
   refine wpE_cond (t := y1) (by kernel_rfl) (fun hc2 => ?_) (fun hc2 => ?_)
   ·have h := h.1 hc2
    refine wpE_seq (rg (q0 (vb false) (wpL_nil (th_n (wpE_ret (th_r ?_))))))
    have h := h H17 w21 hs
    have hs := hs.here
    refine rs1 Tryz.results94 (v := (vb false)) ?_
    exact ⟨false, rfl, h⟩
   ·have h := h.2 hc2
    refine wpE_skip (th_n (wpE_seq (rg (sn (O := (.cells #[(vi 0), (vi 0), (vi 0), (vu 0), (vs ⟨#[]⟩), (vi 0), (vi 0)] 86)) (x_alloc (Tryz.zeroValue86 _) rfl) ?_))))
    intro p4 w36 hn5
    obtain ⟨H32, hs, hb⟩ := hs.alloc hb hn5
    refine sn (O := (.cells #[(vi 0), (vi 0), (vi 0), (vu 0), (vs ⟨#[]⟩), (vi 0), (vi 0)] 86)) (x_alloc (Tryz.zeroValue86 _) rfl) ?_
    intro p5 w37 hn6
    obtain ⟨H33, hs, hb⟩ := hs.alloc hb hn6
    refine wpL_nil (th_n (wpE_seq (wpE_seq (rg (q0 (vb (s_B aA aB).1) (wpL_nil (th_n ?_)))))))
    refine wpE_joinT (fun ρ w => ∃ aE aQ : Int, ∃ aR aS : Int, ∃ aT : ByteArray, ∃ aM aN : Int, ∃ H : NP, Has ρ [(0, (vp p1)), (1, given1.v), (2, l1.v), (9, (vp (some p2))), (10, (vp (some p3))), (13, (vb (s_B aA aB).2)), (14, (vp (some p4))), (15, (vp (some p5)))] ∧ Hst w0 H w H w ∧ HB H w [(p5, [(vi 0), (vi 0), (vi 0), (vu 0), (vs ⟨#[]⟩), (vi 0), (vi 0)], 86), (p4, [(vi aE), (vi aQ), (vi aR), (vu aS), (vs aT), (vi aM), (vi aN)], 86), (p3, [(vi aA), (vi aG), (vi aI), (vu aK), (vs aL), (vi aC), (vi aF)], 86), (p2, [(vi aB), (vi aD), (vi aH), (vi aJ)], 157)] ∧ m_L_j1 p1 given1 l1 aB aD aH aJ aA aG aI aC aF aE aQ aR aS aT aM aN w0 H w K) ?_ ?_
    ·rintro ρ w ⟨aE, aQ, aR, aS, aT, aM, aN, H, hH, hs, hb, h⟩
     unfold m_L_j1 at h
     refine wpE_has hH ?_
     refine wpE_seq (wpE_seq (rg (q0 (vb (s_B aA aB).2) (wpL_nil (th_n ?_)))))
     refine wpE_joinT (fun ρ w => ∃ aP aO : Int, ∃ aU aV : Int, ∃ aW : ByteArray, ∃ aX aY : Int, ∃ H : NP, Has ρ [(1, given1.v), (2, l1.v), (9, (vp (some p2))), (10, (vp (some p3))), (14, (vp (some p4))), (15, (vp (some p5)))] ∧ Hst w0 H w H w ∧ HB H w [(p5, [(vi aP), (vi aO), (vi aU), (vu aV), (vs aW), (vi aX), (vi aY)], 86), (p4, [(vi aE), (vi aQ), (vi aR), (vu aS), (vs aT), (vi aM), (vi aN)], 86), (p3, [(vi aA), (vi aG), (vi aI), (vu aK), (vs aL), (vi aC), (vi aF)], 86), (p2, [(vi aB), (vi aD), (vi aH), (vi aJ)], 157)] ∧ m_L_j2 given1 l1 aB aD aH aJ aA aG aI aC aF aE aM aN aP aO aU aV aW aX aY w0 H w K) ?_ ?_
     ·rintro ρ w ⟨aP, aO, aU, aV, aW, aX, aY, H, hH, hs, hb, h⟩
      unfold m_L_j2 at h
      refine wpE_has hH ?_
      refine wpE_seq (wpE_seq (rg (q0 (vp (some p2)) (q2 (vi aB) (xl (Tryz.isAgg3 _) (hb.c0 3 (gS (gS (gS gZ))))) (wpL_nil (th_n (wpE_block (wpE_seq (rg (q0 (vb (aB == 0)) (q0 (vb (aB == 0)) ?_)))))))))))
      refine wpL_nil (th_n ?_)
      refine wpE_cond (t := (aB == 0)) (by kernel_rfl) (fun hc3 => ?_) (fun hc3 => ?_)
      ·have h := h.1 hc3
       refine wpE_seq (rg (q0 given1.v (q0 (vp (some (p2.add 3))) (q2 (vi aJ) (xl (Tryz.isAgg30 _) (hb.c 3 3 (gS (gS (gS gZ))))) ?_))))
       refine sc Tryz.call58 (h.mono ?_)
       rintro e w38 ⟨r2, rfl, hk, h⟩
       refine ⟨_, rfl, ?_⟩
       obtain ⟨hs, hb⟩ := hk.hh hs hb
       refine q0 (vb r2) (wpL_nil (th_n (wpE_ret (bl_r (th_r (rs1 Tryz.results94 (v := (vb r2)) ?_))))))
       exact ⟨r2, rfl, h⟩
      ·have h := h.2 hc3
       refine wpE_seq (rg (q0 (vb (aB == 1)) (q0 (vb (aB == 1)) (wpL_nil (th_n ?_)))))
       refine wpE_cond (t := (aB == 1)) (by kernel_rfl) (fun hc4 => ?_) (fun hc4 => ?_)
       ·have h := h.1 hc4
        refine wpE_seq ?_
        refine wpE_via (fun ρ wJ => ∃ HJ : NP, Hst w0 H w HJ wJ ∧ HB HJ wJ [(p5, [(vi aP), (vi aO), (vi aU), (vu aV), (vs aW), (vi aX), (vi aY)], 86), (p4, [(vi aE), (vi aQ), (vi aR), (vu aS), (vs aT), (vi aM), (vi aN)], 86), (p3, [(vi aA), (vi aG), (vi aI), (vu aK), (vs aL), (vi aC), (vi aF)], 86), (p2, [(vi aB), (vi aD), (vi aH), (vi aJ)], 157)] ∧ Has ρ [(8, (vb ((aE == 4) && (aM == aJ))))]) ?_ ?_
        ·refine rg (q0 (vp (some p4)) (q2 (vi aE) (xl (Tryz.isAgg3 _) (hb.c0 1 (gS gZ))) (q0 (vb (aE == 4)) (q0 (vb (aE == 4)) ?_))))
         refine wpL_join 6 (fun ρ wJ => ∃ b32'0 : Bool, ∃ HJ : NP, ((aE == 4) = b32'0) ∧ Hst w0 H w HJ wJ ∧ HB HJ wJ [(p5, [(vi aP), (vi aO), (vi aU), (vu aV), (vs aW), (vi aX), (vi aY)], 86), (p4, [(vi aE), (vi aQ), (vi aR), (vu aS), (vs aT), (vi aM), (vi aN)], 86), (p3, [(vi aA), (vi aG), (vi aI), (vu aK), (vs aL), (vi aC), (vi aF)], 86), (p2, [(vi aB), (vi aD), (vi aH), (vi aJ)], 157)] ∧ Has ρ [(125, (vb (b32'0 && (aM == aJ))))]) ?_ ?_
         ·rintro ρ w41 ⟨b32'0, H36, he0, hs, hb, hH⟩
          subst he0
          refine wpL_has hH ?_
          refine q0 (vb ((aE == 4) && (aM == aJ))) (wpL_nil (th_n ?_))
          exact ⟨_, hs, hb, hm⟩
         ·rcases Bool.eq_false_or_eq_true (aE == 4) with hg62 | hg62
          ·refine q1 (vp (some (p4.add 5))) (want1 rfl (yD 119 hg62)) (stp (v := (vi aM)) (want1 rfl (yD 119 hg62)) (xl (Tryz.isAgg30 _) (hb.c 1 5 (gS gZ))) (q1 (vp (some (p2.add 3))) (want1 rfl (yD 119 hg62)) (stp (v := (vi aJ)) (want1 rfl (yD 119 hg62)) (xl (Tryz.isAgg30 _) (hb.c 3 3 (gS (gS (gS gZ))))) (q1 (vb (aM == aJ)) (want1 rfl (yD 119 hg62)) (q2 (vb (aM == aJ)) (xT hg62) (wpL_nil ?_))))))
           exact ⟨true, _, hg62, hs, hb, hm⟩
          ·refine sk (yD 119 hg62) (sk (yD 119 hg62) (sk (yD 119 hg62) (sk (yD 119 hg62) (sk (yD 119 hg62) (q2 (vb false) (xF hg62) (wpL_nil ?_))))))
           exact ⟨false, _, hg62, hs, hb, hm⟩
        ·rintro ρ w40 ⟨H35, hs, hb, hH⟩
         refine norm_has hH ?_
         refine th_n (wpE_ret (bl_r (th_r ?_)))
         have h := h H35 w40 hs
         have hs := hs.here
         refine rs1 Tryz.results94 (v := (vb ((aE == 4) && (aM == aJ)))) ?_
         exact ⟨((aE == 4) && (aM == aJ)), rfl, h⟩
       ·have h := h.2 hc4
        refine wpE_seq (rg (q0 (vb (aB == 2)) (q0 (vb (aB == 2)) (wpL_nil (th_n ?_)))))
        refine wpE_cond (t := (aB == 2)) (by kernel_rfl) (fun hc5 => ?_) (fun hc5 => ?_)
        ·have h := h.1 hc5
         refine wpE_seq ?_
         refine wpE_via (fun ρ wJ => ∃ HJ : NP, Hst w0 H w HJ wJ ∧ HB HJ wJ [(p5, [(vi aP), (vi aO), (vi aU), (vu aV), (vs aW), (vi aX), (vi aY)], 86), (p4, [(vi aE), (vi aQ), (vi aR), (vu aS), (vs aT), (vi aM), (vi aN)], 86), (p3, [(vi aA), (vi aG), (vi aI), (vu aK), (vs aL), (vi aC), (vi aF)], 86), (p2, [(vi aB), (vi aD), (vi aH), (vi aJ)], 157)] ∧ Has ρ [(8, (vb ((aE == 4) && (aN == aJ))))]) ?_ ?_
         ·refine rg (q0 (vp (some p4)) (q2 (vi aE) (xl (Tryz.isAgg3 _) (hb.c0 1 (gS gZ))) (q0 (vb (aE == 4)) (q0 (vb (aE == 4)) ?_))))
          refine wpL_join 6 (fun ρ wJ => ∃ b35'0 : Bool, ∃ HJ : NP, ((aE == 4) = b35'0) ∧ Hst w0 H w HJ wJ ∧ HB HJ wJ [(p5, [(vi aP), (vi aO), (vi aU), (vu aV), (vs aW), (vi aX), (vi aY)], 86), (p4, [(vi aE), (vi aQ), (vi aR), (vu aS), (vs aT), (vi aM), (vi aN)], 86), (p3, [(vi aA), (vi aG), (vi aI), (vu aK), (vs aL), (vi aC), (vi aF)], 86), (p2, [(vi aB), (vi aD), (vi aH), (vi aJ)], 157)] ∧ Has ρ [(137, (vb (b35'0 && (aN == aJ))))]) ?_ ?_
          ·rintro ρ w44 ⟨b35'0, H39, he0, hs, hb, hH⟩
           subst he0
           refine wpL_has hH ?_
           refine q0 (vb ((aE == 4) && (aN == aJ))) (wpL_nil (th_n ?_))
           exact ⟨_, hs, hb, hm⟩
          ·rcases Bool.eq_false_or_eq_true (aE == 4) with hg66 | hg66
           ·refine q1 (vp (some (p4.add 6))) (want1 rfl (yD 131 hg66)) (stp (v := (vi aN)) (want1 rfl (yD 131 hg66)) (xl (Tryz.isAgg30 _) (hb.c 1 6 (gS gZ))) (q1 (vp (some (p2.add 3))) (want1 rfl (yD 131 hg66)) (stp (v := (vi aJ)) (want1 rfl (yD 131 hg66)) (xl (Tryz.isAgg30 _) (hb.c 3 3 (gS (gS (gS gZ))))) (q1 (vb (aN == aJ)) (want1 rfl (yD 131 hg66)) (q2 (vb (aN == aJ)) (xT hg66) (wpL_nil ?_))))))
            exact ⟨true, _, hg66, hs, hb, hm⟩
           ·refine sk (yD 131 hg66) (sk (yD 131 hg66) (sk (yD 131 hg66) (sk (yD 131 hg66) (sk (yD 131 hg66) (q2 (vb false) (xF hg66) (wpL_nil ?_))))))
            exact ⟨false, _, hg66, hs, hb, hm⟩
         ·rintro ρ w43 ⟨H38, hs, hb, hH⟩
          refine norm_has hH ?_
          refine th_n (wpE_ret (bl_r (th_r ?_)))
          have h := h H38 w43 hs
          have hs := hs.here
          refine rs1 Tryz.results94 (v := (vb ((aE == 4) && (aN == aJ)))) ?_
          exact ⟨((aE == 4) && (aN == aJ)), rfl, h⟩
        ·have h := h.2 hc5
         refine wpE_seq (rg (q0 (vb (aB == 3)) (q0 (vb (aB == 3)) (wpL_nil (th_n ?_)))))
         refine wpE_cond (t := (aB == 3)) (by kernel_rfl) (fun hc6 => ?_) (fun hc6 => ?_)
         ·have h := h.1 hc6
          refine wpE_seq ?_
          refine wpE_via (fun ρ wJ => ∃ HJ : NP, Hst w0 H w HJ wJ ∧ HB HJ wJ [(p5, [(vi aP), (vi aO), (vi aU), (vu aV), (vs aW), (vi aX), (vi aY)], 86), (p4, [(vi aE), (vi aQ), (vi aR), (vu aS), (vs aT), (vi aM), (vi aN)], 86), (p3, [(vi aA), (vi aG), (vi aI), (vu aK), (vs aL), (vi aC), (vi aF)], 86), (p2, [(vi aB), (vi aD), (vi aH), (vi aJ)], 157)] ∧ Has ρ [(8, (vb ((((aE == 7) || (aE == 8)) || (aE == 9)) && (aM == aJ))))]) ?_ ?_
          ·refine rg (q0 (vp (some p4)) (q2 (vi aE) (xl (Tryz.isAgg3 _) (hb.c0 1 (gS gZ))) (q0 (vb (aE == 7)) (q0 (vb (aE == 7)) ?_))))
           refine wpL_join 4 (fun ρ wJ => ∃ b40'0 : Bool, ∃ HJ : NP, ((aE == 7) = b40'0) ∧ Hst w0 H w HJ wJ ∧ HB HJ wJ [(p5, [(vi aP), (vi aO), (vi aU), (vu aV), (vs aW), (vi aX), (vi aY)], 86), (p4, [(vi aE), (vi aQ), (vi aR), (vu aS), (vs aT), (vi aM), (vi aN)], 86), (p3, [(vi aA), (vi aG), (vi aI), (vu aK), (vs aL), (vi aC), (vi aF)], 86), (p2, [(vi aB), (vi aD), (vi aH), (vi aJ)], 157)] ∧ Has ρ [(9, (vp (some p2))), (14, (vp (some p4))), (147, (vb (b40'0 || (aE == 8))))]) ?_ ?_
           ·rintro ρ w49 ⟨b40'0, H44, he0, hs, hb, hH⟩
            subst he0
            refine wpL_has hH ?_
            refine q0 (vb ((aE == 7) || (aE == 8))) ?_
            refine wpL_join 4 (fun ρ wJ => ∃ b41'0 : Bool, ∃ HJ : NP, (((aE == 7) || (aE == 8)) = b41'0) ∧ Hst w0 H w HJ wJ ∧ HB HJ wJ [(p5, [(vi aP), (vi aO), (vi aU), (vu aV), (vs aW), (vi aX), (vi aY)], 86), (p4, [(vi aE), (vi aQ), (vi aR), (vu aS), (vs aT), (vi aM), (vi aN)], 86), (p3, [(vi aA), (vi aG), (vi aI), (vu aK), (vs aL), (vi aC), (vi aF)], 86), (p2, [(vi aB), (vi aD), (vi aH), (vi aJ)], 157)] ∧ Has ρ [(9, (vp (some p2))), (14, (vp (some p4))), (152, (vb (b41'0 || (aE == 9))))]) ?_ ?_
            ·rintro ρ w50 ⟨b41'0, H45, he0, hs, hb, hH⟩
             subst he0
             refine wpL_has hH ?_
             refine q0 (vb (((aE == 7) || (aE == 8)) || (aE == 9))) ?_
             refine wpL_join 6 (fun ρ wJ => ∃ b42'0 : Bool, ∃ HJ : NP, ((((aE == 7) || (aE == 8)) || (aE == 9)) = b42'0) ∧ Hst w0 H w HJ wJ ∧ HB HJ wJ [(p5, [(vi aP), (vi aO), (vi aU), (vu aV), (vs aW), (vi aX), (vi aY)], 86), (p4, [(vi aE), (vi aQ), (vi aR), (vu aS), (vs aT), (vi aM), (vi aN)], 86), (p3, [(vi aA), (vi aG), (vi aI), (vu aK), (vs aL), (vi aC), (vi aF)], 86), (p2, [(vi aB), (vi aD), (vi aH), (vi aJ)], 157)] ∧ Has ρ [(159, (vb (b42'0 && (aM == aJ))))]) ?_ ?_
             ·rintro ρ w51 ⟨b42'0, H46, he0, hs, hb, hH⟩
              subst he0
              refine wpL_has hH ?_
              refine q0 (vb ((((aE == 7) || (aE == 8)) || (aE == 9)) && (aM == aJ))) (wpL_nil (th_n ?_))
              exact ⟨_, hs, hb, hm⟩
             ·rcases Bool.eq_false_or_eq_true (((aE == 7) || (aE == 8)) || (aE == 9)) with hg78 | hg78
              ·refine q1 (vp (some (p4.add 5))) (want1 rfl (yD 153 hg78)) (stp (v := (vi aM)) (want1 rfl (yD 153 hg78)) (xl (Tryz.isAgg30 _) (hb.c 1 5 (gS gZ))) (q1 (vp (some (p2.add 3))) (want1 rfl (yD 153 hg78)) (stp (v := (vi aJ)) (want1 rfl (yD 153 hg78)) (xl (Tryz.isAgg30 _) (hb.c 3 3 (gS (gS (gS gZ))))) (q1 (vb (aM == aJ)) (want1 rfl (yD 153 hg78)) (q2 (vb (aM == aJ)) (xT hg78) (wpL_nil ?_))))))
               exact ⟨true, _, hg78, hs, hb, hm⟩
              ·refine sk (yD 153 hg78) (sk (yD 153 hg78) (sk (yD 153 hg78) (sk (yD 153 hg78) (sk (yD 153 hg78) (q2 (vb false) (xF hg78) (wpL_nil ?_))))))
               exact ⟨false, _, hg78, hs, hb, hm⟩
            ·rcases Bool.eq_false_or_eq_true ((aE == 7) || (aE == 8)) with hg76 | hg76
             ·refine sk (yD 148 hg76) (sk (yD 148 hg76) (sk (yD 148 hg76) (q2 (vb true) (xT hg76) (wpL_nil ?_))))
              exact ⟨true, _, hg76, hs, hb, hm⟩
             ·refine q1 (vp (some p4)) (want1 rfl (yD 148 hg76)) (stp (v := (vi aE)) (want1 rfl (yD 148 hg76)) (xl (Tryz.isAgg3 _) (hb.c0 1 (gS gZ))) (q1 (vb (aE == 9)) (want1 rfl (yD 148 hg76)) (q2 (vb (aE == 9)) (xF hg76) (wpL_nil ?_))))
              exact ⟨false, _, hg76, hs, hb, hm⟩
           ·rcases Bool.eq_false_or_eq_true (aE == 7) with hg74 | hg74
            ·refine sk (yD 143 hg74) (sk (yD 143 hg74) (sk (yD 143 hg74) (q2 (vb true) (xT hg74) (wpL_nil ?_))))
             exact ⟨true, _, hg74, hs, hb, hm⟩
            ·refine q1 (vp (some p4)) (want1 rfl (yD 143 hg74)) (stp (v := (vi aE)) (want1 rfl (yD 143 hg74)) (xl (Tryz.isAgg3 _) (hb.c0 1 (gS gZ))) (q1 (vb (aE == 8)) (want1 rfl (yD 143 hg74)) (q2 (vb (aE == 8)) (xF hg74) (wpL_nil ?_))))
             exact ⟨false, _, hg74, hs, hb, hm⟩
          ·rintro ρ w48 ⟨H43, hs, hb, hH⟩
           refine norm_has hH ?_
           refine th_n (wpE_ret (bl_r (th_r ?_)))
           have h := h H43 w48 hs
           have hs := hs.here
           refine rs1 Tryz.results94 (v := (vb ((((aE == 7) || (aE == 8)) || (aE == 9)) && (aM == aJ)))) ?_
           exact ⟨((((aE == 7) || (aE == 8)) || (aE == 9)) && (aM == aJ)), rfl, h⟩
         ·have h := h.2 hc6
          refine wpE_seq (rg (q0 (vb (aB == 4)) (q0 (vb (aB == 4)) (wpL_nil (th_n ?_)))))
          refine wpE_cond (t := (aB == 4)) (by kernel_rfl) (fun hc7 => ?_) (fun hc7 => ?_)
          ·have h := h.1 hc7
           refine wpE_seq ?_
           refine wpE_via (fun ρ wJ => ∃ HJ : NP, Hst w0 H w HJ wJ ∧ HB HJ wJ [(p5, [(vi aP), (vi aO), (vi aU), (vu aV), (vs aW), (vi aX), (vi aY)], 86), (p4, [(vi aE), (vi aQ), (vi aR), (vu aS), (vs aT), (vi aM), (vi aN)], 86), (p3, [(vi aA), (vi aG), (vi aI), (vu aK), (vs aL), (vi aC), (vi aF)], 86), (p2, [(vi aB), (vi aD), (vi aH), (vi aJ)], 157)] ∧ Has ρ [(8, (vb (((aA == 1) || (aA == 2)) || (aA == 3))))]) ?_ ?_
           ·refine rg (q0 (vp (some p3)) (q2 (vi aA) (xl (Tryz.isAgg3 _) (hb.c0 2 (gS (gS gZ)))) (q0 (vb (aA == 1)) (q0 (vb (aA == 1)) ?_))))
            refine wpL_join 4 (fun ρ wJ => ∃ b46'0 : Bool, ∃ HJ : NP, ((aA == 1) = b46'0) ∧ Hst w0 H w HJ wJ ∧ HB HJ wJ [(p5, [(vi aP), (vi aO), (vi aU), (vu aV), (vs aW), (vi aX), (vi aY)], 86), (p4, [(vi aE), (vi aQ), (vi aR), (vu aS), (vs aT), (vi aM), (vi aN)], 86), (p3, [(vi aA), (vi aG), (vi aI), (vu aK), (vs aL), (vi aC), (vi aF)], 86), (p2, [(vi aB), (vi aD), (vi aH), (vi aJ)], 157)] ∧ Has ρ [(10, (vp (some p3))), (169, (vb (b46'0 || (aA == 2))))]) ?_ ?_
            ·rintro ρ w55 ⟨b46'0, H50, he0, hs, hb, hH⟩
             subst he0
             refine wpL_has hH ?_
             refine q0 (vb ((aA == 1) || (aA == 2))) ?_
             refine wpL_join 4 (fun ρ wJ => ∃ b47'0 : Bool, ∃ HJ : NP, (((aA == 1) || (aA == 2)) = b47'0) ∧ Hst w0 H w HJ wJ ∧ HB HJ wJ [(p5, [(vi aP), (vi aO), (vi aU), (vu aV), (vs aW), (vi aX), (vi aY)], 86), (p4, [(vi aE), (vi aQ), (vi aR), (vu aS), (vs aT), (vi aM), (vi aN)], 86), (p3, [(vi aA), (vi aG), (vi aI), (vu aK), (vs aL), (vi aC), (vi aF)], 86), (p2, [(vi aB), (vi aD), (vi aH), (vi aJ)], 157)] ∧ Has ρ [(174, (vb (b47'0 || (aA == 3))))]) ?_ ?_
             ·rintro ρ w56 ⟨b47'0, H51, he0, hs, hb, hH⟩
              subst he0
              refine wpL_has hH ?_
              refine q0 (vb (((aA == 1) || (aA == 2)) || (aA == 3))) (wpL_nil (th_n ?_))
              exact ⟨_, hs, hb, hm⟩
             ·rcases Bool.eq_false_or_eq_true ((aA == 1) || (aA == 2)) with hg86 | hg86
              ·refine sk (yD 170 hg86) (sk (yD 170 hg86) (sk (yD 170 hg86) (q2 (vb true) (xT hg86) (wpL_nil ?_))))
               exact ⟨true, _, hg86, hs, hb, hm⟩
              ·refine q1 (vp (some p3)) (want1 rfl (yD 170 hg86)) (stp (v := (vi aA)) (want1 rfl (yD 170 hg86)) (xl (Tryz.isAgg3 _) (hb.c0 2 (gS (gS gZ)))) (q1 (vb (aA == 3)) (want1 rfl (yD 170 hg86)) (q2 (vb (aA == 3)) (xF hg86) (wpL_nil ?_))))
               exact ⟨false, _, hg86, hs, hb, hm⟩
            ·rcases Bool.eq_false_or_eq_true (aA == 1) with hg84 | hg84
             ·refine sk (yD 165 hg84) (sk (yD 165 hg84) (sk (yD 165 hg84) (q2 (vb true) (xT hg84) (wpL_nil ?_))))
              exact ⟨true, _, hg84, hs, hb, hm⟩
             ·refine q1 (vp (some p3)) (want1 rfl (yD 165 hg84)) (stp (v := (vi aA)) (want1 rfl (yD 165 hg84)) (xl (Tryz.isAgg3 _) (hb.c0 2 (gS (gS gZ)))) (q1 (vb (aA == 2)) (want1 rfl (yD 165 hg84)) (q2 (vb (aA == 2)) (xF hg84) (wpL_nil ?_))))
              exact ⟨false, _, hg84, hs, hb, hm⟩
           ·rintro ρ w54 ⟨H49, hs, hb, hH⟩
            refine norm_has hH ?_
            refine th_n (wpE_ret (bl_r (th_r ?_)))
            have h := h H49 w54 hs
            have hs := hs.here
            refine rs1 Tryz.results94 (v := (vb (((aA == 1) || (aA == 2)) || (aA == 3)))) ?_
            exact ⟨(((aA == 1) || (aA == 2)) || (aA == 3)), rfl, h⟩
          ·have h := h.2 hc7
           refine wpE_seq (rg (q0 (vb (aB == 5)) (q0 (vb (aB == 5)) (wpL_nil (th_n ?_)))))
           refine wpE_cond (t := (aB == 5)) (by kernel_rfl) (fun hc8 => ?_) (fun hc8 => ?_)
           ·have h := h.1 hc8
            refine wpE_seq (rg (q0 (vp (some (p3.add 1))) (q2 (vi aG) (xl (Tryz.isAgg3 _) (hb.c 2 1 (gS (gS gZ)))) (q0 (vi aG) (wpL_nil (th_n (wpE_seq (wpE_seq (rg (q0 (vp (some p3)) (q2 (vi aA) (xl (Tryz.isAgg3 _) (hb.c0 2 (gS (gS gZ)))) ?_)))))))))))
            refine wpL_nil (th_n ?_)
            refine wpE_joinT (fun ρ w => ∃ who1 : Int, ∃ H : NP, Has ρ [(2, l1.v), (9, (vp (some p2))), (10, (vp (some p3))), (15, (vp (some p5))), (16, (vi who1))] ∧ Hst w0 H w H w ∧ HB H w [(p5, [(vi aP), (vi aO), (vi aU), (vu aV), (vs aW), (vi aX), (vi aY)], 86), (p4, [(vi aE), (vi aQ), (vi aR), (vu aS), (vs aT), (vi aM), (vi aN)], 86), (p3, [(vi aA), (vi aG), (vi aI), (vu aK), (vs aL), (vi aC), (vi aF)], 86), (p2, [(vi aB), (vi aD), (vi aH), (vi aJ)], 157)] ∧ m_L_j3 l1 aD aC aP aO who1 w0 H w K) ?_ ?_
            ·rintro ρ w ⟨who1, H, hH, hs, hb, h⟩
             unfold m_L_j3 at h
             refine wpE_has hH ?_
             refine wpE_seq (wpE_drawnQ (by kernel_rfl) (by kernel_rfl) (by kernel_rfl) (by kernel_rfl) ?_)
             intro w57 hw57
             have hs : Hst w0 H w H w57 := by rw [hw57]; exact hs.drew
             have hb : HB H w57 [(p5, [(vi aP), (vi aO), (vi aU), (vu aV), (vs aW), (vi aX), (vi aY)], 86), (p4, [(vi aE), (vi aQ), (vi aR), (vu aS), (vs aT), (vi aM), (vi aN)], 86), (p3, [(vi aA), (vi aG), (vi aI), (vu aK), (vs aL), (vi aC), (vi aF)], 86), (p2, [(vi aB), (vi aD), (vi aH), (vi aJ)], 157)] := by rw [hw57]; exact hb.drew
             refine qq 0 l1.v Kp0 (qq 1 (vp (some (p2.add 1))) Kp1 (qr 2 (vi aD) Kp2 (xl (Tryz.isAgg3 _) (hb.c 3 1 (gS (gS (gS gZ))))) (qg 3 ?_)))
             obtain ⟨a2, hv2, h⟩ := h
             refine sxQ (v := (vp (some a2))) Kp3 (want0 rfl) rfl (xi (Tryz.runUnderlying101 _) (Tryz.sizeOf157 _) hv2) (qq 4 (vp (some (a2.add 3))) Kp4 (qg 5 ?_))
             have h := h w57 hs
             have hs := hs.here
             obtain ⟨v1, hv1, h⟩ := h
             refine sxQ (v := (vi v1)) Kp5 (want0 rfl) rfl (xl (Tryz.isAgg30 _) hv1) (qq 6 (vp (some (p3.add 5))) Kp6 (qr 7 (vi aC) Kp7 (xl (Tryz.isAgg30 _) (hb.c 2 5 (gS (gS gZ)))) (qq 8 (vb (v1 == aC)) Kp8 (qq 9 (vb (v1 == aC)) Kp9 (qg 10 ?_)))))
             rcases Bool.eq_false_or_eq_true (v1 == aC) with hg87 | hg87
             ·have h := h.1 hg87
              refine sxQ (v := (vp (some p5))) (pickA (S8 (pickS (pickS pickZ)))) (want1 rfl (yD 230 hg87)) rfl (by kernel_rfl) (qg 11 (sxQ (v := (vi aP)) (pickA (S8 (pickS (pickS (pickS pickZ))))) (want1 rfl (yD 230 hg87)) rfl (xl (Tryz.isAgg3 _) (hb.c0 0 gZ)) (qg 12 (sxQ (v := (vb (aP == 6))) (pickA (S8 (S4 pickZ))) (want1 rfl (yD 230 hg87)) rfl (by kernel_rfl) (qr 13 (vb (aP == 6)) (pickA (S8 (S4 (pickS pickZ)))) (xT hg87) (qq 14 (vb (aP == 6)) (pickA (S8 (S4 (pickS (pickS pickZ))))) (qg 15 ?_)))))))
              rcases Bool.eq_false_or_eq_true (aP == 6) with hg88 | hg88
              ·have h := h.1 hg88
               refine sxQ (v := (vp (some (p5.add 1)))) (pickA (S8 (S4 (pickS (pickS (pickS pickZ)))))) (want1 rfl (yD 235 hg88)) rfl (by kernel_rfl) (qg 16 (sxQ (v := (vi aO)) (pickA (S8 (S8 pickZ))) (want1 rfl (yD 235 hg88)) rfl (xl (Tryz.isAgg3 _) (hb.c 0 1 gZ)) (qg 17 (sxQ (v := (vi who1)) (pickA (S8 (S8 (pickS pickZ)))) (want1 rfl (yD 235 hg88)) rfl (by kernel_rfl) (qg 18 (sxQ (v := (vb (aO == who1))) (pickA (S8 (S8 (pickS (pickS pickZ))))) (want1 rfl (yD 235 hg88)) rfl (by kernel_rfl) (qr 19 (vb (aO == who1)) (pickA (S8 (S8 (pickS (pickS (pickS pickZ)))))) (xT hg88) (qq 20 (vb (aO == who1)) (pickA (S8 (S8 (S4 pickZ)))) (wn (th_n (wpE_ret ?_)))))))))))
               refine bl_r (th_r (rs1 Tryz.results94 (v := (vb (aO == who1))) ?_))
               exact ⟨(aO == who1), rfl, h⟩
              ·have h := h.2 hg88
               refine sx_not (pickA (S8 (S4 (pickS (pickS (pickS pickZ)))))) (unwant rfl (yD 235 hg88) rfl) (qn 16 (pickA (S8 (S8 pickZ))) (unwant rfl (yD 235 hg88) rfl) (qn 17 (pickA (S8 (S8 (pickS pickZ)))) (unwant rfl (yD 235 hg88) rfl) (qn 18 (pickA (S8 (S8 (pickS (pickS pickZ))))) (unwant rfl (yD 235 hg88) rfl) (qr 19 (vb false) (pickA (S8 (S8 (pickS (pickS (pickS pickZ)))))) (xF hg88) (qq 20 (vb false) (pickA (S8 (S8 (S4 pickZ)))) (wn (th_n (wpE_ret (bl_r (th_r (rs1 Tryz.results94 (v := (vb false)) ?_)))))))))))
               exact ⟨false, rfl, h⟩
             ·have h := h.2 hg87
              refine sx_not (pickA (S8 (pickS (pickS pickZ)))) (unwant rfl (yD 230 hg87) rfl) (qn 11 (pickA (S8 (pickS (pickS (pickS pickZ))))) (unwant rfl (yD 230 hg87) rfl) (qn 12 (pickA (S8 (S4 pickZ))) (unwant rfl (yD 230 hg87) rfl) (qr 13 (vb false) (pickA (S8 (S4 (pickS pickZ)))) (xF hg87) (qq 14 (vb false) (pickA (S8 (S4 (pickS (pickS pickZ))))) (qn 15 (pickA (S8 (S4 (pickS (pickS (pickS pickZ)))))) (unwant rfl (yD (c := false) 235 rfl) rfl) (qn 16 (pickA (S8 (S8 pickZ))) (unwant rfl (yD (c := false) 235 rfl) rfl) (qn 17 (pickA (S8 (S8 (pickS pickZ)))) (unwant rfl (yD (c := false) 235 rfl) rfl) (qn 18 (pickA (S8 (S8 (pickS (pickS pickZ))))) (unwant rfl (yD (c := false) 235 rfl) rfl) (qq 19 (vb false) (pickA (S8 (S8 (pickS (pickS (pickS pickZ)))))) (qq 20 (vb false) (pickA (S8 (S8 (S4 pickZ)))) (wn ?_)))))))))))
              refine th_n (wpE_ret (bl_r (th_r (rs1 Tryz.results94 (v := (vb false)) ?_))))
              exact ⟨false, rfl, h⟩
            ·refine wpE_block (wpE_seq (rg (q0 (vb (aA == 4)) (q0 (vb (aA == 4)) (wpL_nil (th_n ?_))))))
             refine wpE_cond (t := (aA == 4)) (by kernel_rfl) (fun hc9 => ?_) (fun hc9 => ?_)
             ·have h := h.1 hc9
              refine wpE_seq (wpE_drawnQ (by kernel_rfl) (by kernel_rfl) (by kernel_rfl) (by kernel_rfl) ?_)
              intro w58 hw58
              have hs : Hst w0 H w H w58 := by rw [hw58]; exact hs.drew
              have hb : HB H w58 [(p5, [(vi aP), (vi aO), (vi aU), (vu aV), (vs aW), (vi aX), (vi aY)], 86), (p4, [(vi aE), (vi aQ), (vi aR), (vu aS), (vs aT), (vi aM), (vi aN)], 86), (p3, [(vi aA), (vi aG), (vi aI), (vu aK), (vs aL), (vi aC), (vi aF)], 86), (p2, [(vi aB), (vi aD), (vi aH), (vi aJ)], 157)] := by rw [hw58]; exact hb.drew
              refine qq 0 l1.v Kp0 (qq 1 (vp (some (p2.add 1))) Kp1 (qr 2 (vi aD) Kp2 (xl (Tryz.isAgg3 _) (hb.c 3 1 (gS (gS (gS gZ))))) (qg 3 ?_)))
              obtain ⟨a3, hv6, h⟩ := h
              refine sxQ (v := (vp (some a3))) Kp3 (want0 rfl) rfl (xi (Tryz.runUnderlying101 _) (Tryz.sizeOf157 _) hv6) (qq 4 (vp (some (a3.add 3))) Kp4 (qg 5 ?_))
              have h := h w58 hs
              have hs := hs.here
              obtain ⟨v2, hv5, h⟩ := h
              refine sxQ (v := (vi v2)) Kp5 (want0 rfl) rfl (xl (Tryz.isAgg30 _) hv5) (qq 6 (vp (some (p3.add 5))) Kp6 (qr 7 (vi aC) Kp7 (xl (Tryz.isAgg30 _) (hb.c 2 5 (gS (gS gZ)))) (qq 8 (vb (v2 == aC)) Kp8 (qq 9 (vb (v2 == aC)) Kp9 (qg 10 ?_)))))
              rcases Bool.eq_false_or_eq_true (v2 == aC) with hg89 | hg89
              ·have h := h.1 hg89
               refine sxQ (v := l1.v) (pickA (S8 (pickS (pickS pickZ)))) (want1 rfl (yD 192 hg89)) rfl (by kernel_rfl) (qg 11 (sxQ (v := (vp (some (p2.add 2)))) (pickA (S8 (pickS (pickS (pickS pickZ))))) (want1 rfl (yD 192 hg89)) rfl (by kernel_rfl) (qg 12 (sxQ (v := (vi aH)) (pickA (S8 (S4 pickZ))) (want1 rfl (yD 192 hg89)) rfl (xl (Tryz.isAgg3 _) (hb.c 3 2 (gS (gS (gS gZ))))) (qg 13 ?_)))))
               obtain ⟨a4, hv4, h⟩ := h
               refine sxQ (v := (vp (some a4))) (pickA (S8 (S4 (pickS pickZ)))) (want1 rfl (yD 192 hg89)) rfl (xi (Tryz.runUnderlying101 _) (Tryz.sizeOf157 _) hv4) (qg 14 (sxQ (v := (vp (some (a4.add 3)))) (pickA (S8 (S4 (pickS (pickS pickZ))))) (want1 rfl (yD 192 hg89)) rfl (by kernel_rfl) (qg 15 ?_)))
               obtain ⟨v3, hv3, h⟩ := h
               refine sxQ (v := (vi v3)) (pickA (S8 (S4 (pickS (pickS (pickS pickZ)))))) (want1 rfl (yD 192 hg89)) rfl (xl (Tryz.isAgg30 _) hv3) (qg 16 (sxQ (v := (vp (some (p3.add 6)))) (pickA (S8 (S8 pickZ))) (want1 rfl (yD 192 hg89)) rfl (by kernel_rfl) (qg 17 (sxQ (v := (vi aF)) (pickA (S8 (S8 (pickS pickZ)))) (want1 rfl (yD 192 hg89)) rfl (xl (Tryz.isAgg30 _) (hb.c 2 6 (gS (gS gZ)))) (qg 18 (sxQ (v := (vb (v3 == aF))) (pickA (S8 (S8 (pickS (pickS pickZ))))) (want1 rfl (yD 192 hg89)) rfl (by kernel_rfl) (qr 19 (vb (v3 == aF)) (pickA (S8 (S8 (pickS (pickS (pickS pickZ)))))) (xT hg89) (qq 20 (vb (v3 == aF)) (pickA (S8 (S8 (S4 pickZ)))) (wn (th_n (wpE_ret ?_)))))))))))
               refine bl_r (th_r (bl_r (th_r (rs1 Tryz.results94 (v := (vb (v3 == aF))) ?_))))
               exact ⟨(v3 == aF), rfl, h⟩
              ·have h := h.2 hg89
               refine sx_not (pickA (S8 (pickS (pickS pickZ)))) (unwant rfl (yD 192 hg89) rfl) (qn 11 (pickA (S8 (pickS (pickS (pickS pickZ))))) (unwant rfl (yD 192 hg89) rfl) (qn 12 (pickA (S8 (S4 pickZ))) (unwant rfl (yD 192 hg89) rfl) (qn 13 (pickA (S8 (S4 (pickS pickZ)))) (unwant rfl (yD 192 hg89) rfl) (qn 14 (pickA (S8 (S4 (pickS (pickS pickZ))))) (unwant rfl (yD 192 hg89) rfl) (qn 15 (pickA (S8 (S4 (pickS (pickS (pickS pickZ)))))) (unwant rfl (yD 192 hg89) rfl) (qn 16 (pickA (S8 (S8 pickZ))) (unwant rfl (yD 192 hg89) rfl) (qn 17 (pickA (S8 (S8 (pickS pickZ)))) (unwant rfl (yD 192 hg89) rfl) (qn 18 (pickA (S8 (S8 (pickS (pickS pickZ))))) (unwant rfl (yD 192 hg89) rfl) (qr 19 (vb false) (pickA (S8 (S8 (pickS (pickS (pickS pickZ)))))) (xF hg89) (qq 20 (vb false) (pickA (S8 (S8 (S4 pickZ)))) (wn ?_)))))))))))
               refine th_n (wpE_ret (bl_r (th_r (bl_r (th_r (rs1 Tryz.results94 (v := (vb false)) ?_))))))
               exact ⟨false, rfl, h⟩
             ·have h := h.2 hc9
              refine wpE_seq (rg (q0 (vb (aA == 5)) (q0 (vb (aA == 5)) (wpL_nil (th_n ?_)))))
              refine wpE_cond (t := (aA == 5)) (by kernel_rfl) (fun hc10 => ?_) (fun hc10 => ?_)
              ·have h := h.1 hc10
               refine wpE_seq (wpE_drawnQ (by kernel_rfl) (by kernel_rfl) (by kernel_rfl) (by kernel_rfl) ?_)
               intro w59 hw59
               have hs : Hst w0 H w H w59 := by rw [hw59]; exact hs.drew
               have hb : HB H w59 [(p5, [(vi aP), (vi aO), (vi aU), (vu aV), (vs aW), (vi aX), (vi aY)], 86), (p4, [(vi aE), (vi aQ), (vi aR), (vu aS), (vs aT), (vi aM), (vi aN)], 86), (p3, [(vi aA), (vi aG), (vi aI), (vu aK), (vs aL), (vi aC), (vi aF)], 86), (p2, [(vi aB), (vi aD), (vi aH), (vi aJ)], 157)] := by rw [hw59]; exact hb.drew
               refine qq 0 l1.v Kp0 (qq 1 (vp (some (p2.add 1))) Kp1 (qr 2 (vi aD) Kp2 (xl (Tryz.isAgg3 _) (hb.c 3 1 (gS (gS (gS gZ))))) (qg 3 ?_)))
               obtain ⟨a5, hv8, h⟩ := h
               refine sxQ (v := (vp (some a5))) Kp3 (want0 rfl) rfl (xi (Tryz.runUnderlying101 _) (Tryz.sizeOf157 _) hv8) (qq 4 (vp (some (a5.add 3))) Kp4 (qg 5 ?_))
               have h := h w59 hs
               have hs := hs.here
               obtain ⟨v4, hv7, h⟩ := h
               refine sxQ (v := (vi v4)) Kp5 (want0 rfl) rfl (xl (Tryz.isAgg30 _) hv7) (qq 6 (vp (some (p3.add 5))) Kp6 (qr 7 (vi aC) Kp7 (xl (Tryz.isAgg30 _) (hb.c 2 5 (gS (gS gZ)))) (qq 8 (vb (v4 == aC)) Kp8 (qq 9 (vb (v4 == aC)) Kp9 (wn (th_n (wpE_ret (bl_r (th_r (bl_r (th_r ?_)))))))))))
               refine rs1 Tryz.results94 (v := (vb (v4 == aC))) ?_
               exact ⟨(v4 == aC), rfl, h⟩
              ·have h := h.2 hc10
               refine wpE_seq (rg (q0 (vb (aA == 9)) (q0 (vb (aA == 9)) (wpL_nil (th_n ?_)))))
               refine wpE_cond (t := (aA == 9)) (by kernel_rfl) (fun hc11 => ?_) (fun hc11 => ?_)
               ·have h := h.1 hc11
                refine rg (q0 (vp (some (p3.add 2))) (q2 (vi aI) (xl (Tryz.isAgg3 _) (hb.c 2 2 (gS (gS gZ)))) (q0 (vi aI) (wpL_nil (bl_n (th_n ?_))))))
                exact ⟨aI, H, hm, hs, hb, h⟩
               ·have h := h.2 hc11
                refine wpE_seq (wpE_seq (rg (q0 (vb (aA == 7)) (q0 (vb (aA == 7)) (wpL_nil (th_n ?_))))))
                refine wpE_via (fun ρ wJ => ∃ b48'0 : Bool, ∃ HJ : NP, ((aA == 7) = b48'0) ∧ Hst w0 H w HJ wJ ∧ HB HJ wJ [(p5, [(vi aP), (vi aO), (vi aU), (vu aV), (vs aW), (vi aX), (vi aY)], 86), (p4, [(vi aE), (vi aQ), (vi aR), (vu aS), (vs aT), (vi aM), (vi aN)], 86), (p3, [(vi aA), (vi aG), (vi aI), (vu aK), (vs aL), (vi aC), (vi aF)], 86), (p2, [(vi aB), (vi aD), (vi aH), (vi aJ)], 157)] ∧ Has ρ [(2, l1.v), (9, (vp (some p2))), (10, (vp (some p3))), (15, (vp (some p5))), (16, (vi aG)), (218, (vb (cond b48'0 (aA == 7) (aA == 8))))]) ?_ ?_
                ·refine wpE_cond (t := (aA == 7)) (by kernel_rfl) (fun hc13 => ?_) (fun hc13 => ?_)
                 ·refine wpE_skip (th_n ?_)
                  exact ⟨true, _, hc13, hs, hb, hm⟩
                 ·refine rg (q0 (vb (aA == 8)) (q0 (vb (aA == 8)) (wpL_nil (th_n ?_))))
                  exact ⟨false, _, hc13, hs, hb, hm⟩
                ·rintro ρ w60 ⟨b48'0, H52, he0, hs, hb, hH⟩
                 subst he0
                 refine norm_has hH ?_
                 refine th_n ?_
                 refine wpE_cond (t := (cond (aA == 7) (aA == 7) (aA == 8))) (by kernel_rfl) (fun hc14 => ?_) (fun hc14 => ?_)
                 ·have h := h.1 hc14
                  refine wpE_skip (bl_n ?_)
                  have h := h H52 w60 hs
                  have hs := hs.here
                  refine th_n ?_
                  exact ⟨aG, H52, hm, hs, hb, h⟩
                 ·have h := h.2 hc14
                  refine wpE_seq (rg (q0 (vb false) (wpL_nil (th_n (wpE_ret (bl_r (th_r (bl_r (th_r ?_)))))))))
                  have h := h H52 w60 hs
                  have hs := hs.here
                  refine rs1 Tryz.results94 (v := (vb false)) ?_
                  exact ⟨false, rfl, h⟩
           ·have h := h.2 hc8
            refine wpE_skip (bl_n (th_n (wpE_seq (rg (q0 (vb false) (wpL_nil (th_n (wpE_ret (rs1 Tryz.results94 (v := (vb false)) ?_)))))))))
            exact ⟨false, rfl, h⟩
     ·refine wpE_cond (t := (s_B aA aB).2) (by kernel_rfl) (fun hc15 => ?_) (fun hc15 => ?_)
      ·have h := h.1 hc15
       refine rg (q0 (vp p1) (q0 l1.v (q0 (vp (some (p2.add 2))) (q2 (vi aH) (xl (Tryz.isAgg3 _) (hb.c 3 2 (gS (gS (gS gZ))))) ?_))))
       obtain ⟨a6, hv10, h⟩ := h
       refine q2 (vp (some a6)) (xi (Tryz.runUnderlying101 _) (Tryz.sizeOf157 _) hv10) (q0 (vp (some (a6.add 3))) ?_)
       obtain ⟨v5, hv9, h⟩ := h
       refine q2 (vi v5) (xl (Tryz.isAgg30 _) hv9) ?_
       refine sc Tryz.call43 (h.mono ?_)
       rintro e w61 ⟨aZ, bA, bB, bC, bD, bE, bF, r3, rfl, hk, h⟩
       refine ⟨_, rfl, ?_⟩
       obtain ⟨hs, hb⟩ := hk.hh hs hb
       refine q0 (.tuple #[(.agg #[(vi aZ), (vi bA), (vi bB), (vu bC), (vs bD), (vi bE), (vi bF)]), (vb r3)]) (q0 (.agg #[(vi aZ), (vi bA), (vi bB), (vu bC), (vs bD), (vi bE), (vi bF)]) (q0 (vb r3) (st_set (want0 rfl) (x_storeA (a := p5) (vs := [(vi aZ), (vi bA), (vi bB), (vu bC), (vs bD), (vi bE), (vi bF)]) (by kernel_rfl) (by kernel_rfl) rfl (Tryz.sizeOf86 _) rfl (hb.canWs0 0 7 gZ (by kernel_rfl))) ?_)))
       intro w62 hn7
       have hsb : Hst w0 H w61 H w62 ∧ HB H w62 [(p5, [(vi aZ), (vi bA), (vi bB), (vu bC), (vs bD), (vi bE), (vi bF)], 86), (p4, [(vi aE), (vi aQ), (vi aR), (vu aS), (vs aT), (vi aM), (vi aN)], 86), (p3, [(vi aA), (vi aG), (vi aI), (vu aK), (vs aL), (vi aC), (vi aF)], 86), (p2, [(vi aB), (vi aD), (vi aH), (vi aJ)], 157)] := by
        rw [hn7]
        exact hb.store0 (i := 0) (vs := [(vi aZ), (vi bA), (vi bB), (vu bC), (vs bD), (vi bE), (vi bF)]) hs gZ (by kernel_rfl) (by kernel_rfl)
       obtain ⟨hs, hb⟩ := hsb
       refine wpL_nil ?_
       have h := h w62 hs
       have hs := hs.here
       refine th_n ?_
       exact ⟨aZ, bA, bB, bC, bD, bE, bF, H, hm, hs, hb, h⟩
      ·have h := h.2 hc15
       refine wpE_skip (th_n ?_)
       exact ⟨0, 0, 0, 0, ⟨#[]⟩, 0, 0, H, hm, hs, hb, h⟩
    ·refine wpE_cond (t := (s_B aA aB).1) (by kernel_rfl) (fun hc16 => ?_) (fun hc16 => ?_)
     ·have h := h.1 hc16
      refine rg (q0 (vp p1) (q0 l1.v (q0 (vp (some (p2.add 1))) (q2 (vi aD) (xl (Tryz.isAgg3 _) (hb.c 3 1 (gS (gS (gS gZ))))) ?_))))
      obtain ⟨a7, hv12, h⟩ := h
      refine q2 (vp (some a7)) (xi (Tryz.runUnderlying101 _) (Tryz.sizeOf157 _) hv12) (q0 (vp (some (a7.add 3))) ?_)
      have h := h H33 w37 hs
      have hs := hs.here
      obtain ⟨v6, hv11, h⟩ := h
      refine q2 (vi v6) (xl (Tryz.isAgg30 _) hv11) ?_
      refine sc Tryz.call43 (h.mono ?_)
      rintro e w63 ⟨bJ, bK, bL, bM, bN, bO, bP, r4, rfl, hk, h⟩
      refine ⟨_, rfl, ?_⟩
      obtain ⟨hs, hb⟩ := hk.hh hs hb
      refine q0 (.tuple #[(.agg #[(vi bJ), (vi bK), (vi bL), (vu bM), (vs bN), (vi bO), (vi bP)]), (vb r4)]) (q0 (.agg #[(vi bJ), (vi bK), (vi bL), (vu bM), (vs bN), (vi bO), (vi bP)]) (q0 (vb r4) (st_set (want0 rfl) (x_storeA (a := p4) (vs := [(vi bJ), (vi bK), (vi bL), (vu bM), (vs bN), (vi bO), (vi bP)]) (by kernel_rfl) (by kernel_rfl) rfl (Tryz.sizeOf86 _) rfl (hb.canWs0 1 7 (gS gZ) (by kernel_rfl))) ?_)))
      intro w64 hn8
      have hsb : Hst w0 H33 w63 H33 w64 ∧ HB H33 w64 [(p5, [(vi 0), (vi 0), (vi 0), (vu 0), (vs ⟨#[]⟩), (vi 0), (vi 0)], 86), (p4, [(vi bJ), (vi bK), (vi bL), (vu bM), (vs bN), (vi bO), (vi bP)], 86), (p3, [(vi aA), (vi aG), (vi aI), (vu aK), (vs aL), (vi aC), (vi aF)], 86), (p2, [(vi aB), (vi aD), (vi aH), (vi aJ)], 157)] := by
       rw [hn8]
       exact hb.store0 (i := 1) (vs := [(vi bJ), (vi bK), (vi bL), (vu bM), (vs bN), (vi bO), (vi bP)]) hs (gS gZ) (by kernel_rfl) (by kernel_rfl)
      obtain ⟨hs, hb⟩ := hsb
      refine wpL_nil ?_
      have h := h w64 hs
      have hs := hs.here
      refine th_n ?_
      exact ⟨bJ, bK, bL, bM, bN, bO, bP, H33, hm, hs, hb, h⟩
     ·have h := h.2 hc16
      refine wpE_skip ?_
      have h := h H33 w37 hs
      have hs := hs.here
      refine th_n ?_
      exact ⟨0, 0, 0, 0, ⟨#[]⟩, 0, 0, H33, hm, hs, hb, h⟩
def m_B1_l1 (p1 : Option Addr) (given1 l1 : Sl) (goal1 x1 : Int) (wl1 : World) (Kc1 : Int → WP) (K : Int → Int → WP) : Prop :=
 Br (decide (x1 < (l1.len : Int)))
  (Calls Tryz.prog 94 #[(vp p1), given1.v, l1.v, (vi x1)] wl1 (fun e w1 => ∃ r1 : Bool, e = .returned (vb r1) ∧ 
   Br (!r1)
    (K 80 x1 w1)
    (Kc1 (q6.wrap (x1 + 1)) w1)))
  (Br (((l1.len : Int) : Int) == 0)
   (K 81 (l1.len : Int) wl1)
   (∃ a1 : Addr, At l1 (q6.wrap ((l1.len : Int) - 1)) 4 a1 ∧
   ∃ v1 : Int, wl1.cell? (a1.add 3) = some (vi v1) ∧
   Br (v1 != goal1)
    (K 81 (l1.len : Int) wl1)
    (K 0 0 wl1)))
def m_B1 (p1 : Option Addr) (given1 l1 : Sl) (goal1 : Int) (w0 : World) (K : Int → Int → WP) : Prop :=
 Br (Option.isNone p1)
  (K 7 0 w0)
  (∃ (I1 : Int → WP) (mu1 : Int → World → Nat), I1 0 w0 ∧
   ∀ (x1 : Int) (wl1 : World), I1 x1 wl1 → m_B1_l1 p1 given1 l1 goal1 x1 wl1 (fun y'0 w' => I1 y'0 w' ∧ mu1 y'0 w' < mu1 x1 wl1) K)
theorem w_B1 (p1 : Option Addr) (given1 l1 : Sl) (goal1 : Int) (w0 : World) (K : Int → Int → WP) (h : m_B1 p1 given1 l1 goal1 w0 K) :
  Calls Tryz.prog 52 #[(vp p1), given1.v, l1.v, (vi goal1)] w0 (fun e w' => ∃ r2 r3 : Int, e = .returned (.tuple #[(vi r2), (vi r3)]) ∧ K r2 r3 w') := by
 unfold m_B1 at h
 refine cw (args := [(vp p1), given1.v, l1.v, (vi goal1)]) Tryz.func52 Tryz.ntmps52 (wpE_seq (rg (q0 (vi 0) (q0 (vi 0) (wpL_nil (th_n (wpE_seq (wpE_seq (rg (q0 (vp p1) (q2 (vb (Option.isNone p1)) (x_ptreq (by kernel_rfl) rfl Tryz.underlying26) ?_)))))))))))
 refine wpL_nil (th_n ?_)
 refine wpE_cond (t := (Option.isNone p1)) (by kernel_rfl) (fun hc1 => ?_) (fun hc1 => ?_)
 ·have h := h.1 hc1
  refine wpE_seq (rg (q0 (vi 7) (q0 (vi 0) (wpL_nil (th_n (wpE_ret (th_r (res2 (.inl rfl) Tryz.results52 (v := (vi 7)) (by kernel_rfl) (v' := (vi 0)) (by kernel_rfl) ?_))))))))
  exact ⟨7, 0, rfl, h⟩
 ·have h := h.2 hc1
  refine wpE_skip (th_n (wpE_seq (wpE_seq (rg (q0 l1.v (q0 (vi (l1.len : Int)) (q0 (vi 0) (wpL_nil (th_n (wpE_block ?_))))))))))
  obtain ⟨I1, mu1, h0, hr⟩ := h
  refine wpE_loop (σ := Int × World) (fun s ρ w => w = s.2 ∧ Has ρ [(0, (vp p1)), (1, given1.v), (2, l1.v), (3, (vi goal1)), (14, (vi (l1.len : Int))), (15, (vi s.1))] ∧ I1 s.1 s.2) (fun s => mu1 s.1 s.2) (0, w0) ⟨rfl, hm, h0⟩ ?_
  rintro ⟨x1, wl1⟩ ρ w ⟨hw, hH, hI⟩
  obtain rfl : wl1 = w := (show w = wl1 from hw).symm
  have hH : Has ρ [(0, (vp p1)), (1, given1.v), (2, l1.v), (3, (vi goal1)), (14, (vi (l1.len : Int))), (15, (vi x1))] := hH
  have h := hr x1 wl1 hI
  unfold m_B1_l1 at h
  refine wpE_has hH ?_
  refine wpE_seq (rg (q0 (vb (decide (x1 < (l1.len : Int)))) (wpL_nil (th_n (wpE_seq ?_)))))
  refine wpE_cond (t := (decide (x1 < (l1.len : Int)))) (by kernel_rfl) (fun hc2 => ?_) (fun hc2 => ?_)
  ·have h := h.1 hc2
   refine wpE_skip (th_n (wpE_seq (wpE_block (wpE_seq (rg (q0 (vi x1) (q0 (vi x1) (wpL_nil (th_n (wpE_seq (rg ?_)))))))))))
   refine q0 (vp p1) (q0 given1.v (q0 l1.v (q0 (vi x1) ?_)))
   refine sc Tryz.call94 (h.mono ?_)
   rintro e w1 ⟨r1, rfl, h⟩
   refine ⟨_, rfl, ?_⟩
   refine q0 (vb (!r1)) (wpL_nil (th_n ?_))
   refine wpE_cond (t := (!r1)) (by kernel_rfl) (fun hc3 => ?_) (fun hc3 => ?_)
   ·have h := h.1 hc3
    refine wpE_seq (rg (q0 (vi x1) (q0 (vi 80) (q0 (vi x1) (wpL_nil (th_n (wpE_ret (bl_r (th_r (th_r (bl_r ?_)))))))))))
    refine th_r (res2 (.inl rfl) Tryz.results52 (v := (vi 80)) (by kernel_rfl) (v' := (vi x1)) (by kernel_rfl) ?_)
    exact ⟨80, x1, rfl, h⟩
   ·have h := h.2 hc3
    refine wpE_skip (bl_n (th_n (rg (q0 (vi (q6.wrap (x1 + 1))) (q0 (vi (q6.wrap (x1 + 1))) (wpL_nil (th_n ?_)))))))
    exact ⟨((q6.wrap (x1 + 1)), w1), ⟨rfl, hm, h.1⟩, h.2⟩
  ·have h := h.2 hc2
   refine wpE_exit (th_x (th_x (bl_eq (th_n (wpE_seq (wpE_seq (rg (q0 l1.v (q0 (vi (l1.len : Int)) (q0 (vb (((l1.len : Int) : Int) == 0)) (q0 (vb (((l1.len : Int) : Int) == 0)) ?_)))))))))))
   rcases Bool.eq_false_or_eq_true (((l1.len : Int) : Int) == 0) with hg1 | hg1
   ·have h := h.1 hg1
    refine sk (yD 29 hg1) (sk (yD 29 hg1) (sk (yD 29 hg1) (sk (yD 29 hg1) (sk (yD 29 hg1) (sk (yD 29 hg1) (sk (yD 29 hg1) (sk (yD 29 hg1) (sk (yD 29 hg1) (q2 (vb true) (xT hg1) (wpL_nil (th_n ?_)))))))))))
    refine wpE_condT (by kernel_rfl) (wpE_seq (rg (q0 l1.v (q0 (vi (l1.len : Int)) (q0 (vi 81) (q0 (vi (l1.len : Int)) (wpL_nil (th_n (wpE_ret (th_r (res2 (.inl rfl) Tryz.results52 (v := (vi 81)) (by kernel_rfl) (v' := (vi (l1.len : Int))) (by kernel_rfl) ?_)))))))))))
    exact ⟨81, (l1.len : Int), rfl, h⟩
   ·have h := h.2 hg1
    refine q1 l1.v (want1 rfl (yD 29 hg1)) (q1 l1.v (want1 rfl (yD 29 hg1)) (q1 (vi (l1.len : Int)) (want1 rfl (yD 29 hg1)) (q1 (vi (q6.wrap ((l1.len : Int) - 1))) (want1 rfl (yD 29 hg1)) ?_)))
    obtain ⟨a1, hv2, h⟩ := h
    refine stp (v := (vp (some a1))) (want1 rfl (yD 29 hg1)) (xi (Tryz.runUnderlying101 _) (Tryz.sizeOf157 _) hv2) (q1 (vp (some (a1.add 3))) (want1 rfl (yD 29 hg1)) ?_)
    obtain ⟨v1, hv1, h⟩ := h
    refine stp (v := (vi v1)) (want1 rfl (yD 29 hg1)) (xl (Tryz.isAgg30 _) hv1) (q1 (vi goal1) (want1 rfl (yD 29 hg1)) (q1 (vb (v1 != goal1)) (want1 rfl (yD 29 hg1)) (q2 (vb (v1 != goal1)) (xF hg1) (wpL_nil (th_n ?_)))))
    refine wpE_cond (t := (v1 != goal1)) (by kernel_rfl) (fun hc4 => ?_) (fun hc4 => ?_)
    ·have h := h.1 hc4
     refine wpE_seq (rg (q0 l1.v (q0 (vi (l1.len : Int)) (q0 (vi 81) (q0 (vi (l1.len : Int)) (wpL_nil (th_n (wpE_ret (th_r (res2 (.inl rfl) Tryz.results52 (v := (vi 81)) (by kernel_rfl) (v' := (vi (l1.len : Int))) (by kernel_rfl) ?_))))))))))
     exact ⟨81, (l1.len : Int), rfl, h⟩
    ·have h := h.2 hc4
     refine wpE_skip (th_n (wpE_seq (rg (q0 (vi 0) (q0 (vi 0) (wpL_nil (th_n (wpE_ret (res2 (.inl rfl) Tryz.results52 (v := (vi 0)) (by kernel_rfl) (v' := (vi 0)) (by kernel_rfl) ?_)))))))))
     exact ⟨0, 0, rfl, h⟩
def m_I2 (k1 : Option Addr) (t1 : Int) (w0 : World) (K : Bool → WP) : Prop :=
 Calls Tryz.prog 51 #[(vp k1), (vi t1)] w0 (fun e w1 => ∃ r1 : Sl, ∃ r2 : Bool, e = .returned (.tuple #[r1.v, (vb r2)]) ∧ 
  K r2 w1)
theorem w_I2 (k1 : Option Addr) (t1 : Int) (w0 : World) (K : Bool → WP) (h : m_I2 k1 t1 w0 K) :
  Calls Tryz.prog 53 #[(vp k1), (vi t1)] w0 (fun e w' => ∃ r3 : Bool, e = .returned (vb r3) ∧ K r3 w') := by
 unfold m_I2 at h
 refine cw (args := [(vp k1), (vi t1)]) Tryz.func53 Tryz.ntmps53 (wpE_seq (rg (q0 (vb false) (wpL_nil (th_n (wpE_seq (rg (q0 (vp k1) (q0 (vi t1) ?_)))))))))
 refine sc Tryz.call51 (h.mono ?_)
 rintro e w1 ⟨r1, r2, rfl, h⟩
 refine ⟨_, rfl, ?_⟩
 refine q0 (.tuple #[r1.v, (vb r2)]) (q0 r1.v (q0 (vb r2) (q0 r1.v (q0 (vb r2) (wpL_nil (th_n (wpE_seq (rg (q0 (vb r2) (q0 (vb r2) (wpL_nil ?_)))))))))))
 refine th_n (wpE_ret (rs1 Tryz.results53 (v := (vb r2)) ?_))
 exact ⟨r2, rfl, h⟩
def m_J2 (k1 : Option Addr) (t1 : Int) (w0 : World) (K : Bool → WP) : Prop :=
 Br (Option.isNone k1)
  (K false w0)
  (∃ a1 : Addr, k1 = some a1 ∧
  ∃ v1 : Option Nat, w0.cell? (a1.add 2) = some (.map v1) ∧
  ∃ vrule1 vfrom1 : Int, ∃ ok1 : Bool, (Instr.lookup 107 (.map v1) (vi t1) true).run Tryz.prog w0 = .ok (.tuple #[(.agg #[(vi vrule1), (vi vfrom1)]), (vb ok1)]) w0 ∧
  ∀ (H1 : NP) (w2 : World), Hst w0 None w0 H1 w2 →
  K ok1 w2)
theorem w_J2 (k1 : Option Addr) (t1 : Int) (w0 : World) (K : Bool → WP) (h : m_J2 k1 t1 w0 K) :
  Calls Tryz.prog 54 #[(vp k1), (vi t1)] w0 (fun e w' => ∃ r1 : Bool, e = .returned (vb r1) ∧ K r1 w') := by
 unfold m_J2 at h
 refine cw (args := [(vp k1), (vi t1)]) Tryz.func54 Tryz.ntmps54 ?_
 have hs := Hst.start w0
 have hb := HB.nil None w0
 refine wpE_seq (rg (q0 (vb false) (wpL_nil (th_n (wpE_seq (wpE_seq (rg (q0 (vp k1) (q2 (vb (Option.isNone k1)) (x_ptreq (by kernel_rfl) rfl Tryz.underlying55) (wpL_nil (th_n ?_)))))))))))
 refine wpE_cond (t := (Option.isNone k1)) (by kernel_rfl) (fun hc1 => ?_) (fun hc1 => ?_)
 ·have h := h.1 hc1
  refine wpE_seq (rg (q0 (vb false) (wpL_nil (th_n (wpE_ret (th_r (rs1 Tryz.results54 (v := (vb false)) ?_)))))))
  exact ⟨false, rfl, h⟩
 ·have h := h.2 hc1
  refine wpE_skip (th_n (wpE_seq (rg (q0 (vp k1) ?_))))
  obtain ⟨a1, hp1, h⟩ := h
  refine q2 (vp (some a1)) (x_nilCheck (p := k1) (by kernel_rfl) hp1) (q0 (vp (some (a1.add 2))) ?_)
  obtain ⟨v1, hv2, h⟩ := h
  refine q2 (.map v1) (xl (Tryz.isAgg107 _) hv2) (q0 (vi t1) ?_)
  obtain ⟨vrule1, vfrom1, ok1, hv1, h⟩ := h
  refine q2 (.tuple #[(.agg #[(vi vrule1), (vi vfrom1)]), (vb ok1)]) (x_lookup (by kernel_rfl) (by kernel_rfl) hv1) (q0 (.tuple #[(.agg #[(vi vrule1), (vi vfrom1)]), (vb ok1)]) (q0 (.agg #[(vi vrule1), (vi vfrom1)]) (q0 (vb ok1) (sn (O := (.cells #[(vi 0), (vi 0)] 113)) (x_alloc (Tryz.zeroValue113 _) rfl) ?_))))
  intro p1 w1 hn1
  obtain ⟨H1, hs, hb⟩ := hs.alloc hb hn1
  refine st_set (want0 rfl) (x_storeA (a := p1) (vs := [(vi vrule1), (vi vfrom1)]) (by kernel_rfl) (by kernel_rfl) rfl (Tryz.sizeOf113 _) rfl (hb.canWs0 0 2 gZ (by kernel_rfl))) ?_
  intro w2 hn2
  have hsb : Hst w0 None w0 H1 w2 ∧ HB H1 w2 [(p1, [(vi vrule1), (vi vfrom1)], 113)] := by
   rw [hn2]
   exact hb.store0 (i := 0) (vs := [(vi vrule1), (vi vfrom1)]) hs gZ (by kernel_rfl) (by kernel_rfl)
  obtain ⟨hs, hb⟩ := hsb
  refine q0 (vb ok1) (wpL_nil (th_n (wpE_seq (rg (q0 (vb ok1) (q0 (vb ok1) (wpL_nil (th_n (wpE_ret ?_)))))))))
  have h := h H1 w2 hs
  have hs := hs.here
  refine rs1 Tryz.results54 (v := (vb ok1)) ?_
  exact ⟨ok1, rfl, h⟩
def m_K2 (k1 : Option Addr) (w0 : World) (K : Sl → WP) : Prop :=
 Br (Option.isNone k1)
  (K Sl.nil w0)
  (∃ a1 : Addr, k1 = some a1 ∧
  ∃ v1 : Sl, w0.cell? (a1.add 1) = some v1.v ∧
  Calls Tryz.prog 56 #[v1.v] w0 (fun e w1 => ∃ r1 : Sl, e = .returned r1.v ∧ 
   K r1 w1))
theorem w_K2 (k1 : Option Addr) (w0 : World) (K : Sl → WP) (h : m_K2 k1 w0 K) :
  Calls Tryz.prog 55 #[(vp k1)] w0 (fun e w' => ∃ r2 : Sl, e = .returned r2.v ∧ K r2 w') := by
 unfold m_K2 at h
 refine cw (args := [(vp k1)]) Tryz.func55 Tryz.ntmps55 (wpE_seq (rg (q0 Sl.nil.v (wpL_nil (th_n (wpE_seq (wpE_seq (rg (q0 (vp k1) (q2 (vb (Option.isNone k1)) (x_ptreq (by kernel_rfl) rfl Tryz.underlying55) (wpL_nil ?_)))))))))))
 refine th_n ?_
 refine wpE_cond (t := (Option.isNone k1)) (by kernel_rfl) (fun hc1 => ?_) (fun hc1 => ?_)
 ·have h := h.1 hc1
  refine wpE_seq (rg (q0 Sl.nil.v (wpL_nil (th_n (wpE_ret (th_r (rs1 Tryz.results55 (v := Sl.nil.v) ?_)))))))
  exact ⟨Sl.nil, rfl, h⟩
 ·have h := h.2 hc1
  refine wpE_skip (th_n (wpE_seq (rg (q0 (vp k1) ?_))))
  obtain ⟨a1, hp1, h⟩ := h
  refine q2 (vp (some a1)) (x_nilCheck (p := k1) (by kernel_rfl) hp1) (q0 (vp (some (a1.add 1))) ?_)
  obtain ⟨v1, hv1, h⟩ := h
  refine q2 v1.v (xl (Tryz.isAgg52 _) hv1) ?_
  refine sc Tryz.call56 (h.mono ?_)
  rintro e w1 ⟨r1, rfl, h⟩
  refine ⟨_, rfl, ?_⟩
  refine q0 r1.v (wpL_nil (th_n (wpE_ret (rs1 Tryz.results55 (v := r1.v) ?_))))
  exact ⟨r1, rfl, h⟩
def m_L2 (k1 : Option Addr) (w0 : World) (K : Sl → WP) : Prop :=
 Br (Option.isNone k1)
  (K Sl.nil w0)
  (∃ a1 : Addr, k1 = some a1 ∧
  ∃ v1 : Sl, w0.cell? (a1.add 3) = some v1.v ∧
  Calls Tryz.prog 99 #[v1.v] w0 (fun e w1 => ∃ r1 : Value, e = .returned r1 ∧ 
   Calls Tryz.prog 98 #[r1] w1 (fun e w2 => ∃ r2 : Sl, e = .returned r2.v ∧ 
    K r2 w2)))
theorem w_L2 (k1 : Option Addr) (w0 : World) (K : Sl → WP) (h : m_L2 k1 w0 K) :
  Calls Tryz.prog 62 #[(vp k1)] w0 (fun e w' => ∃ r3 : Sl, e = .returned r3.v ∧ K r3 w') := by
 unfold m_L2 at h
 refine cw (args := [(vp k1)]) Tryz.func62 Tryz.ntmps62 (wpE_seq (rg (q0 Sl.nil.v (wpL_nil (th_n (wpE_seq (wpE_seq (rg (q0 (vp k1) (q2 (vb (Option.isNone k1)) (x_ptreq (by kernel_rfl) rfl Tryz.underlying55) (wpL_nil ?_)))))))))))
 refine th_n ?_
 refine wpE_cond (t := (Option.isNone k1)) (by kernel_rfl) (fun hc1 => ?_) (fun hc1 => ?_)
 ·have h := h.1 hc1
  refine wpE_seq (rg (q0 Sl.nil.v (wpL_nil (th_n (wpE_ret (th_r (rs1 Tryz.results62 (v := Sl.nil.v) ?_)))))))
  exact ⟨Sl.nil, rfl, h⟩
 ·have h := h.2 hc1
  refine wpE_skip (th_n (wpE_seq (rg (q0 (vp k1) ?_))))
  obtain ⟨a1, hp1, h⟩ := h
  refine q2 (vp (some a1)) (x_nilCheck (p := k1) (by kernel_rfl) hp1) (q0 (vp (some (a1.add 3))) ?_)
  obtain ⟨v1, hv1, h⟩ := h
  refine q2 v1.v (xl (Tryz.isAgg52 _) hv1) ?_
  refine sc Tryz.call99 (h.mono ?_)
  rintro e w1 ⟨r1, rfl, h⟩
  refine ⟨_, rfl, ?_⟩
  refine sc Tryz.call98 (h.mono ?_)
  rintro e w2 ⟨r2, rfl, h⟩
  refine ⟨_, rfl, ?_⟩
  refine q0 r2.v (wpL_nil (th_n (wpE_ret (rs1 Tryz.results62 (v := r2.v) ?_))))
  exact ⟨r2, rfl, h⟩
def m_C1_j1 (k1 : Option Addr) (aC who1 : Int) (H : NP) (w : World) (K : Int → Int → Bool → Bool → WP) : Prop :=
 ∃ a2 : Addr, k1 = some a2 ∧
 ∃ v2 : Option Addr, w.cell? a2 = some (vp v2) ∧
 Calls Tryz.prog 129 #[(vp v2), (.agg #[(vi 6), (vi who1), (vi 0), (vu 0), (vs ⟨#[]⟩), (vi 0), (vi 0)])] w (fun e w4 => ∃ r2 : Int, ∃ r3 : Bool, e = .returned (.tuple #[(vi r2), (vb r3)]) ∧ 
  Kept H w w4 ∧
  ∃ C1 : WP, C1 w4.drew ∧ ∀ w5, w5 = w4.drew →
  Br r3
   (Calls Tryz.prog 54 #[(vp k1), (vi r2)] w5 (fun e w6 => ∃ r4 : Bool, e = .returned (vb r4) ∧ C1 w6 ∧ 
    Kept H w5 w6 ∧
    K aC r2 false r4 w6))
   (K aC r2 false false w5))
def m_C1 (k1 : Option Addr) (t1 : Int) (w0 : World) (K : Int → Int → Bool → Bool → WP) : Prop :=
 ∃ a1 : Addr, k1 = some a1 ∧
 ∃ v1 : Option Addr, w0.cell? a1 = some (vp v1) ∧
 Calls Tryz.prog 43 #[(vp v1), (vi t1)] w0 (fun e w1 => ∃ aA aG : Int, ∃ aI aK : Int, ∃ aL : ByteArray, ∃ aC aF : Int, ∃ r1 : Bool, e = .returned (.tuple #[(.agg #[(vi aA), (vi aG), (vi aI), (vu aK), (vs aL), (vi aC), (vi aF)]), (vb r1)]) ∧ 
  Kept None w0 w1 ∧
  Br (!r1)
   (∀ (H1 : NP) (w3 : World), Hst w0 None w1 H1 w3 →
   K 0 0 false false w3)
   (∀ y1 : Bool, y1 = (cond (aA == 1) (aA == 1) (cond (aA == 2) (aA == 2) (aA == 3))) →
   Br y1
    (∀ (H2 : NP) (w7 : World), Hst w0 None w1 H2 w7 →
    K 0 0 true true w7)
    (Br (aA == 4)
     (∀ (H2 : NP) (w8 : World), Hst w0 None w1 H2 w8 →
     K aC aF false true w8)
     (Br (aA == 5)
      (∀ (H2 : NP) (w7 : World), Hst w0 None w1 H2 w7 →
      K aC 0 false true w7)
      (Br (aA == 6)
       (∀ (H2 : NP) (w7 : World), Hst w0 None w1 H2 w7 →
       K 0 0 false false w7)
       (∀ (H3 : NP) (w9 : World), Hst w0 None w1 H3 w9 →
       m_C1_j1 k1 aC (cond (aA == 9) aI aG) H3 w9 K))))))
theorem w_C1 (k1 : Option Addr) (t1 : Int) (w0 : World) (K : Int → Int → Bool → Bool → WP) (h : m_C1 k1 t1 w0 K) :
  Calls Tryz.prog 93 #[(vp k1), (vi t1)] w0 (fun e w' => ∃ r5 r6 : Int, ∃ r7 r8 : Bool, e = .returned (.tuple #[(vi r5), (vi r6), (vb r7), (vb r8)]) ∧ K r5 r6 r7 r8 w') := by
 unfold m_C1 at h
 refine cw (args := [(vp k1), (vi t1)]) Tryz.func93 Tryz.ntmps93 ?_
 have hs := Hst.start w0
 have hb := HB.nil None w0
 refine wpE_seq (rg (q0 (vi 0) (q0 (vi 0) (q0 (vb false) (q0 (vb false) (wpL_nil (th_n (wpE_seq (rg (q0 (vp k1) ?_))))))))))
 obtain ⟨a1, hp1, h⟩ := h
 refine q2 (vp (some a1)) (x_nilCheck (p := k1) (by kernel_rfl) hp1) (q0 (vp (some a1)) ?_)
 obtain ⟨v1, hv2, h⟩ := h
 refine q2 (vp v1) (xl (Tryz.isAgg26 _) hv2) (q0 (vi t1) ?_)
 refine sc Tryz.call43 (h.mono ?_)
 rintro e w1 ⟨aA, aG, aI, aK, aL, aC, aF, r1, rfl, hk, h⟩
 refine ⟨_, rfl, ?_⟩
 obtain ⟨hs, hb⟩ := hk.hh hs hb
 refine q0 (.tuple #[(.agg #[(vi aA), (vi aG), (vi aI), (vu aK), (vs aL), (vi aC), (vi aF)]), (vb r1)]) (q0 (.agg #[(vi aA), (vi aG), (vi aI), (vu aK), (vs aL), (vi aC), (vi aF)]) (q0 (vb r1) (sn (O := (.cells #[(vi 0), (vi 0), (vi 0), (vu 0), (vs ⟨#[]⟩), (vi 0), (vi 0)] 86)) (x_alloc (Tryz.zeroValue86 _) rfl) ?_)))
 intro p1 w2 hn1
 obtain ⟨H1, hs, hb⟩ := hs.alloc hb hn1
 refine st_set (want0 rfl) (x_storeA (a := p1) (vs := [(vi aA), (vi aG), (vi aI), (vu aK), (vs aL), (vi aC), (vi aF)]) (by kernel_rfl) (by kernel_rfl) rfl (Tryz.sizeOf86 _) rfl (hb.canWs0 0 7 gZ (by kernel_rfl))) ?_
 intro w3 hn2
 have hsb : Hst w0 None w1 H1 w3 ∧ HB H1 w3 [(p1, [(vi aA), (vi aG), (vi aI), (vu aK), (vs aL), (vi aC), (vi aF)], 86)] := by
  rw [hn2]
  exact hb.store0 (i := 0) (vs := [(vi aA), (vi aG), (vi aI), (vu aK), (vs aL), (vi aC), (vi aF)]) hs gZ (by kernel_rfl) (by kernel_rfl)
 obtain ⟨hs, hb⟩ := hsb
 refine q0 (vb r1) (wpL_nil (th_n (wpE_seq (wpE_seq (rg (q0 (vb r1) (q0 (vb (!r1)) (wpL_nil (th_n ?_)))))))))
 refine wpE_cond (t := (!r1)) (by kernel_rfl) (fun hc1 => ?_) (fun hc1 => ?_)
 ·have h := h.1 hc1
  refine wpE_seq (rg (q0 (vi 0) (q0 (vi 0) (q0 (vb false) (q0 (vb false) (wpL_nil (th_n (wpE_ret (th_r ?_)))))))))
  have h := h H1 w3 hs
  have hs := hs.here
  refine res4 (.inl rfl) Tryz.results93 (v := (vi 0)) (by kernel_rfl) (v' := (vi 0)) (by kernel_rfl) (v'' := (vb false)) (by kernel_rfl) (v3 := (vb false)) (by kernel_rfl) ?_
  exact ⟨0, 0, false, false, rfl, h⟩
 ·have h := h.2 hc1
  refine wpE_skip (th_n (wpE_seq (rg (q0 (vp (some (p1.add 1))) (q2 (vi aG) (xl (Tryz.isAgg3 _) (hb.c 0 1 gZ)) (q0 (vi aG) (wpL_nil (th_n (wpE_seq (wpE_seq (rg ?_)))))))))))
  refine q0 (vp (some p1)) (q2 (vi aA) (xl (Tryz.isAgg3 _) (hb.c0 0 gZ)) (wpL_nil (th_n ?_)))
  refine wpE_joinT (fun ρ w => ∃ who1 : Int, ∃ H : NP, Has ρ [(0, (vp k1)), (8, (vp (some p1))), (10, (vi who1))] ∧ Hst w0 H w H w ∧ HB H w [(p1, [(vi aA), (vi aG), (vi aI), (vu aK), (vs aL), (vi aC), (vi aF)], 86)] ∧ m_C1_j1 k1 aC who1 H w K) ?_ ?_
  ·rintro ρ w ⟨who1, H, hH, hs, hb, h⟩
   unfold m_C1_j1 at h
   refine wpE_has hH ?_
   refine wpE_seq (rg (q0 (vp k1) ?_))
   obtain ⟨a2, hp2, h⟩ := h
   refine q2 (vp (some a2)) (x_nilCheck (p := k1) (by kernel_rfl) hp2) (q0 (vp (some a2)) ?_)
   obtain ⟨v2, hv1, h⟩ := h
   refine q2 (vp v2) (xl (Tryz.isAgg26 _) hv1) (q0 (vi who1) (q0 (.agg #[(vi 6), (vi who1), (vi 0), (vu 0), (vs ⟨#[]⟩), (vi 0), (vi 0)]) ?_))
   refine sc Tryz.call129 (h.mono ?_)
   rintro e w4 ⟨r2, r3, rfl, hk, h⟩
   refine ⟨_, rfl, ?_⟩
   obtain ⟨hs, hb⟩ := hk.hh hs hb
   refine q0 (.tuple #[(vi r2), (vb r3)]) (q0 (vi r2) (q0 (vb r3) (q0 (vi r2) (q0 (vb r3) (wpL_nil (th_n (wpE_seq ?_)))))))
   obtain ⟨C1, hC, h⟩ := h
   refine wpE_drawnC (fun x => C1 x ∧ HB H x [(p1, [(vi aA), (vi aG), (vi aI), (vu aK), (vs aL), (vi aC), (vi aF)], 86)]) [7] [] (by kernel_rfl) (by kernel_rfl) (by kernel_rfl) (by kernel_rfl) ⟨hC, hb.drew⟩ ?_
   intro w5 hw5
   have h := h w5 hw5
   have hs : Hst w0 H w4 H w5 := by rw [hw5]; exact hs.drew
   have hb : HB H w5 [(p1, [(vi aA), (vi aG), (vi aI), (vu aK), (vs aL), (vi aC), (vi aF)], 86)] := by rw [hw5]; exact hb.drew
   have hs := hs.here
   refine qx 0 (vp (some (p1.add 5))) Kp0 (qz 1 (vi aC) Kp1 (fun w' hw' => (xl (Tryz.isAgg30 _) (hw'.2.cell 0 5 gZ (by kernel_rfl)))) (qx 2 (vi r2) Kp2 (qx 3 (vb r3) Kp3 (qx 4 (vb r3) Kp4 (qg 5 ?_)))))
   rcases Bool.eq_false_or_eq_true r3 with hg1 | hg1
   ·have h := h.1 hg1
    refine sz (v := (vp k1)) Kp5 (want1 rfl (yD 61 hg1)) (fun _ _ => (by kernel_rfl)) (qw 6 (vi r2) Kp6 (want1 rfl (yD 61 hg1)) (lg 7 ?_))
    refine sl_call Kp7 (want1 rfl (yD 61 hg1)) (by kernel_rfl) (xc Tryz.call54) (h.mono ?_)
    rintro e w6 ⟨r4, rfl, hC, hk, h⟩
    refine ⟨_, rfl, .inr ⟨hC, hb.kept hk⟩, ?_⟩
    obtain ⟨hs, hb⟩ := hk.hh hs hb
    refine qz 8 (vb r4) Kp8 (fun _ _ => (xT hg1)) (qx 9 (vi aC) Kp9 (qx 10 (vi r2) (pickA (S8 (pickS (pickS pickZ)))) (qx 11 (vb false) (pickA (S8 (pickS (pickS (pickS pickZ))))) (qx 12 (vb r4) (pickA (S8 (S4 pickZ))) (wn (th_n (wpE_ret (res4 (.inl rfl) Tryz.results93 (v := (vi aC)) (by kernel_rfl) (v' := (vi r2)) (by kernel_rfl) (v'' := (vb false)) (by kernel_rfl) (v3 := (vb r4)) (by kernel_rfl) ?_))))))))
    exact ⟨aC, r2, false, r4, rfl, h⟩
   ·have h := h.2 hg1
    refine sx_not Kp5 (unwant rfl (yD 61 hg1) rfl) (qn 6 Kp6 (unwant rfl (yD 61 hg1) rfl) (lg 7 (sx_not Kp7 (unwant rfl (yD 61 hg1) rfl) (qz 8 (vb false) Kp8 (fun _ _ => (xF hg1)) (qx 9 (vi aC) Kp9 (qx 10 (vi r2) (pickA (S8 (pickS (pickS pickZ)))) (qx 11 (vb false) (pickA (S8 (pickS (pickS (pickS pickZ))))) (qx 12 (vb false) (pickA (S8 (S4 pickZ))) (wn (th_n (wpE_ret ?_)))))))))))
    refine res4 (.inl rfl) Tryz.results93 (v := (vi aC)) (by kernel_rfl) (v' := (vi r2)) (by kernel_rfl) (v'' := (vb false)) (by kernel_rfl) (v3 := (vb false)) (by kernel_rfl) ?_
    exact ⟨aC, r2, false, false, rfl, h⟩
  ·refine wpE_block (wpE_seq (wpE_seq (rg (q0 (vb (aA == 1)) (q0 (vb (aA == 1)) (wpL_nil (th_n ?_)))))))
   refine wpE_via (fun ρ wJ => ∃ b1'0 b1'1 y1 : Bool, ∃ HJ : NP, ((aA == 1) = b1'0) ∧ ((aA == 2) = b1'1) ∧ (y1 = (cond b1'0 (aA == 1) (cond b1'1 (aA == 2) (aA == 3)))) ∧ Hst w0 None w1 HJ wJ ∧ HB HJ wJ [(p1, [(vi aA), (vi aG), (vi aI), (vu aK), (vs aL), (vi aC), (vi aF)], 86)] ∧ Has ρ [(0, (vp k1)), (8, (vp (some p1))), (10, (vi aG)), (26, (vi aA)), (27, (vb y1))]) ?_ ?_
   ·refine wpE_cond (t := (aA == 1)) (by kernel_rfl) (fun hc4 => ?_) (fun hc4 => ?_)
    ·refine wpE_skip (th_n ?_)
     exact ⟨true, _, _, _, hc4, rfl, rfl, hs, hb, hm⟩
    ·refine wpE_seq (rg (q0 (vb (aA == 2)) (q0 (vb (aA == 2)) (wpL_nil (th_n ?_)))))
     refine wpE_cond (t := (aA == 2)) (by kernel_rfl) (fun hc5 => ?_) (fun hc5 => ?_)
     ·refine wpE_skip (th_n ?_)
      exact ⟨false, true, _, _, hc4, hc5, rfl, hs, hb, hm⟩
     ·refine rg (q0 (vb (aA == 3)) (q0 (vb (aA == 3)) (wpL_nil (th_n ?_))))
      exact ⟨false, false, _, _, hc4, hc5, rfl, hs, hb, hm⟩
   ·rintro ρ w7 ⟨b1'0, b1'1, y1, H2, he0, he1, hy1, hs, hb, hH⟩
    subst he0
    subst he1
    have h := h y1 hy1
    refine norm_has hH ?_
    refine th_n ?_
    refine wpE_cond (t := y1) (by kernel_rfl) (fun hc6 => ?_) (fun hc6 => ?_)
    ·have h := h.1 hc6
     refine wpE_seq (rg (q0 (vi 0) (q0 (vi 0) (q0 (vb true) (q0 (vb true) (wpL_nil (th_n (wpE_ret (bl_r (th_r ?_))))))))))
     have h := h H2 w7 hs
     have hs := hs.here
     refine res4 (.inl rfl) Tryz.results93 (v := (vi 0)) (by kernel_rfl) (v' := (vi 0)) (by kernel_rfl) (v'' := (vb true)) (by kernel_rfl) (v3 := (vb true)) (by kernel_rfl) ?_
     exact ⟨0, 0, true, true, rfl, h⟩
    ·have h := h.2 hc6
     refine wpE_seq (rg (q0 (vb (aA == 4)) (q0 (vb (aA == 4)) (wpL_nil (th_n ?_)))))
     refine wpE_cond (t := (aA == 4)) (by kernel_rfl) (fun hc7 => ?_) (fun hc7 => ?_)
     ·have h := h.1 hc7
      refine wpE_seq (wpE_drawnQ (by kernel_rfl) (by kernel_rfl) (by kernel_rfl) (by kernel_rfl) ?_)
      intro w8 hw8
      have hs : Hst w0 None w1 H2 w8 := by rw [hw8]; exact hs.drew
      have hb : HB H2 w8 [(p1, [(vi aA), (vi aG), (vi aI), (vu aK), (vs aL), (vi aC), (vi aF)], 86)] := by rw [hw8]; exact hb.drew
      refine qq 0 (vp (some (p1.add 5))) Kp0 (qr 1 (vi aC) Kp1 (xl (Tryz.isAgg30 _) (hb.c 0 5 gZ)) (qq 2 (vp (some (p1.add 6))) Kp2 (qr 3 (vi aF) Kp3 (xl (Tryz.isAgg30 _) (hb.c 0 6 gZ)) (qq 4 (vi aC) Kp4 (qq 5 (vi aF) Kp5 (qq 6 (vb false) Kp6 (qq 7 (vb true) Kp7 (wn (th_n (wpE_ret (bl_r ?_)))))))))))
      refine th_r ?_
      have h := h H2 w8 hs
      have hs := hs.here
      refine res4 (.inl rfl) Tryz.results93 (v := (vi aC)) (by kernel_rfl) (v' := (vi aF)) (by kernel_rfl) (v'' := (vb false)) (by kernel_rfl) (v3 := (vb true)) (by kernel_rfl) ?_
      exact ⟨aC, aF, false, true, rfl, h⟩
     ·have h := h.2 hc7
      refine wpE_seq (rg (q0 (vb (aA == 5)) (q0 (vb (aA == 5)) (wpL_nil (th_n ?_)))))
      refine wpE_cond (t := (aA == 5)) (by kernel_rfl) (fun hc8 => ?_) (fun hc8 => ?_)
      ·have h := h.1 hc8
       refine wpE_seq (rg (q0 (vp (some (p1.add 5))) (q2 (vi aC) (xl (Tryz.isAgg30 _) (hb.c 0 5 gZ)) (q0 (vi aC) (q0 (vi 0) (q0 (vb false) (q0 (vb true) (wpL_nil (th_n (wpE_ret (bl_r ?_)))))))))))
       refine th_r ?_
       have h := h H2 w7 hs
       have hs := hs.here
       refine res4 (.inl rfl) Tryz.results93 (v := (vi aC)) (by kernel_rfl) (v' := (vi 0)) (by kernel_rfl) (v'' := (vb false)) (by kernel_rfl) (v3 := (vb true)) (by kernel_rfl) ?_
       exact ⟨aC, 0, false, true, rfl, h⟩
      ·have h := h.2 hc8
       refine wpE_seq (rg (q0 (vb (aA == 6)) (q0 (vb (aA == 6)) (wpL_nil (th_n ?_)))))
       refine wpE_cond (t := (aA == 6)) (by kernel_rfl) (fun hc9 => ?_) (fun hc9 => ?_)
       ·have h := h.1 hc9
        refine wpE_seq (rg (q0 (vi 0) (q0 (vi 0) (q0 (vb false) (q0 (vb false) (wpL_nil (th_n (wpE_ret (bl_r (th_r ?_))))))))))
        have h := h H2 w7 hs
        have hs := hs.here
        refine res4 (.inl rfl) Tryz.results93 (v := (vi 0)) (by kernel_rfl) (v' := (vi 0)) (by kernel_rfl) (v'' := (vb false)) (by kernel_rfl) (v3 := (vb false)) (by kernel_rfl) ?_
        exact ⟨0, 0, false, false, rfl, h⟩
       ·have h := h.2 hc9
        refine wpE_seq (rg (q0 (vb (aA == 9)) (q0 (vb (aA == 9)) (wpL_nil (th_n ?_)))))
        refine wpE_via (fun ρ wJ => ∃ b2'0 : Bool, ∃ HJ : NP, ((aA == 9) = b2'0) ∧ Hst w0 None w1 HJ wJ ∧ HB HJ wJ [(p1, [(vi aA), (vi aG), (vi aI), (vu aK), (vs aL), (vi aC), (vi aF)], 86)] ∧ Has ρ [(0, (vp k1)), (8, (vp (some p1))), (10, (vi (cond b2'0 aI aG)))]) ?_ ?_
        ·refine wpE_cond (t := (aA == 9)) (by kernel_rfl) (fun hc11 => ?_) (fun hc11 => ?_)
         ·refine rg (q0 (vp (some (p1.add 2))) (q2 (vi aI) (xl (Tryz.isAgg3 _) (hb.c 0 2 gZ)) (q0 (vi aI) (wpL_nil (th_n ?_)))))
          exact ⟨true, _, hc11, hs, hb, hm⟩
         ·refine wpE_skip (th_n ?_)
          exact ⟨false, _, hc11, hs, hb, hm⟩
        ·rintro ρ w9 ⟨b2'0, H3, he0, hs, hb, hH⟩
         subst he0
         refine norm_has hH ?_
         refine bl_n ?_
         have h := h H3 w9 hs
         have hs := hs.here
         refine th_n ?_
         exact ⟨(cond (aA == 9) aI aG), H3, hm, hs, hb, h⟩
def m_P_j1 (t1 : Int) (cap1 cap2 cap5 : Addr) (ok3 : Bool) (bQ bR : Int) (bS bT : Int) (H : NP) (w : World) (K : Int → Bool → WP) : Prop :=
 Br (!ok3)
  (∃ v7 : Option Nat, w.cell? cap2 = some (.map v7) ∧
  ∃ w5 : World, (Instr.mapUpdate 153 (.map v7) (vi t1) (vb true)).run Tryz.prog w = .ok () w5 ∧
  Kept H w w5 ∧
  K 0 false w5)
  (∃ v8 : Option Nat, w.cell? cap1 = some (.map v8) ∧
  ∃ v9 : Sl, w.cell? cap5 = some v9.v ∧
  ∃ w6 : World, (Instr.mapUpdate 152 (.map v8) (vi t1) (vi (v9.len : Int))).run Tryz.prog w = .ok () w6 ∧
  Kept H w w6 ∧
  ∃ v10 : Sl, w6.cell? cap5 = some v10.v ∧
  ∀ (p3 : Addr) (w7 : World), New w6 (.cells #[(vi bQ), (vi bR), (vi bS), (vi bT)] 157) p3 w7 →
  ∃ s1 : Sl, ∃ w8 : World, (Builtin.append_ #[101, 101] 101 #[v10.v, (Sl.mk (some p3) 1 1).v]).run Tryz.prog w7 = .ok s1.v w8 ∧
  Kept H w7 w8 ∧
  CanW w8 cap5 ∧ ¬ H cap5.block ∧ ∀ w9 : World, w9 = w8.setCell cap5 s1.v →
  ∃ v11 : Option Nat, w9.cell? cap1 = some (.map v11) ∧
  ∃ v12 : Int, (Instr.lookup 152 (.map v11) (vi t1) false).run Tryz.prog w9 = .ok (vi v12) w9 ∧
  K v12 true w9)
def m_P_j2 (t1 : Int) (cap1 cap2 : Addr) (cap4 cap5 : Addr) (r4 : Int) (ok4 : Bool) (bG bH : Int) (bU bI : Int) (w0 : World) (H : NP) (w : World) (K : Int → Bool → WP) : Prop :=
 Br (ok4 && (decide (r4 > 0)))
  (∀ (H5 : NP) (w19 : World), Hst w0 H w H5 w19 →
  ∃ v15 : Value, w19.cell? cap4 = some v15 ∧
  ∃ (f2 : FuncId) (fs2 cs2 : Array Value), v15 = .func (.func f2) fs2 cs2 ∧
  (∀ args w, (callFunc f2 args).run Tryz.prog w = .ok (.enter f2 args) w) ∧ Calls Tryz.prog f2 (fs2 ++ #[(vi r4)] ++ cs2) w19 (fun e w20 => ∃ r7 : Int, ∃ r8 : Bool, e = .returned (.tuple #[(vi r7), (vb r8)]) ∧ 
   Kept H5 w19 w20 ∧
   ∀ (w21 : World), Hst w0 H5 w20 H5 w21 →
   m_P_j1 t1 cap1 cap2 cap5 r8 bG bH r7 bI H5 w21 K))
  (∀ (H5 : NP) (w19 : World), Hst w0 H w H5 w19 →
  m_P_j1 t1 cap1 cap2 cap5 ok4 bG bH bU bI H5 w19 K)
def m_P (t1 : Int) (cap1 cap2 : Addr) (cap3 cap4 cap5 : Addr) (w0 : World) (K : Int → Bool → WP) : Prop :=
 ∃ v1 : Option Nat, w0.cell? cap1 = some (.map v1) ∧
 ∃ v2 : Int, ∃ ok1 : Bool, (Instr.lookup 152 (.map v1) (vi t1) true).run Tryz.prog w0 = .ok (.tuple #[(vi v2), (vb ok1)]) w0 ∧
 Br ok1
  (K v2 true w0)
  (∀ (H1 : NP) (w2 : World), Hst w0 None w0 H1 w2 →
  ∃ v3 : Option Nat, w2.cell? cap2 = some (.map v3) ∧
  ∃ v4 : Bool, (Instr.lookup 153 (.map v3) (vi t1) false).run Tryz.prog w2 = .ok (vb v4) w2 ∧
  ∃ v5 : Option Addr, w2.cell? cap3 = some (vp v5) ∧
  ∃ a1 : Addr, v5 = some a1 ∧
  ∃ v6 : Option Nat, w2.cell? (a1.add 2) = some (.map v6) ∧
  ∃ vrule1 vfrom1 : Int, ∃ ok2 : Bool, (Instr.lookup 107 (.map v6) (vi t1) true).run Tryz.prog w2 = .ok (.tuple #[(.agg #[(vi vrule1), (vi vfrom1)]), (vb ok2)]) w2 ∧
  Br ok2
   (Br (vrule1 != 0)
    (∀ (H2 : NP) (w10 : World), Hst w0 H1 w2 H2 w10 →
    ∃ v13 : Value, w10.cell? cap4 = some v13 ∧
    ∃ (f1 : FuncId) (fs1 cs1 : Array Value), v13 = .func (.func f1) fs1 cs1 ∧
    (∀ args w, (callFunc f1 args).run Tryz.prog w = .ok (.enter f1 args) w) ∧ Calls Tryz.prog f1 (fs1 ++ #[(vi vfrom1)] ++ cs1) w10 (fun e w11 => ∃ r1 : Int, ∃ r2 : Bool, e = .returned (.tuple #[(vi r1), (vb r2)]) ∧ 
     Kept H2 w10 w11 ∧
     ∀ (w12 : World), Hst w0 H2 w11 H2 w12 →
     m_P_j1 t1 cap1 cap2 cap5 (!v4) vrule1 r1 0 t1 H2 w12 K))
    (∀ (H2 : NP) (w10 : World), Hst w0 H1 w2 H2 w10 →
    m_P_j1 t1 cap1 cap2 cap5 (!v4) vrule1 0 0 t1 H2 w10 K))
   (Br (!v4)
    (∀ (H2 : NP) (w4 : World), Hst w0 H1 w2 H2 w4 →
    ∃ v14 : Option Addr, w4.cell? cap3 = some (vp v14) ∧
    Calls Tryz.prog 93 #[(vp v14), (vi t1)] w4 (fun e w13 => ∃ r3 r4 : Int, ∃ r5 r6 : Bool, e = .returned (.tuple #[(vi r3), (vi r4), (vb r5), (vb r6)]) ∧ 
     Kept H2 w4 w13 ∧
     Br (r6 && (decide (r3 > 0)))
      (∀ (H4 : NP) (w18 : World), Hst w0 H2 w13 H4 w18 →
      ∃ v16 : Value, w18.cell? cap4 = some v16 ∧
      ∃ (f3 : FuncId) (fs3 cs3 : Array Value), v16 = .func (.func f3) fs3 cs3 ∧
      (∀ args w, (callFunc f3 args).run Tryz.prog w = .ok (.enter f3 args) w) ∧ Calls Tryz.prog f3 (fs3 ++ #[(vi r3)] ++ cs3) w18 (fun e w22 => ∃ r9 : Int, ∃ r10 : Bool, e = .returned (.tuple #[(vi r9), (vb r10)]) ∧ 
       Kept H4 w18 w22 ∧
       ∀ (w23 : World), Hst w0 H4 w22 H4 w23 →
       m_P_j2 t1 cap1 cap2 cap4 cap5 r4 r10 (cond r5 4 5) r9 0 t1 w0 H4 w23 K))
      (∀ (H4 : NP) (w18 : World), Hst w0 H2 w13 H4 w18 →
      m_P_j2 t1 cap1 cap2 cap4 cap5 r4 r6 (cond r5 4 5) 0 0 t1 w0 H4 w18 K)))
    (∀ (H2 : NP) (w4 : World), Hst w0 H1 w2 H2 w4 →
    m_P_j1 t1 cap1 cap2 cap5 (!v4) 0 0 0 t1 H2 w4 K)))
theorem w_P (t1 : Int) (cap1 cap2 : Addr) (cap3 cap4 cap5 : Addr) (w0 : World) (K : Int → Bool → WP) (h : m_P t1 cap1 cap2 cap3 cap4 cap5 w0 K) :
  Calls Tryz.prog 92 #[(vi t1), (vp (some cap1)), (vp (some cap2)), (vp (some cap3)), (vp (some cap4)), (vp (some cap5))] w0 (fun e w' => ∃ r11 : Int, ∃ r12 : Bool, e = .returned (.tuple #[(vi r11), (vb r12)]) ∧ K r11 r12 w') := by
 unfold m_P at h
 refine cw (args := [(vi t1), (vp (some cap1)), (vp (some cap2)), (vp (some cap3)), (vp (some cap4)), (vp (some cap5))]) Tryz.func92 Tryz.ntmps92 ?_
 have hs := Hst.start w0
 have hb := HB.nil None w0
 refine wpE_seq (rg (q0 (vi 0) (q0 (vb false) (wpL_nil (th_n (wpE_seq (wpE_seq (rg ?_))))))))
 obtain ⟨v1, hv20, h⟩ := h
 refine q2 (.map v1) (xl (Tryz.isAgg152 _) hv20) (q0 (vi t1) ?_)
 obtain ⟨v2, ok1, hv19, h⟩ := h
 refine q2 (.tuple #[(vi v2), (vb ok1)]) (x_lookup (by kernel_rfl) (by kernel_rfl) hv19) (q0 (.tuple #[(vi v2), (vb ok1)]) (q0 (vi v2) (q0 (vb ok1) (q0 (vi v2) (q0 (vb ok1) (wpL_nil (th_n (wpE_seq (rg (q0 (vb ok1) (wpL_nil ?_)))))))))))
 refine th_n ?_
 refine wpE_cond (t := ok1) (by kernel_rfl) (fun hc1 => ?_) (fun hc1 => ?_)
 ·have h := h.1 hc1
  refine wpE_seq (rg (q0 (vi v2) (q0 (vi v2) (q0 (vb true) (wpL_nil (th_n (wpE_ret (th_r (res2 (.inl rfl) Tryz.results92 (v := (vi v2)) (by kernel_rfl) (v' := (vb true)) (by kernel_rfl) ?_)))))))))
  exact ⟨v2, true, rfl, h⟩
 ·have h := h.2 hc1
  refine wpE_skip (th_n (wpE_seq (rg (q0 (vi t1) (q0 (.agg #[(vi 0), (vi 0), (vi 0), (vi t1)]) (sn (O := (.cells #[(vi 0), (vi 0), (vi 0), (vi 0)] 157)) (x_alloc (Tryz.zeroValue157 _) rfl) ?_))))))
  intro p1 w1 hn1
  obtain ⟨H1, hs, hb⟩ := hs.alloc hb hn1
  refine st_set (want0 rfl) (x_storeA (a := p1) (vs := [(vi 0), (vi 0), (vi 0), (vi t1)]) (by kernel_rfl) (by kernel_rfl) rfl (Tryz.sizeOf157 _) rfl (hb.canWs0 0 4 gZ (by kernel_rfl))) ?_
  intro w2 hn2
  have hsb : Hst w0 None w0 H1 w2 ∧ HB H1 w2 [(p1, [(vi 0), (vi 0), (vi 0), (vi t1)], 157)] := by
   rw [hn2]
   exact hb.store0 (i := 0) (vs := [(vi 0), (vi 0), (vi 0), (vi t1)]) hs gZ (by kernel_rfl) (by kernel_rfl)
  obtain ⟨hs, hb⟩ := hsb
  refine wpL_nil (th_n (wpE_seq (rg ?_)))
  have h := h H1 w2 hs
  have hs := hs.here
  obtain ⟨v3, hv18, h⟩ := h
  refine q2 (.map v3) (xl (Tryz.isAgg153 _) hv18) (q0 (vi t1) ?_)
  obtain ⟨v4, hv17, h⟩ := h
  refine q2 (vb v4) (x_lookup (by kernel_rfl) (by kernel_rfl) hv17) (q0 (vb (!v4)) (q0 (vb (!v4)) (wpL_nil (th_n (wpE_seq (wpE_seq (rg ?_)))))))
  obtain ⟨v5, hv16, h⟩ := h
  refine q2 (vp v5) (xl (Tryz.isAgg55 _) hv16) ?_
  obtain ⟨a1, hp1, h⟩ := h
  refine q2 (vp (some a1)) (x_nilCheck (p := v5) (by kernel_rfl) hp1) (q0 (vp (some (a1.add 2))) ?_)
  obtain ⟨v6, hv15, h⟩ := h
  refine q2 (.map v6) (xl (Tryz.isAgg107 _) hv15) (q0 (vi t1) ?_)
  obtain ⟨vrule1, vfrom1, ok2, hv14, h⟩ := h
  refine q2 (.tuple #[(.agg #[(vi vrule1), (vi vfrom1)]), (vb ok2)]) (x_lookup (by kernel_rfl) (by kernel_rfl) hv14) (q0 (.tuple #[(.agg #[(vi vrule1), (vi vfrom1)]), (vb ok2)]) (q0 (.agg #[(vi vrule1), (vi vfrom1)]) (q0 (vb ok2) (sn (O := (.cells #[(vi 0), (vi 0)] 113)) (x_alloc (Tryz.zeroValue113 _) rfl) ?_))))
  intro p2 w3 hn3
  obtain ⟨H2, hs, hb⟩ := hs.alloc hb hn3
  refine st_set (want0 rfl) (x_storeA (a := p2) (vs := [(vi vrule1), (vi vfrom1)]) (by kernel_rfl) (by kernel_rfl) rfl (Tryz.sizeOf113 _) rfl (hb.canWs0 0 2 gZ (by kernel_rfl))) ?_
  intro w4 hn4
  have hsb : Hst w0 H1 w2 H2 w4 ∧ HB H2 w4 [(p2, [(vi vrule1), (vi vfrom1)], 113), (p1, [(vi 0), (vi 0), (vi 0), (vi t1)], 157)] := by
   rw [hn4]
   exact hb.store0 (i := 0) (vs := [(vi vrule1), (vi vfrom1)]) hs gZ (by kernel_rfl) (by kernel_rfl)
  obtain ⟨hs, hb⟩ := hsb
  refine q0 (vb ok2) (wpL_nil (th_n (wpE_seq (rg (q0 (vb ok2) (wpL_nil (th_n ?_)))))))
  refine wpE_joinT (fun ρ w => ∃ ok3 : Bool, ∃ bQ bR : Int, ∃ bS bT : Int, ∃ H : NP, Has ρ [(0, (vi t1)), (1, (vp (some cap1))), (2, (vp (some cap2))), (5, (vp (some cap5))), (11, (vp (some p1))), (12, (vb ok3))] ∧ Hst w0 H w H w ∧ HB H w [(p2, [(vi vrule1), (vi vfrom1)], 113), (p1, [(vi bQ), (vi bR), (vi bS), (vi bT)], 157)] ∧ m_P_j1 t1 cap1 cap2 cap5 ok3 bQ bR bS bT H w K) ?_ ?_
  ·rintro ρ w ⟨ok3, bQ, bR, bS, bT, H, hH, hs, hb, h⟩
   unfold m_P_j1 at h
   refine wpE_has hH ?_
   refine wpE_seq (wpE_seq (rg (q0 (vb ok3) (q0 (vb (!ok3)) (wpL_nil (th_n ?_))))))
   refine wpE_cond (t := (!ok3)) (by kernel_rfl) (fun hc2 => ?_) (fun hc2 => ?_)
   ·have h := h.1 hc2
    refine wpE_seq (rg ?_)
    obtain ⟨v7, hv2, h⟩ := h
    refine q2 (.map v7) (xl (Tryz.isAgg153 _) hv2) (q0 (vi t1) ?_)
    obtain ⟨w5, hv1, hk, h⟩ := h
    refine st_skip (want0 rfl) (x_mapUpdate (by kernel_rfl) (by kernel_rfl) (by kernel_rfl) hv1) ?_
    obtain ⟨hs, hb⟩ := hk.hh hs hb
    refine wpL_nil (th_n (wpE_seq (rg (q0 (vi 0) (q0 (vb false) (wpL_nil (th_n (wpE_ret (th_r (res2 (.inl rfl) Tryz.results92 (v := (vi 0)) (by kernel_rfl) (v' := (vb false)) (by kernel_rfl) ?_))))))))))
    exact ⟨0, false, rfl, h⟩
   ·have h := h.2 hc2
    refine wpE_skip (th_n (wpE_seq (rg ?_)))
    obtain ⟨v8, hv9, h⟩ := h
    refine q2 (.map v8) (xl (Tryz.isAgg152 _) hv9) (q0 (vi t1) ?_)
    obtain ⟨v9, hv8, h⟩ := h
    refine q2 v9.v (xl (Tryz.isAgg101 _) hv8) (q0 (vi (v9.len : Int)) ?_)
    obtain ⟨w6, hv7, hk, h⟩ := h
    refine st_skip (want0 rfl) (x_mapUpdate (by kernel_rfl) (by kernel_rfl) (by kernel_rfl) hv7) ?_
    obtain ⟨hs, hb⟩ := hk.hh hs hb
    refine wpL_nil (th_n (wpE_seq (rg ?_)))
    obtain ⟨v10, hv6, h⟩ := h
    refine q2 v10.v (xl (Tryz.isAgg101 _) hv6) (q2 (.agg #[(vi bQ), (vi bR), (vi bS), (vi bT)]) (x_loadA (a := p1) (vs := [(vi bQ), (vi bR), (vi bS), (vi bT)]) (by kernel_rfl) (Tryz.isAgg157 _) (Tryz.sizeOf157 _) rfl (hb.row0 1 4 (gS gZ) (by kernel_rfl))) (st_new (O := (.cells #[(vi bQ), (vi bR), (vi bS), (vi bT)] 157)) (fun p => (Sl.mk (some p) 1 1).v) (want0 rfl) (x_buildSlice (vs := #[(0, (.agg #[(vi bQ), (vi bR), (vi bS), (vi bT)]))]) (by kernel_rfl) (by kernel_rfl)) ?_))
    intro p3 w7 hn6
    have h := h p3 w7 hn6
    have hs := hs.again (Ext.new (F := None) hn6).keptP
    have hb := hb.kept (Ext.new (F := None) hn6).keptP
    obtain ⟨s1, w8, hv5, hk, h⟩ := h
    refine st (v := s1.v) (want0 rfl) (x_builtin (args := #[v10.v, (Sl.mk (some p3) 1 1).v]) (by kernel_rfl) (fun _ => rfl) hv5) ?_
    obtain ⟨hs, hb⟩ := hk.hh hs hb
    obtain ⟨hp2, hnh, h⟩ := h
    refine st_set (want0 rfl) (x_store (a := cap5) (v := s1.v) (by kernel_rfl) (by kernel_rfl) rfl (Tryz.sizeOf101 _) hp2) ?_
    intro w9 hn5
    have h := h w9 hn5
    have hk := Kept.sc hnh hn5
    obtain ⟨hs, hb⟩ := hk.hh hs hb
    refine wpL_nil (th_n (wpE_seq (rg ?_)))
    obtain ⟨v11, hv4, h⟩ := h
    refine q2 (.map v11) (xl (Tryz.isAgg152 _) hv4) (q0 (vi t1) ?_)
    obtain ⟨v12, hv3, h⟩ := h
    refine q2 (vi v12) (x_lookup (by kernel_rfl) (by kernel_rfl) hv3) (q0 (vi v12) (q0 (vb true) (wpL_nil (th_n (wpE_ret (res2 (.inl rfl) Tryz.results92 (v := (vi v12)) (by kernel_rfl) (v' := (vb true)) (by kernel_rfl) ?_))))))
    exact ⟨v12, true, rfl, h⟩
  ·refine wpE_cond (t := ok2) (by kernel_rfl) (fun hc3 => ?_) (fun hc3 => ?_)
   ·have h := h.1 hc3
    refine wpE_seq (rg (q0 (vp (some p2)) (q2 (vi vrule1) (xl (Tryz.isAgg3 _) (hb.c0 0 gZ)) (q0 (vp (some p1)) (st_set (want0 rfl) (x_store (a := p1) (v := (vi vrule1)) (by kernel_rfl) (by kernel_rfl) rfl (Tryz.sizeOf3 _) (hb.canW0 1 (gS gZ) (by kernel_rfl))) ?_)))))
    intro w10 hn7
    have hsb : Hst w0 H1 w2 H2 w10 ∧ HB H2 w10 [(p2, [(vi vrule1), (vi vfrom1)], 113), (p1, [(vi vrule1), (vi 0), (vi 0), (vi t1)], 157)] := by
     rw [hn7]
     exact hb.set0 (i := 1) (v := (vi vrule1)) hs (gS gZ) (by kernel_rfl)
    obtain ⟨hs, hb⟩ := hsb
    refine wpL_nil (th_n (wpE_seq (rg (q0 (vp (some p2)) (q2 (vi vrule1) (xl (Tryz.isAgg3 _) (hb.c0 0 gZ)) (q0 (vb (vrule1 != 0)) (wpL_nil (th_n ?_))))))))
    refine wpE_cond (t := (vrule1 != 0)) (by kernel_rfl) (fun hc4 => ?_) (fun hc4 => ?_)
    ·have h := h.1 hc4
     refine rg ?_
     have h := h H2 w10 hs
     have hs := hs.here
     obtain ⟨v13, hv10, h⟩ := h
     refine q2 v13 (xl (Tryz.isAgg154 _) hv10) (q0 (vp (some (p2.add 1))) (q2 (vi vfrom1) (xl (Tryz.isAgg30 _) (hb.c 0 1 gZ)) ?_))
     obtain ⟨f1, fs1, cs1, hp3, h⟩ := h
     obtain ⟨hf1, h⟩ := h
     refine st_call (want0 rfl) (x_callmE (fs := fs1) (caps := cs1) (args := #[(vi vfrom1)]) (by kernel_rfl) hp3 hf1 (by kernel_rfl) rfl) (h.mono ?_)
     rintro e w11 ⟨r1, r2, rfl, hk, h⟩
     refine ⟨_, rfl, ?_⟩
     obtain ⟨hs, hb⟩ := hk.hh hs hb
     refine q0 (.tuple #[(vi r1), (vb r2)]) (q0 (vi r1) (q0 (vb r2) (q0 (vp (some (p1.add 1))) (st_set (want0 rfl) (x_store (a := (p1.add 1)) (v := (vi r1)) (by kernel_rfl) (by kernel_rfl) rfl (Tryz.sizeOf3 _) (hb.canW 1 1 (gS gZ) (by kernel_rfl))) ?_))))
     intro w12 hn8
     have hsb : Hst w0 H2 w11 H2 w12 ∧ HB H2 w12 [(p2, [(vi vrule1), (vi vfrom1)], 113), (p1, [(vi vrule1), (vi r1), (vi 0), (vi t1)], 157)] := by
      rw [hn8]
      exact hb.set (i := 1) 1 (v := (vi r1)) hs (gS gZ) (by kernel_rfl)
     obtain ⟨hs, hb⟩ := hsb
     refine wpL_nil ?_
     have h := h w12 hs
     have hs := hs.here
     refine th_n ?_
     exact ⟨(!v4), vrule1, r1, 0, t1, H2, hm, hs, hb, h⟩
    ·have h := h.2 hc4
     refine wpE_skip ?_
     have h := h H2 w10 hs
     have hs := hs.here
     refine th_n ?_
     exact ⟨(!v4), vrule1, 0, 0, t1, H2, hm, hs, hb, h⟩
   ·have h := h.2 hc3
    refine wpE_seq (rg (q0 (vb (!v4)) (wpL_nil (th_n ?_))))
    refine wpE_cond (t := (!v4)) (by kernel_rfl) (fun hc5 => ?_) (fun hc5 => ?_)
    ·have h := h.1 hc5
     refine wpE_seq (rg ?_)
     have h := h H2 w4 hs
     have hs := hs.here
     obtain ⟨v14, hv13, h⟩ := h
     refine q2 (vp v14) (xl (Tryz.isAgg55 _) hv13) (q0 (vi t1) ?_)
     refine sc Tryz.call93 (h.mono ?_)
     rintro e w13 ⟨r3, r4, r5, r6, rfl, hk, h⟩
     refine ⟨_, rfl, ?_⟩
     obtain ⟨hs, hb⟩ := hk.hh hs hb
     refine q0 (.tuple #[(vi r3), (vi r4), (vb r5), (vb r6)]) (q0 (vi r3) (q0 (vi r4) (q0 (vb r5) (q0 (vb r6) (q0 (vi r3) (q0 (vi r4) (q0 (vb r5) (q0 (vb r6) (wpL_nil (th_n (wpE_seq ?_)))))))))))
     refine rg (q0 (vb r6) (q0 (vp (some p1)) (st_set (want0 rfl) (x_store (a := p1) (v := (vi 5)) (by kernel_rfl) (by kernel_rfl) rfl (Tryz.sizeOf3 _) (hb.canW0 1 (gS gZ) (by kernel_rfl))) ?_)))
     intro w14 hn9
     have hsb : Hst w0 H2 w13 H2 w14 ∧ HB H2 w14 [(p2, [(vi vrule1), (vi vfrom1)], 113), (p1, [(vi 5), (vi 0), (vi 0), (vi t1)], 157)] := by
      rw [hn9]
      exact hb.set0 (i := 1) (v := (vi 5)) hs (gS gZ) (by kernel_rfl)
     obtain ⟨hs, hb⟩ := hsb
     refine q0 (vb r6) (wpL_nil (th_n (wpE_seq (wpE_seq (rg (q0 (vb r5) (wpL_nil (th_n ?_))))))))
     refine wpE_via (fun ρ wJ => ∃ b1'0 : Bool, ∃ HJ : NP, (r5 = b1'0) ∧ Hst w0 H2 w13 HJ wJ ∧ HB HJ wJ [(p2, [(vi vrule1), (vi vfrom1)], 113), (p1, [(vi (cond b1'0 4 5)), (vi 0), (vi 0), (vi t1)], 157)] ∧ Has ρ [(0, (vi t1)), (1, (vp (some cap1))), (2, (vp (some cap2))), (4, (vp (some cap4))), (5, (vp (some cap5))), (11, (vp (some p1))), (12, (vb r6)), (15, (vi r3)), (16, (vi r4))]) ?_ ?_
     ·refine wpE_cond (t := r5) (by kernel_rfl) (fun hc7 => ?_) (fun hc7 => ?_)
      ·refine rg (q0 (vp (some p1)) (st_set (want0 rfl) (x_store (a := p1) (v := (vi 4)) (by kernel_rfl) (by kernel_rfl) rfl (Tryz.sizeOf3 _) (hb.canW0 1 (gS gZ) (by kernel_rfl))) ?_))
       intro w17 hn11
       have hsb : Hst w0 H2 w13 H2 w17 ∧ HB H2 w17 [(p2, [(vi vrule1), (vi vfrom1)], 113), (p1, [(vi 4), (vi 0), (vi 0), (vi t1)], 157)] := by
        rw [hn11]
        exact hb.set0 (i := 1) (v := (vi 4)) hs (gS gZ) (by kernel_rfl)
       obtain ⟨hs, hb⟩ := hsb
       refine wpL_nil (th_n ?_)
       exact ⟨true, _, hc7, hs, hb, hm⟩
      ·refine wpE_skip (th_n ?_)
       exact ⟨false, _, hc7, hs, hb, hm⟩
     ·rintro ρ w16 ⟨b1'0, H3, he0, hs, hb, hH⟩
      subst he0
      refine norm_has hH ?_
      refine th_n (wpE_seq (wpE_seq ?_))
      refine wpE_via (fun ρ wJ => ∃ b2'0 : Bool, ∃ HJ : NP, (r6 = b2'0) ∧ Hst w0 H2 w13 HJ wJ ∧ HB HJ wJ [(p2, [(vi vrule1), (vi vfrom1)], 113), (p1, [(vi (cond r5 4 5)), (vi 0), (vi 0), (vi t1)], 157)] ∧ Has ρ [(0, (vi t1)), (1, (vp (some cap1))), (2, (vp (some cap2))), (4, (vp (some cap4))), (5, (vp (some cap5))), (11, (vp (some p1))), (12, (vb r6)), (15, (vi r3)), (16, (vi r4)), (74, (vb (b2'0 && (decide (r3 > 0)))))]) ?_ ?_
      ·refine rg (q0 (vb r6) (q0 (vb r6) ?_))
       rcases Bool.eq_false_or_eq_true r6 with hg2 | hg2
       ·refine q1 (vi r3) (want1 rfl (yD 71 hg2)) (q1 (vb (decide (r3 > 0))) (want1 rfl (yD 71 hg2)) (q2 (vb (decide (r3 > 0))) (xT hg2) (wpL_nil (th_n ?_))))
        exact ⟨true, _, hg2, hs, hb, hm⟩
       ·refine sk (yD 71 hg2) (sk (yD 71 hg2) (q2 (vb false) (xF hg2) (wpL_nil (th_n ?_))))
        exact ⟨false, _, hg2, hs, hb, hm⟩
      ·rintro ρ w18 ⟨b2'0, H4, he0, hs, hb, hH⟩
       subst he0
       refine norm_has hH ?_
       refine th_n ?_
       refine wpE_joinT (fun ρ w => ∃ ok4 : Bool, ∃ bG bH : Int, ∃ bU bI : Int, ∃ H : NP, Has ρ [(0, (vi t1)), (1, (vp (some cap1))), (2, (vp (some cap2))), (4, (vp (some cap4))), (5, (vp (some cap5))), (11, (vp (some p1))), (12, (vb ok4)), (16, (vi r4))] ∧ Hst w0 H w H w ∧ HB H w [(p2, [(vi vrule1), (vi vfrom1)], 113), (p1, [(vi bG), (vi bH), (vi bU), (vi bI)], 157)] ∧ m_P_j2 t1 cap1 cap2 cap4 cap5 r4 ok4 bG bH bU bI w0 H w K) ?_ ?_
       ·rintro ρ w ⟨ok4, bG, bH, bU, bI, H, hH, hs, hb, h⟩
        unfold m_P_j2 at h
        refine wpE_has hH ?_
        refine wpE_seq ?_
        refine wpE_via (fun ρ wJ => ∃ b3'0 : Bool, ∃ HJ : NP, (ok4 = b3'0) ∧ Hst w0 H w HJ wJ ∧ HB HJ wJ [(p2, [(vi vrule1), (vi vfrom1)], 113), (p1, [(vi bG), (vi bH), (vi bU), (vi bI)], 157)] ∧ Has ρ [(0, (vi t1)), (1, (vp (some cap1))), (2, (vp (some cap2))), (4, (vp (some cap4))), (5, (vp (some cap5))), (11, (vp (some p1))), (12, (vb ok4)), (16, (vi r4)), (86, (vb (b3'0 && (decide (r4 > 0)))))]) ?_ ?_
        ·refine rg (q0 (vb ok4) (q0 (vb ok4) ?_))
         rcases Bool.eq_false_or_eq_true ok4 with hg4 | hg4
         ·refine q1 (vi r4) (want1 rfl (yD 83 hg4)) (q1 (vb (decide (r4 > 0))) (want1 rfl (yD 83 hg4)) (q2 (vb (decide (r4 > 0))) (xT hg4) (wpL_nil (th_n ?_))))
          exact ⟨true, _, hg4, hs, hb, hm⟩
         ·refine sk (yD 83 hg4) (sk (yD 83 hg4) (q2 (vb false) (xF hg4) (wpL_nil (th_n ?_))))
          exact ⟨false, _, hg4, hs, hb, hm⟩
        ·rintro ρ w19 ⟨b3'0, H5, he0, hs, hb, hH⟩
         subst he0
         refine norm_has hH ?_
         refine th_n ?_
         refine wpE_cond (t := (ok4 && (decide (r4 > 0)))) (by kernel_rfl) (fun hc8 => ?_) (fun hc8 => ?_)
         ·have h := h.1 hc8
          refine rg ?_
          have h := h H5 w19 hs
          have hs := hs.here
          obtain ⟨v15, hv11, h⟩ := h
          refine q2 v15 (xl (Tryz.isAgg154 _) hv11) (q0 (vi r4) ?_)
          obtain ⟨f2, fs2, cs2, hp4, h⟩ := h
          obtain ⟨hf2, h⟩ := h
          refine st_call (want0 rfl) (x_callmE (fs := fs2) (caps := cs2) (args := #[(vi r4)]) (by kernel_rfl) hp4 hf2 (by kernel_rfl) rfl) (h.mono ?_)
          rintro e w20 ⟨r7, r8, rfl, hk, h⟩
          refine ⟨_, rfl, ?_⟩
          obtain ⟨hs, hb⟩ := hk.hh hs hb
          refine q0 (.tuple #[(vi r7), (vb r8)]) (q0 (vi r7) (q0 (vb r8) (q0 (vp (some (p1.add 2))) (st_set (want0 rfl) (x_store (a := (p1.add 2)) (v := (vi r7)) (by kernel_rfl) (by kernel_rfl) rfl (Tryz.sizeOf3 _) (hb.canW 1 2 (gS gZ) (by kernel_rfl))) ?_))))
          intro w21 hn12
          have hsb : Hst w0 H5 w20 H5 w21 ∧ HB H5 w21 [(p2, [(vi vrule1), (vi vfrom1)], 113), (p1, [(vi bG), (vi bH), (vi r7), (vi bI)], 157)] := by
           rw [hn12]
           exact hb.set (i := 1) 2 (v := (vi r7)) hs (gS gZ) (by kernel_rfl)
          obtain ⟨hs, hb⟩ := hsb
          refine q0 (vb r8) (wpL_nil ?_)
          have h := h w21 hs
          have hs := hs.here
          refine th_n ?_
          exact ⟨r8, bG, bH, r7, bI, H5, hm, hs, hb, h⟩
         ·have h := h.2 hc8
          refine wpE_skip ?_
          have h := h H5 w19 hs
          have hs := hs.here
          refine th_n ?_
          exact ⟨ok4, bG, bH, bU, bI, H5, hm, hs, hb, h⟩
       ·refine wpE_cond (t := (r6 && (decide (r3 > 0)))) (by kernel_rfl) (fun hc9 => ?_) (fun hc9 => ?_)
        ·have h := h.1 hc9
         refine rg ?_
         have h := h H4 w18 hs
         have hs := hs.here
         obtain ⟨v16, hv12, h⟩ := h
         refine q2 v16 (xl (Tryz.isAgg154 _) hv12) (q0 (vi r3) ?_)
         obtain ⟨f3, fs3, cs3, hp5, h⟩ := h
         obtain ⟨hf3, h⟩ := h
         refine st_call (want0 rfl) (x_callmE (fs := fs3) (caps := cs3) (args := #[(vi r3)]) (by kernel_rfl) hp5 hf3 (by kernel_rfl) rfl) (h.mono ?_)
         rintro e w22 ⟨r9, r10, rfl, hk, h⟩
         refine ⟨_, rfl, ?_⟩
         obtain ⟨hs, hb⟩ := hk.hh hs hb
         refine q0 (.tuple #[(vi r9), (vb r10)]) (q0 (vi r9) (q0 (vb r10) (q0 (vp (some (p1.add 1))) (st_set (want0 rfl) (x_store (a := (p1.add 1)) (v := (vi r9)) (by kernel_rfl) (by kernel_rfl) rfl (Tryz.sizeOf3 _) (hb.canW 1 1 (gS gZ) (by kernel_rfl))) ?_))))
         intro w23 hn13
         have hsb : Hst w0 H4 w22 H4 w23 ∧ HB H4 w23 [(p2, [(vi vrule1), (vi vfrom1)], 113), (p1, [(vi (cond r5 4 5)), (vi r9), (vi 0), (vi t1)], 157)] := by
          rw [hn13]
          exact hb.set (i := 1) 1 (v := (vi r9)) hs (gS gZ) (by kernel_rfl)
         obtain ⟨hs, hb⟩ := hsb
         refine q0 (vb r10) (wpL_nil ?_)
         have h := h w23 hs
         have hs := hs.here
         refine th_n ?_
         exact ⟨r10, (cond r5 4 5), r9, 0, t1, H4, hm, hs, hb, h⟩
        ·have h := h.2 hc9
         refine wpE_skip ?_
         have h := h H4 w18 hs
         have hs := hs.here
         refine th_n ?_
         exact ⟨r6, (cond r5 4 5), 0, 0, t1, H4, hm, hs, hb, h⟩
    ·have h := h.2 hc5
     refine wpE_skip ?_
     have h := h H2 w4 hs
     have hs := hs.here
     refine th_n ?_
     exact ⟨(!v4), 0, 0, 0, t1, H2, hm, hs, hb, h⟩
def m_M2 (t1 rule1 : Int) (cap1 cap2 : Addr) (w0 : World) (K : WP) : Prop :=
 ∃ v1 : Option Addr, w0.cell? cap1 = some (vp v1) ∧
 ∃ a1 : Addr, v1 = some a1 ∧
 ∃ v2 : Option Nat, w0.cell? (a1.add 2) = some (.map v2) ∧
 ∃ vrule1 vfrom1 : Int, ∃ ok1 : Bool, (Instr.lookup 107 (.map v2) (vi t1) true).run Tryz.prog w0 = .ok (.tuple #[(.agg #[(vi vrule1), (vi vfrom1)]), (vb ok1)]) w0 ∧
 Br (!ok1)
  (∀ (H1 : NP) (w2 : World), Hst w0 None w0 H1 w2 →
  ∃ C1 : WP, C1 w2.drew ∧ ∀ w3, w3 = w2.drew →
  ∃ v3 : Option Addr, (∀ w', C1 w' → w'.cell? cap1 = some (vp v3)) ∧
  ∃ a2 : Addr, v3 = some a2 ∧
  ∃ v4 : Option Nat, (∀ w', C1 w' → w'.cell? (a2.add 2) = some (.map v4)) ∧
  ∃ v5 : Int, (∀ w', C1 w' → w'.cell? cap2 = some (vi v5)) ∧
  ∃ w4 : World, (Instr.mapUpdate 107 (.map v4) (vi t1) (.agg #[(vi rule1), (vi v5)])).run Tryz.prog w3 = .ok () w4 ∧
  Kept H1 w3 w4 ∧
  ∃ C2 : WP, C2 w4.drew ∧ ∀ w5, w5 = w4.drew →
  ∃ v6 : Option Addr, (∀ w', C2 w' → w'.cell? cap1 = some (vp v6)) ∧
  ∃ v7 : Option Addr, (∀ w', C2 w' → w'.cell? cap1 = some (vp v7)) ∧
  ∃ a3 : Addr, v7 = some a3 ∧
  ∃ v8 : Sl, (∀ w', C2 w' → w'.cell? (a3.add 3) = some v8.v) ∧
  ∀ (p2 : Addr) (w6 : World), New w5 (.cells #[(vi t1)] 30) p2 w6 → C2 w6 ∧
  ∃ s1 : Sl, ∃ w7 : World, (Builtin.append_ #[52, 52] 52 #[v8.v, (Sl.mk (some p2) 1 1).v]).run Tryz.prog w6 = .ok s1.v w7 ∧ C2 w7 ∧
  Kept H1 w6 w7 ∧
  ∃ a4 : Addr, v6 = some a4 ∧
  CanW w7 (a4.add 3) ∧ ¬ H1 (a4.add 3).block ∧ ∀ w8 : World, w8 = w7.setCell (a4.add 3) s1.v →
  K w8)
  (∀ (H1 : NP) (w2 : World), Hst w0 None w0 H1 w2 →
  K w2)
theorem w_M2 (t1 rule1 : Int) (cap1 cap2 : Addr) (w0 : World) (K : WP) (h : m_M2 t1 rule1 cap1 cap2 w0 K) :
  Calls Tryz.prog 97 #[(vi t1), (vi rule1), (vp (some cap1)), (vp (some cap2))] w0 (fun e w' => e = .returned (.tuple #[]) ∧ K  w') := by
 unfold m_M2 at h
 refine cw (args := [(vi t1), (vi rule1), (vp (some cap1)), (vp (some cap2))]) Tryz.func97 Tryz.ntmps97 ?_
 have hs := Hst.start w0
 have hb := HB.nil None w0
 refine wpE_seq (rg ?_)
 obtain ⟨v1, hv11, h⟩ := h
 refine q2 (vp v1) (xl (Tryz.isAgg55 _) hv11) ?_
 obtain ⟨a1, hp1, h⟩ := h
 refine q2 (vp (some a1)) (x_nilCheck (p := v1) (by kernel_rfl) hp1) (q0 (vp (some (a1.add 2))) ?_)
 obtain ⟨v2, hv10, h⟩ := h
 refine q2 (.map v2) (xl (Tryz.isAgg107 _) hv10) (q0 (vi t1) ?_)
 obtain ⟨vrule1, vfrom1, ok1, hv9, h⟩ := h
 refine q2 (.tuple #[(.agg #[(vi vrule1), (vi vfrom1)]), (vb ok1)]) (x_lookup (by kernel_rfl) (by kernel_rfl) hv9) (q0 (.tuple #[(.agg #[(vi vrule1), (vi vfrom1)]), (vb ok1)]) (q0 (.agg #[(vi vrule1), (vi vfrom1)]) (q0 (vb ok1) (sn (O := (.cells #[(vi 0), (vi 0)] 113)) (x_alloc (Tryz.zeroValue113 _) rfl) ?_))))
 intro p1 w1 hn1
 obtain ⟨H1, hs, hb⟩ := hs.alloc hb hn1
 refine st_set (want0 rfl) (x_storeA (a := p1) (vs := [(vi vrule1), (vi vfrom1)]) (by kernel_rfl) (by kernel_rfl) rfl (Tryz.sizeOf113 _) rfl (hb.canWs0 0 2 gZ (by kernel_rfl))) ?_
 intro w2 hn2
 have hsb : Hst w0 None w0 H1 w2 ∧ HB H1 w2 [(p1, [(vi vrule1), (vi vfrom1)], 113)] := by
  rw [hn2]
  exact hb.store0 (i := 0) (vs := [(vi vrule1), (vi vfrom1)]) hs gZ (by kernel_rfl) (by kernel_rfl)
 obtain ⟨hs, hb⟩ := hsb
 refine q0 (vb ok1) (wpL_nil (th_n (wpE_seq (rg (q0 (vb ok1) (q0 (vb (!ok1)) (wpL_nil (th_n ?_))))))))
 refine wpE_cond (t := (!ok1)) (by kernel_rfl) (fun hc1 => ?_) (fun hc1 => ?_)
 ·have h := h.1 hc1
  refine wpE_seq ?_
  have h := h H1 w2 hs
  have hs := hs.here
  obtain ⟨C1, hC, h⟩ := h
  refine wpE_drawnC (fun x => C1 x ∧ HB H1 x [(p1, [(vi vrule1), (vi vfrom1)], 113)]) [8] [8] (by kernel_rfl) (by kernel_rfl) (by kernel_rfl) (by kernel_rfl) ⟨hC, hb.drew⟩ ?_
  intro w3 hw3
  have h := h w3 hw3
  have hs : Hst w0 H1 w2 H1 w3 := by rw [hw3]; exact hs.drew
  have hb : HB H1 w3 [(p1, [(vi vrule1), (vi vfrom1)], 113)] := by rw [hw3]; exact hb.drew
  have hs := hs.here
  refine qg 0 ?_
  obtain ⟨v3, hv8, h⟩ := h
  refine sy (v := (vp v3)) Kp0 (fun w' hw' => (xl (Tryz.isAgg55 _) (hv8 w' hw'.1))) (qg 1 ?_)
  obtain ⟨a2, hp2, h⟩ := h
  refine sy (v := (vp (some a2))) Kp1 (fun _ _ => (x_nilCheck (p := v3) (by kernel_rfl) hp2)) (qx 2 (vp (some (a2.add 2))) Kp2 (qg 3 ?_))
  obtain ⟨v4, hv7, h⟩ := h
  refine sy (v := (.map v4)) Kp3 (fun w' hw' => (xl (Tryz.isAgg107 _) (hv7 w' hw'.1))) (qx 4 (vi t1) Kp4 (qx 5 (vi rule1) Kp5 (qg 6 ?_)))
  obtain ⟨v5, hv6, h⟩ := h
  refine sy (v := (vi v5)) Kp6 (fun w' hw' => (xl (Tryz.isAgg30 _) (hv6 w' hw'.1))) (qx 7 (.agg #[(vi rule1), (vi v5)]) Kp7 (lg 8 ?_))
  obtain ⟨w4, hv5, hk, h⟩ := h
  refine sl_skip Kp8 (want0 rfl) (by kernel_rfl) (x_mapUpdate (by kernel_rfl) (by kernel_rfl) (by kernel_rfl) hv5) (.inl (by kernel_rfl)) ?_
  obtain ⟨hs, hb⟩ := hk.hh hs hb
  refine wn (th_n ?_)
  obtain ⟨C2, hC, h⟩ := h
  refine wpE_drawnC (fun x => C2 x ∧ HB H1 x [(p1, [(vi vrule1), (vi vfrom1)], 113)]) [6, 7, 10] [10] (by kernel_rfl) (by kernel_rfl) (by kernel_rfl) (by kernel_rfl) ⟨hC, hb.drew⟩ ?_
  intro w5 hw5
  have h := h w5 hw5
  have hs : Hst w0 H1 w4 H1 w5 := by rw [hw5]; exact hs.drew
  have hb : HB H1 w5 [(p1, [(vi vrule1), (vi vfrom1)], 113)] := by rw [hw5]; exact hb.drew
  have hs := hs.here
  refine qg 0 ?_
  obtain ⟨v6, hv4, h⟩ := h
  refine sy (v := (vp v6)) Kp0 (fun w' hw' => (xl (Tryz.isAgg55 _) (hv4 w' hw'.1))) (qg 1 ?_)
  obtain ⟨v7, hv3, h⟩ := h
  refine sy (v := (vp v7)) Kp1 (fun w' hw' => (xl (Tryz.isAgg55 _) (hv3 w' hw'.1))) (qg 2 ?_)
  obtain ⟨a3, hp3, h⟩ := h
  refine sy (v := (vp (some a3))) Kp2 (fun _ _ => (x_nilCheck (p := v7) (by kernel_rfl) hp3)) (qx 3 (vp (some (a3.add 3))) Kp3 (qg 4 ?_))
  obtain ⟨v8, hv2, h⟩ := h
  refine sy (v := v8.v) Kp4 (fun w' hw' => (xl (Tryz.isAgg52 _) (hv2 w' hw'.1))) (qx 5 (vi t1) Kp5 (lg 6 (sl_new (O := (.cells #[(vi t1)] 30)) (fun p => (Sl.mk (some p) 1 1).v) Kp6 (want0 rfl) (by kernel_rfl) (x_buildSlice (vs := #[(0, (vi t1))]) (by kernel_rfl) (by kernel_rfl)) ?_)))
  intro p2 w6 hn4
  have h := h p2 w6 hn4
  refine ⟨.inr ⟨h.1, hb.kept (Ext.new (F := None) hn4).keptP⟩, ?_⟩
  have h := h.2
  have hs := hs.again (Ext.new (F := None) hn4).keptP
  have hb := hb.kept (Ext.new (F := None) hn4).keptP
  refine lg 7 ?_
  obtain ⟨s1, w7, hv1, hC, hk, h⟩ := h
  refine sl (v := s1.v) Kp7 (want0 rfl) (by kernel_rfl) (x_builtin (args := #[v8.v, (Sl.mk (some p2) 1 1).v]) (by kernel_rfl) (fun _ => rfl) hv1) (.inr ⟨hC, hb.kept hk⟩) ?_
  obtain ⟨hs, hb⟩ := hk.hh hs hb
  refine qg 8 ?_
  obtain ⟨a4, hp4, h⟩ := h
  refine sy (v := (vp (some a4))) Kp8 (fun _ _ => (x_nilCheck (p := v6) (by kernel_rfl) hp4)) (qx 9 (vp (some (a4.add 3))) Kp9 (lg 10 ?_))
  obtain ⟨hp5, hnh, h⟩ := h
  refine sl_t (pickA (S8 (pickS (pickS pickZ)))) (xs (v := s1.v) (Tryz.sizeOf52 _) hp5) ?_
  intro w8 hn3
  have h := h w8 hn3
  refine ⟨.inl (by kernel_rfl), ?_⟩
  have hk := Kept.sc hnh hn3
  obtain ⟨hs, hb⟩ := hk.hh hs hb
  refine wn (res0 (.inr rfl) Tryz.results97 ?_)
  exact ⟨rfl, h⟩
 ·have h := h.2 hc1
  refine wpE_skip ?_
  have h := h H1 w2 hs
  have hs := hs.here
  refine res0 (.inr rfl) Tryz.results97 ?_
  exact ⟨rfl, h⟩
end Go.Proofs
end
