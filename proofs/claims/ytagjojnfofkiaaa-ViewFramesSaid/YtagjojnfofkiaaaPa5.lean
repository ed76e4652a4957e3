import Derived.Test.YtagjojnfofkiaaaProg
import Derived.KernelRfl
import Derived.Test.YtagjojnfofkiaaaPa1
import Derived.Test.YtagjojnfofkiaaaPa4
import Derived.Test.YtagjojnfofkiaaaPa3
import Derived.Test.YtagjojnfofkiaaaPa2
section
open Go Go.SE
namespace Go.Proofs
set_option maxRecDepth 100000
set_option maxHeartbeats 4000000
attribute [local irreducible] wpL wpX opE wpE Calls
def m_Q1_l1 (l1 : Sl) (n1 i1 : Int) (wl1 : World) (Kc1 : Int → Int → World → Prop) (K : Bool → World → Prop) : Prop :=
 Br ((decide (i1 < (l1.len : Int))) && (decide (i1 ≤ 10)))
  (∃ a1 : Addr, At l1 i1 6 a1 ∧
  ∃ bC bD : Int, ∃ bE bF : Int, ∃ bG : ByteArray, ∃ bJ : Sl, Row wl1 a1 [(vi bC), (vi bD), (vi bE), (vu bF), (vs bG), bJ.v] ∧
  Calls Try.prog 34 #[(.agg #[(vi bC), (vi bD), (vi bE), (vu bF), (vs bG), bJ.v]), (vi 400)] wl1 (fun e w2 => ∃ r1 : Int, e = .returned (vi r1) ∧ 
   Br (decide ((IntKind.i64.wrap (n1 + r1)) ≥ 400))
    (K true w2)
    (Kc1 (IntKind.i64.wrap (n1 + r1)) (IntKind.i64.wrap (i1 + 1)) w2)))
  (K (decide ((l1.len : Int) > 10)) wl1)
def m_Q1 (l1 : Sl) (w0 : World) (K : Bool → World → Prop) : Prop :=
 ∃ (I1 : Int → Int → World → Prop) (mu1 : Int → Int → World → Nat), I1 0 0 w0 ∧
  ∀ (n1 i1 : Int) (wl1 : World), I1 n1 i1 wl1 → m_Q1_l1 l1 n1 i1 wl1 (fun y'0 y'1 w' => I1 y'0 y'1 w' ∧ mu1 y'0 y'1 w' < mu1 n1 i1 wl1) K
theorem w_Q1 (l1 : Sl) (w0 : World) (K : Bool → World → Prop) (h : m_Q1 l1 w0 K) :
  Calls Try.prog 7 #[l1.v] w0 (fun e w' => ∃ r2 : Bool, e = .returned (vb r2) ∧ K r2 w') := by
 unfold m_Q1 at h
 refine cw (args := [l1.v]) Try.func7 Try.ntmps7 (wpE_seq (rg (q0 (vb false) (wpL_nil (th_n (wpE_seq (rg (q0 (vi 0) (wpL_nil (th_n (wpE_seq ?_)))))))))))
 refine wpE_seq (rg (q0 (vi 0) (wpL_nil (th_n (wpE_block ?_)))))
 obtain ⟨I1, mu1, h0, hr⟩ := h
 refine wpE_loop (σ := Int × Int × World) (fun s ρ w => w = s.2.2 ∧ Has ρ [(0, l1.v), (3, (vi s.1)), (4, (vi s.2.1))] ∧ I1 s.1 s.2.1 s.2.2) (fun s => mu1 s.1 s.2.1 s.2.2) (0, 0, w0) ⟨rfl, hm, h0⟩ ?_
 rintro ⟨n1, i1, wl1⟩ ρ w ⟨hw, hH, hI⟩
 obtain rfl : wl1 = w := (show w = wl1 from hw).symm
 replace hH : Has ρ [(0, l1.v), (3, (vi n1)), (4, (vi i1))] := hH
 have h := hr n1 i1 wl1 hI
 clear hr h0
 unfold m_Q1_l1 at h
 refine wpE_has hH ?_
 clear hH hI
 refine wpE_seq (wpE_seq ?_)
 refine wpE_via (fun ρ wJ => ∃ b1'0 : Bool, ((decide (i1 < (l1.len : Int))) = b1'0) ∧ wl1 = wJ ∧ Has ρ [(0, l1.v), (3, (vi n1)), (4, (vi i1)), (12, (vb (b1'0 && (decide (i1 ≤ 10)))))]) ?_ ?_
 ·skip
  refine rg (q0 (vi i1) (q0 l1.v (q0 (vi (l1.len : Int)) (q0 (vb (decide (i1 < (l1.len : Int)))) (q0 (vb (decide (i1 < (l1.len : Int)))) ?_)))))
  rcases Bool.eq_false_or_eq_true (decide (i1 < (l1.len : Int))) with hg2 | hg2
  ·skip
   refine q1 (vi i1) (want1 rfl (yD 9 hg2)) (q1 (vb (decide (i1 ≤ 10))) (want1 rfl (yD 9 hg2)) (q2 (vb (decide (i1 ≤ 10))) (xT hg2) (wpL_nil (th_n ?_))))
   exact ⟨true, hg2, rfl, hm⟩
  ·skip
   refine sk (yD 9 hg2) (sk (yD 9 hg2) (q2 (vb false) (xF hg2) (wpL_nil (th_n ?_))))
   exact ⟨false, hg2, rfl, hm⟩
 ·rintro ρ w1 ⟨b1'0, he0, hw, hH⟩
  subst he0
  subst hw
  refine norm_has hH ?_
  clear hH
  refine th_n ?_
  refine wpE_cond (t := ((decide (i1 < (l1.len : Int))) && (decide (i1 ≤ 10)))) (by kernel_rfl) (fun hc1 => ?_) (fun hc1 => ?_)
  ·replace h := h.1 hc1
   refine wpE_skip (th_n (wpE_seq (wpE_block (wpE_seq (rg (q0 (vi n1) (q0 l1.v (q0 (vi i1) ?_))))))))
   obtain ⟨a1, hv2, h⟩ := h
   refine q2 (vp (some a1)) (xi (Try.runUnderlying22 _) (Try.sizeOf63 _) hv2) ?_
   obtain ⟨bC, bD, bE, bF, bG, bJ, hv1, h⟩ := h
   refine q2 (.agg #[(vi bC), (vi bD), (vi bE), (vu bF), (vs bG), bJ.v]) (x_loadA (a := a1) (vs := [(vi bC), (vi bD), (vi bE), (vu bF), (vs bG), bJ.v]) (by kernel_rfl) (Try.isAgg63 _) (Try.sizeOf63 _) rfl hv1) ?_
   refine sc Try.call34 (h.mono ?_)
   rintro e w2 ⟨r1, rfl, h⟩
   refine ⟨_, rfl, ?_⟩
   refine q0 (vi (IntKind.i64.wrap (n1 + r1))) (q0 (vi (IntKind.i64.wrap (n1 + r1))) (wpL_nil (th_n (wpE_seq (rg (q0 (vi (IntKind.i64.wrap (n1 + r1))) (q0 (vb (decide ((IntKind.i64.wrap (n1 + r1)) ≥ 400))) (wpL_nil (th_n ?_)))))))))
   refine wpE_cond (t := (decide ((IntKind.i64.wrap (n1 + r1)) ≥ 400))) (by kernel_rfl) (fun hc2 => ?_) (fun hc2 => ?_)
   ·replace h := h.1 hc2
    refine wpE_seq (rg (q0 (vb true) (wpL_nil (th_n (wpE_ret (bl_r (th_r (th_r (bl_r (th_r (rs1 Try.results7 (v := (vb true)) ?_)))))))))))
    exact ⟨true, rfl, h⟩
   ·replace h := h.2 hc2
    refine wpE_skip (bl_n (th_n (rg (q0 (vi i1) (q0 (vi (IntKind.i64.wrap (i1 + 1))) (q0 (vi (IntKind.i64.wrap (i1 + 1))) (wpL_nil (th_n ?_))))))))
    exact ⟨((IntKind.i64.wrap (n1 + r1)), (IntKind.i64.wrap (i1 + 1)), w2), ⟨rfl, hm, h.1⟩, h.2⟩
  ·replace h := h.2 hc1
   refine wpE_exit (th_x (th_x (bl_eq (th_n (wpE_seq (rg (q0 l1.v (q0 (vi (l1.len : Int)) (q0 (vb (decide ((l1.len : Int) > 10))) (q0 (vb (decide ((l1.len : Int) > 10))) (wpL_nil ?_)))))))))))
   refine th_n (wpE_ret (rs1 Try.results7 (v := (vb (decide ((l1.len : Int) > 10)))) ?_))
   exact ⟨(decide ((l1.len : Int) > 10)), rfl, h⟩
def s_W1 (who1 : Int) : Bool :=
 ((decide (who1 ≥ 0)) && (decide (who1 < 16)))
theorem pw_W1 (who1 : Int) (w0 : World) :
  Calls Try.prog 48 #[(vi who1)] w0 (fun e w' => (e = .returned (vb ((decide (who1 ≥ 0)) && (decide (who1 < 16))))) ∧ Pure w0 w') := by
 refine cw (args := [(vi who1)]) Try.func48 Try.ntmps48 (wpE_seq (rg (q0 (vb false) (wpL_nil (th_n (wpE_seq ?_))))))
 refine wpE_via (fun ρ wJ => w0 = wJ ∧ Has ρ [(2, (vb ((decide (who1 ≥ 0)) && (decide (who1 < 16)))))]) ?_ ?_
 ·skip
  refine rg (q0 (vi who1) (q0 (vb (decide (who1 ≥ 0))) (q0 (vb (decide (who1 ≥ 0))) ?_)))
  refine wpL_join 3 (fun ρ wJ => ∃ b3'0 : Bool, ((decide (who1 ≥ 0)) = b3'0) ∧ w0 = wJ ∧ Has ρ [(8, (vb (b3'0 && (decide (who1 < 16)))))]) ?_ ?_
  ·rintro ρ w3 ⟨b3'0, he0, hw, hH⟩
   subst he0
   subst hw
   refine wpL_has hH ?_
   clear hH
   refine q0 (vb ((decide (who1 ≥ 0)) && (decide (who1 < 16)))) (wpL_nil (th_n ?_))
   exact ⟨rfl, hm⟩
  ·skip
   rcases Bool.eq_false_or_eq_true (decide (who1 ≥ 0)) with hg4 | hg4
   ·skip
    refine q1 (vi who1) (want1 rfl (yD 5 hg4)) (q1 (vb (decide (who1 < 16))) (want1 rfl (yD 5 hg4)) (q2 (vb (decide (who1 < 16))) (xT hg4) (wpL_nil ?_)))
    exact ⟨true, hg4, rfl, hm⟩
   ·skip
    refine sk (yD 5 hg4) (sk (yD 5 hg4) (q2 (vb false) (xF hg4) (wpL_nil ?_)))
    exact ⟨false, hg4, rfl, hm⟩
 ·rintro ρ w2 ⟨hw, hH⟩
  subst hw
  refine norm_has hH ?_
  clear hH
  refine th_n (wpE_ret (rs1 Try.results48 (v := (vb ((decide (who1 ≥ 0)) && (decide (who1 < 16))))) ?_))
  exact ⟨by kernel_rfl, Ext.refl _⟩
theorem p_W1 (who1 : Int) (w0 : World) : Calls Try.prog 48 #[(.int .i64 who1)] w0 (fun e w' => e = .returned (.bool (s_W1 who1)) ∧ Pure w0 w') := pw_W1 who1 w0
def m_C2 (p1 : Option Addr) (who1 t1 : Int) (turn1 : Value) (w0 : World) (K : Int → Int → World → Prop) : Prop :=
 ∀ (p2 : Addr) (w1 : World), New w0 (.cells #[(vp p1)] 28) p2 w1 →
 turn1.cells = #[turn1] ∧
 ∀ (p3 : Addr) (w2 : World), New w1 (.cells #[turn1] 81) p3 w2 →
 ∀ (p4 : Addr) (w3 : World), New w2 (.cells #[(vi 0)] 23) p4 w3 →
 ∀ (p5 : Addr) (w4 : World), New w3 (.cells #[(vi 0)] 32) p5 w4 →
 ∃ v1 : Option Addr, w4.cell? p2 = some (vp v1) ∧
 Br (Option.isNone v1)
  (CanW w4 p4 ∧ ¬ None p4.block ∧ ∀ w5 : World, w5 = w4.setCell p4 (vi 0) →
  CanW w5 p5 ∧ ¬ None p5.block ∧ ∀ w6 : World, w6 = w5.setCell p5 (vi 7) →
  ∃ cF : Int, w6.cell? p4 = some (vi cF) ∧
  ∃ cG : Int, w6.cell? p5 = some (vi cG) ∧
  K cF cG w6)
  (Br (!((decide (who1 ≥ 0)) && (decide (who1 < 16))))
   (∀ (w7 : World), Hst w0 None w4 None w7 →
   CanW w7 p4 ∧ ¬ None p4.block ∧ ∀ w8 : World, w8 = w7.setCell p4 (vi 0) →
   CanW w8 p5 ∧ ¬ None p5.block ∧ ∀ w9 : World, w9 = w8.setCell p5 (vi 50) →
   ∃ cH : Int, w9.cell? p4 = some (vi cH) ∧
   ∃ cI : Int, w9.cell? p5 = some (vi cI) ∧
   K cH cI w9)
   (∀ (w7 : World), Hst w0 None w4 None w7 →
   ∃ v2 : Option Addr, w7.cell? p2 = some (vp v2) ∧
   Calls Try.prog 44 #[(vp v2), (vi t1)] w7 (fun e w10 => ∃ aA aC : Int, ∃ aD aE : Int, ∃ aF : ByteArray, ∃ aI aG : Int, ∃ r1 : Bool, e = .returned (.tuple #[(.agg #[(vi aA), (vi aC), (vi aD), (vu aE), (vs aF), (vi aI), (vi aG)]), (vb r1)]) ∧ 
    Kept None w7 w10 ∧
    Br (!r1)
     (∀ (H1 : Nat → Prop) (w12 : World), Hst w0 None w10 H1 w12 →
     CanW w12 p4 ∧ ¬ H1 p4.block ∧ ∀ w13 : World, w13 = w12.setCell p4 (vi 0) →
     CanW w13 p5 ∧ ¬ H1 p5.block ∧ ∀ w14 : World, w14 = w13.setCell p5 (vi 51) →
     ∃ cJ : Int, w14.cell? p4 = some (vi cJ) ∧
     ∃ cK : Int, w14.cell? p5 = some (vi cK) ∧
     K cJ cK w14)
     (∀ (H1 : Nat → Prop) (w12 : World), Hst w0 None w10 H1 w12 →
     ∀ (p7 : Addr) (w15 : World), New w12 (.map #[] 0) p7 w15 →
     ∀ (p8 : Addr) (w16 : World), New w15 (.cells #[(.map none)] 91) p8 w16 →
     CanW w16 p8 ∧ ¬ H1 p8.block ∧ ∀ w17 : World, w17 = w16.setCell p8 (.map (some p7.block)) →
     ∃ v3 : Option Addr, w17.cell? p2 = some (vp v3) ∧
     Calls Try.prog 45 #[(vp v3), (vi t1)] w17 (fun e w18 => ∃ r2 : Value, e = .returned r2 ∧ 
      Kept H1 w17 w18 ∧
      ∃ (f1 : FuncId) (cs1 : Array Value), r2 = .func (.func f1) #[] cs1 ∧ (∀ args w, (callFunc f1 args).run Try.prog w = .ok (.enter f1 args) w) ∧
      ∃ (xs1 : List (Int)) (Rd1 : World → Prop), IterC Try.prog f1 cs1 (fun (z2 : Int) => #[(vi z2)]) xs1 Rd1 w18 ∧
      ∃ (I1 Ir1 : List (Int) → (Nat → Prop) → World → Prop), RngI w0 Rd1 I1 (fun _ _ _ => False) Ir1 ∧ I1 [] H1 w18 ∧
      (∀ (pre1 : List (Int)) (z2 : Int) (Y1 : Nat → Prop) (A1 : World), I1 pre1 Y1 A1 → Hst w0 Y1 A1 Y1 A1 → (∃ post, xs1 = pre1 ++ z2 :: post) →
       ∃ v4 : Option Addr, A1.cell? p2 = some (vp v4) ∧
       Calls Try.prog 44 #[(vp v4), (vi z2)] A1 (fun e w19 => ∃ aL aN : Int, ∃ aM aO : Int, ∃ aT : ByteArray, ∃ aW aU : Int, ∃ r3 : Bool, e = .returned (.tuple #[(.agg #[(vi aL), (vi aN), (vi aM), (vu aO), (vs aT), (vi aW), (vi aU)]), (vb r3)]) ∧ 
        Kept None A1 w19 ∧
        ∀ (p9 : Addr) (w20 : World), New w19 (.cells #[(vi 0), (vi 0), (vi 0), (vu 0), (vs ⟨#[]⟩), (vi 0), (vi 0)] 41) p9 w20 →
        (∀ j, j < 7 → CanW w20 (p9.add j)) ∧ ¬ None p9.block ∧ ∀ w21 : World, w21 = storeRow w20 p9 [(vi aL), (vi aN), (vi aM), (vu aO), (vs aT), (vi aW), (vi aU)] →
        ∃ C1 : World → Prop, C1 w21.drew ∧ ∀ w22, w22 = w21.drew →
        ∃ v5 : Option Nat, w22.cell? p8 = some (.map v5) ∧
        ∃ v6 : Int, w22.cell? (p9.add 5) = some (vi v6) ∧
        ∃ v7 : Int, (Instr.lookup 91 (.map v5) (vi v6) false).run Try.prog w22 = .ok (vi v7) w22 ∧
        ∃ v8 : Option Nat, (∀ w', C1 w' → w'.cell? p8 = some (.map v8)) ∧
        ∃ v9 : Int, w22.cell? (p9.add 6) = some (vi v9) ∧
        ∃ v10 : Int, (∀ w', C1 w' → (Instr.lookup 91 (.map v8) (vi v9) false).run Try.prog w' = .ok (vi v10) w') ∧
        CanW w22 (p9.add 5) ∧ ¬ None (p9.add 5).block ∧ ∀ w23 : World, w23 = w22.setCell (p9.add 5) (vi v7) → C1 w23 ∧
        CanW w23 (p9.add 6) ∧ ¬ None (p9.add 6).block ∧ ∀ w24 : World, w24 = w23.setCell (p9.add 6) (vi v10) →
        ∃ C2 : World → Prop, C2 w24.drew ∧ ∀ w25, w25 = w24.drew →
        ∃ v11 : Option Addr, (∀ w', C2 w' → w'.cell? p2 = some (vp v11)) ∧
        ∃ v12 : Value, w25.cell? p3 = some v12 ∧
        ∃ bC bD : Int, ∃ bE bF : Int, ∃ bG : ByteArray, ∃ cL cM : Int, Row w25 p9 [(vi bC), (vi bD), (vi bE), (vu bF), (vs bG), (vi cL), (vi cM)] ∧
        ∃ (f2 : FuncId) (fs1 cs2 : Array Value), v12 = .func (.func f2) fs1 cs2 ∧
        (∀ args w, (callFunc f2 args).run Try.prog w = .ok (.enter f2 args) w) ∧ Calls Try.prog f2 (fs1 ++ #[(.agg #[(vi bC), (vi bD), (vi bE), (vu bF), (vs bG), (vi cL), (vi cM)])] ++ cs2) w25 (fun e w26 => ∃ cA cB : Int, ∃ cC cD : Int, ∃ cE : ByteArray, ∃ cT cU : Int, e = .returned (.agg #[(vi cA), (vi cB), (vi cC), (vu cD), (vs cE), (vi cT), (vi cU)]) ∧ C2 w26 ∧ 
         Kept None w25 w26 ∧
         Calls Try.prog 59 #[(vp v11), (.agg #[(vi cA), (vi cB), (vi cC), (vu cD), (vs cE), (vi cT), (vi cU)])] w26 (fun e w27 => ∃ r4 r5 : Int, e = .returned (.tuple #[(vi r4), (vi r5)]) ∧ C2 w27 ∧ 
          Kept None w26 w27 ∧
          Br (r5 != 0)
           (CanW w27 p4 ∧ ¬ None p4.block ∧ ∀ w28 : World, w28 = w27.setCell p4 (vi 0) →
           CanW w28 p5 ∧ ¬ None p5.block ∧ ∀ w29 : World, w29 = w28.setCell p5 (vi r5) →
           Kept Y1 A1 w29 ∧ Ir1 (pre1 ++ [z2]) Y1 w29)
           (∃ v13 : Option Nat, w27.cell? p8 = some (.map v13) ∧
           ∃ w30 : World, (Instr.mapUpdate 91 (.map v13) (vi z2) (vi r4)).run Try.prog w27 = .ok () w30 ∧
           Kept None w27 w30 ∧
           Kept Y1 A1 w30 ∧ I1 (pre1 ++ [z2]) Y1 w30))))) ∧
      (∀ (H2 : Nat → Prop) (w31 : World), Hst w0 H2 w31 H2 w31 → (∀ b, H1 b → H2 b) → Kept H1 w18 w31 → I1 xs1 H2 w31 →
       ∃ v14 : Option Nat, w31.cell? p8 = some (.map v14) ∧
       ∃ v15 : Int, (Instr.lookup 91 (.map v14) (vi t1) false).run Try.prog w31 = .ok (vi v15) w31 ∧
       CanW w31 p4 ∧ ¬ H2 p4.block ∧ ∀ w32 : World, w32 = w31.setCell p4 (vi v15) →
       CanW w32 p5 ∧ ¬ H2 p5.block ∧ ∀ w33 : World, w33 = w32.setCell p5 (vi 0) →
       ∀ (w34 : World), Hst w0 H2 w33 H2 w34 →
       ∃ cN : Int, w34.cell? p4 = some (vi cN) ∧
       ∃ cO : Int, w34.cell? p5 = some (vi cO) ∧
       K cN cO w34) ∧
      (∀ (pre2 : List (Int)) (H3 : Nat → Prop) (w36 : World), Hst w0 H3 w36 H3 w36 → Ir1 pre2 H3 w36 →
       ∃ cP : Int, w36.cell? p4 = some (vi cP) ∧
       ∃ cQ : Int, w36.cell? p5 = some (vi cQ) ∧
       K cP cQ w36))))))
theorem w_C2 (p1 : Option Addr) (who1 t1 : Int) (turn1 : Value) (w0 : World) (K : Int → Int → World → Prop) (h : m_C2 p1 who1 t1 turn1 w0 K) :
  Calls Try.prog 42 #[(vp p1), (vi who1), (vi t1), turn1] w0 (fun e w' => ∃ r6 r7 : Int, e = .returned (.tuple #[(vi r6), (vi r7)]) ∧ K r6 r7 w') := by
 unfold m_C2 at h
 refine cw (args := [(vp p1), (vi who1), (vi t1), turn1]) Try.func42 Try.ntmps42 ?_
 have hs := Hst.start w0
 have hb := HB.nil None w0
 refine wpE_seq (rg (sn (O := (.cells #[(vp p1)] 28)) xb ?_))
 intro p2 w1 hn23
 replace h := h p2 w1 hn23
 replace hs := hs.again (Ext.new (F := None) hn23).keptP
 replace hb := hb.kept (Ext.new (F := None) hn23).keptP
 obtain ⟨hcl1, h⟩ := h
 refine sn (O := (.cells #[turn1] 81)) (x_box (Eq.trans (b := turn1.cells) (by kernel_rfl) hcl1)) ?_
 intro p3 w2 hn22
 replace h := h p3 w2 hn22
 replace hs := hs.again (Ext.new (F := None) hn22).keptP
 replace hb := hb.kept (Ext.new (F := None) hn22).keptP
 refine sn (O := (.cells #[(vi 0)] 23)) (x_alloc (Try.zeroValue23 _) rfl) ?_
 intro p4 w3 hn21
 replace h := h p4 w3 hn21
 replace hs := hs.again (Ext.new (F := None) hn21).keptP
 replace hb := hb.kept (Ext.new (F := None) hn21).keptP
 refine sn (O := (.cells #[(vi 0)] 32)) (x_alloc (Try.zeroValue32 _) rfl) ?_
 intro p5 w4 hn20
 replace h := h p5 w4 hn20
 replace hs := hs.again (Ext.new (F := None) hn20).keptP
 replace hb := hb.kept (Ext.new (F := None) hn20).keptP
 refine wpL_nil (th_n (wpE_seq (wpE_seq (rg ?_))))
 obtain ⟨v1, hv28, h⟩ := h
 refine q2 (vp v1) (xl (Try.isAgg28 _) hv28) (q2 (vb (Option.isNone v1)) (x_ptreq (by kernel_rfl) rfl Try.underlying28) (wpL_nil (th_n ?_)))
 refine wpE_cond (t := (Option.isNone v1)) (by kernel_rfl) (fun hc1 => ?_) (fun hc1 => ?_)
 ·replace h := h.1 hc1
  refine wpE_seq (rg ?_)
  obtain ⟨hp1, hnh, h⟩ := h
  refine st_set (want0 rfl) (x_store (a := p4) (v := (vi 0)) (by kernel_rfl) (by kernel_rfl) rfl (Try.sizeOf23 _) hp1) ?_
  intro w5 hn1
  replace h := h w5 hn1
  have hk : Kept None w4 w5 := by rw [hn1]; exact Kept.setCell hnh
  obtain ⟨hs, hb⟩ := hk.hh hs hb
  clear hk hnh
  obtain ⟨hp2, hnh, h⟩ := h
  refine st_set (want0 rfl) (x_store (a := p5) (v := (vi 7)) (by kernel_rfl) (by kernel_rfl) rfl (Try.sizeOf32 _) hp2) ?_
  intro w6 hn2
  replace h := h w6 hn2
  have hk : Kept None w5 w6 := by rw [hn2]; exact Kept.setCell hnh
  obtain ⟨hs, hb⟩ := hk.hh hs hb
  clear hk hnh
  refine wpL_nil (th_n (wpE_ret (th_r ?_)))
  obtain ⟨cF, hv1, h⟩ := h
  obtain ⟨cG, hv2, h⟩ := h
  refine resG (.inl rfl) (vs := [(vi cF), (vi cG)]) (v := (.tuple #[(vi cF), (vi cG)])) Try.results42 ⟨(RV.cell1 (A := p4) (by kernel_rfl) (Try.isAgg23 _) hv1), (RV.cell1 (A := p5) (by kernel_rfl) (Try.isAgg32 _) hv2), trivial⟩ (by kernel_rfl) ?_
  exact ⟨cF, cG, rfl, h⟩
 ·replace h := h.2 hc1
  refine wpE_skip (th_n (wpE_seq (wpE_seq (rg (q0 (vi who1) ?_)))))
  refine sc Try.call48 ((p_W1 who1 w4).mono ?_)
  rintro e w7 ⟨he, hE⟩
  refine ⟨(vb ((decide (who1 ≥ 0)) && (decide (who1 < 16)))), he.trans (by kernel_rfl), ?_⟩
  replace hs := hs.pure hE
  replace hb := hb.pure hE
  clear hE he
  refine q0 (vb (!((decide (who1 ≥ 0)) && (decide (who1 < 16))))) (wpL_nil (th_n ?_))
  refine wpE_cond (t := (!((decide (who1 ≥ 0)) && (decide (who1 < 16))))) (by kernel_rfl) (fun hc2 => ?_) (fun hc2 => ?_)
  ·replace h := h.1 hc2
   refine wpE_seq (rg ?_)
   replace h := h w7 hs
   replace hs := hs.here
   obtain ⟨hp3, hnh, h⟩ := h
   refine st_set (want0 rfl) (x_store (a := p4) (v := (vi 0)) (by kernel_rfl) (by kernel_rfl) rfl (Try.sizeOf23 _) hp3) ?_
   intro w8 hn3
   replace h := h w8 hn3
   have hk : Kept None w7 w8 := by rw [hn3]; exact Kept.setCell hnh
   obtain ⟨hs, hb⟩ := hk.hh hs hb
   clear hk hnh
   obtain ⟨hp4, hnh, h⟩ := h
   refine st_set (want0 rfl) (x_store (a := p5) (v := (vi 50)) (by kernel_rfl) (by kernel_rfl) rfl (Try.sizeOf32 _) hp4) ?_
   intro w9 hn4
   replace h := h w9 hn4
   have hk : Kept None w8 w9 := by rw [hn4]; exact Kept.setCell hnh
   obtain ⟨hs, hb⟩ := hk.hh hs hb
   clear hk hnh
   refine wpL_nil (th_n (wpE_ret (th_r ?_)))
   obtain ⟨cH, hv3, h⟩ := h
   obtain ⟨cI, hv4, h⟩ := h
   refine resG (.inl rfl) (vs := [(vi cH), (vi cI)]) (v := (.tuple #[(vi cH), (vi cI)])) Try.results42 ⟨(RV.cell1 (A := p4) (by kernel_rfl) (Try.isAgg23 _) hv3), (RV.cell1 (A := p5) (by kernel_rfl) (Try.isAgg32 _) hv4), trivial⟩ (by kernel_rfl) ?_
   exact ⟨cH, cI, rfl, h⟩
  ·replace h := h.2 hc2
   refine wpE_skip (th_n (wpE_seq (wpE_seq (rg ?_))))
   replace h := h w7 hs
   replace hs := hs.here
   obtain ⟨v2, hv27, h⟩ := h
   refine q2 (vp v2) (xl (Try.isAgg28 _) hv27) (q0 (vi t1) ?_)
   refine sc Try.call44 (h.mono ?_)
   rintro e w10 ⟨aA, aC, aD, aE, aF, aI, aG, r1, rfl, hk, h⟩
   refine ⟨_, rfl, ?_⟩
   obtain ⟨hs, hb⟩ := hk.hh hs hb
   clear hk
   refine q0 (.tuple #[(.agg #[(vi aA), (vi aC), (vi aD), (vu aE), (vs aF), (vi aI), (vi aG)]), (vb r1)]) (q0 (.agg #[(vi aA), (vi aC), (vi aD), (vu aE), (vs aF), (vi aI), (vi aG)]) (q0 (vb r1) (sn (O := (.cells #[(vi 0), (vi 0), (vi 0), (vu 0), (vs ⟨#[]⟩), (vi 0), (vi 0)] 41)) (x_alloc (Try.zeroValue41 _) rfl) ?_)))
   intro p6 w11 hn5
   obtain ⟨H1, hs, hb⟩ := hs.alloc hb hn5
   refine st_set (want0 rfl) (x_storeA (a := p6) (vs := [(vi aA), (vi aC), (vi aD), (vu aE), (vs aF), (vi aI), (vi aG)]) (by kernel_rfl) (by kernel_rfl) rfl (Try.sizeOf41 _) rfl (hb.canWs0 0 7 gZ (by kernel_rfl))) ?_
   intro w12 hn6
   have hsb : Hst w0 None w10 H1 w12 ∧ HB H1 w12 [(p6, [(vi aA), (vi aC), (vi aD), (vu aE), (vs aF), (vi aI), (vi aG)], 41)] := by
    rw [hn6]
    exact hb.store0 (i := 0) (vs := [(vi aA), (vi aC), (vi aD), (vu aE), (vs aF), (vi aI), (vi aG)]) hs gZ (by kernel_rfl) (by kernel_rfl)
   clear hs hb hn6
   obtain ⟨hs, hb⟩ := hsb
   refine q0 (vb r1) (wpL_nil (th_n (wpE_seq (rg (q0 (vb r1) (q0 (vb (!r1)) (wpL_nil (th_n ?_))))))))
   refine wpE_cond (t := (!r1)) (by kernel_rfl) (fun hc3 => ?_) (fun hc3 => ?_)
   ·replace h := h.1 hc3
    refine wpE_seq (rg ?_)
    replace h := h H1 w12 hs
    replace hs := hs.here
    obtain ⟨hp5, hnh, h⟩ := h
    refine st_set (want0 rfl) (x_store (a := p4) (v := (vi 0)) (by kernel_rfl) (by kernel_rfl) rfl (Try.sizeOf23 _) hp5) ?_
    intro w13 hn7
    replace h := h w13 hn7
    have hk : Kept H1 w12 w13 := by rw [hn7]; exact Kept.setCell hnh
    obtain ⟨hs, hb⟩ := hk.hh hs hb
    clear hk hnh
    obtain ⟨hp6, hnh, h⟩ := h
    refine st_set (want0 rfl) (x_store (a := p5) (v := (vi 51)) (by kernel_rfl) (by kernel_rfl) rfl (Try.sizeOf32 _) hp6) ?_
    intro w14 hn8
    replace h := h w14 hn8
    have hk : Kept H1 w13 w14 := by rw [hn8]; exact Kept.setCell hnh
    obtain ⟨hs, hb⟩ := hk.hh hs hb
    clear hk hnh
    refine wpL_nil (th_n (wpE_ret (th_r ?_)))
    obtain ⟨cJ, hv5, h⟩ := h
    obtain ⟨cK, hv6, h⟩ := h
    refine resG (.inl rfl) (vs := [(vi cJ), (vi cK)]) (v := (.tuple #[(vi cJ), (vi cK)])) Try.results42 ⟨(RV.cell1 (A := p4) (by kernel_rfl) (Try.isAgg23 _) hv5), (RV.cell1 (A := p5) (by kernel_rfl) (Try.isAgg32 _) hv6), trivial⟩ (by kernel_rfl) ?_
    exact ⟨cJ, cK, rfl, h⟩
   ·replace h := h.2 hc3
    refine wpE_skip (th_n (wpE_seq (rg ?_)))
    replace h := h H1 w12 hs
    replace hs := hs.here
    refine st_new (O := (.map #[] 0)) (fun p => .map (some p.block)) (want0 rfl) (by kernel_rfl) ?_
    intro p7 w15 hn19
    replace h := h p7 w15 hn19
    replace hs := hs.again (Ext.new (F := None) hn19).keptP
    replace hb := hb.kept (Ext.new (F := None) hn19).keptP
    refine sn (O := (.cells #[(.map none)] 91)) (x_alloc (Try.zeroValue91 _) rfl) ?_
    intro p8 w16 hn18
    replace h := h p8 w16 hn18
    replace hs := hs.again (Ext.new (F := None) hn18).keptP
    replace hb := hb.kept (Ext.new (F := None) hn18).keptP
    obtain ⟨hp7, hnh, h⟩ := h
    refine st_set (want0 rfl) (x_store (a := p8) (v := (.map (some p7.block))) (by kernel_rfl) (by kernel_rfl) rfl (Try.sizeOf91 _) hp7) ?_
    intro w17 hn9
    replace h := h w17 hn9
    have hk : Kept H1 w16 w17 := by rw [hn9]; exact Kept.setCell hnh
    obtain ⟨hs, hb⟩ := hk.hh hs hb
    clear hk hnh
    refine wpL_nil (th_n (wpE_seqC (rg ?_)))
    obtain ⟨v3, hv26, h⟩ := h
    refine q2 (vp v3) (xl (Try.isAgg28 _) hv26) (q0 (vi t1) ?_)
    refine sc Try.call45 (h.mono ?_)
    rintro e w18 ⟨r2, rfl, hk, h⟩
    refine ⟨_, rfl, ?_⟩
    obtain ⟨hs, hb⟩ := hk.hh hs hb
    clear hk
    refine wpL_nil (th_n ?_)
    obtain ⟨f1, cs1, hv7, hf1, h⟩ := h
    obtain ⟨xs1, Rd1, hit, I1, Ir1, hRI, h0, hbody, h⟩ := h
    refine wpB_range (encs := (fun (z2 : Int) => #[(vi z2)])) (Eq.trans (b := r2) (by kernel_rfl) hv7) hf1 hit (fun _ => rfl) (by decide) hs I1 (fun _ _ _ => False) Ir1 hRI h0 ?ha ?hr ?ht
    case ha =>
     intro l z2 w37
     refine rg (q0 (vi z2) (wpL_nil (th_n ?_)))
     refine ⟨rfl, ?_⟩
     intro pre1 Y1 A1 hi hY hpost
     replace h := hbody pre1 z2 Y1 A1 hi hY hpost
     clear hbody hs hb hi hY hpost
     have hs := Hst.start A1
     have hb := HB.nil None A1
     refine wpE_block (wpE_seq (rg ?_))
     obtain ⟨v4, hv19, h⟩ := h
     refine q2 (vp v4) (xl (Try.isAgg28 _) hv19) (q0 (vi z2) ?_)
     refine sc Try.call44 (h.mono ?_)
     rintro e w19 ⟨aL, aN, aM, aO, aT, aW, aU, r3, rfl, hk, h⟩
     refine ⟨_, rfl, ?_⟩
     obtain ⟨hs, hb⟩ := hk.hh hs hb
     clear hk
     refine q0 (.tuple #[(.agg #[(vi aL), (vi aN), (vi aM), (vu aO), (vs aT), (vi aW), (vi aU)]), (vb r3)]) (q0 (.agg #[(vi aL), (vi aN), (vi aM), (vu aO), (vs aT), (vi aW), (vi aU)]) (q0 (vb r3) (sn (O := (.cells #[(vi 0), (vi 0), (vi 0), (vu 0), (vs ⟨#[]⟩), (vi 0), (vi 0)] 41)) (x_alloc (Try.zeroValue41 _) rfl) ?_)))
     intro p9 w20 hn15
     replace h := h p9 w20 hn15
     replace hs := hs.again (Ext.new (F := None) hn15).keptP
     replace hb := hb.kept (Ext.new (F := None) hn15).keptP
     obtain ⟨hp8, hnh, h⟩ := h
     refine st_set (want0 rfl) (x_storeA (a := p9) (vs := [(vi aL), (vi aN), (vi aM), (vu aO), (vs aT), (vi aW), (vi aU)]) (by kernel_rfl) (by kernel_rfl) rfl (Try.sizeOf41 _) rfl hp8) ?_
     intro w21 hn10
     replace h := h w21 hn10
     have hk : Kept None w20 w21 := by rw [hn10]; exact Kept.storeRow hnh
     obtain ⟨hs, hb⟩ := hk.hh hs hb
     clear hk hnh
     refine q0 (vb r3) (wpL_nil (th_n (wpE_seq ?_)))
     obtain ⟨C1, hC, h⟩ := h
     refine wpE_drawnC C1 [9, 11] [11] (by kernel_rfl) (by kernel_rfl) (by kernel_rfl) (by kernel_rfl) hC ?_
     clear hC
     intro w22 hw22
     replace h := h w22 hw22
     replace hs : Hst A1 None w21 None w22 := by rw [hw22]; exact hs.drew
     replace hb : HB None w22 [] := by rw [hw22]; exact hb.drew
     replace hs := hs.here
     refine qg 0 ?_
     obtain ⟨v5, hv18, h⟩ := h
     refine sye Kp0 (xl (Try.isAgg91 _) hv18) (qx 1 (vp (some (p9.add 5))) Kp1 (qg 2 ?_))
     obtain ⟨v6, hv17, h⟩ := h
     refine sye Kp2 (xl (Try.isAgg23 _) hv17) (qg 3 ?_)
     obtain ⟨v7, hv16, h⟩ := h
     refine sye (v := (vi v7)) Kp3 (x_lookup (by kernel_rfl) (by kernel_rfl) hv16) (qg 4 ?_)
     obtain ⟨v8, hv15, h⟩ := h
     refine sy (v := (.map v8)) Kp4 (fun w' hw' => (xl (Try.isAgg91 _) (hv15 w' hw'))) (qx 5 (vp (some (p9.add 6))) Kp5 (qg 6 ?_))
     obtain ⟨v9, hv14, h⟩ := h
     refine sye Kp6 (xl (Try.isAgg23 _) hv14) (qg 7 ?_)
     obtain ⟨v10, hv13, h⟩ := h
     refine sy (v := (vi v10)) Kp7 (fun w' hw' => (x_lookup (by kernel_rfl) (by kernel_rfl) (hv13 w' hw'))) (qx 8 (vp (some (p9.add 5))) Kp8 (lg 9 ?_))
     obtain ⟨hp9, hnh, h⟩ := h
     refine sl_t Kp9 (xs (v := (vi v7)) (Try.sizeOf23 _) hp9) ?_
     intro w23 hn11
     replace h := h w23 hn11
     refine ⟨.inr h.1, ?_⟩
     replace h := h.2
     have hk : Kept None w22 w23 := by rw [hn11]; exact Kept.setCell hnh
     obtain ⟨hs, hb⟩ := hk.hh hs hb
     clear hk hnh
     refine qx 10 (vp (some (p9.add 6))) (pickA (S8 (pickS (pickS pickZ)))) (lg 11 ?_)
     obtain ⟨hp10, hnh, h⟩ := h
     refine sl_t (pickA (S8 (pickS (pickS (pickS pickZ))))) (xs (v := (vi v10)) (Try.sizeOf23 _) hp10) ?_
     intro w24 hn12
     replace h := h w24 hn12
     refine ⟨.inl (by kernel_rfl), ?_⟩
     have hk : Kept None w23 w24 := by rw [hn12]; exact Kept.setCell hnh
     obtain ⟨hs, hb⟩ := hk.hh hs hb
     clear hk hnh
     refine wn (th_n (wpE_seq ?_))
     obtain ⟨C2, hC, h⟩ := h
     refine wpE_drawnC C2 [3, 4] [] (by kernel_rfl) (by kernel_rfl) (by kernel_rfl) (by kernel_rfl) hC ?_
     clear hC
     intro w25 hw25
     replace h := h w25 hw25
     replace hs : Hst A1 None w24 None w25 := by rw [hw25]; exact hs.drew
     replace hb : HB None w25 [] := by rw [hw25]; exact hb.drew
     replace hs := hs.here
     refine qg 0 ?_
     obtain ⟨v11, hv12, h⟩ := h
     refine sy (v := (vp v11)) Kp0 (fun w' hw' => (xl (Try.isAgg28 _) (hv12 w' hw'))) (qg 1 ?_)
     obtain ⟨v12, hv11, h⟩ := h
     refine sye Kp1 (xl (Try.isAgg81 _) hv11) (qg 2 ?_)
     obtain ⟨bC, bD, bE, bF, bG, cL, cM, hv10, h⟩ := h
     refine sye (v := (.agg #[(vi bC), (vi bD), (vi bE), (vu bF), (vs bG), (vi cL), (vi cM)])) Kp2 (x_loadA (a := p9) (vs := [(vi bC), (vi bD), (vi bE), (vu bF), (vs bG), (vi cL), (vi cM)]) (by kernel_rfl) (Try.isAgg41 _) (Try.sizeOf41 _) rfl hv10) (lg 3 ?_)
     obtain ⟨f2, fs1, cs2, hp11, h⟩ := h
     obtain ⟨hf2, h⟩ := h
     refine sl_call Kp3 (want0 rfl) (by kernel_rfl) (x_callmE (fs := fs1) (caps := cs2) (args := #[(.agg #[(vi bC), (vi bD), (vi bE), (vu bF), (vs bG), (vi cL), (vi cM)])]) (by kernel_rfl) hp11 hf2 (by kernel_rfl) rfl) (h.mono ?_)
     rintro e w26 ⟨cA, cB, cC, cD, cE, cT, cU, rfl, hC, hk, h⟩
     refine ⟨_, rfl, .inr hC, ?_⟩
     obtain ⟨hs, hb⟩ := hk.hh hs hb
     clear hk
     refine lg 4 ?_
     refine sl_call Kp4 (want0 rfl) (by kernel_rfl) (xc Try.call59) (h.mono ?_)
     rintro e w27 ⟨r4, r5, rfl, hC, hk, h⟩
     refine ⟨_, rfl, .inr hC, ?_⟩
     obtain ⟨hs, hb⟩ := hk.hh hs hb
     clear hk
     refine qx 5 (.tuple #[(vi r4), (vi r5)]) Kp5 (qx 6 (vi r4) Kp6 (qx 7 (vi r5) Kp7 (qx 8 (vi r4) Kp8 (qx 9 (vi r5) Kp9 (wn (th_n (wpE_seq (wpE_seq (rg (q0 (vi r5) (q0 (vb (r5 != 0)) ?_)))))))))))
     refine wpL_nil (th_n ?_)
     refine wpE_cond (t := (r5 != 0)) (by kernel_rfl) (fun hc4 => ?_) (fun hc4 => ?_)
     ·replace h := h.1 hc4
      refine wpE_seq (rg (q0 (vi r5) ?_))
      obtain ⟨hp12, hnh, h⟩ := h
      refine st_set (want0 rfl) (x_store (a := p4) (v := (vi 0)) (by kernel_rfl) (by kernel_rfl) rfl (Try.sizeOf23 _) hp12) ?_
      intro w28 hn13
      replace h := h w28 hn13
      have hk : Kept None w27 w28 := by rw [hn13]; exact Kept.setCell hnh
      obtain ⟨hs, hb⟩ := hk.hh hs hb
      clear hk hnh
      obtain ⟨hp13, hnh, h⟩ := h
      refine st_set (want0 rfl) (x_store (a := p5) (v := (vi r5)) (by kernel_rfl) (by kernel_rfl) rfl (Try.sizeOf32 _) hp13) ?_
      intro w29 hn14
      replace h := h w29 hn14
      have hk : Kept None w28 w29 := by rw [hn14]; exact Kept.setCell hnh
      obtain ⟨hs, hb⟩ := hk.hh hs hb
      clear hk hnh
      refine wpL_nil (th_n (wpE_ret (th_r (bl_r ?_))))
      exact rd_r h
     ·replace h := h.2 hc4
      refine wpE_skip (th_n (rg ?_))
      obtain ⟨v13, hv9, h⟩ := h
      refine q2 (.map v13) (xl (Try.isAgg91 _) hv9) (q0 (vi z2) (q0 (vi r4) ?_))
      obtain ⟨w30, hv8, hk, h⟩ := h
      refine st_skip (want0 rfl) (x_mapUpdate (by kernel_rfl) (by kernel_rfl) (by kernel_rfl) hv8) ?_
      obtain ⟨hs, hb⟩ := hk.hh hs hb
      clear hk
      refine wpL_nil (bl_n ?_)
      exact rd_n h
    case hr =>
     clear hbody
     intro D1 H2 w31 hs' hD hDe cR hk1 hio1
     have hb' := hb.behind hk1 cR hD hDe
     clear hs hb hD hDe
     have hs := hs'
     have hb := hb'
     clear hs' hb'
     replace h := h.1 H2 w31 hs cR hk1 (hio1.elim id (fun h => h.elim (fun _ h => h.elim)))
     refine wpE_seq (rg ?_)
     obtain ⟨v14, hv23, h⟩ := h
     refine q2 (.map v14) (xl (Try.isAgg91 _) hv23) (q0 (vi t1) ?_)
     obtain ⟨v15, hv22, h⟩ := h
     refine q2 (vi v15) (x_lookup (by kernel_rfl) (by kernel_rfl) hv22) ?_
     obtain ⟨hp14, hnh, h⟩ := h
     refine st_set (want0 rfl) (x_store (a := p4) (v := (vi v15)) (by kernel_rfl) (by kernel_rfl) rfl (Try.sizeOf23 _) hp14) ?_
     intro w32 hn16
     replace h := h w32 hn16
     have hk : Kept H2 w31 w32 := by rw [hn16]; exact Kept.setCell hnh
     obtain ⟨hs, hb⟩ := hk.hh hs hb
     clear hk hnh
     obtain ⟨hp15, hnh, h⟩ := h
     refine st_set (want0 rfl) (x_store (a := p5) (v := (vi 0)) (by kernel_rfl) (by kernel_rfl) rfl (Try.sizeOf32 _) hp15) ?_
     intro w33 hn17
     replace h := h w33 hn17
     have hk : Kept H2 w32 w33 := by rw [hn17]; exact Kept.setCell hnh
     obtain ⟨hs, hb⟩ := hk.hh hs hb
     clear hk hnh
     refine wpL_nil (th_n (wpE_ret (af_r hb.dead ?_)))
     intro w34 hw'
     have hl := hb.leave hs hw'
     clear hs hb hw'
     obtain ⟨hs, hb⟩ := hl
     -- behind the loop
     replace h := h w34 hs
     replace hs := hs.here
     obtain ⟨cN, hv20, h⟩ := h
     obtain ⟨cO, hv21, h⟩ := h
     refine resG (.inl rfl) (vs := [(vi cN), (vi cO)]) (v := (.tuple #[(vi cN), (vi cO)])) Try.results42 ⟨(RV.cell1 (A := p4) (by kernel_rfl) (Try.isAgg23 _) hv20), (RV.cell1 (A := p5) (by kernel_rfl) (Try.isAgg32 _) hv21), trivial⟩ (by kernel_rfl) ?_
     exact ⟨cN, cO, rfl, h⟩
    case ht =>
     clear hbody
     intro D1 pre2 H3 w35 hs' hD hDe hio
     have hs2 := hs'.putD (o := .deferred none) hD
     replace hio := hRI.r _ _ _ _ _ hio hs2
     replace hs2 := hs2.here
     clear hs hb hDe hs'
     have hs := hs2
     clear hs2
     generalize World.putObj w35 D1 (.deferred none) = w36 at hs hio ⊢
     have hb := HB.nil H3 w36
     replace h := h.2 pre2 H3 w36 hs hio
     obtain ⟨cP, hv24, h⟩ := h
     obtain ⟨cQ, hv25, h⟩ := h
     refine resG (.inl rfl) (vs := [(vi cP), (vi cQ)]) (v := (.tuple #[(vi cP), (vi cQ)])) Try.results42 ⟨(RV.cell1 (A := p4) (by kernel_rfl) (Try.isAgg23 _) hv24), (RV.cell1 (A := p5) (by kernel_rfl) (Try.isAgg32 _) hv25), trivial⟩ (by kernel_rfl) ?_
     exact ⟨cP, cQ, rfl, h⟩
def m_Z2 (p1 : Option Addr) (who1 t1 : Int) (w0 : World) (K : Int → Int → World → Prop) : Prop :=
 ∀ (p2 : Addr) (w1 : World), New w0 (.cells #[(vi who1)] 3) p2 w1 →
 ∃ v1 : Int, w1.cell? p2 = some (vi v1) ∧
 Calls Try.prog 42 #[(vp p1), (vi v1), (vi t1), (.func (.func 55) #[] #[(vp (some p2))])] w1 (fun e w2 => ∃ r1 r2 : Int, e = .returned (.tuple #[(vi r1), (vi r2)]) ∧ 
  K r1 r2 w2)
theorem w_Z2 (p1 : Option Addr) (who1 t1 : Int) (w0 : World) (K : Int → Int → World → Prop) (h : m_Z2 p1 who1 t1 w0 K) :
  Calls Try.prog 24 #[(vp p1), (vi who1), (vi t1)] w0 (fun e w' => ∃ r3 r4 : Int, e = .returned (.tuple #[(vi r3), (vi r4)]) ∧ K r3 r4 w') := by
 unfold m_Z2 at h
 refine cw (args := [(vp p1), (vi who1), (vi t1)]) Try.func24 Try.ntmps24 (wpE_seq (rg (sn (O := (.cells #[(vi who1)] 3)) xb ?_)))
 intro p2 w1 hn1
 replace h := h p2 w1 hn1
 refine q0 (vi 0) (q0 (vi 0) (wpL_nil (th_n (wpE_seq (rg (q0 (vp p1) ?_))))))
 obtain ⟨v1, hv1, h⟩ := h
 refine q2 (vi v1) (xl (Try.isAgg3 _) hv1) (q0 (vi t1) (q0 (.func (.func 55) #[] #[(vp (some p2))]) ?_))
 refine sc Try.call42 (h.mono ?_)
 rintro e w2 ⟨r1, r2, rfl, h⟩
 refine ⟨_, rfl, ?_⟩
 refine q0 (vi r1) (q0 (vi r2) (q0 (vi r1) (q0 (vi r2) (wpL_nil (th_n (wpE_ret (res2 (.inl rfl) Try.results24 (v := (vi r1)) (by kernel_rfl) (v' := (vi r2)) (by kernel_rfl) ?_)))))))
 exact ⟨r1, r2, rfl, h⟩
def m_A3 (p1 : Option Addr) (to1 t1 : Int) (w0 : World) (K : Int → Int → World → Prop) : Prop :=
 ∀ (p2 : Addr) (w1 : World), New w0 (.cells #[(vi to1)] 3) p2 w1 →
 ∃ v1 : Int, w1.cell? p2 = some (vi v1) ∧
 Calls Try.prog 42 #[(vp p1), (vi v1), (vi t1), (.func (.func 43) #[] #[(vp (some p2))])] w1 (fun e w2 => ∃ r1 r2 : Int, e = .returned (.tuple #[(vi r1), (vi r2)]) ∧ 
  K r1 r2 w2)
theorem w_A3 (p1 : Option Addr) (to1 t1 : Int) (w0 : World) (K : Int → Int → World → Prop) (h : m_A3 p1 to1 t1 w0 K) :
  Calls Try.prog 10 #[(vp p1), (vi to1), (vi t1)] w0 (fun e w' => ∃ r3 r4 : Int, e = .returned (.tuple #[(vi r3), (vi r4)]) ∧ K r3 r4 w') := by
 unfold m_A3 at h
 refine cw (args := [(vp p1), (vi to1), (vi t1)]) Try.func10 Try.ntmps10 (wpE_seq (rg (sn (O := (.cells #[(vi to1)] 3)) xb ?_)))
 intro p2 w1 hn1
 replace h := h p2 w1 hn1
 refine q0 (vi 0) (q0 (vi 0) (wpL_nil (th_n (wpE_seq (rg (q0 (vp p1) ?_))))))
 obtain ⟨v1, hv1, h⟩ := h
 refine q2 (vi v1) (xl (Try.isAgg3 _) hv1) (q0 (vi t1) (q0 (.func (.func 43) #[] #[(vp (some p2))]) ?_))
 refine sc Try.call42 (h.mono ?_)
 rintro e w2 ⟨r1, r2, rfl, h⟩
 refine ⟨_, rfl, ?_⟩
 refine q0 (vi r1) (q0 (vi r2) (q0 (vi r1) (q0 (vi r2) (wpL_nil (th_n (wpE_ret (res2 (.inl rfl) Try.results10 (v := (vi r1)) (by kernel_rfl) (v' := (vi r2)) (by kernel_rfl) ?_)))))))
 exact ⟨r1, r2, rfl, h⟩
def m_D2 (p1 : Option Addr) (to1 t1 : Int) (w0 : World) (K : Sl → World → Prop) : Prop :=
 ∀ (p2 : Addr) (w1 : World), New w0 (.cells #[(vp p1)] 28) p2 w1 →
 ∀ (p3 : Addr) (w2 : World), New w1 (.cells #[(vi to1)] 3) p3 w2 →
 ∃ v1 : Option Addr, w2.cell? p2 = some (vp v1) ∧
 Calls Try.prog 44 #[(vp v1), (vi t1)] w2 (fun e w3 => ∃ aA aC : Int, ∃ aD aE : Int, ∃ aF : ByteArray, ∃ aI aG : Int, ∃ r1 : Bool, e = .returned (.tuple #[(.agg #[(vi aA), (vi aC), (vi aD), (vu aE), (vs aF), (vi aI), (vi aG)]), (vb r1)]) ∧ 
  Kept None w2 w3 ∧
  Br (!r1)
   (∀ (H1 : Nat → Prop) (w5 : World), Hst w0 None w3 H1 w5 →
   K Sl.nil w5)
   (∀ (H1 : Nat → Prop) (w5 : World), Hst w0 None w3 H1 w5 →
   ∀ (p5 : Addr) (w6 : World), New w5 (.cells #[Sl.nil.v] 36) p5 w6 →
   ∃ v2 : Option Addr, w6.cell? p2 = some (vp v2) ∧
   Calls Try.prog 45 #[(vp v2), (vi t1)] w6 (fun e w7 => ∃ r2 : Value, e = .returned r2 ∧ 
    Kept H1 w6 w7 ∧
    ∃ (f1 : FuncId) (cs1 : Array Value), r2 = .func (.func f1) #[] cs1 ∧ (∀ args w, (callFunc f1 args).run Try.prog w = .ok (.enter f1 args) w) ∧
    ∃ (xs1 : List (Int)) (Rd1 : World → Prop), IterC Try.prog f1 cs1 (fun (z2 : Int) => #[(vi z2)]) xs1 Rd1 w7 ∧
    ∃ (I1 : List (Int) → (Nat → Prop) → World → Prop), RngI w0 Rd1 I1 (fun _ _ _ => False) (fun _ _ _ => False) ∧ I1 [] H1 w7 ∧
    (∀ (pre1 : List (Int)) (z2 : Int) (Y1 : Nat → Prop) (A1 : World), I1 pre1 Y1 A1 → Hst w0 Y1 A1 Y1 A1 → (∃ post, xs1 = pre1 ++ z2 :: post) →
     ∃ v3 : Option Addr, A1.cell? p2 = some (vp v3) ∧
     Calls Try.prog 44 #[(vp v3), (vi z2)] A1 (fun e w8 => ∃ aL aN : Int, ∃ aM aO : Int, ∃ aT : ByteArray, ∃ aW aU : Int, ∃ r3 : Bool, e = .returned (.tuple #[(.agg #[(vi aL), (vi aN), (vi aM), (vu aO), (vs aT), (vi aW), (vi aU)]), (vb r3)]) ∧ 
      Kept None A1 w8 ∧
      Br (aL == 8)
       (∀ (H2 : Nat → Prop) (w10 : World), Hst A1 None w8 H2 w10 →
       ∃ v4 : Int, w10.cell? p3 = some (vi v4) ∧
       Br (aM == v4)
        (∃ v5 : Sl, w10.cell? p5 = some v5.v ∧
        ∀ (p7 : Addr) (w11 : World), New w10 (.cells #[(vi z2)] 23) p7 w11 →
        ∃ s1 : Sl, ∃ w12 : World, (Builtin.append_ #[36, 36] 36 #[v5.v, (Sl.mk (some p7) 1 1).v]).run Try.prog w11 = .ok s1.v w12 ∧
        Kept H2 w11 w12 ∧
        CanW w12 p5 ∧ ¬ H2 p5.block ∧ ∀ w13 : World, w13 = w12.setCell p5 s1.v →
        Kept Y1 A1 w13 ∧ I1 (pre1 ++ [z2]) Y1 w13)
        (Kept Y1 A1 w10 ∧ I1 (pre1 ++ [z2]) Y1 w10))
       (∀ (H2 : Nat → Prop) (w10 : World), Hst A1 None w8 H2 w10 →
       Kept Y1 A1 w10 ∧ I1 (pre1 ++ [z2]) Y1 w10))) ∧
    ∀ (H3 : Nat → Prop) (w14 : World), Hst w0 H3 w14 H3 w14 → (∀ b, H1 b → H3 b) → Kept H1 w7 w14 → I1 xs1 H3 w14 →
    ∃ v6 : Sl, w14.cell? p5 = some v6.v ∧
    Calls Try.prog 46 #[v6.v] w14 (fun e w15 => e = .returned (.tuple #[]) ∧ 
     Kept H3 w14 w15 ∧
     ∃ v7 : Sl, w15.cell? p5 = some v7.v ∧
     ∀ (w16 : World), Hst w0 H3 w15 H3 w16 →
     K v7 w16))))
theorem w_D2 (p1 : Option Addr) (to1 t1 : Int) (w0 : World) (K : Sl → World → Prop) (h : m_D2 p1 to1 t1 w0 K) :
  Calls Try.prog 12 #[(vp p1), (vi to1), (vi t1)] w0 (fun e w' => ∃ r4 : Sl, e = .returned r4.v ∧ K r4 w') := by
 unfold m_D2 at h
 refine cw (args := [(vp p1), (vi to1), (vi t1)]) Try.func12 Try.ntmps12 ?_
 have hs := Hst.start w0
 have hb := HB.nil None w0
 refine wpE_seq (rg (sn (O := (.cells #[(vp p1)] 28)) xb ?_))
 intro p2 w1 hn9
 replace h := h p2 w1 hn9
 replace hs := hs.again (Ext.new (F := None) hn9).keptP
 replace hb := hb.kept (Ext.new (F := None) hn9).keptP
 refine sn (O := (.cells #[(vi to1)] 3)) xb ?_
 intro p3 w2 hn8
 replace h := h p3 w2 hn8
 replace hs := hs.again (Ext.new (F := None) hn8).keptP
 replace hb := hb.kept (Ext.new (F := None) hn8).keptP
 refine q0 Sl.nil.v (wpL_nil (th_n (wpE_seq (wpE_seq (rg ?_)))))
 obtain ⟨v1, hv9, h⟩ := h
 refine q2 (vp v1) (xl (Try.isAgg28 _) hv9) (q0 (vi t1) ?_)
 refine sc Try.call44 (h.mono ?_)
 rintro e w3 ⟨aA, aC, aD, aE, aF, aI, aG, r1, rfl, hk, h⟩
 refine ⟨_, rfl, ?_⟩
 obtain ⟨hs, hb⟩ := hk.hh hs hb
 clear hk
 refine q0 (.tuple #[(.agg #[(vi aA), (vi aC), (vi aD), (vu aE), (vs aF), (vi aI), (vi aG)]), (vb r1)]) (q0 (.agg #[(vi aA), (vi aC), (vi aD), (vu aE), (vs aF), (vi aI), (vi aG)]) (q0 (vb r1) (sn (O := (.cells #[(vi 0), (vi 0), (vi 0), (vu 0), (vs ⟨#[]⟩), (vi 0), (vi 0)] 41)) (x_alloc (Try.zeroValue41 _) rfl) ?_)))
 intro p4 w4 hn1
 obtain ⟨H1, hs, hb⟩ := hs.alloc hb hn1
 refine st_set (want0 rfl) (x_storeA (a := p4) (vs := [(vi aA), (vi aC), (vi aD), (vu aE), (vs aF), (vi aI), (vi aG)]) (by kernel_rfl) (by kernel_rfl) rfl (Try.sizeOf41 _) rfl (hb.canWs0 0 7 gZ (by kernel_rfl))) ?_
 intro w5 hn2
 have hsb : Hst w0 None w3 H1 w5 ∧ HB H1 w5 [(p4, [(vi aA), (vi aC), (vi aD), (vu aE), (vs aF), (vi aI), (vi aG)], 41)] := by
  rw [hn2]
  exact hb.store0 (i := 0) (vs := [(vi aA), (vi aC), (vi aD), (vu aE), (vs aF), (vi aI), (vi aG)]) hs gZ (by kernel_rfl) (by kernel_rfl)
 clear hs hb hn2
 obtain ⟨hs, hb⟩ := hsb
 refine q0 (vb r1) (wpL_nil (th_n (wpE_seq (rg (q0 (vb r1) (q0 (vb (!r1)) (wpL_nil (th_n ?_))))))))
 refine wpE_cond (t := (!r1)) (by kernel_rfl) (fun hc1 => ?_) (fun hc1 => ?_)
 ·replace h := h.1 hc1
  refine wpE_seq (rg (q0 Sl.nil.v (wpL_nil (th_n (wpE_ret (th_r ?_))))))
  replace h := h H1 w5 hs
  replace hs := hs.here
  refine rs1 Try.results12 (v := Sl.nil.v) ?_
  exact ⟨Sl.nil, rfl, h⟩
 ·replace h := h.2 hc1
  refine wpE_skip (th_n (wpE_seq (rg ?_)))
  replace h := h H1 w5 hs
  replace hs := hs.here
  refine sn (O := (.cells #[Sl.nil.v] 36)) (x_alloc (Try.zeroValue36 _) rfl) ?_
  intro p5 w6 hn7
  replace h := h p5 w6 hn7
  replace hs := hs.again (Ext.new (F := None) hn7).keptP
  replace hb := hb.kept (Ext.new (F := None) hn7).keptP
  refine wpL_nil (th_n (wpE_seqC (rg ?_)))
  obtain ⟨v2, hv8, h⟩ := h
  refine q2 (vp v2) (xl (Try.isAgg28 _) hv8) (q0 (vi t1) ?_)
  refine sc Try.call45 (h.mono ?_)
  rintro e w7 ⟨r2, rfl, hk, h⟩
  refine ⟨_, rfl, ?_⟩
  obtain ⟨hs, hb⟩ := hk.hh hs hb
  clear hk
  refine wpL_nil (th_n ?_)
  obtain ⟨f1, cs1, hv1, hf1, h⟩ := h
  obtain ⟨xs1, Rd1, hit, I1, hRI, h0, hbody, h⟩ := h
  refine wpB_range (encs := (fun (z2 : Int) => #[(vi z2)])) (Eq.trans (b := r2) (by kernel_rfl) hv1) hf1 hit (fun _ => rfl) (by decide) hs I1 (fun _ _ _ => False) (fun _ _ _ => False) hRI h0 ?ha ?hr ?ht
  case ha =>
   intro l z2 w17
   refine rg (q0 (vi z2) (wpL_nil (th_n ?_)))
   refine ⟨rfl, ?_⟩
   intro pre1 Y1 A1 hi hY hpost
   replace h := hbody pre1 z2 Y1 A1 hi hY hpost
   clear hbody hs hb hi hY hpost
   have hs := Hst.start A1
   have hb := HB.nil None A1
   refine wpE_block (wpE_seq (rg ?_))
   obtain ⟨v3, hv5, h⟩ := h
   refine q2 (vp v3) (xl (Try.isAgg28 _) hv5) (q0 (vi z2) ?_)
   refine sc Try.call44 (h.mono ?_)
   rintro e w8 ⟨aL, aN, aM, aO, aT, aW, aU, r3, rfl, hk, h⟩
   refine ⟨_, rfl, ?_⟩
   obtain ⟨hs, hb⟩ := hk.hh hs hb
   clear hk
   refine q0 (.tuple #[(.agg #[(vi aL), (vi aN), (vi aM), (vu aO), (vs aT), (vi aW), (vi aU)]), (vb r3)]) (q0 (.agg #[(vi aL), (vi aN), (vi aM), (vu aO), (vs aT), (vi aW), (vi aU)]) (q0 (vb r3) (sn (O := (.cells #[(vi 0), (vi 0), (vi 0), (vu 0), (vs ⟨#[]⟩), (vi 0), (vi 0)] 41)) (x_alloc (Try.zeroValue41 _) rfl) ?_)))
   intro p6 w9 hn3
   obtain ⟨H2, hs, hb⟩ := hs.alloc hb hn3
   refine st_set (want0 rfl) (x_storeA (a := p6) (vs := [(vi aL), (vi aN), (vi aM), (vu aO), (vs aT), (vi aW), (vi aU)]) (by kernel_rfl) (by kernel_rfl) rfl (Try.sizeOf41 _) rfl (hb.canWs0 0 7 gZ (by kernel_rfl))) ?_
   intro w10 hn4
   have hsb : Hst A1 None w8 H2 w10 ∧ HB H2 w10 [(p6, [(vi aL), (vi aN), (vi aM), (vu aO), (vs aT), (vi aW), (vi aU)], 41)] := by
    rw [hn4]
    exact hb.store0 (i := 0) (vs := [(vi aL), (vi aN), (vi aM), (vu aO), (vs aT), (vi aW), (vi aU)]) hs gZ (by kernel_rfl) (by kernel_rfl)
   clear hs hb hn4
   obtain ⟨hs, hb⟩ := hsb
   refine q0 (vb r3) (wpL_nil (th_n (wpE_seq (rg (q0 (vp (some p6)) (q2 (vi aL) (xl (Try.isAgg3 _) (hb.c0 0 gZ)) (q0 (vb (aL == 8)) (q0 (vb (aL == 8)) ?_))))))))
   rcases Bool.eq_false_or_eq_true (aL == 8) with hg1 | hg1
   ·replace h := h.1 hg1
    refine q1 (vp (some (p6.add 2))) (want1 rfl (yD 34 hg1)) (stp (v := (vi aM)) (want1 rfl (yD 34 hg1)) (xl (Try.isAgg3 _) (hb.c 0 2 gZ)) ?_)
    replace h := h H2 w10 hs
    replace hs := hs.here
    obtain ⟨v4, hv4, h⟩ := h
    refine stp (v := (vi v4)) (want1 rfl (yD 34 hg1)) (xl (Try.isAgg3 _) hv4) (q1 (vb (aM == v4)) (want1 rfl (yD 34 hg1)) (q2 (vb (aM == v4)) (xT hg1) (wpL_nil (th_n ?_))))
    refine wpE_cond (t := (aM == v4)) (by kernel_rfl) (fun hc2 => ?_) (fun hc2 => ?_)
    ·replace h := h.1 hc2
     refine rg ?_
     obtain ⟨v5, hv3, h⟩ := h
     refine q2 v5.v (xl (Try.isAgg36 _) hv3) (q0 (vi z2) (st_new (O := (.cells #[(vi z2)] 23)) (fun p => (Sl.mk (some p) 1 1).v) (want0 rfl) (x_buildSlice (vs := #[(0, (vi z2))]) (by kernel_rfl) (by kernel_rfl)) ?_))
     intro p7 w11 hn6
     replace h := h p7 w11 hn6
     replace hs := hs.again (Ext.new (F := None) hn6).keptP
     replace hb := hb.kept (Ext.new (F := None) hn6).keptP
     obtain ⟨s1, w12, hv2, hk, h⟩ := h
     refine st (v := s1.v) (want0 rfl) (x_builtin (args := #[v5.v, (Sl.mk (some p7) 1 1).v]) (by kernel_rfl) (fun _ => rfl) hv2) ?_
     obtain ⟨hs, hb⟩ := hk.hh hs hb
     clear hk
     obtain ⟨hp1, hnh, h⟩ := h
     refine st_set (want0 rfl) (x_store (a := p5) (v := s1.v) (by kernel_rfl) (by kernel_rfl) rfl (Try.sizeOf36 _) hp1) ?_
     intro w13 hn5
     replace h := h w13 hn5
     have hk : Kept H2 w12 w13 := by rw [hn5]; exact Kept.setCell hnh
     obtain ⟨hs, hb⟩ := hk.hh hs hb
     clear hk hnh
     refine wpL_nil (bl_n ?_)
     exact rd_n h
    ·replace h := h.2 hc2
     refine wpE_skip (bl_n ?_)
     exact rd_n h
   ·replace h := h.2 hg1
    refine sk (yD 34 hg1) (sk (yD 34 hg1) (sk (yD 34 hg1) (sk (yD 34 hg1) (q2 (vb false) (xF hg1) (wpL_nil (th_n (wpE_condF (by kernel_rfl) (wpE_skip (bl_n ?_)))))))))
    replace h := h H2 w10 hs
    replace hs := hs.here
    exact rd_n h
  case hr =>
   clear hbody
   intro D1 H3 w14 hs' hD hDe cR hk1 hio1
   have hb' := hb.behind hk1 cR hD hDe
   clear hs hb hD hDe
   have hs := hs'
   have hb := hb'
   clear hs' hb'
   replace h := h H3 w14 hs cR hk1 (hio1.elim id (fun h => h.elim (fun _ h => h.elim)))
   refine wpE_seq (rg ?_)
   obtain ⟨v6, hv7, h⟩ := h
   refine q2 v6.v (xl (Try.isAgg36 _) hv7) ?_
   refine sc Try.call46 (h.mono ?_)
   rintro e w15 ⟨rfl, hk, h⟩
   refine ⟨_, rfl, ?_⟩
   obtain ⟨hs, hb⟩ := hk.hh hs hb
   clear hk
   refine wpL_nil (th_n (wpE_seq (rg ?_)))
   obtain ⟨v7, hv6, h⟩ := h
   refine q2 v7.v (xl (Try.isAgg36 _) hv6) (q0 v7.v (wpL_nil (th_n (wpE_ret (af_r hb.dead ?_)))))
   intro w16 hw'
   have hl := hb.leave hs hw'
   clear hs hb hw'
   obtain ⟨hs, hb⟩ := hl
   -- behind the loop
   replace h := h w16 hs
   replace hs := hs.here
   refine rs1 Try.results12 (v := v7.v) ?_
   exact ⟨v7, rfl, h⟩
  case ht =>
   clear hbody
   intro _ _ _ _ _ _ _ h
   exact h.elim
def s_B1 (e1 : Int) : Int :=
 e1
theorem pw_B1 (e1 : Int) (w0 : World) :
  Calls Try.prog 11 #[(vi e1)] w0 (fun e w' => (e = .returned (vi e1)) ∧ Pure w0 w') := by
 refine cw (args := [(vi e1)]) Try.func11 Try.ntmps11 (wpE_seq (rg (q0 (vi 0) (wpL_nil (th_n (wpE_seq (rg (q0 (vi e1) (q0 (vi e1) (wpL_nil (th_n ?_)))))))))))
 refine wpE_ret (rs1 Try.results11 (v := (vi e1)) ?_)
 exact ⟨by kernel_rfl, Ext.refl _⟩
theorem p_B1 (e1 : Int) (w0 : World) : Calls Try.prog 11 #[(.int .i64 e1)] w0 (fun e w' => e = .returned (.int .i64 (s_B1 e1)) ∧ Pure w0 w') := pw_B1 e1 w0
def s_U1 (aB aK : Int) (aH aP : Int) (aQ : ByteArray) (aR aS : Int) : Bool :=
 ((aB == 8) || (aB == 9))
theorem pw_U1 (aB aK : Int) (aH aP : Int) (aQ : ByteArray) (aR aS : Int) (w0 : World) :
  Calls Try.prog 50 #[(.agg #[(vi aB), (vi aK), (vi aH), (vu aP), (vs aQ), (vi aR), (vi aS)])] w0 (fun e w' => (e = .returned (vb ((aB == 8) || (aB == 9)))) ∧ Pure w0 w') := by
 refine cw (args := [(.agg #[(vi aB), (vi aK), (vi aH), (vu aP), (vs aQ), (vi aR), (vi aS)])]) Try.func50 Try.ntmps50 ?_
 have hs := Hst.start w0
 have hb := HB.nil None w0
 refine wpE_seq (rg (sn (O := (.cells #[(vi aB), (vi aK), (vi aH), (vu aP), (vs aQ), (vi aR), (vi aS)] 41)) xb ?_))
 intro p1 w1 hn1
 obtain ⟨H1, hs, hb⟩ := hs.alloc hb hn1
 refine q0 (vb false) (wpL_nil (th_n (wpE_seq ?_)))
 refine wpE_via (fun ρ wJ => ∃ HJ : Nat → Prop, Hst w0 None w0 HJ wJ ∧ HB HJ wJ [(p1, [(vi aB), (vi aK), (vi aH), (vu aP), (vs aQ), (vi aR), (vi aS)], 41)] ∧ Has ρ [(2, (vb ((aB == 8) || (aB == 9))))]) ?_ ?_
 ·skip
  refine rg (q0 (vp (some p1)) (q2 (vi aB) (xl (Try.isAgg3 _) (hb.c0 0 gZ)) (q0 (vb (aB == 8)) (q0 (vb (aB == 8)) ?_))))
  refine wpL_join 4 (fun ρ wJ => ∃ b3'0 : Bool, ∃ HJ : Nat → Prop, ((aB == 8) = b3'0) ∧ Hst w0 None w0 HJ wJ ∧ HB HJ wJ [(p1, [(vi aB), (vi aK), (vi aH), (vu aP), (vs aQ), (vi aR), (vi aS)], 41)] ∧ Has ρ [(10, (vb (b3'0 || (aB == 9))))]) ?_ ?_
  ·clear hs hb
   rintro ρ w4 ⟨b3'0, H4, he0, hs, hb, hH⟩
   subst he0
   refine wpL_has hH ?_
   clear hH
   refine q0 (vb ((aB == 8) || (aB == 9))) (wpL_nil (th_n ?_))
   exact ⟨_, hs, hb, hm⟩
  ·skip
   rcases Bool.eq_false_or_eq_true (aB == 8) with hg4 | hg4
   ·skip
    refine sk (yD 6 hg4) (sk (yD 6 hg4) (sk (yD 6 hg4) (q2 (vb true) (xT hg4) (wpL_nil ?_))))
    exact ⟨true, _, hg4, hs, hb, hm⟩
   ·skip
    refine q1 (vp (some p1)) (want1 rfl (yD 6 hg4)) (stp (v := (vi aB)) (want1 rfl (yD 6 hg4)) (xl (Try.isAgg3 _) (hb.c0 0 gZ)) (q1 (vb (aB == 9)) (want1 rfl (yD 6 hg4)) (q2 (vb (aB == 9)) (xF hg4) (wpL_nil ?_))))
    exact ⟨false, _, hg4, hs, hb, hm⟩
 ·clear hs hb
  rintro ρ w3 ⟨H3, hs, hb, hH⟩
  refine norm_has hH ?_
  clear hH
  refine th_n (wpE_ret (rs1 Try.results50 (v := (vb ((aB == 8) || (aB == 9)))) ?_))
  exact ⟨by kernel_rfl, (Ext.refl (F := None) _).hst hs⟩
theorem p_U1 (aB aK : Int) (aH aP : Int) (aQ : ByteArray) (aR aS : Int) (w0 : World) : Calls Try.prog 50 #[(.agg #[(.int .i64 aB), (.int .i64 aK), (.int .i64 aH), (.int .u64 aP), (.string aQ), (.int .i64 aR), (.int .i64 aS)])] w0 (fun e w' => e = .returned (.bool (s_U1 aB aK aH aP aQ aR aS)) ∧ Pure w0 w') := pw_U1 aB aK aH aP aQ aR aS w0
def s_G (who1 aB : Int) (aK aH aP : Int) (aQ : ByteArray) (aR aS : Int) : Bool :=
 (((aB == 8) || (aB == 9)) && (((who1 == aK) || (who1 == aH)) || (who1 == 2)))
theorem pw_G (who1 aB : Int) (aK aH aP : Int) (aQ : ByteArray) (aR aS : Int) (w0 : World) :
  Calls Try.prog 51 #[(vi who1), (.agg #[(vi aB), (vi aK), (vi aH), (vu aP), (vs aQ), (vi aR), (vi aS)])] w0 (fun e w' => (e = .returned (vb (((aB == 8) || (aB == 9)) && (((who1 == aK) || (who1 == aH)) || (who1 == 2))))) ∧ Pure w0 w') := by
 refine cw (args := [(vi who1), (.agg #[(vi aB), (vi aK), (vi aH), (vu aP), (vs aQ), (vi aR), (vi aS)])]) Try.func51 Try.ntmps51 ?_
 have hs := Hst.start w0
 have hb := HB.nil None w0
 refine wpE_seq (rg (sn (O := (.cells #[(vi aB), (vi aK), (vi aH), (vu aP), (vs aQ), (vi aR), (vi aS)] 41)) xb ?_))
 intro p1 w1 hn1
 obtain ⟨H1, hs, hb⟩ := hs.alloc hb hn1
 refine q0 (vb false) (wpL_nil (th_n (wpE_seq ?_)))
 refine wpE_via (fun ρ wJ => ∃ HJ : Nat → Prop, Hst w0 None w0 HJ wJ ∧ HB HJ wJ [(p1, [(vi aB), (vi aK), (vi aH), (vu aP), (vs aQ), (vi aR), (vi aS)], 41)] ∧ Has ρ [(4, (vb (((aB == 8) || (aB == 9)) && (((who1 == aK) || (who1 == aH)) || (who1 == 2)))))]) ?_ ?_
 ·skip
  refine rg (q2 (.agg #[(vi aB), (vi aK), (vi aH), (vu aP), (vs aQ), (vi aR), (vi aS)]) (x_loadA (a := p1) (vs := [(vi aB), (vi aK), (vi aH), (vu aP), (vs aQ), (vi aR), (vi aS)]) (by kernel_rfl) (Try.isAgg41 _) (Try.sizeOf41 _) rfl (hb.row0 0 7 gZ (by kernel_rfl))) ?_)
  refine sc Try.call50 ((p_U1 aB aK aH aP aQ aR aS w1).mono ?_)
  rintro e w9 ⟨he, hE⟩
  refine ⟨(vb ((aB == 8) || (aB == 9))), he.trans (by kernel_rfl), ?_⟩
  replace hs := hs.pure hE
  replace hb := hb.pure hE
  clear hE he
  refine q0 (vb ((aB == 8) || (aB == 9))) ?_
  refine wpL_join 15 (fun ρ wJ => ∃ b9'0 : Bool, ∃ HJ : Nat → Prop, (((aB == 8) || (aB == 9)) = b9'0) ∧ Hst w0 None w0 HJ wJ ∧ HB HJ wJ [(p1, [(vi aB), (vi aK), (vi aH), (vu aP), (vs aQ), (vi aR), (vi aS)], 41)] ∧ Has ρ [(22, (vb (b9'0 && (((who1 == aK) || (who1 == aH)) || (who1 == 2)))))]) ?_ ?_
  ·clear hs hb
   rintro ρ w12 ⟨b9'0, H10, he0, hs, hb, hH⟩
   subst he0
   refine wpL_has hH ?_
   clear hH
   refine q0 (vb (((aB == 8) || (aB == 9)) && (((who1 == aK) || (who1 == aH)) || (who1 == 2)))) (wpL_nil (th_n ?_))
   exact ⟨_, hs, hb, hm⟩
  ·skip
   rcases Bool.eq_false_or_eq_true ((aB == 8) || (aB == 9)) with hg16 | hg16
   ·skip
    refine q1 (vi who1) (want1 rfl (yD 7 hg16)) (q1 (vp (some (p1.add 1))) (want1 rfl (yD 7 hg16)) (stp (v := (vi aK)) (want1 rfl (yD 7 hg16)) (xl (Try.isAgg3 _) (hb.c 0 1 gZ)) (q1 (vb (who1 == aK)) (want1 rfl (yD 7 hg16)) (q1 (vb (who1 == aK)) (want1 rfl (yD 7 hg16)) ?_))))
    refine wpL_join 5 (fun ρ wJ => ∃ b10'0 : Bool, ∃ HJ : Nat → Prop, ((who1 == aK) = b10'0) ∧ Hst w0 None w0 HJ wJ ∧ HB HJ wJ [(p1, [(vi aB), (vi aK), (vi aH), (vu aP), (vs aQ), (vi aR), (vi aS)], 41)] ∧ Has ρ [(0, (vi who1)), (7, (vb ((aB == 8) || (aB == 9)))), (17, (vb (b10'0 || (who1 == aH))))]) ?_ ?_
    ·clear hs hb
     rintro ρ w13 ⟨b10'0, H11, he0, hs, hb, hH⟩
     subst he0
     refine wpL_has hH ?_
     clear hH
     refine q1 (vb ((who1 == aK) || (who1 == aH))) (want1 rfl (yD 7 hg16)) ?_
     refine wpL_join 3 (fun ρ wJ => ∃ b11'0 : Bool, ∃ HJ : Nat → Prop, (((who1 == aK) || (who1 == aH)) = b11'0) ∧ Hst w0 None w0 HJ wJ ∧ HB HJ wJ [(p1, [(vi aB), (vi aK), (vi aH), (vu aP), (vs aQ), (vi aR), (vi aS)], 41)] ∧ Has ρ [(7, (vb ((aB == 8) || (aB == 9)))), (21, (vb (b11'0 || (who1 == 2))))]) ?_ ?_
     ·clear hs hb
      rintro ρ w14 ⟨b11'0, H12, he0, hs, hb, hH⟩
      subst he0
      refine wpL_has hH ?_
      clear hH
      refine q2 (vb (((who1 == aK) || (who1 == aH)) || (who1 == 2))) (xT hg16) (wpL_nil ?_)
      exact ⟨true, _, hg16, hs, hb, hm⟩
     ·skip
      rcases Bool.eq_false_or_eq_true ((who1 == aK) || (who1 == aH)) with hg20 | hg20
      ·skip
       refine sk (yD 18 hg20) (sk (yD 18 hg20) (stp (v := (vb true)) (want1 rfl (yD 7 hg16)) (xT hg20) (wpL_nil ?_)))
       exact ⟨true, _, hg20, hs, hb, hm⟩
      ·skip
       refine q1 (vi who1) (want1 rfl (yD 18 hg20)) (q1 (vb (who1 == 2)) (want1 rfl (yD 18 hg20)) (stp (v := (vb (who1 == 2))) (want1 rfl (yD 7 hg16)) (xF hg20) (wpL_nil ?_)))
       exact ⟨false, _, hg20, hs, hb, hm⟩
    ·skip
     rcases Bool.eq_false_or_eq_true (who1 == aK) with hg18 | hg18
     ·skip
      refine sk (yD 12 hg18) (sk (yD 12 hg18) (sk (yD 12 hg18) (sk (yD 12 hg18) (stp (v := (vb true)) (want1 rfl (yD 7 hg16)) (xT hg18) (wpL_nil ?_)))))
      exact ⟨true, _, hg18, hs, hb, hm⟩
     ·skip
      refine q1 (vi who1) (want1 rfl (yD 12 hg18)) (q1 (vp (some (p1.add 2))) (want1 rfl (yD 12 hg18)) (stp (v := (vi aH)) (want1 rfl (yD 12 hg18)) (xl (Try.isAgg3 _) (hb.c 0 2 gZ)) (q1 (vb (who1 == aH)) (want1 rfl (yD 12 hg18)) (stp (v := (vb (who1 == aH))) (want1 rfl (yD 7 hg16)) (xF hg18) (wpL_nil ?_)))))
      exact ⟨false, _, hg18, hs, hb, hm⟩
   ·skip
    refine sk (yD 7 hg16) (sk (yD 7 hg16) (sk (yD 7 hg16) (sk (yD 7 hg16) (sk (yD 7 hg16) (sm (sm (sm (sm (sk (yD 7 hg16) (sk (yD 7 hg16) (sm ?_)))))))))))
    refine sm (sk (yD 7 hg16) (q2 (vb false) (xF hg16) (wpL_nil ?_)))
    exact ⟨false, _, hg16, hs, hb, hm⟩
 ·clear hs hb
  rintro ρ w8 ⟨H7, hs, hb, hH⟩
  refine norm_has hH ?_
  clear hH
  refine th_n (wpE_ret (rs1 Try.results51 (v := (vb (((aB == 8) || (aB == 9)) && (((who1 == aK) || (who1 == aH)) || (who1 == 2))))) ?_))
  exact ⟨by kernel_rfl, (Ext.refl (F := None) _).hst hs⟩
theorem p_G (who1 aB : Int) (aK aH aP : Int) (aQ : ByteArray) (aR aS : Int) (w0 : World) : Calls Try.prog 51 #[(.int .i64 who1), (.agg #[(.int .i64 aB), (.int .i64 aK), (.int .i64 aH), (.int .u64 aP), (.string aQ), (.int .i64 aR), (.int .i64 aS)])] w0 (fun e w' => e = .returned (.bool (s_G who1 aB aK aH aP aQ aR aS)) ∧ Pure w0 w') := pw_G who1 aB aK aH aP aQ aR aS w0
def m_B3 (p1 : Option Addr) (who1 t1 : Int) (w0 : World) (K : Bool → World → Prop) : Prop :=
 Calls Try.prog 44 #[(vp p1), (vi t1)] w0 (fun e w1 => ∃ aA aC : Int, ∃ aD aE : Int, ∃ aF : ByteArray, ∃ aI aG : Int, ∃ r1 : Bool, e = .returned (.tuple #[(.agg #[(vi aA), (vi aC), (vi aD), (vu aE), (vs aF), (vi aI), (vi aG)]), (vb r1)]) ∧ 
  Kept None w0 w1 ∧
  ∀ (H3 : Nat → Prop) (w7 : World), Hst w0 None w1 H3 w7 →
  K (r1 && (s_G who1 aA aC aD aE aF aI aG)) w7)
theorem w_B3 (p1 : Option Addr) (who1 t1 : Int) (w0 : World) (K : Bool → World → Prop) (h : m_B3 p1 who1 t1 w0 K) :
  Calls Try.prog 21 #[(vp p1), (vi who1), (vi t1)] w0 (fun e w' => ∃ r2 : Bool, e = .returned (vb r2) ∧ K r2 w') := by
 unfold m_B3 at h
 refine cw (args := [(vp p1), (vi who1), (vi t1)]) Try.func21 Try.ntmps21 ?_
 have hs := Hst.start w0
 have hb := HB.nil None w0
 refine wpE_seq (rg (q0 (vb false) (wpL_nil (th_n (wpE_seq (rg (q0 (vp p1) (q0 (vi t1) ?_))))))))
 refine sc Try.call44 (h.mono ?_)
 rintro e w1 ⟨aA, aC, aD, aE, aF, aI, aG, r1, rfl, hk, h⟩
 refine ⟨_, rfl, ?_⟩
 obtain ⟨hs, hb⟩ := hk.hh hs hb
 clear hk
 refine q0 (.tuple #[(.agg #[(vi aA), (vi aC), (vi aD), (vu aE), (vs aF), (vi aI), (vi aG)]), (vb r1)]) (q0 (.agg #[(vi aA), (vi aC), (vi aD), (vu aE), (vs aF), (vi aI), (vi aG)]) (q0 (vb r1) (sn (O := (.cells #[(vi 0), (vi 0), (vi 0), (vu 0), (vs ⟨#[]⟩), (vi 0), (vi 0)] 41)) (x_alloc (Try.zeroValue41 _) rfl) ?_)))
 intro p2 w2 hn1
 obtain ⟨H1, hs, hb⟩ := hs.alloc hb hn1
 refine st_set (want0 rfl) (x_storeA (a := p2) (vs := [(vi aA), (vi aC), (vi aD), (vu aE), (vs aF), (vi aI), (vi aG)]) (by kernel_rfl) (by kernel_rfl) rfl (Try.sizeOf41 _) rfl (hb.canWs0 0 7 gZ (by kernel_rfl))) ?_
 intro w3 hn2
 have hsb : Hst w0 None w1 H1 w3 ∧ HB H1 w3 [(p2, [(vi aA), (vi aC), (vi aD), (vu aE), (vs aF), (vi aI), (vi aG)], 41)] := by
  rw [hn2]
  exact hb.store0 (i := 0) (vs := [(vi aA), (vi aC), (vi aD), (vu aE), (vs aF), (vi aI), (vi aG)]) hs gZ (by kernel_rfl) (by kernel_rfl)
 clear hs hb hn2
 obtain ⟨hs, hb⟩ := hsb
 refine q0 (vb r1) (wpL_nil (th_n (wpE_seq ?_)))
 refine wpE_via (fun ρ wJ => ∃ HJ : Nat → Prop, Hst w0 None w1 HJ wJ ∧ HB HJ wJ [(p2, [(vi aA), (vi aC), (vi aD), (vu aE), (vs aF), (vi aI), (vi aG)], 41)] ∧ Has ρ [(6, (vb (r1 && (s_G who1 aA aC aD aE aF aI aG))))]) ?_ ?_
 ·skip
  refine rg (q0 (vb r1) (q0 (vb r1) ?_))
  refine wpL_join 4 (fun ρ wJ => ∃ b3'0 : Bool, ∃ HJ : Nat → Prop, (r1 = b3'0) ∧ Hst w0 None w1 HJ wJ ∧ HB HJ wJ [(p2, [(vi aA), (vi aC), (vi aD), (vu aE), (vs aF), (vi aI), (vi aG)], 41)] ∧ Has ρ [(20, (vb (b3'0 && (s_G who1 aA aC aD aE aF aI aG))))]) ?_ ?_
  ·clear hs hb
   rintro ρ w9 ⟨b3'0, H4, he0, hs, hb, hH⟩
   subst he0
   refine wpL_has hH ?_
   clear hH
   refine q0 (vb (r1 && (s_G who1 aA aC aD aE aF aI aG))) (wpL_nil (th_n ?_))
   exact ⟨_, hs, hb, hm⟩
  ·skip
   rcases Bool.eq_false_or_eq_true r1 with hg4 | hg4
   ·skip
    refine q1 (vi who1) (want1 rfl (yD 16 hg4)) (stp (v := (.agg #[(vi aA), (vi aC), (vi aD), (vu aE), (vs aF), (vi aI), (vi aG)])) (want1 rfl (yD 16 hg4)) (x_loadA (a := p2) (vs := [(vi aA), (vi aC), (vi aD), (vu aE), (vs aF), (vi aI), (vi aG)]) (by kernel_rfl) (Try.isAgg41 _) (Try.sizeOf41 _) rfl (hb.row0 0 7 gZ (by kernel_rfl))) ?_)
    refine st_call (want1 rfl (yD 16 hg4)) (xc Try.call51) ((p_G who1 aA aC aD aE aF aI aG w3).mono ?_)
    rintro e w10 ⟨he, hE⟩
    refine ⟨(vb (s_G who1 aA aC aD aE aF aI aG)), he.trans (by kernel_rfl), ?_⟩
    replace hs := hs.pure hE
    replace hb := hb.pure hE
    clear hE he
    refine q2 (vb (s_G who1 aA aC aD aE aF aI aG)) (xT hg4) (wpL_nil ?_)
    exact ⟨true, _, hg4, hs, hb, hm⟩
   ·skip
    refine sk (yD 16 hg4) (sk (yD 16 hg4) (sk (yD 16 hg4) (q2 (vb false) (xF hg4) (wpL_nil ?_))))
    exact ⟨false, _, hg4, hs, hb, hm⟩
 ·clear hs hb
  rintro ρ w7 ⟨H3, hs, hb, hH⟩
  refine norm_has hH ?_
  clear hH
  refine th_n (wpE_ret ?_)
  replace h := h H3 w7 hs
  replace hs := hs.here
  refine rs1 Try.results21 (v := (vb (r1 && (s_G who1 aA aC aD aE aF aI aG)))) ?_
  exact ⟨(r1 && (s_G who1 aA aC aD aE aF aI aG)), rfl, h⟩
def m_Q_l2 (l1 m1 : Sl) (p8 : Addr) (x2 : Int) (Hl1 : Nat → Prop) (wl1 : World) (Kc2 : Int → (Nat → Prop) → World → Prop) (K : Bool → World → Prop) : Prop :=
 Br (decide (x2 < (l1.len : Int)))
  (∃ C1 : World → Prop, C1 wl1.drew ∧ ∀ w11, w11 = wl1.drew →
  ∃ v1 : Value, w11.cell? p8 = some v1 ∧
  ∃ a1 : Addr, At l1 x2 1 a1 ∧
  ∃ v2 : Int, w11.cell? a1 = some (vi v2) ∧
  ∃ a2 : Addr, At m1 x2 1 a2 ∧
  ∃ v3 : Int, w11.cell? a2 = some (vi v3) ∧
  ∃ (f1 : FuncId) (fs1 cs1 : Array Value), v1 = .func (.func f1) fs1 cs1 ∧
  (∀ args w, (callFunc f1 args).run Try.prog w = .ok (.enter f1 args) w) ∧ Calls Try.prog f1 (fs1 ++ #[(vi v2), (vi v3)] ++ cs1) w11 (fun e w12 => ∃ r1 : Bool, e = .returned (vb r1) ∧ C1 w12 ∧ 
   Kept Hl1 w11 w12 ∧
   Br (!r1)
    (K false w12)
    (Kc2 (IntKind.i64.wrap (x2 + 1)) Hl1 w12)))
  (K true wl1)
def m_Q_j1 (l1 m1 : Sl) (p2 p3 : Addr) (x1 : Bool) (w0 : World) (H : Nat → Prop) (w : World) (K : Bool → World → Prop) : Prop :=
 Br x1
  (K false w)
  (∀ (p4 : Addr) (w3 : World), New w (.map #[] 0) p4 w3 →
  ∀ (p5 : Addr) (w4 : World), New w3 (.map #[] 0) p5 w4 →
  ∀ (p6 : Addr) (w5 : World), New w4 (.cells #[(.map none)] 91) p6 w5 →
  ∀ (p7 : Addr) (w6 : World), New w5 (.cells #[(.map none)] 91) p7 w6 →
  CanW w6 p6 ∧ ¬ H p6.block ∧ ∀ w7 : World, w7 = w6.setCell p6 (.map (some p4.block)) →
  CanW w7 p7 ∧ ¬ H p7.block ∧ ∀ w8 : World, w8 = w7.setCell p7 (.map (some p5.block)) →
  ∀ (p8 : Addr) (w9 : World), New w8 (.cells #[(.nilFunc : Value)] 92) p8 w9 →
  CanW w9 p8 ∧ ¬ H p8.block ∧ ∀ w10 : World, w10 = w9.setCell p8 (.func (.func 49) #[] #[(vp (some p6)), (vp (some p7)), (vp (some p2)), (vp (some p3)), (vp (some p8))]) →
  ∃ (I1 : Int → (Nat → Prop) → World → Prop) (mu1 : Int → World → Nat), I1 0 H w10 ∧
   ∀ (x2 : Int) (Hl1 : Nat → Prop) (wl1 : World), Hst w0 Hl1 wl1 Hl1 wl1 → I1 x2 Hl1 wl1 → m_Q_l2 l1 m1 p8 x2 Hl1 wl1 (fun y'0 H' w' => I1 y'0 H' w' ∧ mu1 y'0 w' < mu1 x2 wl1) K)
def m_Q_j3 (l1 m1 : Sl) (p2 p3 : Addr) (x3 : Bool) (w0 : World) (H : Nat → Prop) (w : World) (K : Bool → World → Prop) : Prop :=
 ∀ (H1 : Nat → Prop) (w13 : World), Hst w0 H w H1 w13 →
 m_Q_j1 l1 m1 p2 p3 (x3 || (((l1.len : Int) : Int) != (m1.len : Int))) w0 H1 w13 K
def m_Q (p1 : Option Addr) (who1 : Int) (l1 m1 : Sl) (w0 : World) (K : Bool → World → Prop) : Prop :=
 ∀ (p2 : Addr) (w1 : World), New w0 (.cells #[(vp p1)] 28) p2 w1 →
 ∀ (p3 : Addr) (w2 : World), New w1 (.cells #[(vi who1)] 3) p3 w2 →
 ∃ v4 : Option Addr, w2.cell? p2 = some (vp v4) ∧
 Br (Option.isNone v4)
  (m_Q_j3 l1 m1 p2 p3 true w0 None w2 K)
  (∃ v5 : Int, w2.cell? p3 = some (vi v5) ∧
  ∀ (w14 : World), Hst w0 None w2 None w14 →
  m_Q_j3 l1 m1 p2 p3 (!((decide (v5 ≥ 0)) && (decide (v5 < 16)))) w0 None w14 K)
theorem w_Q (p1 : Option Addr) (who1 : Int) (l1 m1 : Sl) (w0 : World) (K : Bool → World → Prop) (h : m_Q p1 who1 l1 m1 w0 K) :
  Calls Try.prog 16 #[(vp p1), (vi who1), l1.v, m1.v] w0 (fun e w' => ∃ r2 : Bool, e = .returned (vb r2) ∧ K r2 w') := by
 unfold m_Q at h
 refine cw (args := [(vp p1), (vi who1), l1.v, m1.v]) Try.func16 Try.ntmps16 ?_
 have hs := Hst.start w0
 have hb := HB.nil None w0
 refine wpE_seq (rg (sn (O := (.cells #[(vp p1)] 28)) xb ?_))
 intro p2 w1 hn10
 replace h := h p2 w1 hn10
 replace hs := hs.again (Ext.new (F := None) hn10).keptP
 replace hb := hb.kept (Ext.new (F := None) hn10).keptP
 refine sn (O := (.cells #[(vi who1)] 3)) xb ?_
 intro p3 w2 hn9
 replace h := h p3 w2 hn9
 replace hs := hs.again (Ext.new (F := None) hn9).keptP
 replace hb := hb.kept (Ext.new (F := None) hn9).keptP
 refine q0 (vb false) (wpL_nil (th_n (wpE_seq (wpE_seq ?_))))
 refine wpE_joinT (fun ρ w => ∃ x1 : Bool, ∃ H : Nat → Prop, Has ρ [(2, l1.v), (3, m1.v), (4, (vp (some p2))), (5, (vp (some p3))), (26, (vb x1))] ∧ Hst w0 H w H w ∧ HB H w [] ∧ m_Q_j1 l1 m1 p2 p3 x1 w0 H w K) ?_ ?_
 ·clear h hs hb
  rintro ρ w ⟨x1, H, hH, hs, hb, h⟩
  unfold m_Q_j1 at h
  refine wpE_has hH ?_
  clear hH
  refine wpE_cond (t := x1) (by kernel_rfl) (fun hc1 => ?_) (fun hc1 => ?_)
  ·replace h := h.1 hc1
   refine wpE_seq (rg (q0 (vb false) (wpL_nil (th_n (wpE_ret (th_r (rs1 Try.results16 (v := (vb false)) ?_)))))))
   exact ⟨false, rfl, h⟩
  ·replace h := h.2 hc1
   refine wpE_skip (th_n (wpE_seq (rg (st_new (O := (.map #[] 0)) (fun p => .map (some p.block)) (want0 rfl) (by kernel_rfl) ?_))))
   intro p4 w3 hn8
   replace h := h p4 w3 hn8
   replace hs := hs.again (Ext.new (F := None) hn8).keptP
   replace hb := hb.kept (Ext.new (F := None) hn8).keptP
   refine st_new (O := (.map #[] 0)) (fun p => .map (some p.block)) (want0 rfl) (by kernel_rfl) ?_
   intro p5 w4 hn7
   replace h := h p5 w4 hn7
   replace hs := hs.again (Ext.new (F := None) hn7).keptP
   replace hb := hb.kept (Ext.new (F := None) hn7).keptP
   refine sn (O := (.cells #[(.map none)] 91)) (x_alloc (Try.zeroValue91 _) rfl) ?_
   intro p6 w5 hn6
   replace h := h p6 w5 hn6
   replace hs := hs.again (Ext.new (F := None) hn6).keptP
   replace hb := hb.kept (Ext.new (F := None) hn6).keptP
   refine sn (O := (.cells #[(.map none)] 91)) (x_alloc (Try.zeroValue91 _) rfl) ?_
   intro p7 w6 hn5
   replace h := h p7 w6 hn5
   replace hs := hs.again (Ext.new (F := None) hn5).keptP
   replace hb := hb.kept (Ext.new (F := None) hn5).keptP
   obtain ⟨hp1, hnh, h⟩ := h
   refine st_set (want0 rfl) (x_store (a := p6) (v := (.map (some p4.block))) (by kernel_rfl) (by kernel_rfl) rfl (Try.sizeOf91 _) hp1) ?_
   intro w7 hn1
   replace h := h w7 hn1
   have hk : Kept H w6 w7 := by rw [hn1]; exact Kept.setCell hnh
   obtain ⟨hs, hb⟩ := hk.hh hs hb
   clear hk hnh
   obtain ⟨hp2, hnh, h⟩ := h
   refine st_set (want0 rfl) (x_store (a := p7) (v := (.map (some p5.block))) (by kernel_rfl) (by kernel_rfl) rfl (Try.sizeOf91 _) hp2) ?_
   intro w8 hn2
   replace h := h w8 hn2
   have hk : Kept H w7 w8 := by rw [hn2]; exact Kept.setCell hnh
   obtain ⟨hs, hb⟩ := hk.hh hs hb
   clear hk hnh
   refine wpL_nil (th_n (wpE_seq (rg (sn (O := (.cells #[(.nilFunc : Value)] 92)) (x_alloc (Try.zeroValue92 _) rfl) ?_))))
   intro p8 w9 hn4
   replace h := h p8 w9 hn4
   replace hs := hs.again (Ext.new (F := None) hn4).keptP
   replace hb := hb.kept (Ext.new (F := None) hn4).keptP
   refine wpL_nil (th_n (wpE_seq (rg (q0 (.func (.func 49) #[] #[(vp (some p6)), (vp (some p7)), (vp (some p2)), (vp (some p3)), (vp (some p8))]) ?_))))
   obtain ⟨hp3, hnh, h⟩ := h
   refine st_set (want0 rfl) (x_store (a := p8) (v := (.func (.func 49) #[] #[(vp (some p6)), (vp (some p7)), (vp (some p2)), (vp (some p3)), (vp (some p8))])) (by kernel_rfl) (by kernel_rfl) rfl (Try.sizeOf92 _) hp3) ?_
   intro w10 hn3
   replace h := h w10 hn3
   have hk : Kept H w9 w10 := by rw [hn3]; exact Kept.setCell hnh
   obtain ⟨hs, hb⟩ := hk.hh hs hb
   clear hk hnh
   refine wpL_nil (th_n (wpE_seq (wpE_seq (rg (q0 l1.v (q0 (vi (l1.len : Int)) (q0 (vi 0) (wpL_nil (th_n (wpE_block ?_))))))))))
   obtain ⟨I1, mu1, h0, hr⟩ := h
   refine wpE_loop (σ := Int × (Nat → Prop) × World) (fun s ρ w => w = s.2.2 ∧ Has ρ [(2, l1.v), (3, m1.v), (11, (vp (some p8))), (31, (vi (l1.len : Int))), (32, (vi s.1))] ∧ Hst w0 s.2.1 w s.2.1 w ∧ HB s.2.1 w [] ∧ I1 s.1 s.2.1 s.2.2) (fun s => mu1 s.1 s.2.2) (0, H, w10) ⟨rfl, hm, hs, hb, h0⟩ ?_
   clear hs hb
   rintro ⟨x2, Hl1, wl1⟩ ρ w ⟨hw, hH, hs, hb, hI⟩
   obtain rfl : wl1 = w := (show w = wl1 from hw).symm
   replace hH : Has ρ [(2, l1.v), (3, m1.v), (11, (vp (some p8))), (31, (vi (l1.len : Int))), (32, (vi x2))] := hH
   replace hs : Hst w0 Hl1 wl1 Hl1 wl1 := hs
   replace hb : HB Hl1 wl1 [] := hb
   have h := hr x2 Hl1 wl1 hs hI
   clear hr h0
   unfold m_Q_l2 at h
   refine wpE_has hH ?_
   clear hH hI
   refine wpE_seq (rg (q0 (vb (decide (x2 < (l1.len : Int)))) (wpL_nil (th_n (wpE_seq ?_)))))
   refine wpE_cond (t := (decide (x2 < (l1.len : Int)))) (by kernel_rfl) (fun hc2 => ?_) (fun hc2 => ?_)
   ·replace h := h.1 hc2
    refine wpE_skip (th_n (wpE_seq (wpE_block (wpE_seq (rg (q0 (vi x2) (q0 (vi x2) (wpL_nil (th_n (wpE_seq ?_))))))))))
    obtain ⟨C1, hC, h⟩ := h
    refine wpE_drawnC C1 [9] [] (by kernel_rfl) (by kernel_rfl) (by kernel_rfl) (by kernel_rfl) hC ?_
    clear hC
    intro w11 hw11
    replace h := h w11 hw11
    replace hs : Hst w0 Hl1 wl1 Hl1 w11 := by rw [hw11]; exact hs.drew
    replace hb : HB Hl1 w11 [] := by rw [hw11]; exact hb.drew
    replace hs := hs.here
    refine qg 0 ?_
    obtain ⟨v1, hv5, h⟩ := h
    refine sye Kp0 (xl (Try.isAgg92 _) hv5) (qx 1 l1.v Kp1 (qx 2 (vi x2) Kp2 (qg 3 ?_)))
    obtain ⟨a1, hv4, h⟩ := h
    refine sy (v := (vp (some a1))) Kp3 (fun _ _ => (xi (Try.runUnderlying36 _) (Try.sizeOf23 _) hv4)) (qg 4 ?_)
    obtain ⟨v2, hv3, h⟩ := h
    refine sye Kp4 (xl (Try.isAgg23 _) hv3) (qx 5 m1.v Kp5 (qx 6 (vi x2) Kp6 (qg 7 ?_)))
    obtain ⟨a2, hv2, h⟩ := h
    refine sy (v := (vp (some a2))) Kp7 (fun _ _ => (xi (Try.runUnderlying36 _) (Try.sizeOf23 _) hv2)) (qg 8 ?_)
    obtain ⟨v3, hv1, h⟩ := h
    refine sye Kp8 (xl (Try.isAgg23 _) hv1) (lg 9 ?_)
    obtain ⟨f1, fs1, cs1, hp4, h⟩ := h
    obtain ⟨hf1, h⟩ := h
    refine sl_call Kp9 (want0 rfl) (by kernel_rfl) (x_callmE (fs := fs1) (caps := cs1) (args := #[(vi v2), (vi v3)]) (by kernel_rfl) hp4 hf1 (by kernel_rfl) rfl) (h.mono ?_)
    rintro e w12 ⟨r1, rfl, hC, hk, h⟩
    refine ⟨_, rfl, .inr hC, ?_⟩
    obtain ⟨hs, hb⟩ := hk.hh hs hb
    clear hk
    refine qx 10 (vb (!r1)) (pickA (S8 (pickS (pickS pickZ)))) (wn (th_n ?_))
    refine wpE_cond (t := (!r1)) (by kernel_rfl) (fun hc3 => ?_) (fun hc3 => ?_)
    ·replace h := h.1 hc3
     refine wpE_seq (rg (q0 (vb false) (wpL_nil (th_n (wpE_ret (bl_r (th_r (th_r (bl_r (th_r (rs1 Try.results16 (v := (vb false)) ?_)))))))))))
     exact ⟨false, rfl, h⟩
    ·replace h := h.2 hc3
     refine wpE_skip (bl_n (th_n (rg (q0 (vi (IntKind.i64.wrap (x2 + 1))) (q0 (vi (IntKind.i64.wrap (x2 + 1))) (wpL_nil (th_n ?_)))))))
     exact ⟨((IntKind.i64.wrap (x2 + 1)), Hl1, w12), ⟨rfl, hm, hs, hb, h.1⟩, h.2⟩
   ·replace h := h.2 hc2
    refine wpE_exit (th_x (th_x (bl_eq (th_n (wpE_seq (rg (q0 (vb true) (wpL_nil (th_n (wpE_ret (rs1 Try.results16 (v := (vb true)) ?_)))))))))))
    exact ⟨true, rfl, h⟩
 ·skip
  refine rg ?_
  obtain ⟨v4, hv7, h⟩ := h
  refine q2 (vp v4) (xl (Try.isAgg28 _) hv7) (q2 (vb (Option.isNone v4)) (x_ptreq (by kernel_rfl) rfl Try.underlying28) (q0 (vb (Option.isNone v4)) ?_))
  refine wpL_join 4 (fun ρ w => ∃ x3 : Bool, ∃ H : Nat → Prop, Has ρ [(2, l1.v), (3, m1.v), (4, (vp (some p2))), (5, (vp (some p3))), (19, (vb x3))] ∧ Hst w0 H w H w ∧ HB H w [] ∧ m_Q_j3 l1 m1 p2 p3 x3 w0 H w K) ?_ ?_
  ·clear h hs hb
   rintro ρ w ⟨x3, H, hH, hs, hb, h⟩
   unfold m_Q_j3 at h
   refine wpL_has hH ?_
   clear hH
   refine q0 (vb x3) ?_
   refine wpL_join 6 (fun ρ wJ => ∃ b1'0 : Bool, ∃ HJ : Nat → Prop, (x3 = b1'0) ∧ Hst w0 H w HJ wJ ∧ HB HJ wJ [] ∧ Has ρ [(2, l1.v), (3, m1.v), (4, (vp (some p2))), (5, (vp (some p3))), (26, (vb (b1'0 || (((l1.len : Int) : Int) != (m1.len : Int)))))]) ?_ ?_
   ·clear hs hb
    rintro ρ w13 ⟨b1'0, H1, he0, hs, hb, hH⟩
    subst he0
    refine wpL_has hH ?_
    clear hH
    refine wpL_nil ?_
    replace h := h H1 w13 hs
    replace hs := hs.here
    refine th_n ?_
    exact ⟨(x3 || (((l1.len : Int) : Int) != (m1.len : Int))), H1, hm, hs, hb, h⟩
   ·skip
    rcases Bool.eq_false_or_eq_true x3 with hg2 | hg2
    ·skip
     refine sk (yD 20 hg2) (sk (yD 20 hg2) (sk (yD 20 hg2) (sk (yD 20 hg2) (sk (yD 20 hg2) (q2 (vb true) (xT hg2) (wpL_nil ?_))))))
     exact ⟨true, _, hg2, hs, hb, hm⟩
    ·skip
     refine q1 l1.v (want1 rfl (yD 20 hg2)) (q1 (vi (l1.len : Int)) (want1 rfl (yD 20 hg2)) (q1 m1.v (want1 rfl (yD 20 hg2)) (q1 (vi (m1.len : Int)) (want1 rfl (yD 20 hg2)) (q1 (vb (((l1.len : Int) : Int) != (m1.len : Int))) (want1 rfl (yD 20 hg2)) (q2 (vb (((l1.len : Int) : Int) != (m1.len : Int))) (xF hg2) (wpL_nil ?_))))))
     exact ⟨false, _, hg2, hs, hb, hm⟩
  ·skip
   rcases Bool.eq_false_or_eq_true (Option.isNone v4) with hg3 | hg3
   ·replace h := h.1 hg3
    refine sk (yD 15 hg3) (sk (yD 15 hg3) (sk (yD 15 hg3) (q2 (vb true) (xT hg3) (wpL_nil ?_))))
    exact ⟨true, None, hm, hs, hb, h⟩
   ·replace h := h.2 hg3
    obtain ⟨v5, hv6, h⟩ := h
    refine stp (v := (vi v5)) (want1 rfl (yD 15 hg3)) (xl (Try.isAgg3 _) hv6) ?_
    refine st_call (want1 rfl (yD 15 hg3)) (xc Try.call48) ((p_W1 v5 w2).mono ?_)
    rintro e w14 ⟨he, hE⟩
    refine ⟨(vb ((decide (v5 ≥ 0)) && (decide (v5 < 16)))), he.trans (by kernel_rfl), ?_⟩
    replace hs := hs.pure hE
    replace hb := hb.pure hE
    clear hE he
    refine q1 (vb (!((decide (v5 ≥ 0)) && (decide (v5 < 16))))) (want1 rfl (yD 15 hg3)) (q2 (vb (!((decide (v5 ≥ 0)) && (decide (v5 < 16))))) (xF hg3) (wpL_nil ?_))
    replace h := h w14 hs
    replace hs := hs.here
    exact ⟨(!((decide (v5 ≥ 0)) && (decide (v5 < 16)))), None, hm, hs, hb, h⟩
def m_O_j3 (r1 : Option Addr) (r4 r6 : Int) (x3 : Bool) (H : Nat → Prop) (w : World) (K : Bool → World → Prop) : Prop :=
 Br x3
  (∀ (p1 : Addr) (w25 : World), New w (.cells #[(vi r4)] 23) p1 w25 →
  ∀ (p2 : Addr) (w26 : World), New w25 (.cells #[(vi r6)] 23) p2 w26 →
  Calls Try.prog 16 #[(vp r1), (vi 1), (Sl.mk (some p1) 1 1).v, (Sl.mk (some p2) 1 1).v] w26 (fun e w27 => ∃ r17 : Bool, e = .returned (vb r17) ∧ 
   Kept H w26 w27 ∧
   K (!r17) w27))
  (K false w)
def m_O_j2 (r1 : Option Addr) (r4 r6 : Int) (x2 : Bool) (H : Nat → Prop) (w : World) (K : Bool → World → Prop) : Prop :=
 Br x2
  (∀ (p3 : Addr) (w28 : World), New w (.cells #[(vi r4)] 23) p3 w28 →
  ∀ (p4 : Addr) (w29 : World), New w28 (.cells #[(vi r6)] 23) p4 w29 →
  Calls Try.prog 16 #[(vp r1), (vi 3), (Sl.mk (some p3) 1 1).v, (Sl.mk (some p4) 1 1).v] w29 (fun e w30 => ∃ r18 : Bool, e = .returned (vb r18) ∧ 
   Kept H w29 w30 ∧
   m_O_j3 r1 r4 r6 r18 H w30 K))
  (m_O_j3 r1 r4 r6 false H w K)
def m_O_j1 (r1 : Option Addr) (r4 r6 : Int) (x1 : Bool) (H : Nat → Prop) (w : World) (K : Bool → World → Prop) : Prop :=
 Br x1
  (Calls Try.prog 21 #[(vp r1), (vi 3), (vi r4)] w (fun e w31 => ∃ r19 : Bool, e = .returned (vb r19) ∧ 
   Kept H w w31 ∧
   m_O_j2 r1 r4 r6 (!r19) H w31 K))
  (m_O_j2 r1 r4 r6 false H w K)
def m_O  (w0 : World) (K : Bool → World → Prop) : Prop :=
 Calls Try.prog 35 #[] w0 (fun e w1 => ∃ r1 : Option Addr, e = .returned (vp r1) ∧ 
  Kept None w0 w1 ∧
  Br (Option.isNone r1)
   (K false w1)
   (Calls Try.prog 36 #[(vp r1), (vu 1)] w1 (fun e w2 => ∃ r2 r3 : Int, e = .returned (.tuple #[(vi r2), (vi r3)]) ∧ 
    Kept None w1 w2 ∧
    Calls Try.prog 37 #[(vp r1), (vi 0), (vi 1), (vi r2)] w2 (fun e w3 => ∃ r4 r5 : Int, e = .returned (.tuple #[(vi r4), (vi r5)]) ∧ 
     Kept None w2 w3 ∧
     Calls Try.prog 38 #[(vp r1), (vi 0), (vi 1), (vi r2)] w3 (fun e w4 => ∃ r6 r7 : Int, e = .returned (.tuple #[(vi r6), (vi r7)]) ∧ 
      Kept None w3 w4 ∧
      Calls Try.prog 24 #[(vp r1), (vi 3), (vi r6)] w4 (fun e w5 => ∃ r8 r9 : Int, e = .returned (.tuple #[(vi r8), (vi r9)]) ∧ 
       Kept None w4 w5 ∧
       Calls Try.prog 24 #[(vp r1), (vi 1), (vi r6)] w5 (fun e w6 => ∃ r10 r11 : Int, e = .returned (.tuple #[(vi r10), (vi r11)]) ∧ 
        Kept None w5 w6 ∧
        Calls Try.prog 10 #[(vp r1), (vi 1), (vi r4)] w6 (fun e w7 => ∃ r12 r13 : Int, e = .returned (.tuple #[(vi r12), (vi r13)]) ∧ 
         Kept None w6 w7 ∧
         Calls Try.prog 24 #[(vp r1), (vi 16), (vi r6)] w7 (fun e w8 => ∃ r14 r15 : Int, e = .returned (.tuple #[(vi r14), (vi r15)]) ∧ 
          Kept None w7 w8 ∧
          Calls Try.prog 12 #[(vp r1), (vi 1), (vi r4)] w8 (fun e w9 => ∃ r16 : Sl, e = .returned r16.v ∧ 
           Kept None w8 w9 ∧
           ∀ y1 : Bool, y1 = (((((r8 == r4) && (r9 == 0)) && (r10 == r6)) && (r11 == 0)) && (r12 == r6)) →
           Br (((y1 && (r13 == 0)) && (r15 == 50)) && (((r16.len : Int) : Int) == 1))
            (∀ (H7 : Nat → Prop) (w24 : World), Hst w0 None w9 H7 w24 →
            Calls Try.prog 21 #[(vp r1), (vi 2), (vi r4)] w24 (fun e w32 => ∃ r20 : Bool, e = .returned (vb r20) ∧ 
             Kept H7 w24 w32 ∧
             m_O_j1 r1 r4 r6 r20 H7 w32 K))
            (∀ (H7 : Nat → Prop) (w24 : World), Hst w0 None w9 H7 w24 →
            m_O_j1 r1 r4 r6 false H7 w24 K)))))))))))
theorem w_O  (w0 : World) (K : Bool → World → Prop) (h : m_O  w0 K) :
  Calls Try.prog 8 #[] w0 (fun e w' => ∃ r21 : Bool, e = .returned (vb r21) ∧ K r21 w') := by
 unfold m_O at h
 refine cw (args := []) Try.func8 Try.ntmps8 ?_
 have hs := Hst.start w0
 have hb := HB.nil None w0
 refine wpE_seq (rg (q0 (vb false) (wpL_nil (th_n (wpE_seq (rg ?_))))))
 refine sc Try.call35 (h.mono ?_)
 rintro e w1 ⟨r1, rfl, hk, h⟩
 refine ⟨_, rfl, ?_⟩
 obtain ⟨hs, hb⟩ := hk.hh hs hb
 clear hk
 refine q0 (vp r1) (wpL_nil (th_n (wpE_seq (wpE_seq (rg (q0 (vp r1) (q2 (vb (Option.isNone r1)) (x_ptreq (by kernel_rfl) rfl Try.underlying28) (wpL_nil (th_n ?_)))))))))
 refine wpE_cond (t := (Option.isNone r1)) (by kernel_rfl) (fun hc1 => ?_) (fun hc1 => ?_)
 ·replace h := h.1 hc1
  refine wpE_seq (rg (q0 (vb false) (wpL_nil (th_n (wpE_ret (th_r (rs1 Try.results8 (v := (vb false)) ?_)))))))
  exact ⟨false, rfl, h⟩
 ·replace h := h.2 hc1
  refine wpE_skip (th_n (wpE_seq (rg (q0 (vp r1) ?_))))
  refine sc Try.call36 (h.mono ?_)
  rintro e w2 ⟨r2, r3, rfl, hk, h⟩
  refine ⟨_, rfl, ?_⟩
  obtain ⟨hs, hb⟩ := hk.hh hs hb
  clear hk
  refine q0 (.tuple #[(vi r2), (vi r3)]) (q0 (vi r2) (q0 (vi r3) (q0 (vi r2) (q0 (vi r3) (wpL_nil (th_n (wpE_seq (rg (q0 (vp r1) (q0 (vi r2) ?_))))))))))
  refine sc Try.call37 (h.mono ?_)
  rintro e w3 ⟨r4, r5, rfl, hk, h⟩
  refine ⟨_, rfl, ?_⟩
  obtain ⟨hs, hb⟩ := hk.hh hs hb
  clear hk
  refine q0 (.tuple #[(vi r4), (vi r5)]) (q0 (vi r4) (q0 (vi r5) (q0 (vi r4) (q0 (vi r5) (wpL_nil (th_n (wpE_seq (rg (q0 (vp r1) (q0 (vi r2) ?_))))))))))
  refine sc Try.call38 (h.mono ?_)
  rintro e w4 ⟨r6, r7, rfl, hk, h⟩
  refine ⟨_, rfl, ?_⟩
  obtain ⟨hs, hb⟩ := hk.hh hs hb
  clear hk
  refine q0 (.tuple #[(vi r6), (vi r7)]) (q0 (vi r6) (q0 (vi r7) (q0 (vi r6) (q0 (vi r7) (wpL_nil (th_n (wpE_seq (rg (q0 (vp r1) (q0 (vi r6) ?_))))))))))
  refine sc Try.call24 (h.mono ?_)
  rintro e w5 ⟨r8, r9, rfl, hk, h⟩
  refine ⟨_, rfl, ?_⟩
  obtain ⟨hs, hb⟩ := hk.hh hs hb
  clear hk
  refine q0 (.tuple #[(vi r8), (vi r9)]) (q0 (vi r8) (q0 (vi r9) (q0 (vi r8) (q0 (vi r9) (wpL_nil (th_n (wpE_seq (rg (q0 (vp r1) (q0 (vi r6) ?_))))))))))
  refine sc Try.call24 (h.mono ?_)
  rintro e w6 ⟨r10, r11, rfl, hk, h⟩
  refine ⟨_, rfl, ?_⟩
  obtain ⟨hs, hb⟩ := hk.hh hs hb
  clear hk
  refine q0 (.tuple #[(vi r10), (vi r11)]) (q0 (vi r10) (q0 (vi r11) (q0 (vi r10) (q0 (vi r11) (wpL_nil (th_n (wpE_seq (rg (q0 (vp r1) (q0 (vi r4) ?_))))))))))
  refine sc Try.call10 (h.mono ?_)
  rintro e w7 ⟨r12, r13, rfl, hk, h⟩
  refine ⟨_, rfl, ?_⟩
  obtain ⟨hs, hb⟩ := hk.hh hs hb
  clear hk
  refine q0 (.tuple #[(vi r12), (vi r13)]) (q0 (vi r12) (q0 (vi r13) (q0 (vi r12) (q0 (vi r13) (wpL_nil (th_n (wpE_seq (rg (q0 (vp r1) (q0 (vi r6) ?_))))))))))
  refine sc Try.call24 (h.mono ?_)
  rintro e w8 ⟨r14, r15, rfl, hk, h⟩
  refine ⟨_, rfl, ?_⟩
  obtain ⟨hs, hb⟩ := hk.hh hs hb
  clear hk
  refine q0 (.tuple #[(vi r14), (vi r15)]) (q0 (vi r14) (q0 (vi r15) (q0 (vi r14) (q0 (vi r15) (wpL_nil (th_n (wpE_seq (rg (q0 (vp r1) (q0 (vi r4) ?_))))))))))
  refine sc Try.call12 (h.mono ?_)
  rintro e w9 ⟨r16, rfl, hk, h⟩
  refine ⟨_, rfl, ?_⟩
  obtain ⟨hs, hb⟩ := hk.hh hs hb
  clear hk
  refine q0 r16.v (wpL_nil (th_n (wpE_seq (rg (q0 (vi r8) (q0 (vi r4) (q0 (vb (r8 == r4)) (q0 (vb (r8 == r4)) ?_))))))))
  refine wpL_join 4 (fun ρ wJ => ∃ b1'0 : Bool, ∃ HJ : Nat → Prop, ((r8 == r4) = b1'0) ∧ Hst w0 None w9 HJ wJ ∧ HB HJ wJ [] ∧ Has ρ [(1, (vp r1)), (4, (vi r4)), (6, (vi r6)), (10, (vi r10)), (11, (vi r11)), (12, (vi r12)), (13, (vi r13)), (15, (vi r15)), (16, r16.v), (71, (vb (b1'0 && (r9 == 0))))]) ?_ ?_
  ·clear hs hb
   rintro ρ w11 ⟨b1'0, H1, he0, hs, hb, hH⟩
   subst he0
   refine wpL_has hH ?_
   clear hH
   refine q0 (vb ((r8 == r4) && (r9 == 0))) ?_
   refine wpL_join 4 (fun ρ wJ => ∃ b2'0 : Bool, ∃ HJ : Nat → Prop, (((r8 == r4) && (r9 == 0)) = b2'0) ∧ Hst w0 None w9 HJ wJ ∧ HB HJ wJ [] ∧ Has ρ [(1, (vp r1)), (4, (vi r4)), (6, (vi r6)), (11, (vi r11)), (12, (vi r12)), (13, (vi r13)), (15, (vi r15)), (16, r16.v), (76, (vb (b2'0 && (r10 == r6))))]) ?_ ?_
   ·clear hs hb
    rintro ρ w13 ⟨b2'0, H2, he0, hs, hb, hH⟩
    subst he0
    refine wpL_has hH ?_
    clear hH
    refine q0 (vb (((r8 == r4) && (r9 == 0)) && (r10 == r6))) ?_
    refine wpL_join 4 (fun ρ wJ => ∃ b3'0 : Bool, ∃ HJ : Nat → Prop, ((((r8 == r4) && (r9 == 0)) && (r10 == r6)) = b3'0) ∧ Hst w0 None w9 HJ wJ ∧ HB HJ wJ [] ∧ Has ρ [(1, (vp r1)), (4, (vi r4)), (6, (vi r6)), (12, (vi r12)), (13, (vi r13)), (15, (vi r15)), (16, r16.v), (81, (vb (b3'0 && (r11 == 0))))]) ?_ ?_
    ·clear hs hb
     rintro ρ w15 ⟨b3'0, H3, he0, hs, hb, hH⟩
     subst he0
     refine wpL_has hH ?_
     clear hH
     refine q0 (vb ((((r8 == r4) && (r9 == 0)) && (r10 == r6)) && (r11 == 0))) ?_
     refine wpL_join 4 (fun ρ wJ => ∃ b4'0 y1 : Bool, ∃ HJ : Nat → Prop, (((((r8 == r4) && (r9 == 0)) && (r10 == r6)) && (r11 == 0)) = b4'0) ∧ (y1 = (b4'0 && (r12 == r6))) ∧ Hst w0 None w9 HJ wJ ∧ HB HJ wJ [] ∧ Has ρ [(1, (vp r1)), (4, (vi r4)), (6, (vi r6)), (13, (vi r13)), (15, (vi r15)), (16, r16.v), (86, (vb y1))]) ?_ ?_
     ·clear hs hb
      rintro ρ w17 ⟨b4'0, y1, H4, he0, hy1, hs, hb, hH⟩
      subst he0
      replace h := h y1 hy1
      refine wpL_has hH ?_
      clear hH
      refine q0 (vb y1) ?_
      refine wpL_join 4 (fun ρ wJ => ∃ b5'0 : Bool, ∃ HJ : Nat → Prop, (y1 = b5'0) ∧ Hst w0 None w9 HJ wJ ∧ HB HJ wJ [] ∧ Has ρ [(1, (vp r1)), (4, (vi r4)), (6, (vi r6)), (15, (vi r15)), (16, r16.v), (91, (vb (b5'0 && (r13 == 0))))]) ?_ ?_
      ·clear hs hb
       rintro ρ w19 ⟨b5'0, H5, he0, hs, hb, hH⟩
       subst he0
       refine wpL_has hH ?_
       clear hH
       refine q0 (vb (y1 && (r13 == 0))) ?_
       refine wpL_join 4 (fun ρ wJ => ∃ b6'0 : Bool, ∃ HJ : Nat → Prop, ((y1 && (r13 == 0)) = b6'0) ∧ Hst w0 None w9 HJ wJ ∧ HB HJ wJ [] ∧ Has ρ [(1, (vp r1)), (4, (vi r4)), (6, (vi r6)), (16, r16.v), (96, (vb (b6'0 && (r15 == 50))))]) ?_ ?_
       ·clear hs hb
        rintro ρ w22 ⟨b6'0, H6, he0, hs, hb, hH⟩
        subst he0
        refine wpL_has hH ?_
        clear hH
        refine q0 (vb ((y1 && (r13 == 0)) && (r15 == 50))) ?_
        refine wpL_join 4 (fun ρ wJ => ∃ b7'0 : Bool, ∃ HJ : Nat → Prop, (((y1 && (r13 == 0)) && (r15 == 50)) = b7'0) ∧ Hst w0 None w9 HJ wJ ∧ HB HJ wJ [] ∧ Has ρ [(1, (vp r1)), (4, (vi r4)), (6, (vi r6)), (101, (vb (b7'0 && (((r16.len : Int) : Int) == 1))))]) ?_ ?_
        ·clear hs hb
         rintro ρ w24 ⟨b7'0, H7, he0, hs, hb, hH⟩
         subst he0
         refine wpL_has hH ?_
         clear hH
         refine q0 (vb (((y1 && (r13 == 0)) && (r15 == 50)) && (((r16.len : Int) : Int) == 1))) ?_
         refine wpL_join 4 (fun ρ w => ∃ x1 : Bool, ∃ H : Nat → Prop, Has ρ [(1, (vp r1)), (4, (vi r4)), (6, (vi r6)), (106, (vb x1))] ∧ Hst w0 H w H w ∧ HB H w [] ∧ m_O_j1 r1 r4 r6 x1 H w K) ?_ ?_
         ·clear h hs hb
          rintro ρ w ⟨x1, H, hH, hs, hb, h⟩
          unfold m_O_j1 at h
          refine wpL_has hH ?_
          clear hH
          refine q0 (vb x1) ?_
          refine wpL_join 5 (fun ρ w => ∃ x2 : Bool, ∃ H : Nat → Prop, Has ρ [(1, (vp r1)), (4, (vi r4)), (6, (vi r6)), (112, (vb x2))] ∧ Hst w0 H w H w ∧ HB H w [] ∧ m_O_j2 r1 r4 r6 x2 H w K) ?_ ?_
          ·clear h hs hb
           rintro ρ w ⟨x2, H, hH, hs, hb, h⟩
           unfold m_O_j2 at h
           refine wpL_has hH ?_
           clear hH
           refine q0 (vb x2) ?_
           refine wpL_join 7 (fun ρ w => ∃ x3 : Bool, ∃ H : Nat → Prop, Has ρ [(1, (vp r1)), (4, (vi r4)), (6, (vi r6)), (120, (vb x3))] ∧ Hst w0 H w H w ∧ HB H w [] ∧ m_O_j3 r1 r4 r6 x3 H w K) ?_ ?_
           ·clear h hs hb
            rintro ρ w ⟨x3, H, hH, hs, hb, h⟩
            unfold m_O_j3 at h
            refine wpL_has hH ?_
            clear hH
            refine q0 (vb x3) ?_
            rcases Bool.eq_false_or_eq_true x3 with hg15 | hg15
            ·replace h := h.1 hg15
             refine q1 (vp r1) (want1 rfl (yD 121 hg15)) (q1 (vi r4) (want1 rfl (yD 121 hg15)) (st_new (O := (.cells #[(vi r4)] 23)) (fun p => (Sl.mk (some p) 1 1).v) (want1 rfl (yD 121 hg15)) (x_buildSlice (vs := #[(0, (vi r4))]) (by kernel_rfl) (by kernel_rfl)) ?_))
             intro p1 w25 hn2
             replace h := h p1 w25 hn2
             replace hs := hs.again (Ext.new (F := None) hn2).keptP
             replace hb := hb.kept (Ext.new (F := None) hn2).keptP
             refine q1 (vi r6) (want1 rfl (yD 121 hg15)) (st_new (O := (.cells #[(vi r6)] 23)) (fun p => (Sl.mk (some p) 1 1).v) (want1 rfl (yD 121 hg15)) (x_buildSlice (vs := #[(0, (vi r6))]) (by kernel_rfl) (by kernel_rfl)) ?_)
             intro p2 w26 hn1
             replace h := h p2 w26 hn1
             replace hs := hs.again (Ext.new (F := None) hn1).keptP
             replace hb := hb.kept (Ext.new (F := None) hn1).keptP
             refine st_call (want1 rfl (yD 121 hg15)) (xc Try.call16) (h.mono ?_)
             rintro e w27 ⟨r17, rfl, hk, h⟩
             refine ⟨_, rfl, ?_⟩
             obtain ⟨hs, hb⟩ := hk.hh hs hb
             clear hk
             refine q1 (vb (!r17)) (want1 rfl (yD 121 hg15)) (q2 (vb (!r17)) (xT hg15) (q0 (vb (!r17)) (wpL_nil (th_n (wpE_ret (rs1 Try.results8 (v := (vb (!r17))) ?_))))))
             exact ⟨(!r17), rfl, h⟩
            ·replace h := h.2 hg15
             refine sk (yD 121 hg15) (sk (yD 121 hg15) (sk (yD 121 hg15) (sk (yD 121 hg15) (sk (yD 121 hg15) (sk (yD 121 hg15) (sk (yD 121 hg15) (q2 (vb false) (xF hg15) (q0 (vb false) (wpL_nil (th_n (wpE_ret ?_)))))))))))
             refine rs1 Try.results8 (v := (vb false)) ?_
             exact ⟨false, rfl, h⟩
           ·skip
            rcases Bool.eq_false_or_eq_true x2 with hg16 | hg16
            ·replace h := h.1 hg16
             refine q1 (vp r1) (want1 rfl (yD 113 hg16)) (q1 (vi r4) (want1 rfl (yD 113 hg16)) (st_new (O := (.cells #[(vi r4)] 23)) (fun p => (Sl.mk (some p) 1 1).v) (want1 rfl (yD 113 hg16)) (x_buildSlice (vs := #[(0, (vi r4))]) (by kernel_rfl) (by kernel_rfl)) ?_))
             intro p3 w28 hn4
             replace h := h p3 w28 hn4
             replace hs := hs.again (Ext.new (F := None) hn4).keptP
             replace hb := hb.kept (Ext.new (F := None) hn4).keptP
             refine q1 (vi r6) (want1 rfl (yD 113 hg16)) (st_new (O := (.cells #[(vi r6)] 23)) (fun p => (Sl.mk (some p) 1 1).v) (want1 rfl (yD 113 hg16)) (x_buildSlice (vs := #[(0, (vi r6))]) (by kernel_rfl) (by kernel_rfl)) ?_)
             intro p4 w29 hn3
             replace h := h p4 w29 hn3
             replace hs := hs.again (Ext.new (F := None) hn3).keptP
             replace hb := hb.kept (Ext.new (F := None) hn3).keptP
             refine st_call (want1 rfl (yD 113 hg16)) (xc Try.call16) (h.mono ?_)
             rintro e w30 ⟨r18, rfl, hk, h⟩
             refine ⟨_, rfl, ?_⟩
             obtain ⟨hs, hb⟩ := hk.hh hs hb
             clear hk
             refine q2 (vb r18) (xT hg16) (wpL_nil ?_)
             exact ⟨r18, H, hm, hs, hb, h⟩
            ·replace h := h.2 hg16
             refine sk (yD 113 hg16) (sk (yD 113 hg16) (sk (yD 113 hg16) (sk (yD 113 hg16) (sk (yD 113 hg16) (sk (yD 113 hg16) (q2 (vb false) (xF hg16) (wpL_nil ?_)))))))
             exact ⟨false, H, hm, hs, hb, h⟩
          ·skip
           rcases Bool.eq_false_or_eq_true x1 with hg17 | hg17
           ·replace h := h.1 hg17
            refine q1 (vp r1) (want1 rfl (yD 107 hg17)) (q1 (vi r4) (want1 rfl (yD 107 hg17)) ?_)
            refine st_call (want1 rfl (yD 107 hg17)) (xc Try.call21) (h.mono ?_)
            rintro e w31 ⟨r19, rfl, hk, h⟩
            refine ⟨_, rfl, ?_⟩
            obtain ⟨hs, hb⟩ := hk.hh hs hb
            clear hk
            refine q1 (vb (!r19)) (want1 rfl (yD 107 hg17)) (q2 (vb (!r19)) (xT hg17) (wpL_nil ?_))
            exact ⟨(!r19), H, hm, hs, hb, h⟩
           ·replace h := h.2 hg17
            refine sk (yD 107 hg17) (sk (yD 107 hg17) (sk (yD 107 hg17) (sk (yD 107 hg17) (q2 (vb false) (xF hg17) (wpL_nil ?_)))))
            exact ⟨false, H, hm, hs, hb, h⟩
         ·skip
          rcases Bool.eq_false_or_eq_true (((y1 && (r13 == 0)) && (r15 == 50)) && (((r16.len : Int) : Int) == 1)) with hg18 | hg18
          ·replace h := h.1 hg18
           refine q1 (vp r1) (want1 rfl (yD 102 hg18)) (q1 (vi r4) (want1 rfl (yD 102 hg18)) ?_)
           replace h := h H7 w24 hs
           replace hs := hs.here
           refine st_call (want1 rfl (yD 102 hg18)) (xc Try.call21) (h.mono ?_)
           rintro e w32 ⟨r20, rfl, hk, h⟩
           refine ⟨_, rfl, ?_⟩
           obtain ⟨hs, hb⟩ := hk.hh hs hb
           clear hk
           refine q2 (vb r20) (xT hg18) (wpL_nil ?_)
           exact ⟨r20, H7, hm, hs, hb, h⟩
          ·replace h := h.2 hg18
           refine sk (yD 102 hg18) (sk (yD 102 hg18) (sk (yD 102 hg18) (q2 (vb false) (xF hg18) (wpL_nil ?_))))
           replace h := h H7 w24 hs
           replace hs := hs.here
           exact ⟨false, H7, hm, hs, hb, h⟩
        ·skip
         rcases Bool.eq_false_or_eq_true ((y1 && (r13 == 0)) && (r15 == 50)) with hg14 | hg14
         ·skip
          refine q1 r16.v (want1 rfl (yD 97 hg14)) (q1 (vi (r16.len : Int)) (want1 rfl (yD 97 hg14)) (q1 (vb (((r16.len : Int) : Int) == 1)) (want1 rfl (yD 97 hg14)) (q2 (vb (((r16.len : Int) : Int) == 1)) (xT hg14) (wpL_nil ?_))))
          exact ⟨true, _, hg14, hs, hb, hm⟩
         ·skip
          refine sk (yD 97 hg14) (sk (yD 97 hg14) (sk (yD 97 hg14) (q2 (vb false) (xF hg14) (wpL_nil ?_))))
          exact ⟨false, _, hg14, hs, hb, hm⟩
       ·skip
        rcases Bool.eq_false_or_eq_true (y1 && (r13 == 0)) with hg12 | hg12
        ·skip
         refine q1 (vi r15) (want1 rfl (yD 92 hg12)) ?_
         refine st_call (want1 rfl (yD 92 hg12)) (xc Try.call11) ((p_B1 r15 w19).mono ?_)
         rintro e w23 ⟨he, hE⟩
         refine ⟨(vi r15), he.trans (by kernel_rfl), ?_⟩
         replace hs := hs.pure hE
         replace hb := hb.pure hE
         clear hE he
         refine q1 (vb (r15 == 50)) (want1 rfl (yD 92 hg12)) (q2 (vb (r15 == 50)) (xT hg12) (wpL_nil ?_))
         exact ⟨true, _, hg12, hs, hb, hm⟩
        ·skip
         refine sk (yD 92 hg12) (sk (yD 92 hg12) (sk (yD 92 hg12) (q2 (vb false) (xF hg12) (wpL_nil ?_))))
         exact ⟨false, _, hg12, hs, hb, hm⟩
      ·skip
       rcases Bool.eq_false_or_eq_true y1 with hg10 | hg10
       ·skip
        refine q1 (vi r13) (want1 rfl (yD 87 hg10)) ?_
        refine st_call (want1 rfl (yD 87 hg10)) (xc Try.call11) ((p_B1 r13 w17).mono ?_)
        rintro e w20 ⟨he, hE⟩
        refine ⟨(vi r13), he.trans (by kernel_rfl), ?_⟩
        replace hs := hs.pure hE
        replace hb := hb.pure hE
        clear hE he
        refine q1 (vb (r13 == 0)) (want1 rfl (yD 87 hg10)) (q2 (vb (r13 == 0)) (xT hg10) (wpL_nil ?_))
        exact ⟨true, _, hg10, hs, hb, hm⟩
       ·skip
        refine sk (yD 87 hg10) (sk (yD 87 hg10) (sk (yD 87 hg10) (q2 (vb false) (xF hg10) (wpL_nil ?_))))
        exact ⟨false, _, hg10, hs, hb, hm⟩
     ·skip
      rcases Bool.eq_false_or_eq_true ((((r8 == r4) && (r9 == 0)) && (r10 == r6)) && (r11 == 0)) with hg8 | hg8
      ·skip
       refine q1 (vi r12) (want1 rfl (yD 82 hg8)) (q1 (vi r6) (want1 rfl (yD 82 hg8)) (q1 (vb (r12 == r6)) (want1 rfl (yD 82 hg8)) (q2 (vb (r12 == r6)) (xT hg8) (wpL_nil ?_))))
       exact ⟨true, _, _, hg8, rfl, hs, hb, hm⟩
      ·skip
       refine sk (yD 82 hg8) (sk (yD 82 hg8) (sk (yD 82 hg8) (q2 (vb false) (xF hg8) (wpL_nil ?_))))
       exact ⟨false, _, _, hg8, rfl, hs, hb, hm⟩
    ·skip
     rcases Bool.eq_false_or_eq_true (((r8 == r4) && (r9 == 0)) && (r10 == r6)) with hg6 | hg6
     ·skip
      refine q1 (vi r11) (want1 rfl (yD 77 hg6)) ?_
      refine st_call (want1 rfl (yD 77 hg6)) (xc Try.call11) ((p_B1 r11 w13).mono ?_)
      rintro e w16 ⟨he, hE⟩
      refine ⟨(vi r11), he.trans (by kernel_rfl), ?_⟩
      replace hs := hs.pure hE
      replace hb := hb.pure hE
      clear hE he
      refine q1 (vb (r11 == 0)) (want1 rfl (yD 77 hg6)) (q2 (vb (r11 == 0)) (xT hg6) (wpL_nil ?_))
      exact ⟨true, _, hg6, hs, hb, hm⟩
     ·skip
      refine sk (yD 77 hg6) (sk (yD 77 hg6) (sk (yD 77 hg6) (q2 (vb false) (xF hg6) (wpL_nil ?_))))
      exact ⟨false, _, hg6, hs, hb, hm⟩
   ·skip
    rcases Bool.eq_false_or_eq_true ((r8 == r4) && (r9 == 0)) with hg4 | hg4
    ·skip
     refine q1 (vi r10) (want1 rfl (yD 72 hg4)) (q1 (vi r6) (want1 rfl (yD 72 hg4)) (q1 (vb (r10 == r6)) (want1 rfl (yD 72 hg4)) (q2 (vb (r10 == r6)) (xT hg4) (wpL_nil ?_))))
     exact ⟨true, _, hg4, hs, hb, hm⟩
    ·skip
     refine sk (yD 72 hg4) (sk (yD 72 hg4) (sk (yD 72 hg4) (q2 (vb false) (xF hg4) (wpL_nil ?_))))
     exact ⟨false, _, hg4, hs, hb, hm⟩
  ·skip
   rcases Bool.eq_false_or_eq_true (r8 == r4) with hg2 | hg2
   ·skip
    refine q1 (vi r9) (want1 rfl (yD 67 hg2)) ?_
    refine st_call (want1 rfl (yD 67 hg2)) (xc Try.call11) ((p_B1 r9 w9).mono ?_)
    rintro e w12 ⟨he, hE⟩
    refine ⟨(vi r9), he.trans (by kernel_rfl), ?_⟩
    replace hs := hs.pure hE
    replace hb := hb.pure hE
    clear hE he
    refine q1 (vb (r9 == 0)) (want1 rfl (yD 67 hg2)) (q2 (vb (r9 == 0)) (xT hg2) (wpL_nil ?_))
    exact ⟨true, _, hg2, hs, hb, hm⟩
   ·skip
    refine sk (yD 67 hg2) (sk (yD 67 hg2) (sk (yD 67 hg2) (q2 (vb false) (xF hg2) (wpL_nil ?_))))
    exact ⟨false, _, hg2, hs, hb, hm⟩
def m_L1_l1 (l1 : Sl) (r1 : Option Addr) (r2 : Option Addr) (i1 : Int) (w0 : World) (Hl1 : Nat → Prop) (wl1 : World) (Kc1 : Int → (Nat → Prop) → World → Prop) (K : (Option Addr) → (Option Addr) → Bool → World → Prop) : Prop :=
 Br (decide (i1 < (l1.len : Int)))
  (∃ a1 : Addr, At l1 i1 6 a1 ∧
  ∃ bC bD : Int, ∃ bE bF : Int, ∃ bG : ByteArray, ∃ bJ : Sl, Row wl1 a1 [(vi bC), (vi bD), (vi bE), (vu bF), (vs bG), bJ.v] ∧
  Calls Try.prog 40 #[(vp r1), (.agg #[(vi bC), (vi bD), (vi bE), (vu bF), (vs bG), bJ.v])] wl1 (fun e w3 => ∃ r3 r4 : Int, e = .returned (.tuple #[(vi r3), (vi r4)]) ∧ 
   Kept Hl1 wl1 w3 ∧
   ∃ a2 : Addr, At l1 i1 6 a2 ∧
   ∃ bT bU : Int, ∃ bV bW : Int, ∃ bX : ByteArray, ∃ bY : Sl, Row w3 a2 [(vi bT), (vi bU), (vi bV), (vu bW), (vs bX), bY.v] ∧
   Calls Try.prog 41 #[(vp r2), (.agg #[(vi bT), (vi bU), (vi bV), (vu bW), (vs bX), bY.v])] w3 (fun e w4 => ∃ r5 r6 : Int, e = .returned (.tuple #[(vi r5), (vi r6)]) ∧ 
    Kept Hl1 w3 w4 ∧
    Br ((r4 != r6) || (r3 != r5))
     (∀ (H1 : Nat → Prop) (w6 : World), Hst w0 Hl1 w4 H1 w6 →
     K none none false w6)
     (∀ (H1 : Nat → Prop) (w6 : World), Hst w0 Hl1 w4 H1 w6 →
     Kc1 (IntKind.i64.wrap (i1 + 1)) H1 w6))))
  (K r1 r2 true wl1)
def m_L1 (l1 : Sl) (w0 : World) (K : (Option Addr) → (Option Addr) → Bool → World → Prop) : Prop :=
 Calls Try.prog 35 #[] w0 (fun e w1 => ∃ r1 : Option Addr, e = .returned (vp r1) ∧ 
  Kept None w0 w1 ∧
  Calls Try.prog 39 #[] w1 (fun e w2 => ∃ r2 : Option Addr, e = .returned (vp r2) ∧ 
   Kept None w1 w2 ∧
   Br (Option.isNone r1)
    (K none none false w2)
    (∃ (I1 : Int → (Nat → Prop) → World → Prop) (mu1 : Int → World → Nat), I1 0 None w2 ∧
     ∀ (i1 : Int) (Hl1 : Nat → Prop) (wl1 : World), Hst w0 Hl1 wl1 Hl1 wl1 → I1 i1 Hl1 wl1 → m_L1_l1 l1 r1 r2 i1 w0 Hl1 wl1 (fun y'0 H' w' => I1 y'0 H' w' ∧ mu1 y'0 w' < mu1 i1 wl1) K)))
theorem w_L1 (l1 : Sl) (w0 : World) (K : (Option Addr) → (Option Addr) → Bool → World → Prop) (h : m_L1 l1 w0 K) :
  Calls Try.prog 9 #[l1.v] w0 (fun e w' => ∃ r7 : Option Addr, ∃ r8 : Option Addr, ∃ r9 : Bool, e = .returned (.tuple #[(vp r7), (vp r8), (vb r9)]) ∧ K r7 r8 r9 w') := by
 unfold m_L1 at h
 refine cw (args := [l1.v]) Try.func9 Try.ntmps9 ?_
 have hs := Hst.start w0
 have hb := HB.nil None w0
 refine wpE_seq (rg (q0 (vp none) (q0 (vp none) (q0 (vb false) (wpL_nil (th_n (wpE_seq (rg ?_))))))))
 refine sc Try.call35 (h.mono ?_)
 rintro e w1 ⟨r1, rfl, hk, h⟩
 refine ⟨_, rfl, ?_⟩
 obtain ⟨hs, hb⟩ := hk.hh hs hb
 clear hk
 refine q0 (vp r1) (wpL_nil (th_n (wpE_seq (rg ?_))))
 refine sc Try.call39 (h.mono ?_)
 rintro e w2 ⟨r2, rfl, hk, h⟩
 refine ⟨_, rfl, ?_⟩
 obtain ⟨hs, hb⟩ := hk.hh hs hb
 clear hk
 refine q0 (vp r2) (wpL_nil (th_n (wpE_seq (wpE_seq (rg (q0 (vp r1) (q2 (vb (Option.isNone r1)) (x_ptreq (by kernel_rfl) rfl Try.underlying28) (wpL_nil (th_n ?_)))))))))
 refine wpE_cond (t := (Option.isNone r1)) (by kernel_rfl) (fun hc1 => ?_) (fun hc1 => ?_)
 ·replace h := h.1 hc1
  refine wpE_seq (rg (q0 (vp none) (q0 (vp none) (q0 (vb false) (wpL_nil (th_n (wpE_ret (th_r (res3 (.inl rfl) Try.results9 (v := (vp none)) (by kernel_rfl) (v' := (vp none)) (by kernel_rfl) (v'' := (vb false)) (by kernel_rfl) ?_)))))))))
  exact ⟨none, none, false, rfl, h⟩
 ·replace h := h.2 hc1
  refine wpE_skip (th_n (wpE_seq (wpE_seq (rg (q0 (vi 0) (wpL_nil (th_n (wpE_block ?_))))))))
  obtain ⟨I1, mu1, h0, hr⟩ := h
  refine wpE_loop (σ := Int × (Nat → Prop) × World) (fun s ρ w => w = s.2.2 ∧ Has ρ [(0, l1.v), (5, (vp r1)), (6, (vp r2)), (7, (vi s.1))] ∧ Hst w0 s.2.1 w s.2.1 w ∧ HB s.2.1 w [] ∧ I1 s.1 s.2.1 s.2.2) (fun s => mu1 s.1 s.2.2) (0, None, w2) ⟨rfl, hm, hs, hb, h0⟩ ?_
  clear hs hb
  rintro ⟨i1, Hl1, wl1⟩ ρ w ⟨hw, hH, hs, hb, hI⟩
  obtain rfl : wl1 = w := (show w = wl1 from hw).symm
  replace hH : Has ρ [(0, l1.v), (5, (vp r1)), (6, (vp r2)), (7, (vi i1))] := hH
  replace hs : Hst w0 Hl1 wl1 Hl1 wl1 := hs
  replace hb : HB Hl1 wl1 [] := hb
  have h := hr i1 Hl1 wl1 hs hI
  clear hr h0
  unfold m_L1_l1 at h
  refine wpE_has hH ?_
  clear hH hI
  refine wpE_seq (wpE_seq (rg (q0 (vi i1) (q0 l1.v (q0 (vi (l1.len : Int)) (q0 (vb (decide (i1 < (l1.len : Int)))) (wpL_nil (th_n ?_))))))))
  refine wpE_cond (t := (decide (i1 < (l1.len : Int)))) (by kernel_rfl) (fun hc2 => ?_) (fun hc2 => ?_)
  ·replace h := h.1 hc2
   refine wpE_skip (th_n (wpE_seq (wpE_block (wpE_seq (rg (q0 (vp r1) (q0 l1.v (q0 (vi i1) ?_))))))))
   obtain ⟨a1, hv4, h⟩ := h
   refine q2 (vp (some a1)) (xi (Try.runUnderlying22 _) (Try.sizeOf63 _) hv4) ?_
   obtain ⟨bC, bD, bE, bF, bG, bJ, hv3, h⟩ := h
   refine q2 (.agg #[(vi bC), (vi bD), (vi bE), (vu bF), (vs bG), bJ.v]) (x_loadA (a := a1) (vs := [(vi bC), (vi bD), (vi bE), (vu bF), (vs bG), bJ.v]) (by kernel_rfl) (Try.isAgg63 _) (Try.sizeOf63 _) rfl hv3) ?_
   refine sc Try.call40 (h.mono ?_)
   rintro e w3 ⟨r3, r4, rfl, hk, h⟩
   refine ⟨_, rfl, ?_⟩
   obtain ⟨hs, hb⟩ := hk.hh hs hb
   clear hk
   refine q0 (.tuple #[(vi r3), (vi r4)]) (q0 (vi r3) (q0 (vi r4) (q0 (vi r3) (q0 (vi r4) (wpL_nil (th_n (wpE_seq (rg (q0 (vp r2) (q0 l1.v (q0 (vi i1) ?_)))))))))))
   obtain ⟨a2, hv2, h⟩ := h
   refine q2 (vp (some a2)) (xi (Try.runUnderlying22 _) (Try.sizeOf63 _) hv2) ?_
   obtain ⟨bT, bU, bV, bW, bX, bY, hv1, h⟩ := h
   refine q2 (.agg #[(vi bT), (vi bU), (vi bV), (vu bW), (vs bX), bY.v]) (x_loadA (a := a2) (vs := [(vi bT), (vi bU), (vi bV), (vu bW), (vs bX), bY.v]) (by kernel_rfl) (Try.isAgg63 _) (Try.sizeOf63 _) rfl hv1) ?_
   refine sc Try.call41 (h.mono ?_)
   rintro e w4 ⟨r5, r6, rfl, hk, h⟩
   refine ⟨_, rfl, ?_⟩
   obtain ⟨hs, hb⟩ := hk.hh hs hb
   clear hk
   refine q0 (.tuple #[(vi r5), (vi r6)]) (q0 (vi r5) (q0 (vi r6) (q0 (vi r5) (q0 (vi r6) (wpL_nil (th_n (wpE_seq ?_)))))))
   refine wpE_via (fun ρ wJ => ∃ b1'0 : Bool, ∃ HJ : Nat → Prop, ((r4 != r6) = b1'0) ∧ Hst w0 Hl1 w4 HJ wJ ∧ HB HJ wJ [] ∧ Has ρ [(0, l1.v), (5, (vp r1)), (6, (vp r2)), (7, (vi i1)), (48, (vb (b1'0 || (r3 != r5))))]) ?_ ?_
   ·skip
    refine rg (q0 (vi r4) ?_)
    refine sc Try.call11 ((p_B1 r4 w4).mono ?_)
    rintro e w7 ⟨he, hE⟩
    refine ⟨(vi r4), he.trans (by kernel_rfl), ?_⟩
    replace hs := hs.pure hE
    replace hb := hb.pure hE
    clear hE he
    refine q0 (vi r6) (q0 (vb (r4 != r6)) (q0 (vb (r4 != r6)) ?_))
    rcases Bool.eq_false_or_eq_true (r4 != r6) with hg2 | hg2
    ·skip
     refine sk (yD 44 hg2) (sk (yD 44 hg2) (sk (yD 44 hg2) (q2 (vb true) (xT hg2) (wpL_nil (th_n ?_)))))
     exact ⟨true, _, hg2, hs, hb, hm⟩
    ·skip
     refine q1 (vi r3) (want1 rfl (yD 44 hg2)) (q1 (vi r5) (want1 rfl (yD 44 hg2)) (q1 (vb (r3 != r5)) (want1 rfl (yD 44 hg2)) (q2 (vb (r3 != r5)) (xF hg2) (wpL_nil (th_n ?_)))))
     exact ⟨false, _, hg2, hs, hb, hm⟩
   ·clear hs hb
    rintro ρ w6 ⟨b1'0, H1, he0, hs, hb, hH⟩
    subst he0
    refine norm_has hH ?_
    clear hH
    refine th_n ?_
    refine wpE_cond (t := ((r4 != r6) || (r3 != r5))) (by kernel_rfl) (fun hc3 => ?_) (fun hc3 => ?_)
    ·replace h := h.1 hc3
     refine wpE_seq (rg (q0 (vp none) (q0 (vp none) (q0 (vb false) (wpL_nil (th_n (wpE_ret (bl_r (th_r (th_r (bl_r ?_)))))))))))
     refine th_r ?_
     replace h := h H1 w6 hs
     replace hs := hs.here
     refine res3 (.inl rfl) Try.results9 (v := (vp none)) (by kernel_rfl) (v' := (vp none)) (by kernel_rfl) (v'' := (vb false)) (by kernel_rfl) ?_
     exact ⟨none, none, false, rfl, h⟩
    ·replace h := h.2 hc3
     refine wpE_skip (bl_n (th_n (rg (q0 (vi i1) (q0 (vi (IntKind.i64.wrap (i1 + 1))) (q0 (vi (IntKind.i64.wrap (i1 + 1))) (wpL_nil ?_)))))))
     replace h := h H1 w6 hs
     replace hs := hs.here
     refine th_n ?_
     exact ⟨((IntKind.i64.wrap (i1 + 1)), H1, w6), ⟨rfl, hm, hs, hb, h.1⟩, h.2⟩
  ·replace h := h.2 hc2
   refine wpE_exit (th_x (th_x (bl_eq (th_n (wpE_seq (rg (q0 (vp r1) (q0 (vp r2) (q0 (vp r1) (q0 (vp r2) (q0 (vb true) ?_)))))))))))
   refine wpL_nil (th_n (wpE_ret (res3 (.inl rfl) Try.results9 (v := (vp r1)) (by kernel_rfl) (v' := (vp r2)) (by kernel_rfl) (v'' := (vb true)) (by kernel_rfl) ?_)))
   exact ⟨r1, r2, true, rfl, h⟩
def s_C3 (n1 : Int) : Bool :=
 ((decide (n1 ≥ 0)) && (decide (n1 < 16)))
theorem pw_C3 (n1 : Int) (w0 : World) :
  Calls Try.prog 15 #[(vi n1)] w0 (fun e w' => (e = .returned (vb ((decide (n1 ≥ 0)) && (decide (n1 < 16))))) ∧ Pure w0 w') := by
 refine cw (args := [(vi n1)]) Try.func15 Try.ntmps15 (wpE_seq (rg (q0 (vb false) (wpL_nil (th_n (wpE_seq ?_))))))
 refine wpE_via (fun ρ wJ => w0 = wJ ∧ Has ρ [(2, (vb ((decide (n1 ≥ 0)) && (decide (n1 < 16)))))]) ?_ ?_
 ·skip
  refine rg (q0 (vi n1) (q0 (vb (decide (n1 ≥ 0))) (q0 (vb (decide (n1 ≥ 0))) ?_)))
  refine wpL_join 3 (fun ρ wJ => ∃ b3'0 : Bool, ((decide (n1 ≥ 0)) = b3'0) ∧ w0 = wJ ∧ Has ρ [(8, (vb (b3'0 && (decide (n1 < 16)))))]) ?_ ?_
  ·rintro ρ w3 ⟨b3'0, he0, hw, hH⟩
   subst he0
   subst hw
   refine wpL_has hH ?_
   clear hH
   refine q0 (vb ((decide (n1 ≥ 0)) && (decide (n1 < 16)))) (wpL_nil (th_n ?_))
   exact ⟨rfl, hm⟩
  ·skip
   rcases Bool.eq_false_or_eq_true (decide (n1 ≥ 0)) with hg4 | hg4
   ·skip
    refine q1 (vi n1) (want1 rfl (yD 5 hg4)) (q1 (vb (decide (n1 < 16))) (want1 rfl (yD 5 hg4)) (q2 (vb (decide (n1 < 16))) (xT hg4) (wpL_nil ?_)))
    exact ⟨true, hg4, rfl, hm⟩
   ·skip
    refine sk (yD 5 hg4) (sk (yD 5 hg4) (q2 (vb false) (xF hg4) (wpL_nil ?_)))
    exact ⟨false, hg4, rfl, hm⟩
 ·rintro ρ w2 ⟨hw, hH⟩
  subst hw
  refine norm_has hH ?_
  clear hH
  refine th_n (wpE_ret (rs1 Try.results15 (v := (vb ((decide (n1 ≥ 0)) && (decide (n1 < 16))))) ?_))
  exact ⟨by kernel_rfl, Ext.refl _⟩
theorem p_C3 (n1 : Int) (w0 : World) : Calls Try.prog 15 #[(.int .i64 n1)] w0 (fun e w' => e = .returned (.bool (s_C3 n1)) ∧ Pure w0 w') := pw_C3 n1 w0
def m_D3 (aY aJ : Sl) (aX aZ : Sl) (aV : Int) (w0 : World) (K : Bool → World → Prop) : Prop :=
 ∀ (H1 : Nat → Prop) (w1 : World), Hst w0 None w0 H1 w1 →
 Calls Try.prog 7 #[aY.v] w1 (fun e w2 => ∃ r1 : Bool, e = .returned (vb r1) ∧ 
  Kept H1 w1 w2 ∧
  ∀ y1 : Bool, y1 = (((r1 || (decide ((aJ.len : Int) > 12))) || (decide ((aX.len : Int) > 12))) || (decide ((aZ.len : Int) > 12))) →
  ∀ (H4 : Nat → Prop) (w5 : World), Hst w0 H1 w2 H4 w5 →
  K y1 w5)
theorem w_D3 (aY aJ : Sl) (aX aZ : Sl) (aV : Int) (w0 : World) (K : Bool → World → Prop) (h : m_D3 aY aJ aX aZ aV w0 K) :
  Calls Try.prog 17 #[(.agg #[aY.v, aJ.v, aX.v, aZ.v, (vi aV)])] w0 (fun e w' => ∃ r2 : Bool, e = .returned (vb r2) ∧ K r2 w') := by
 unfold m_D3 at h
 refine cw (args := [(.agg #[aY.v, aJ.v, aX.v, aZ.v, (vi aV)])]) Try.func17 Try.ntmps17 ?_
 have hs := Hst.start w0
 have hb := HB.nil None w0
 refine wpE_seq (rg (sn (O := (.cells #[aY.v, aJ.v, aX.v, aZ.v, (vi aV)] 48)) xb ?_))
 intro p1 w1 hn1
 obtain ⟨H1, hs, hb⟩ := hs.alloc hb hn1
 refine q0 (vb false) (wpL_nil (th_n (wpE_seq (rg (q0 (vp (some p1)) (q2 aY.v (xl (Try.isAgg22 _) (hb.c0 0 gZ)) ?_))))))
 replace h := h H1 w1 hs
 replace hs := hs.here
 refine sc Try.call7 (h.mono ?_)
 rintro e w2 ⟨r1, rfl, hk, h⟩
 refine ⟨_, rfl, ?_⟩
 obtain ⟨hs, hb⟩ := hk.hh hs hb
 clear hk
 refine q0 (vb r1) ?_
 refine wpL_join 5 (fun ρ wJ => ∃ b1'0 : Bool, ∃ HJ : Nat → Prop, (r1 = b1'0) ∧ Hst w0 H1 w2 HJ wJ ∧ HB HJ wJ [(p1, [aY.v, aJ.v, aX.v, aZ.v, (vi aV)], 48)] ∧ Has ρ [(1, (vp (some p1))), (11, (vb (b1'0 || (decide ((aJ.len : Int) > 12)))))]) ?_ ?_
 ·clear hs hb
  rintro ρ w3 ⟨b1'0, H2, he0, hs, hb, hH⟩
  subst he0
  refine wpL_has hH ?_
  clear hH
  refine q0 (vb (r1 || (decide ((aJ.len : Int) > 12)))) ?_
  refine wpL_join 5 (fun ρ wJ => ∃ b2'0 : Bool, ∃ HJ : Nat → Prop, ((r1 || (decide ((aJ.len : Int) > 12))) = b2'0) ∧ Hst w0 H1 w2 HJ wJ ∧ HB HJ wJ [(p1, [aY.v, aJ.v, aX.v, aZ.v, (vi aV)], 48)] ∧ Has ρ [(1, (vp (some p1))), (17, (vb (b2'0 || (decide ((aX.len : Int) > 12)))))]) ?_ ?_
  ·clear hs hb
   rintro ρ w4 ⟨b2'0, H3, he0, hs, hb, hH⟩
   subst he0
   refine wpL_has hH ?_
   clear hH
   refine q0 (vb ((r1 || (decide ((aJ.len : Int) > 12))) || (decide ((aX.len : Int) > 12)))) ?_
   refine wpL_join 5 (fun ρ wJ => ∃ b3'0 y1 : Bool, ∃ HJ : Nat → Prop, (((r1 || (decide ((aJ.len : Int) > 12))) || (decide ((aX.len : Int) > 12))) = b3'0) ∧ (y1 = (b3'0 || (decide ((aZ.len : Int) > 12)))) ∧ Hst w0 H1 w2 HJ wJ ∧ HB HJ wJ [(p1, [aY.v, aJ.v, aX.v, aZ.v, (vi aV)], 48)] ∧ Has ρ [(23, (vb y1))]) ?_ ?_
   ·clear hs hb
    rintro ρ w5 ⟨b3'0, y1, H4, he0, hy1, hs, hb, hH⟩
    subst he0
    replace h := h y1 hy1
    refine wpL_has hH ?_
    clear hH
    refine q0 (vb y1) (wpL_nil (th_n (wpE_ret ?_)))
    replace h := h H4 w5 hs
    replace hs := hs.here
    refine rs1 Try.results17 (v := (vb y1)) ?_
    exact ⟨y1, rfl, h⟩
   ·skip
    rcases Bool.eq_false_or_eq_true ((r1 || (decide ((aJ.len : Int) > 12))) || (decide ((aX.len : Int) > 12))) with hg6 | hg6
    ·skip
     refine sk (yD 18 hg6) (sk (yD 18 hg6) (sk (yD 18 hg6) (sk (yD 18 hg6) (q2 (vb true) (xT hg6) (wpL_nil ?_)))))
     exact ⟨true, _, _, hg6, rfl, hs, hb, hm⟩
    ·skip
     refine q1 (vp (some (p1.add 3))) (want1 rfl (yD 18 hg6)) (stp (v := aZ.v) (want1 rfl (yD 18 hg6)) (xl (Try.isAgg36 _) (hb.c 0 3 gZ)) (q1 (vi (aZ.len : Int)) (want1 rfl (yD 18 hg6)) (q1 (vb (decide ((aZ.len : Int) > 12))) (want1 rfl (yD 18 hg6)) (q2 (vb (decide ((aZ.len : Int) > 12))) (xF hg6) (wpL_nil ?_)))))
     exact ⟨false, _, _, hg6, rfl, hs, hb, hm⟩
  ·skip
   rcases Bool.eq_false_or_eq_true (r1 || (decide ((aJ.len : Int) > 12))) with hg4 | hg4
   ·skip
    refine sk (yD 12 hg4) (sk (yD 12 hg4) (sk (yD 12 hg4) (sk (yD 12 hg4) (q2 (vb true) (xT hg4) (wpL_nil ?_)))))
    exact ⟨true, _, hg4, hs, hb, hm⟩
   ·skip
    refine q1 (vp (some (p1.add 2))) (want1 rfl (yD 12 hg4)) (stp (v := aX.v) (want1 rfl (yD 12 hg4)) (xl (Try.isAgg36 _) (hb.c 0 2 gZ)) (q1 (vi (aX.len : Int)) (want1 rfl (yD 12 hg4)) (q1 (vb (decide ((aX.len : Int) > 12))) (want1 rfl (yD 12 hg4)) (q2 (vb (decide ((aX.len : Int) > 12))) (xF hg4) (wpL_nil ?_)))))
    exact ⟨false, _, hg4, hs, hb, hm⟩
 ·skip
  rcases Bool.eq_false_or_eq_true r1 with hg2 | hg2
  ·skip
   refine sk (yD 6 hg2) (sk (yD 6 hg2) (sk (yD 6 hg2) (sk (yD 6 hg2) (q2 (vb true) (xT hg2) (wpL_nil ?_)))))
   exact ⟨true, _, hg2, hs, hb, hm⟩
  ·skip
   refine q1 (vp (some (p1.add 1))) (want1 rfl (yD 6 hg2)) (stp (v := aJ.v) (want1 rfl (yD 6 hg2)) (xl (Try.isAgg36 _) (hb.c 0 1 gZ)) (q1 (vi (aJ.len : Int)) (want1 rfl (yD 6 hg2)) (q1 (vb (decide ((aJ.len : Int) > 12))) (want1 rfl (yD 6 hg2)) (q2 (vb (decide ((aJ.len : Int) > 12))) (xF hg2) (wpL_nil ?_)))))
   exact ⟨false, _, hg2, hs, hb, hm⟩
def s_R (who1 from1 to1 : Int) : Bool :=
 (((who1 == from1) || (who1 == to1)) || (who1 == 2))
theorem pw_R (who1 from1 to1 : Int) (w0 : World) :
  Calls Try.prog 54 #[(vi who1), (vi from1), (vi to1)] w0 (fun e w' => (e = .returned (vb (((who1 == from1) || (who1 == to1)) || (who1 == 2)))) ∧ Pure w0 w') := by
 refine cw (args := [(vi who1), (vi from1), (vi to1)]) Try.func54 Try.ntmps54 (wpE_seq (rg (q0 (vb false) (wpL_nil (th_n (wpE_seq ?_))))))
 refine wpE_via (fun ρ wJ => w0 = wJ ∧ Has ρ [(6, (vb (((who1 == from1) || (who1 == to1)) || (who1 == 2))))]) ?_ ?_
 ·skip
  refine rg (q0 (vi who1) (q0 (vi from1) (q0 (vb (who1 == from1)) (q0 (vb (who1 == from1)) ?_))))
  refine wpL_join 4 (fun ρ wJ => ∃ b4'0 : Bool, ((who1 == from1) = b4'0) ∧ w0 = wJ ∧ Has ρ [(0, (vi who1)), (14, (vb (b4'0 || (who1 == to1))))]) ?_ ?_
  ·rintro ρ w4 ⟨b4'0, he0, hw, hH⟩
   subst he0
   subst hw
   refine wpL_has hH ?_
   clear hH
   refine q0 (vb ((who1 == from1) || (who1 == to1))) ?_
   refine wpL_join 3 (fun ρ wJ => ∃ b5'0 : Bool, (((who1 == from1) || (who1 == to1)) = b5'0) ∧ w0 = wJ ∧ Has ρ [(18, (vb (b5'0 || (who1 == 2))))]) ?_ ?_
   ·rintro ρ w5 ⟨b5'0, he0, hw, hH⟩
    subst he0
    subst hw
    refine wpL_has hH ?_
    clear hH
    refine q0 (vb (((who1 == from1) || (who1 == to1)) || (who1 == 2))) (wpL_nil (th_n ?_))
    exact ⟨rfl, hm⟩
   ·skip
    rcases Bool.eq_false_or_eq_true ((who1 == from1) || (who1 == to1)) with hg8 | hg8
    ·skip
     refine sk (yD 15 hg8) (sk (yD 15 hg8) (q2 (vb true) (xT hg8) (wpL_nil ?_)))
     exact ⟨true, hg8, rfl, hm⟩
    ·skip
     refine q1 (vi who1) (want1 rfl (yD 15 hg8)) (q1 (vb (who1 == 2)) (want1 rfl (yD 15 hg8)) (q2 (vb (who1 == 2)) (xF hg8) (wpL_nil ?_)))
     exact ⟨false, hg8, rfl, hm⟩
  ·skip
   rcases Bool.eq_false_or_eq_true (who1 == from1) with hg6 | hg6
   ·skip
    refine sk (yD 10 hg6) (sk (yD 10 hg6) (sk (yD 10 hg6) (q2 (vb true) (xT hg6) (wpL_nil ?_))))
    exact ⟨true, hg6, rfl, hm⟩
   ·skip
    refine q1 (vi who1) (want1 rfl (yD 10 hg6)) (q1 (vi to1) (want1 rfl (yD 10 hg6)) (q1 (vb (who1 == to1)) (want1 rfl (yD 10 hg6)) (q2 (vb (who1 == to1)) (xF hg6) (wpL_nil ?_))))
    exact ⟨false, hg6, rfl, hm⟩
 ·rintro ρ w3 ⟨hw, hH⟩
  subst hw
  refine norm_has hH ?_
  clear hH
  refine th_n (wpE_ret (rs1 Try.results54 (v := (vb (((who1 == from1) || (who1 == to1)) || (who1 == 2)))) ?_))
  exact ⟨by kernel_rfl, Ext.refl _⟩
theorem p_R (who1 from1 to1 : Int) (w0 : World) : Calls Try.prog 54 #[(.int .i64 who1), (.int .i64 from1), (.int .i64 to1)] w0 (fun e w' => e = .returned (.bool (s_R who1 from1 to1)) ∧ Pure w0 w') := pw_R who1 from1 to1 w0
def m_M1_l1 (who1 : Int) (bI : Sl) (i1 bM : Int) (bN bO bP : Int) (bQ : ByteArray) (bR : Sl) (w0 : World) (Hl1 : Nat → Prop) (wl1 : World) (Kc1 : Int → Int → Int → Int → Int → ByteArray → Sl → (Nat → Prop) → World → Prop) (K : Int → Int → Int → Int → ByteArray → Sl → World → Prop) : Prop :=
 Br (decide (i1 < (bI.len : Int)))
  (∃ C1 : World → Prop, C1 wl1.drew ∧ ∀ w12, w12 = wl1.drew →
  ∃ a1 : Addr, At bI i1 6 a1 ∧
  ∃ bC bD : Int, ∃ bE bF : Int, ∃ bG : ByteArray, ∃ bJ : Sl, Row w12 a1 [(vi bC), (vi bD), (vi bE), (vu bF), (vs bG), bJ.v] ∧
  Calls Try.prog 28 #[(vi who1), (.agg #[(vi bC), (vi bD), (vi bE), (vu bF), (vs bG), bJ.v])] w12 (fun e w13 => ∃ aA aC : Int, ∃ aD aE : Int, ∃ aF : ByteArray, ∃ bS : Sl, e = .returned (.agg #[(vi aA), (vi aC), (vi aD), (vu aE), (vs aF), bS.v]) ∧ C1 w13 ∧ 
   Kept Hl1 w12 w13 ∧
   ∀ (p4 : Addr) (w14 : World), New w13 (.cells #[(vi aA), (vi aC), (vi aD), (vu aE), (vs aF), bS.v] 63) p4 w14 → C1 w14 ∧
   ∃ s1 : Sl, ∃ w15 : World, (Builtin.append_ #[22, 22] 22 #[bR.v, (Sl.mk (some p4) 1 1).v]).run Try.prog w14 = .ok s1.v w15 ∧ C1 w15 ∧
   Kept Hl1 w14 w15 ∧
   ∀ (w16 : World), Hst w0 Hl1 w15 Hl1 w16 →
   Kc1 (IntKind.i64.wrap (i1 + 1)) bM bN bO bP bQ s1 Hl1 w16))
  (∀ (w17 : World), Hst w0 Hl1 wl1 Hl1 w17 →
  K bM bN bO bP bQ bR w17)
def m_M1 (who1 bH : Int) (bA bB bK : Int) (bL : ByteArray) (bI : Sl) (w0 : World) (K : Int → Int → Int → Int → ByteArray → Sl → World → Prop) : Prop :=
 ∀ (H5 : Nat → Prop) (w10 : World), Hst w0 None w0 H5 w10 →
 ∃ (I1 : Int → Int → Int → Int → Int → ByteArray → Sl → (Nat → Prop) → World → Prop) (mu1 : Int → Int → Int → Int → Int → ByteArray → Sl → World → Nat), I1 0 (cond ((bH == 9) && (!(s_R who1 bA bB))) 8 bH) bA bB bK bL Sl.nil H5 w10 ∧
  ∀ (i1 bM : Int) (bN bO bP : Int) (bQ : ByteArray) (bR : Sl) (Hl1 : Nat → Prop) (wl1 : World), Hst w0 Hl1 wl1 Hl1 wl1 → I1 i1 bM bN bO bP bQ bR Hl1 wl1 → m_M1_l1 who1 bI i1 bM bN bO bP bQ bR w0 Hl1 wl1 (fun y'0 y'1 y'2 y'3 y'4 y'5 y'6 H' w' => I1 y'0 y'1 y'2 y'3 y'4 y'5 y'6 H' w' ∧ mu1 y'0 y'1 y'2 y'3 y'4 y'5 y'6 w' < mu1 i1 bM bN bO bP bQ bR wl1) K
theorem w_M1 (who1 bH : Int) (bA bB bK : Int) (bL : ByteArray) (bI : Sl) (w0 : World) (K : Int → Int → Int → Int → ByteArray → Sl → World → Prop) (h : m_M1 who1 bH bA bB bK bL bI w0 K) :
  Calls Try.prog 28 #[(vi who1), (.agg #[(vi bH), (vi bA), (vi bB), (vu bK), (vs bL), bI.v])] w0 (fun e w' => ∃ aL aN : Int, ∃ aM aO : Int, ∃ aT : ByteArray, ∃ bZ : Sl, e = .returned (.agg #[(vi aL), (vi aN), (vi aM), (vu aO), (vs aT), bZ.v]) ∧ K aL aN aM aO aT bZ w') := by
 unfold m_M1 at h
 refine cw (args := [(vi who1), (.agg #[(vi bH), (vi bA), (vi bB), (vu bK), (vs bL), bI.v])]) Try.func28 Try.ntmps28 ?_
 have hs := Hst.start w0
 have hb := HB.nil None w0
 refine wpE_seq (rg (sn (O := (.cells #[(vi bH), (vi bA), (vi bB), (vu bK), (vs bL), bI.v] 63)) xb ?_))
 intro p1 w1 hn1
 obtain ⟨H1, hs, hb⟩ := hs.alloc hb hn1
 refine sn (O := (.cells #[(vi 0), (vi 0), (vi 0), (vu 0), (vs ⟨#[]⟩), Sl.nil.v] 63)) (x_alloc (Try.zeroValue63 _) rfl) ?_
 intro p2 w2 hn2
 obtain ⟨H2, hs, hb⟩ := hs.alloc hb hn2
 refine wpL_nil (th_n (wpE_seq (rg (q2 (.agg #[(vi bH), (vi bA), (vi bB), (vu bK), (vs bL), bI.v]) (x_loadA (a := p1) (vs := [(vi bH), (vi bA), (vi bB), (vu bK), (vs bL), bI.v]) (by kernel_rfl) (Try.isAgg63 _) (Try.sizeOf63 _) rfl (hb.row0 1 6 (gS gZ) (by kernel_rfl))) (sn (O := (.cells #[(vi 0), (vi 0), (vi 0), (vu 0), (vs ⟨#[]⟩), Sl.nil.v] 63)) (x_alloc (Try.zeroValue63 _) rfl) ?_)))))
 intro p3 w3 hn3
 obtain ⟨H3, hs, hb⟩ := hs.alloc hb hn3
 refine st_set (want0 rfl) (x_storeA (a := p3) (vs := [(vi bH), (vi bA), (vi bB), (vu bK), (vs bL), bI.v]) (by kernel_rfl) (by kernel_rfl) rfl (Try.sizeOf63 _) rfl (hb.canWs0 0 6 gZ (by kernel_rfl))) ?_
 intro w4 hn4
 have hsb : Hst w0 None w0 H3 w4 ∧ HB H3 w4 [(p3, [(vi bH), (vi bA), (vi bB), (vu bK), (vs bL), bI.v], 63), (p2, [(vi 0), (vi 0), (vi 0), (vu 0), (vs ⟨#[]⟩), Sl.nil.v], 63), (p1, [(vi bH), (vi bA), (vi bB), (vu bK), (vs bL), bI.v], 63)] := by
  rw [hn4]
  exact hb.store0 (i := 0) (vs := [(vi bH), (vi bA), (vi bB), (vu bK), (vs bL), bI.v]) hs gZ (by kernel_rfl) (by kernel_rfl)
 clear hs hb hn4
 obtain ⟨hs, hb⟩ := hsb
 refine wpL_nil (th_n (wpE_seq (rg (q0 (vp (some (p3.add 5))) (st_set (want0 rfl) (x_store (a := (p3.add 5)) (v := Sl.nil.v) (by kernel_rfl) (by kernel_rfl) rfl (Try.sizeOf22 _) (hb.canW 0 5 gZ (by kernel_rfl))) ?_)))))
 intro w5 hn5
 have hsb : Hst w0 None w0 H3 w5 ∧ HB H3 w5 [(p3, [(vi bH), (vi bA), (vi bB), (vu bK), (vs bL), Sl.nil.v], 63), (p2, [(vi 0), (vi 0), (vi 0), (vu 0), (vs ⟨#[]⟩), Sl.nil.v], 63), (p1, [(vi bH), (vi bA), (vi bB), (vu bK), (vs bL), bI.v], 63)] := by
  rw [hn5]
  exact hb.set (i := 0) 5 (v := Sl.nil.v) hs gZ (by kernel_rfl)
 clear hs hb hn5
 obtain ⟨hs, hb⟩ := hsb
 refine wpL_nil (th_n (wpE_seq (wpE_seq ?_)))
 refine wpE_via (fun ρ wJ => ∃ b1'0 : Bool, ∃ HJ : Nat → Prop, ((bH == 9) = b1'0) ∧ Hst w0 None w0 HJ wJ ∧ HB HJ wJ [(p3, [(vi bH), (vi bA), (vi bB), (vu bK), (vs bL), Sl.nil.v], 63), (p2, [(vi 0), (vi 0), (vi 0), (vu 0), (vs ⟨#[]⟩), Sl.nil.v], 63), (p1, [(vi bH), (vi bA), (vi bB), (vu bK), (vs bL), bI.v], 63)] ∧ Has ρ [(0, (vi who1)), (3, (vp (some p1))), (4, (vp (some p2))), (5, (vp (some p3))), (20, (vb (b1'0 && (!(s_R who1 bA bB)))))]) ?_ ?_
 ·skip
  refine rg (q0 (vp (some p3)) (q2 (vi bH) (xl (Try.isAgg3 _) (hb.c0 0 gZ)) (q0 (vb (bH == 9)) (q0 (vb (bH == 9)) ?_))))
  rcases Bool.eq_false_or_eq_true (bH == 9) with hg2 | hg2
  ·skip
   refine q1 (vi who1) (want1 rfl (yD 12 hg2)) (q1 (vp (some (p1.add 1))) (want1 rfl (yD 12 hg2)) (stp (v := (vi bA)) (want1 rfl (yD 12 hg2)) (xl (Try.isAgg3 _) (hb.c 2 1 (gS (gS gZ)))) (q1 (vp (some (p1.add 2))) (want1 rfl (yD 12 hg2)) (stp (v := (vi bB)) (want1 rfl (yD 12 hg2)) (xl (Try.isAgg3 _) (hb.c 2 2 (gS (gS gZ)))) ?_))))
   refine st_call (want1 rfl (yD 12 hg2)) (xc Try.call54) ((p_R who1 bA bB w5).mono ?_)
   rintro e w8 ⟨he, hE⟩
   refine ⟨(vb (s_R who1 bA bB)), he.trans (by kernel_rfl), ?_⟩
   replace hs := hs.pure hE
   replace hb := hb.pure hE
   clear hE he
   refine q1 (vb (!(s_R who1 bA bB))) (want1 rfl (yD 12 hg2)) (q2 (vb (!(s_R who1 bA bB))) (xT hg2) (wpL_nil (th_n ?_)))
   exact ⟨true, _, hg2, hs, hb, hm⟩
  ·skip
   refine sk (yD 12 hg2) (sk (yD 12 hg2) (sk (yD 12 hg2) (sk (yD 12 hg2) (sk (yD 12 hg2) (sk (yD 12 hg2) (sk (yD 12 hg2) (q2 (vb false) (xF hg2) (wpL_nil (th_n ?_)))))))))
   exact ⟨false, _, hg2, hs, hb, hm⟩
 ·clear hs hb
  rintro ρ w7 ⟨b1'0, H4, he0, hs, hb, hH⟩
  subst he0
  refine norm_has hH ?_
  clear hH
  refine th_n ?_
  refine wpE_via (fun ρ wJ => ∃ b2'0 : Bool, ∃ HJ : Nat → Prop, (((bH == 9) && (!(s_R who1 bA bB))) = b2'0) ∧ Hst w0 None w0 HJ wJ ∧ HB HJ wJ [(p3, [(vi (cond b2'0 8 bH)), (vi bA), (vi bB), (vu bK), (vs bL), Sl.nil.v], 63), (p2, [(vi 0), (vi 0), (vi 0), (vu 0), (vs ⟨#[]⟩), Sl.nil.v], 63), (p1, [(vi bH), (vi bA), (vi bB), (vu bK), (vs bL), bI.v], 63)] ∧ Has ρ [(0, (vi who1)), (3, (vp (some p1))), (4, (vp (some p2))), (5, (vp (some p3)))]) ?_ ?_
  ·skip
   refine wpE_cond (t := ((bH == 9) && (!(s_R who1 bA bB)))) (by kernel_rfl) (fun hc2 => ?_) (fun hc2 => ?_)
   ·skip
    refine rg (q0 (vp (some p3)) (st_set (want0 rfl) (x_store (a := p3) (v := (vi 8)) (by kernel_rfl) (by kernel_rfl) rfl (Try.sizeOf3 _) (hb.canW0 0 gZ (by kernel_rfl))) ?_))
    intro w11 hn7
    have hsb : Hst w0 None w0 H4 w11 ∧ HB H4 w11 [(p3, [(vi 8), (vi bA), (vi bB), (vu bK), (vs bL), Sl.nil.v], 63), (p2, [(vi 0), (vi 0), (vi 0), (vu 0), (vs ⟨#[]⟩), Sl.nil.v], 63), (p1, [(vi bH), (vi bA), (vi bB), (vu bK), (vs bL), bI.v], 63)] := by
     rw [hn7]
     exact hb.set0 (i := 0) (v := (vi 8)) hs gZ (by kernel_rfl)
    clear hs hb hn7
    obtain ⟨hs, hb⟩ := hsb
    refine wpL_nil (th_n ?_)
    exact ⟨true, _, hc2, hs, hb, hm⟩
   ·skip
    refine wpE_skip (th_n ?_)
    exact ⟨false, _, hc2, hs, hb, hm⟩
  ·clear hs hb
   rintro ρ w10 ⟨b2'0, H5, he0, hs, hb, hH⟩
   subst he0
   refine norm_has hH ?_
   clear hH
   refine th_n (wpE_seq (wpE_seq (rg (q0 (vi 0) (wpL_nil (th_n (wpE_block ?_)))))))
   replace h := h H5 w10 hs
   replace hs := hs.here
   obtain ⟨I1, mu1, h0, hr⟩ := h
   refine wpE_loop (σ := Int × Int × Int × Int × Int × ByteArray × Sl × (Nat → Prop) × World) (fun s ρ w => w = s.2.2.2.2.2.2.2.2 ∧ Has ρ [(0, (vi who1)), (3, (vp (some p1))), (4, (vp (some p2))), (5, (vp (some p3))), (6, (vi s.1))] ∧ Hst w0 s.2.2.2.2.2.2.2.1 w s.2.2.2.2.2.2.2.1 w ∧ HB s.2.2.2.2.2.2.2.1 w [(p3, [(vi s.2.1), (vi s.2.2.1), (vi s.2.2.2.1), (vu s.2.2.2.2.1), (vs s.2.2.2.2.2.1), s.2.2.2.2.2.2.1.v], 63), (p2, [(vi 0), (vi 0), (vi 0), (vu 0), (vs ⟨#[]⟩), Sl.nil.v], 63), (p1, [(vi bH), (vi bA), (vi bB), (vu bK), (vs bL), bI.v], 63)] ∧ I1 s.1 s.2.1 s.2.2.1 s.2.2.2.1 s.2.2.2.2.1 s.2.2.2.2.2.1 s.2.2.2.2.2.2.1 s.2.2.2.2.2.2.2.1 s.2.2.2.2.2.2.2.2) (fun s => mu1 s.1 s.2.1 s.2.2.1 s.2.2.2.1 s.2.2.2.2.1 s.2.2.2.2.2.1 s.2.2.2.2.2.2.1 s.2.2.2.2.2.2.2.2) (0, (cond ((bH == 9) && (!(s_R who1 bA bB))) 8 bH), bA, bB, bK, bL, Sl.nil, H5, w10) ⟨rfl, hm, hs, hb, h0⟩ ?_
   clear hs hb
   rintro ⟨i1, bM, bN, bO, bP, bQ, bR, Hl1, wl1⟩ ρ w ⟨hw, hH, hs, hb, hI⟩
   obtain rfl : wl1 = w := (show w = wl1 from hw).symm
   replace hH : Has ρ [(0, (vi who1)), (3, (vp (some p1))), (4, (vp (some p2))), (5, (vp (some p3))), (6, (vi i1))] := hH
   replace hs : Hst w0 Hl1 wl1 Hl1 wl1 := hs
   replace hb : HB Hl1 wl1 [(p3, [(vi bM), (vi bN), (vi bO), (vu bP), (vs bQ), bR.v], 63), (p2, [(vi 0), (vi 0), (vi 0), (vu 0), (vs ⟨#[]⟩), Sl.nil.v], 63), (p1, [(vi bH), (vi bA), (vi bB), (vu bK), (vs bL), bI.v], 63)] := hb
   have h := hr i1 bM bN bO bP bQ bR Hl1 wl1 hs hI
   clear hr h0
   unfold m_M1_l1 at h
   refine wpE_has hH ?_
   clear hH hI
   refine wpE_seq (wpE_seq (rg (q0 (vi i1) (q0 (vp (some (p1.add 5))) (q2 bI.v (xl (Try.isAgg22 _) (hb.c 2 5 (gS (gS gZ)))) (q0 (vi (bI.len : Int)) (q0 (vb (decide (i1 < (bI.len : Int)))) (wpL_nil (th_n ?_)))))))))
   refine wpE_cond (t := (decide (i1 < (bI.len : Int)))) (by kernel_rfl) (fun hc3 => ?_) (fun hc3 => ?_)
   ·replace h := h.1 hc3
    refine wpE_skip (th_n (wpE_seq (wpE_block ?_)))
    obtain ⟨C1, hC, h⟩ := h
    refine wpE_drawnC (fun x => C1 x ∧ HB Hl1 x [(p3, [(vi bM), (vi bN), (vi bO), (vu bP), (vs bQ), bR.v], 63), (p2, [(vi 0), (vi 0), (vi 0), (vu 0), (vs ⟨#[]⟩), Sl.nil.v], 63), (p1, [(vi bH), (vi bA), (vi bB), (vu bK), (vs bL), bI.v], 63)]) [8, 9, 10, 12] [12] (by kernel_rfl) (by kernel_rfl) (by kernel_rfl) (by kernel_rfl) ⟨hC, hb.drew⟩ ?_
    clear hC
    intro w12 hw12
    replace h := h w12 hw12
    replace hs : Hst w0 Hl1 wl1 Hl1 w12 := by rw [hw12]; exact hs.drew
    replace hb : HB Hl1 w12 [(p3, [(vi bM), (vi bN), (vi bO), (vu bP), (vs bQ), bR.v], 63), (p2, [(vi 0), (vi 0), (vi 0), (vu 0), (vs ⟨#[]⟩), Sl.nil.v], 63), (p1, [(vi bH), (vi bA), (vi bB), (vu bK), (vs bL), bI.v], 63)] := by rw [hw12]; exact hb.drew
    replace hs := hs.here
    refine qx 0 (vp (some (p3.add 5))) Kp0 (qz 1 bR.v Kp1 (fun w' hw' => (xl (Try.isAgg22 _) (hw'.2.cell 0 5 gZ (by kernel_rfl)))) (qx 2 (vi who1) Kp2 (qx 3 (vp (some (p1.add 5))) Kp3 (qz 4 bI.v Kp4 (fun w' hw' => (xl (Try.isAgg22 _) (hw'.2.cell 2 5 (gS (gS gZ)) (by kernel_rfl)))) (qx 5 (vi i1) Kp5 (qg 6 ?_))))))
    obtain ⟨a1, hv3, h⟩ := h
    refine sy (v := (vp (some a1))) Kp6 (fun _ _ => (xi (Try.runUnderlying22 _) (Try.sizeOf63 _) hv3)) (qg 7 ?_)
    obtain ⟨bC, bD, bE, bF, bG, bJ, hv2, h⟩ := h
    refine sye (v := (.agg #[(vi bC), (vi bD), (vi bE), (vu bF), (vs bG), bJ.v])) Kp7 (x_loadA (a := a1) (vs := [(vi bC), (vi bD), (vi bE), (vu bF), (vs bG), bJ.v]) (by kernel_rfl) (Try.isAgg63 _) (Try.sizeOf63 _) rfl hv2) (lg 8 ?_)
    refine sl_call Kp8 (want0 rfl) (by kernel_rfl) (xc Try.call28) (h.mono ?_)
    rintro e w13 ⟨aA, aC, aD, aE, aF, bS, rfl, hC, hk, h⟩
    refine ⟨_, rfl, .inr ⟨hC, hb.kept hk⟩, ?_⟩
    obtain ⟨hs, hb⟩ := hk.hh hs hb
    clear hk
    refine lg 9 (sl_new (O := (.cells #[(vi aA), (vi aC), (vi aD), (vu aE), (vs aF), bS.v] 63)) (fun p => (Sl.mk (some p) 1 1).v) Kp9 (want0 rfl) (by kernel_rfl) (x_buildSlice (vs := #[(0, (.agg #[(vi aA), (vi aC), (vi aD), (vu aE), (vs aF), bS.v]))]) (by kernel_rfl) (by kernel_rfl)) ?_)
    intro p4 w14 hn9
    replace h := h p4 w14 hn9
    refine ⟨.inr ⟨h.1, hb.kept (Ext.new (F := None) hn9).keptP⟩, ?_⟩
    replace h := h.2
    replace hs := hs.again (Ext.new (F := None) hn9).keptP
    replace hb := hb.kept (Ext.new (F := None) hn9).keptP
    refine lg 10 ?_
    obtain ⟨s1, w15, hv1, hC, hk, h⟩ := h
    refine sl (v := s1.v) (pickA (S8 (pickS (pickS pickZ)))) (want0 rfl) (by kernel_rfl) (x_builtin (args := #[bR.v, (Sl.mk (some p4) 1 1).v]) (by kernel_rfl) (fun _ => rfl) hv1) (.inr ⟨hC, hb.kept hk⟩) ?_
    clear hC
    obtain ⟨hs, hb⟩ := hk.hh hs hb
    clear hk
    refine qx 11 (vp (some (p3.add 5))) (pickA (S8 (pickS (pickS (pickS pickZ))))) (lg 12 (sl_t (pickA (S8 (S4 pickZ))) (xs (v := s1.v) (Try.sizeOf22 _) (hb.canW 0 5 gZ (by kernel_rfl))) ?_))
    intro w16 hn8
    have hsb : Hst w0 Hl1 w15 Hl1 w16 ∧ HB Hl1 w16 [(p3, [(vi bM), (vi bN), (vi bO), (vu bP), (vs bQ), s1.v], 63), (p2, [(vi 0), (vi 0), (vi 0), (vu 0), (vs ⟨#[]⟩), Sl.nil.v], 63), (p1, [(vi bH), (vi bA), (vi bB), (vu bK), (vs bL), bI.v], 63)] := by
     rw [hn8]
     exact hb.set (i := 0) 5 (v := s1.v) hs gZ (by kernel_rfl)
    clear hs hb hn8
    obtain ⟨hs, hb⟩ := hsb
    refine ⟨.inl (by kernel_rfl), ?_⟩
    refine wn (bl_n (th_n (rg (q0 (vi i1) (q0 (vi (IntKind.i64.wrap (i1 + 1))) (q0 (vi (IntKind.i64.wrap (i1 + 1))) (wpL_nil ?_)))))))
    replace h := h w16 hs
    replace hs := hs.here
    refine th_n ?_
    exact ⟨((IntKind.i64.wrap (i1 + 1)), bM, bN, bO, bP, bQ, s1, Hl1, w16), ⟨rfl, hm, hs, hb, h.1⟩, h.2⟩
   ·replace h := h.2 hc3
    refine wpE_exit (th_x (th_x (bl_eq (th_n (wpE_seq (rg (q2 (.agg #[(vi bM), (vi bN), (vi bO), (vu bP), (vs bQ), bR.v]) (x_loadA (a := p3) (vs := [(vi bM), (vi bN), (vi bO), (vu bP), (vs bQ), bR.v]) (by kernel_rfl) (Try.isAgg63 _) (Try.sizeOf63 _) rfl (hb.row0 0 6 gZ (by kernel_rfl))) (st_set (want0 rfl) (x_storeA (a := p2) (vs := [(vi bM), (vi bN), (vi bO), (vu bP), (vs bQ), bR.v]) (by kernel_rfl) (by kernel_rfl) rfl (Try.sizeOf63 _) rfl (hb.canWs0 1 6 (gS gZ) (by kernel_rfl))) ?_))))))))
    intro w17 hn10
    have hsb : Hst w0 Hl1 wl1 Hl1 w17 ∧ HB Hl1 w17 [(p3, [(vi bM), (vi bN), (vi bO), (vu bP), (vs bQ), bR.v], 63), (p2, [(vi bM), (vi bN), (vi bO), (vu bP), (vs bQ), bR.v], 63), (p1, [(vi bH), (vi bA), (vi bB), (vu bK), (vs bL), bI.v], 63)] := by
     rw [hn10]
     exact hb.store0 (i := 1) (vs := [(vi bM), (vi bN), (vi bO), (vu bP), (vs bQ), bR.v]) hs (gS gZ) (by kernel_rfl) (by kernel_rfl)
    clear hs hb hn10
    obtain ⟨hs, hb⟩ := hsb
    refine wpL_nil (th_n (wpE_ret ?_))
    replace h := h w17 hs
    replace hs := hs.here
    refine resG (.inl rfl) (vs := [(.agg #[(vi bM), (vi bN), (vi bO), (vu bP), (vs bQ), bR.v])]) (v := (.agg #[(vi bM), (vi bN), (vi bO), (vu bP), (vs bQ), bR.v])) Try.results28 ⟨(RV.cellA (by kernel_rfl) (Try.isAgg63 _) (Try.sizeOf63 _) rfl (hb.row0 1 6 (gS gZ) (by kernel_rfl))), trivial⟩ (by kernel_rfl) ?_
    exact ⟨bM, bN, bO, bP, bQ, bR, rfl, h⟩
def m_T_l2 (p1 : Option Addr) (who1 : Int) (l1 out1 : Sl) (x2 : Int) (Hl2 : Nat → Prop) (wl2 : World) (Kc2 : Sl → Int → (Nat → Prop) → World → Prop) (K : Sl → Int → World → Prop) : Prop :=
 Br (decide (x2 < (l1.len : Int)))
  (∃ a2 : Addr, At l1 x2 1 a2 ∧
  ∃ v2 : Int, wl2.cell? a2 = some (vi v2) ∧
  Calls Try.prog 24 #[(vp p1), (vi who1), (vi v2)] wl2 (fun e w5 => ∃ r2 r3 : Int, e = .returned (.tuple #[(vi r2), (vi r3)]) ∧ 
   Kept Hl2 wl2 w5 ∧
   Br (r3 != 0)
    (K Sl.nil r3 w5)
    (∀ (p3 : Addr) (w6 : World), New w5 (.cells #[(vi r2)] 23) p3 w6 →
    ∃ s1 : Sl, ∃ w7 : World, (Builtin.append_ #[36, 36] 36 #[out1.v, (Sl.mk (some p3) 1 1).v]).run Try.prog w6 = .ok s1.v w7 ∧
    Kept Hl2 w6 w7 ∧
    Kc2 s1 (IntKind.i64.wrap (x2 + 1)) Hl2 w7)))
  (K out1 0 wl2)
def m_T_l1 (p1 : Option Addr) (who1 : Int) (l1 : Sl) (x1 : Int) (w0 : World) (Hl1 : Nat → Prop) (wl1 : World) (Kc1 : Int → (Nat → Prop) → World → Prop) (K : Sl → Int → World → Prop) : Prop :=
 Br (decide (x1 < (l1.len : Int)))
  (∃ a1 : Addr, At l1 x1 1 a1 ∧
  ∃ v1 : Int, wl1.cell? a1 = some (vi v1) ∧
  Calls Try.prog 44 #[(vp p1), (vi v1)] wl1 (fun e w2 => ∃ aA aC : Int, ∃ aD aE : Int, ∃ aF : ByteArray, ∃ aI aG : Int, ∃ r1 : Bool, e = .returned (.tuple #[(.agg #[(vi aA), (vi aC), (vi aD), (vu aE), (vs aF), (vi aI), (vi aG)]), (vb r1)]) ∧ 
   Kept Hl1 wl1 w2 ∧
   Br (!r1)
    (∀ (H1 : Nat → Prop) (w4 : World), Hst w0 Hl1 w2 H1 w4 →
    K Sl.nil 51 w4)
    (∀ (H1 : Nat → Prop) (w4 : World), Hst w0 Hl1 w2 H1 w4 →
    Kc1 (IntKind.i64.wrap (x1 + 1)) H1 w4)))
  (∃ (I2 : Sl → Int → (Nat → Prop) → World → Prop) (mu2 : Sl → Int → World → Nat), I2 Sl.nil 0 Hl1 wl1 ∧
   ∀ (out1 : Sl) (x2 : Int) (Hl2 : Nat → Prop) (wl2 : World), Hst w0 Hl2 wl2 Hl2 wl2 → I2 out1 x2 Hl2 wl2 → m_T_l2 p1 who1 l1 out1 x2 Hl2 wl2 (fun y'0 y'1 H' w' => I2 y'0 y'1 H' w' ∧ mu2 y'0 y'1 w' < mu2 out1 x2 wl2) K)
def m_T (p1 : Option Addr) (who1 : Int) (l1 : Sl) (w0 : World) (K : Sl → Int → World → Prop) : Prop :=
 Br (Option.isNone p1)
  (K Sl.nil 7 w0)
  (Br (!((decide (who1 ≥ 0)) && (decide (who1 < 16))))
   (∀ (w1 : World), Hst w0 None w0 None w1 →
   K Sl.nil 50 w1)
   (∀ (w1 : World), Hst w0 None w0 None w1 →
   ∃ (I1 : Int → (Nat → Prop) → World → Prop) (mu1 : Int → World → Nat), I1 0 None w1 ∧
    ∀ (x1 : Int) (Hl1 : Nat → Prop) (wl1 : World), Hst w0 Hl1 wl1 Hl1 wl1 → I1 x1 Hl1 wl1 → m_T_l1 p1 who1 l1 x1 w0 Hl1 wl1 (fun y'0 H' w' => I1 y'0 H' w' ∧ mu1 y'0 w' < mu1 x1 wl1) K))
theorem w_T (p1 : Option Addr) (who1 : Int) (l1 : Sl) (w0 : World) (K : Sl → Int → World → Prop) (h : m_T p1 who1 l1 w0 K) :
  Calls Try.prog 31 #[(vp p1), (vi who1), l1.v] w0 (fun e w' => ∃ r4 : Sl, ∃ r5 : Int, e = .returned (.tuple #[r4.v, (vi r5)]) ∧ K r4 r5 w') := by
 unfold m_T at h
 refine cw (args := [(vp p1), (vi who1), l1.v]) Try.func31 Try.ntmps31 ?_
 have hs := Hst.start w0
 have hb := HB.nil None w0
 refine wpE_seq (rg (q0 Sl.nil.v (q0 (vi 0) (wpL_nil (th_n (wpE_seq (rg (q0 Sl.nil.v (wpL_nil (th_n (wpE_seq ?_)))))))))))
 refine wpE_seq (rg (q0 (vp p1) (q2 (vb (Option.isNone p1)) (x_ptreq (by kernel_rfl) rfl Try.underlying28) (wpL_nil (th_n ?_)))))
 refine wpE_cond (t := (Option.isNone p1)) (by kernel_rfl) (fun hc1 => ?_) (fun hc1 => ?_)
 ·replace h := h.1 hc1
  refine wpE_seq (rg (q0 Sl.nil.v (q0 (vi 7) (wpL_nil (th_n (wpE_ret (th_r (res2 (.inl rfl) Try.results31 (v := Sl.nil.v) (by kernel_rfl) (v' := (vi 7)) (by kernel_rfl) ?_))))))))
  exact ⟨Sl.nil, 7, rfl, h⟩
 ·replace h := h.2 hc1
  refine wpE_skip (th_n (wpE_seq (wpE_seq (rg (q0 (vi who1) ?_)))))
  refine sc Try.call48 ((p_W1 who1 w0).mono ?_)
  rintro e w1 ⟨he, hE⟩
  refine ⟨(vb ((decide (who1 ≥ 0)) && (decide (who1 < 16)))), he.trans (by kernel_rfl), ?_⟩
  replace hs := hs.pure hE
  replace hb := hb.pure hE
  clear hE he
  refine q0 (vb (!((decide (who1 ≥ 0)) && (decide (who1 < 16))))) (wpL_nil (th_n ?_))
  refine wpE_cond (t := (!((decide (who1 ≥ 0)) && (decide (who1 < 16))))) (by kernel_rfl) (fun hc2 => ?_) (fun hc2 => ?_)
  ·replace h := h.1 hc2
   refine wpE_seq (rg (q0 Sl.nil.v (q0 (vi 50) (wpL_nil (th_n (wpE_ret (th_r ?_)))))))
   replace h := h w1 hs
   replace hs := hs.here
   refine res2 (.inl rfl) Try.results31 (v := Sl.nil.v) (by kernel_rfl) (v' := (vi 50)) (by kernel_rfl) ?_
   exact ⟨Sl.nil, 50, rfl, h⟩
  ·replace h := h.2 hc2
   refine wpE_skip (th_n (wpE_seq (wpE_seq (rg (q0 l1.v (q0 (vi (l1.len : Int)) (q0 (vi 0) (wpL_nil (th_n (wpE_block ?_))))))))))
   replace h := h w1 hs
   replace hs := hs.here
   obtain ⟨I1, mu1, h0, hr⟩ := h
   refine wpE_loop (σ := Int × (Nat → Prop) × World) (fun s ρ w => w = s.2.2 ∧ Has ρ [(0, (vp p1)), (1, (vi who1)), (2, l1.v), (8, Sl.nil.v), (22, l1.v), (23, (vi (l1.len : Int))), (24, (vi s.1))] ∧ Hst w0 s.2.1 w s.2.1 w ∧ HB s.2.1 w [] ∧ I1 s.1 s.2.1 s.2.2) (fun s => mu1 s.1 s.2.2) (0, None, w1) ⟨rfl, hm, hs, hb, h0⟩ ?_
   clear hs hb
   rintro ⟨x1, Hl1, wl1⟩ ρ w ⟨hw, hH, hs, hb, hI⟩
   obtain rfl : wl1 = w := (show w = wl1 from hw).symm
   replace hH : Has ρ [(0, (vp p1)), (1, (vi who1)), (2, l1.v), (8, Sl.nil.v), (22, l1.v), (23, (vi (l1.len : Int))), (24, (vi x1))] := hH
   replace hs : Hst w0 Hl1 wl1 Hl1 wl1 := hs
   replace hb : HB Hl1 wl1 [] := hb
   have h := hr x1 Hl1 wl1 hs hI
   clear hr h0
   unfold m_T_l1 at h
   refine wpE_has hH ?_
   clear hH hI
   refine wpE_seq (rg (q0 (vb (decide (x1 < (l1.len : Int)))) (wpL_nil (th_n (wpE_seq ?_)))))
   refine wpE_cond (t := (decide (x1 < (l1.len : Int)))) (by kernel_rfl) (fun hc3 => ?_) (fun hc3 => ?_)
   ·replace h := h.1 hc3
    refine wpE_skip (th_n (wpE_seq (wpE_block (wpE_seq (rg ?_)))))
    obtain ⟨a1, hv2, h⟩ := h
    refine q2 (vp (some a1)) (xi (Try.runUnderlying36 _) (Try.sizeOf23 _) hv2) ?_
    obtain ⟨v1, hv1, h⟩ := h
    refine q2 (vi v1) (xl (Try.isAgg23 _) hv1) (q0 (vi v1) (wpL_nil (th_n (wpE_seq (rg (q0 (vp p1) (q0 (vi v1) ?_)))))))
    refine sc Try.call44 (h.mono ?_)
    rintro e w2 ⟨aA, aC, aD, aE, aF, aI, aG, r1, rfl, hk, h⟩
    refine ⟨_, rfl, ?_⟩
    obtain ⟨hs, hb⟩ := hk.hh hs hb
    clear hk
    refine q0 (.tuple #[(.agg #[(vi aA), (vi aC), (vi aD), (vu aE), (vs aF), (vi aI), (vi aG)]), (vb r1)]) (q0 (.agg #[(vi aA), (vi aC), (vi aD), (vu aE), (vs aF), (vi aI), (vi aG)]) (q0 (vb r1) (sn (O := (.cells #[(vi 0), (vi 0), (vi 0), (vu 0), (vs ⟨#[]⟩), (vi 0), (vi 0)] 41)) (x_alloc (Try.zeroValue41 _) rfl) ?_)))
    intro p2 w3 hn1
    obtain ⟨H1, hs, hb⟩ := hs.alloc hb hn1
    refine st_set (want0 rfl) (x_storeA (a := p2) (vs := [(vi aA), (vi aC), (vi aD), (vu aE), (vs aF), (vi aI), (vi aG)]) (by kernel_rfl) (by kernel_rfl) rfl (Try.sizeOf41 _) rfl (hb.canWs0 0 7 gZ (by kernel_rfl))) ?_
    intro w4 hn2
    have hsb : Hst w0 Hl1 w2 H1 w4 ∧ HB H1 w4 [(p2, [(vi aA), (vi aC), (vi aD), (vu aE), (vs aF), (vi aI), (vi aG)], 41)] := by
     rw [hn2]
     exact hb.store0 (i := 0) (vs := [(vi aA), (vi aC), (vi aD), (vu aE), (vs aF), (vi aI), (vi aG)]) hs gZ (by kernel_rfl) (by kernel_rfl)
    clear hs hb hn2
    obtain ⟨hs, hb⟩ := hsb
    refine q0 (vb r1) (wpL_nil (th_n (wpE_seq (rg (q0 (vb r1) (q0 (vb (!r1)) (wpL_nil (th_n ?_))))))))
    refine wpE_cond (t := (!r1)) (by kernel_rfl) (fun hc4 => ?_) (fun hc4 => ?_)
    ·replace h := h.1 hc4
     refine wpE_seq (rg (q0 Sl.nil.v (q0 (vi 51) (wpL_nil (th_n (wpE_ret (bl_r (th_r (th_r (bl_r (th_r ?_)))))))))))
     replace h := h H1 w4 hs
     replace hs := hs.here
     refine res2 (.inl rfl) Try.results31 (v := Sl.nil.v) (by kernel_rfl) (v' := (vi 51)) (by kernel_rfl) ?_
     exact ⟨Sl.nil, 51, rfl, h⟩
    ·replace h := h.2 hc4
     refine wpE_skip (bl_n (th_n (rg (q0 (vi (IntKind.i64.wrap (x1 + 1))) (q0 (vi (IntKind.i64.wrap (x1 + 1))) (wpL_nil ?_))))))
     replace h := h H1 w4 hs
     replace hs := hs.here
     refine th_n ?_
     exact ⟨((IntKind.i64.wrap (x1 + 1)), H1, w4), ⟨rfl, hm, hs, hb.drop 1, h.1⟩, h.2⟩
   ·replace h := h.2 hc3
    refine wpE_exit (th_x (th_x (bl_eq (th_n (wpE_seq (wpE_seq (rg (q0 l1.v (q0 (vi (l1.len : Int)) (q0 (vi 0) (wpL_nil ?_)))))))))))
    refine th_n (wpE_block ?_)
    obtain ⟨I2, mu2, h0, hr⟩ := h
    refine wpE_loop (σ := Sl × Int × (Nat → Prop) × World) (fun s ρ w => w = s.2.2.2 ∧ Has ρ [(0, (vp p1)), (1, (vi who1)), (8, s.1.v), (37, l1.v), (38, (vi (l1.len : Int))), (39, (vi s.2.1))] ∧ Hst w0 s.2.2.1 w s.2.2.1 w ∧ HB s.2.2.1 w [] ∧ I2 s.1 s.2.1 s.2.2.1 s.2.2.2) (fun s => mu2 s.1 s.2.1 s.2.2.2) (Sl.nil, 0, Hl1, wl1) ⟨rfl, hm, hs, hb, h0⟩ ?_
    clear hs hb
    rintro ⟨out1, x2, Hl2, wl2⟩ ρ w ⟨hw, hH, hs, hb, hI⟩
    obtain rfl : wl2 = w := (show w = wl2 from hw).symm
    replace hH : Has ρ [(0, (vp p1)), (1, (vi who1)), (8, out1.v), (37, l1.v), (38, (vi (l1.len : Int))), (39, (vi x2))] := hH
    replace hs : Hst w0 Hl2 wl2 Hl2 wl2 := hs
    replace hb : HB Hl2 wl2 [] := hb
    have h := hr out1 x2 Hl2 wl2 hs hI
    clear hr h0
    unfold m_T_l2 at h
    refine wpE_has hH ?_
    clear hH hI
    refine wpE_seq (rg (q0 (vb (decide (x2 < (l1.len : Int)))) (wpL_nil (th_n (wpE_seq ?_)))))
    refine wpE_cond (t := (decide (x2 < (l1.len : Int)))) (by kernel_rfl) (fun hc5 => ?_) (fun hc5 => ?_)
    ·replace h := h.1 hc5
     refine wpE_skip (th_n (wpE_seq (wpE_block (wpE_seq (rg ?_)))))
     obtain ⟨a2, hv5, h⟩ := h
     refine q2 (vp (some a2)) (xi (Try.runUnderlying36 _) (Try.sizeOf23 _) hv5) ?_
     obtain ⟨v2, hv4, h⟩ := h
     refine q2 (vi v2) (xl (Try.isAgg23 _) hv4) (q0 (vi v2) (wpL_nil (th_n (wpE_seq (rg (q0 (vp p1) (q0 (vi who1) (q0 (vi v2) ?_))))))))
     refine sc Try.call24 (h.mono ?_)
     rintro e w5 ⟨r2, r3, rfl, hk, h⟩
     refine ⟨_, rfl, ?_⟩
     obtain ⟨hs, hb⟩ := hk.hh hs hb
     clear hk
     refine q0 (.tuple #[(vi r2), (vi r3)]) (q0 (vi r2) (q0 (vi r3) (q0 (vi r2) (q0 (vi r3) (wpL_nil (th_n (wpE_seq (wpE_seq (rg (q0 (vi r3) (q0 (vb (r3 != 0)) ?_)))))))))))
     refine wpL_nil (th_n ?_)
     refine wpE_cond (t := (r3 != 0)) (by kernel_rfl) (fun hc6 => ?_) (fun hc6 => ?_)
     ·replace h := h.1 hc6
      refine wpE_seq (rg (q0 (vi r3) (q0 Sl.nil.v (q0 (vi r3) (wpL_nil (th_n (wpE_ret (th_r (bl_r (th_r (th_r ?_)))))))))))
      refine bl_r (th_r (res2 (.inl rfl) Try.results31 (v := Sl.nil.v) (by kernel_rfl) (v' := (vi r3)) (by kernel_rfl) ?_))
      exact ⟨Sl.nil, r3, rfl, h⟩
     ·replace h := h.2 hc6
      refine wpE_skip (th_n (rg (q0 out1.v (q0 (vi r2) (st_new (O := (.cells #[(vi r2)] 23)) (fun p => (Sl.mk (some p) 1 1).v) (want0 rfl) (x_buildSlice (vs := #[(0, (vi r2))]) (by kernel_rfl) (by kernel_rfl)) ?_)))))
      intro p3 w6 hn3
      replace h := h p3 w6 hn3
      replace hs := hs.again (Ext.new (F := None) hn3).keptP
      replace hb := hb.kept (Ext.new (F := None) hn3).keptP
      obtain ⟨s1, w7, hv3, hk, h⟩ := h
      refine st (v := s1.v) (want0 rfl) (x_builtin (args := #[out1.v, (Sl.mk (some p3) 1 1).v]) (by kernel_rfl) (fun _ => rfl) hv3) ?_
      obtain ⟨hs, hb⟩ := hk.hh hs hb
      clear hk
      refine q0 s1.v (wpL_nil (bl_n (th_n (rg (q0 (vi (IntKind.i64.wrap (x2 + 1))) (q0 (vi (IntKind.i64.wrap (x2 + 1))) (wpL_nil (th_n ?_))))))))
      exact ⟨(s1, (IntKind.i64.wrap (x2 + 1)), Hl2, w7), ⟨rfl, hm, hs, hb, h.1⟩, h.2⟩
    ·replace h := h.2 hc5
     refine wpE_exit (th_x (th_x (bl_eq (th_n (wpE_seq (rg (q0 out1.v (q0 out1.v (q0 (vi 0) (wpL_nil (th_n ?_)))))))))))
     refine wpE_ret (res2 (.inl rfl) Try.results31 (v := out1.v) (by kernel_rfl) (v' := (vi 0)) (by kernel_rfl) ?_)
     exact ⟨out1, 0, rfl, h⟩
def m_N1_l1 (r1 out1 : Sl) (x1 : Int) (wl1 : World) (Kc1 : Sl → Int → World → Prop) (K : Sl → Int → World → Prop) : Prop :=
 Br (decide (x1 < (r1.len : Int)))
  (∃ a1 : Addr, At r1 x1 1 a1 ∧
  ∃ v1 : Int, wl1.cell? a1 = some (vi v1) ∧
  Calls Try.prog 58 #[r1.v, (vi v1)] wl1 (fun e w2 => ∃ r3 : Int, e = .returned (vi r3) ∧ 
   ∀ (p2 : Addr) (w3 : World), New w2 (.cells #[(vi r3)] 3) p2 w3 →
   ∃ s1 : Sl, ∃ w4 : World, (Builtin.append_ #[54, 54] 54 #[out1.v, (Sl.mk (some p2) 1 1).v]).run Try.prog w3 = .ok s1.v w4 ∧
   Kc1 s1 (IntKind.i64.wrap (x1 + 1)) w4))
  (K out1 0 wl1)
def m_N1 (p1 : Option Addr) (who1 : Int) (l1 : Sl) (w0 : World) (K : Sl → Int → World → Prop) : Prop :=
 Calls Try.prog 31 #[(vp p1), (vi who1), l1.v] w0 (fun e w1 => ∃ r1 : Sl, ∃ r2 : Int, e = .returned (.tuple #[r1.v, (vi r2)]) ∧ 
  Br (r2 != 0)
   (K Sl.nil r2 w1)
   (∃ (I1 : Sl → Int → World → Prop) (mu1 : Sl → Int → World → Nat), I1 Sl.nil 0 w1 ∧
    ∀ (out1 : Sl) (x1 : Int) (wl1 : World), I1 out1 x1 wl1 → m_N1_l1 r1 out1 x1 wl1 (fun y'0 y'1 w' => I1 y'0 y'1 w' ∧ mu1 y'0 y'1 w' < mu1 out1 x1 wl1) K))
theorem w_N1 (p1 : Option Addr) (who1 : Int) (l1 : Sl) (w0 : World) (K : Sl → Int → World → Prop) (h : m_N1 p1 who1 l1 w0 K) :
  Calls Try.prog 32 #[(vp p1), (vi who1), l1.v] w0 (fun e w' => ∃ r4 : Sl, ∃ r5 : Int, e = .returned (.tuple #[r4.v, (vi r5)]) ∧ K r4 r5 w') := by
 unfold m_N1 at h
 refine cw (args := [(vp p1), (vi who1), l1.v]) Try.func32 Try.ntmps32 (wpE_seq (rg (q0 Sl.nil.v (q0 (vi 0) (wpL_nil (th_n (wpE_seq (rg (q0 (vp p1) (q0 (vi who1) (q0 l1.v ?_)))))))))))
 refine sc Try.call31 (h.mono ?_)
 rintro e w1 ⟨r1, r2, rfl, h⟩
 refine ⟨_, rfl, ?_⟩
 refine q0 (.tuple #[r1.v, (vi r2)]) (q0 r1.v (q0 (vi r2) (q0 r1.v (q0 (vi r2) (wpL_nil (th_n (wpE_seq (wpE_seq (rg (q0 (vi r2) (q0 (vb (r2 != 0)) ?_)))))))))))
 refine wpL_nil (th_n ?_)
 refine wpE_cond (t := (r2 != 0)) (by kernel_rfl) (fun hc1 => ?_) (fun hc1 => ?_)
 ·replace h := h.1 hc1
  refine wpE_seq (rg (q0 (vi r2) (q0 Sl.nil.v (q0 (vi r2) (wpL_nil (th_n (wpE_ret (th_r (res2 (.inl rfl) Try.results32 (v := Sl.nil.v) (by kernel_rfl) (v' := (vi r2)) (by kernel_rfl) ?_)))))))))
  exact ⟨Sl.nil, r2, rfl, h⟩
 ·replace h := h.2 hc1
  refine wpE_skip (th_n (wpE_seq (rg (q0 Sl.nil.v (wpL_nil (th_n (wpE_seq (wpE_seq (rg (q0 r1.v (q0 (vi (r1.len : Int)) ?_)))))))))))
  refine q0 (vi 0) (wpL_nil (th_n (wpE_block ?_)))
  obtain ⟨I1, mu1, h0, hr⟩ := h
  refine wpE_loop (σ := Sl × Int × World) (fun s ρ w => w = s.2.2 ∧ Has ρ [(8, r1.v), (10, s.1.v), (23, r1.v), (24, (vi (r1.len : Int))), (25, (vi s.2.1))] ∧ I1 s.1 s.2.1 s.2.2) (fun s => mu1 s.1 s.2.1 s.2.2) (Sl.nil, 0, w1) ⟨rfl, hm, h0⟩ ?_
  rintro ⟨out1, x1, wl1⟩ ρ w ⟨hw, hH, hI⟩
  obtain rfl : wl1 = w := (show w = wl1 from hw).symm
  replace hH : Has ρ [(8, r1.v), (10, out1.v), (23, r1.v), (24, (vi (r1.len : Int))), (25, (vi x1))] := hH
  have h := hr out1 x1 wl1 hI
  clear hr h0
  unfold m_N1_l1 at h
  refine wpE_has hH ?_
  clear hH hI
  refine wpE_seq (rg (q0 (vb (decide (x1 < (r1.len : Int)))) (wpL_nil (th_n (wpE_seq ?_)))))
  refine wpE_cond (t := (decide (x1 < (r1.len : Int)))) (by kernel_rfl) (fun hc2 => ?_) (fun hc2 => ?_)
  ·replace h := h.1 hc2
   refine wpE_skip (th_n (wpE_seq (wpE_block (wpE_seq (rg ?_)))))
   obtain ⟨a1, hv3, h⟩ := h
   refine q2 (vp (some a1)) (xi (Try.runUnderlying36 _) (Try.sizeOf23 _) hv3) ?_
   obtain ⟨v1, hv2, h⟩ := h
   refine q2 (vi v1) (xl (Try.isAgg23 _) hv2) (q0 (vi v1) (wpL_nil (th_n (rg (q0 out1.v (q0 r1.v (q0 (vi v1) ?_)))))))
   refine sc Try.call58 (h.mono ?_)
   rintro e w2 ⟨r3, rfl, h⟩
   refine ⟨_, rfl, ?_⟩
   refine st_new (O := (.cells #[(vi r3)] 3)) (fun p => (Sl.mk (some p) 1 1).v) (want0 rfl) (x_buildSlice (vs := #[(0, (vi r3))]) (by kernel_rfl) (by kernel_rfl)) ?_
   intro p2 w3 hn1
   replace h := h p2 w3 hn1
   obtain ⟨s1, w4, hv1, h⟩ := h
   refine st (v := s1.v) (want0 rfl) (x_builtin (args := #[out1.v, (Sl.mk (some p2) 1 1).v]) (by kernel_rfl) (fun _ => rfl) hv1) (q0 s1.v (wpL_nil (bl_n (th_n (rg (q0 (vi (IntKind.i64.wrap (x1 + 1))) (q0 (vi (IntKind.i64.wrap (x1 + 1))) (wpL_nil (th_n ?_)))))))))
   exact ⟨(s1, (IntKind.i64.wrap (x1 + 1)), w4), ⟨rfl, hm, h.1⟩, h.2⟩
  ·replace h := h.2 hc2
   refine wpE_exit (th_x (th_x (bl_eq (th_n (wpE_seq (rg (q0 out1.v (q0 out1.v (q0 (vi 0) (wpL_nil (th_n ?_)))))))))))
   refine wpE_ret (res2 (.inl rfl) Try.results32 (v := out1.v) (by kernel_rfl) (v' := (vi 0)) (by kernel_rfl) ?_)
   exact ⟨out1, 0, rfl, h⟩
def m_U_l2 (who1 : Int) (l1 out1 : Sl) (i1 k1 : Int) (Hl2 : Nat → Prop) (wl2 : World) (Kc1 : Sl → Int → (Nat → Prop) → World → Prop) (Kc2 : Int → (Nat → Prop) → World → Prop) (_K : Sl → World → Prop) : Prop :=
 ∃ C1 : World → Prop, C1 wl2.drew ∧ ∀ w1, w1 = wl2.drew →
 ∃ a1 : Addr, At l1 k1 6 a1 ∧
 ∃ bC bD : Int, ∃ bE bF : Int, ∃ bG : ByteArray, ∃ bJ : Sl, Row w1 a1 [(vi bC), (vi bD), (vi bE), (vu bF), (vs bG), bJ.v] ∧
 ∃ a2 : Addr, At l1 i1 6 a2 ∧
 ∃ bT bU : Int, ∃ bV bW : Int, ∃ bX : ByteArray, ∃ bY : Sl, (∀ w', C1 w' → Row w' a2 [(vi bT), (vi bU), (vi bV), (vu bW), (vs bX), bY.v]) ∧
 Calls Try.prog 28 #[(vi who1), (.agg #[(vi bC), (vi bD), (vi bE), (vu bF), (vs bG), bJ.v])] w1 (fun e w2 => ∃ aA aC : Int, ∃ aD aE : Int, ∃ aF : ByteArray, ∃ bS : Sl, e = .returned (.agg #[(vi aA), (vi aC), (vi aD), (vu aE), (vs aF), bS.v]) ∧ C1 w2 ∧ 
  Kept Hl2 w1 w2 ∧
  Calls Try.prog 28 #[(vi who1), (.agg #[(vi bT), (vi bU), (vi bV), (vu bW), (vs bX), bY.v])] w2 (fun e w3 => ∃ aL aN : Int, ∃ aM aO : Int, ∃ aT : ByteArray, ∃ bZ : Sl, e = .returned (.agg #[(vi aL), (vi aN), (vi aM), (vu aO), (vs aT), bZ.v]) ∧ C1 w3 ∧ 
   Kept Hl2 w2 w3 ∧
   Calls Try.prog 26 #[(.agg #[(vi aA), (vi aC), (vi aD), (vu aE), (vs aF), bS.v]), (.agg #[(vi aL), (vi aN), (vi aM), (vu aO), (vs aT), bZ.v])] w3 (fun e w4 => ∃ r1 : Bool, e = .returned (vb r1) ∧ C1 w4 ∧ 
    Kept Hl2 w3 w4 ∧
    Br (!r1)
     (Kc2 (IntKind.i64.wrap (k1 + 1)) Hl2 w4)
     (∀ (p1 : Addr) (w5 : World), New w4 (.cells #[(vi k1)] 3) p1 w5 →
     ∃ s1 : Sl, ∃ w6 : World, (Builtin.append_ #[54, 54] 54 #[out1.v, (Sl.mk (some p1) 1 1).v]).run Try.prog w5 = .ok s1.v w6 ∧
     Kept Hl2 w5 w6 ∧
     Kc1 s1 (IntKind.i64.wrap (i1 + 1)) Hl2 w6))))
def m_U_l1 (who1 : Int) (l1 out1 : Sl) (i1 : Int) (w0 : World) (Hl1 : Nat → Prop) (wl1 : World) (Kc1 : Sl → Int → (Nat → Prop) → World → Prop) (K : Sl → World → Prop) : Prop :=
 Br (decide (i1 < (l1.len : Int)))
  (∃ (I2 : Int → (Nat → Prop) → World → Prop) (mu2 : Int → World → Nat), I2 0 Hl1 wl1 ∧
   ∀ (k1 : Int) (Hl2 : Nat → Prop) (wl2 : World), Hst w0 Hl2 wl2 Hl2 wl2 → I2 k1 Hl2 wl2 → m_U_l2 who1 l1 out1 i1 k1 Hl2 wl2 Kc1 (fun y'0 H' w' => I2 y'0 H' w' ∧ mu2 y'0 w' < mu2 k1 wl2) K)
  (K out1 wl1)
def m_U (who1 : Int) (l1 : Sl) (w0 : World) (K : Sl → World → Prop) : Prop :=
 ∃ (I1 : Sl → Int → (Nat → Prop) → World → Prop) (mu1 : Sl → Int → World → Nat), I1 Sl.nil 0 None w0 ∧
  ∀ (out1 : Sl) (i1 : Int) (Hl1 : Nat → Prop) (wl1 : World), Hst w0 Hl1 wl1 Hl1 wl1 → I1 out1 i1 Hl1 wl1 → m_U_l1 who1 l1 out1 i1 w0 Hl1 wl1 (fun y'0 y'1 H' w' => I1 y'0 y'1 H' w' ∧ mu1 y'0 y'1 w' < mu1 out1 i1 wl1) K
theorem w_U (who1 : Int) (l1 : Sl) (w0 : World) (K : Sl → World → Prop) (h : m_U who1 l1 w0 K) :
  Calls Try.prog 33 #[(vi who1), l1.v] w0 (fun e w' => ∃ r2 : Sl, e = .returned r2.v ∧ K r2 w') := by
 unfold m_U at h
 refine cw (args := [(vi who1), l1.v]) Try.func33 Try.ntmps33 ?_
 have hs := Hst.start w0
 have hb := HB.nil None w0
 refine wpE_seq (rg (q0 Sl.nil.v (wpL_nil (th_n (wpE_seq (rg (q0 Sl.nil.v (wpL_nil (th_n (wpE_seq (wpE_seq ?_)))))))))))
 refine rg (q0 (vi 0) (wpL_nil (th_n (wpE_block ?_))))
 obtain ⟨I1, mu1, h0, hr⟩ := h
 refine wpE_loop (σ := Sl × Int × (Nat → Prop) × World) (fun s ρ w => w = s.2.2.2 ∧ Has ρ [(0, (vi who1)), (1, l1.v), (5, s.1.v), (6, (vi s.2.1))] ∧ Hst w0 s.2.2.1 w s.2.2.1 w ∧ HB s.2.2.1 w [] ∧ I1 s.1 s.2.1 s.2.2.1 s.2.2.2) (fun s => mu1 s.1 s.2.1 s.2.2.2) (Sl.nil, 0, None, w0) ⟨rfl, hm, hs, hb, h0⟩ ?_
 clear hs hb
 rintro ⟨out1, i1, Hl1, wl1⟩ ρ w ⟨hw, hH, hs, hb, hI⟩
 obtain rfl : wl1 = w := (show w = wl1 from hw).symm
 replace hH : Has ρ [(0, (vi who1)), (1, l1.v), (5, out1.v), (6, (vi i1))] := hH
 replace hs : Hst w0 Hl1 wl1 Hl1 wl1 := hs
 replace hb : HB Hl1 wl1 [] := hb
 have h := hr out1 i1 Hl1 wl1 hs hI
 clear hr h0
 unfold m_U_l1 at h
 refine wpE_has hH ?_
 clear hH hI
 refine wpE_seq (wpE_seq (rg (q0 (vi i1) (q0 l1.v (q0 (vi (l1.len : Int)) (q0 (vb (decide (i1 < (l1.len : Int)))) (wpL_nil (th_n ?_))))))))
 refine wpE_cond (t := (decide (i1 < (l1.len : Int)))) (by kernel_rfl) (fun hc1 => ?_) (fun hc1 => ?_)
 ·replace h := h.1 hc1
  refine wpE_skip (th_n (wpE_seq (wpE_block (wpE_seq (rg (q0 (vi 0) (wpL_nil (th_n (wpE_seq (wpE_block ?_))))))))))
  obtain ⟨I2, mu2, h0, hr⟩ := h
  refine wpE_loop (σ := Int × (Nat → Prop) × World) (fun s ρ w => w = s.2.2 ∧ Has ρ [(0, (vi who1)), (1, l1.v), (5, out1.v), (6, (vi i1)), (7, (vi s.1))] ∧ Hst w0 s.2.1 w s.2.1 w ∧ HB s.2.1 w [] ∧ I2 s.1 s.2.1 s.2.2) (fun s => mu2 s.1 s.2.2) (0, Hl1, wl1) ⟨rfl, hm, hs, hb, h0⟩ ?_
  clear hs hb
  rintro ⟨k1, Hl2, wl2⟩ ρ w ⟨hw, hH, hs, hb, hI⟩
  obtain rfl : wl2 = w := (show w = wl2 from hw).symm
  replace hH : Has ρ [(0, (vi who1)), (1, l1.v), (5, out1.v), (6, (vi i1)), (7, (vi k1))] := hH
  replace hs : Hst w0 Hl2 wl2 Hl2 wl2 := hs
  replace hb : HB Hl2 wl2 [] := hb
  have h := hr k1 Hl2 wl2 hs hI
  clear hr h0
  unfold m_U_l2 at h
  refine wpE_has hH ?_
  clear hH hI
  refine wpE_seq (wpE_seq ?_)
  obtain ⟨C1, hC, h⟩ := h
  refine wpE_drawnC C1 [5, 11, 12] [] (by kernel_rfl) (by kernel_rfl) (by kernel_rfl) (by kernel_rfl) hC ?_
  clear hC
  intro w1 hw1
  replace h := h w1 hw1
  replace hs : Hst w0 Hl2 wl2 Hl2 w1 := by rw [hw1]; exact hs.drew
  replace hb : HB Hl2 w1 [] := by rw [hw1]; exact hb.drew
  replace hs := hs.here
  refine qx 0 (vi who1) Kp0 (qx 1 l1.v Kp1 (qx 2 (vi k1) Kp2 (qg 3 ?_)))
  obtain ⟨a1, hv5, h⟩ := h
  refine sy (v := (vp (some a1))) Kp3 (fun _ _ => (xi (Try.runUnderlying22 _) (Try.sizeOf63 _) hv5)) (qg 4 ?_)
  obtain ⟨bC, bD, bE, bF, bG, bJ, hv4, h⟩ := h
  refine sye (v := (.agg #[(vi bC), (vi bD), (vi bE), (vu bF), (vs bG), bJ.v])) Kp4 (x_loadA (a := a1) (vs := [(vi bC), (vi bD), (vi bE), (vu bF), (vs bG), bJ.v]) (by kernel_rfl) (Try.isAgg63 _) (Try.sizeOf63 _) rfl hv4) (qx 6 (vi who1) Kp6 (qx 7 l1.v Kp7 (qx 8 (vi i1) Kp8 (qg 9 ?_))))
  obtain ⟨a2, hv3, h⟩ := h
  refine sy (v := (vp (some a2))) Kp9 (fun _ _ => (xi (Try.runUnderlying22 _) (Try.sizeOf63 _) hv3)) (qg 10 ?_)
  obtain ⟨bT, bU, bV, bW, bX, bY, hv2, h⟩ := h
  refine sy (v := (.agg #[(vi bT), (vi bU), (vi bV), (vu bW), (vs bX), bY.v])) (pickA (S8 (pickS (pickS pickZ)))) (fun w' hw' => (x_loadA (a := a2) (vs := [(vi bT), (vi bU), (vi bV), (vu bW), (vs bX), bY.v]) (by kernel_rfl) (Try.isAgg63 _) (Try.sizeOf63 _) rfl (hv2 w' hw'))) (lg 5 ?_)
  refine sl_call Kp5 (want0 rfl) (by kernel_rfl) (xc Try.call28) (h.mono ?_)
  rintro e w2 ⟨aA, aC, aD, aE, aF, bS, rfl, hC, hk, h⟩
  refine ⟨_, rfl, .inr hC, ?_⟩
  obtain ⟨hs, hb⟩ := hk.hh hs hb
  clear hk
  refine lg 11 ?_
  refine sl_call (pickA (S8 (pickS (pickS (pickS pickZ))))) (want0 rfl) (by kernel_rfl) (xc Try.call28) (h.mono ?_)
  rintro e w3 ⟨aL, aN, aM, aO, aT, bZ, rfl, hC, hk, h⟩
  refine ⟨_, rfl, .inr hC, ?_⟩
  obtain ⟨hs, hb⟩ := hk.hh hs hb
  clear hk
  refine lg 12 ?_
  refine sl_call (pickA (S8 (S4 pickZ))) (want0 rfl) (by kernel_rfl) (xc Try.call26) (h.mono ?_)
  rintro e w4 ⟨r1, rfl, hC, hk, h⟩
  refine ⟨_, rfl, .inr hC, ?_⟩
  obtain ⟨hs, hb⟩ := hk.hh hs hb
  clear hk
  refine qx 13 (vb (!r1)) (pickA (S8 (S4 (pickS pickZ)))) (wn (th_n ?_))
  refine wpE_cond (t := (!r1)) (by kernel_rfl) (fun hc2 => ?_) (fun hc2 => ?_)
  ·replace h := h.1 hc2
   refine wpE_skip (th_n (wpE_block (rg (q0 (vi k1) (q0 (vi (IntKind.i64.wrap (k1 + 1))) (q0 (vi (IntKind.i64.wrap (k1 + 1))) (wpL_nil (bl_n (th_n ?_)))))))))
   exact ⟨((IntKind.i64.wrap (k1 + 1)), Hl2, w4), ⟨rfl, hm, hs, hb, h.1⟩, h.2⟩
  ·replace h := h.2 hc2
   refine wpE_exit (th_x (th_x (bl_eq (th_n (rg (q0 out1.v (q0 (vi k1) (st_new (O := (.cells #[(vi k1)] 3)) (fun p => (Sl.mk (some p) 1 1).v) (want0 rfl) (x_buildSlice (vs := #[(0, (vi k1))]) (by kernel_rfl) (by kernel_rfl)) ?_))))))))
   intro p1 w5 hn1
   replace h := h p1 w5 hn1
   replace hs := hs.again (Ext.new (F := None) hn1).keptP
   replace hb := hb.kept (Ext.new (F := None) hn1).keptP
   obtain ⟨s1, w6, hv1, hk, h⟩ := h
   refine st (v := s1.v) (want0 rfl) (x_builtin (args := #[out1.v, (Sl.mk (some p1) 1 1).v]) (by kernel_rfl) (fun _ => rfl) hv1) ?_
   obtain ⟨hs, hb⟩ := hk.hh hs hb
   clear hk
   refine q0 s1.v (wpL_nil (bl_n (th_n (rg (q0 (vi i1) (q0 (vi (IntKind.i64.wrap (i1 + 1))) (q0 (vi (IntKind.i64.wrap (i1 + 1))) (wpL_nil (th_n ?_)))))))))
   exact ⟨(s1, (IntKind.i64.wrap (i1 + 1)), Hl2, w6), ⟨rfl, hm, hs, hb, h.1⟩, h.2⟩
 ·replace h := h.2 hc1
  refine wpE_exit (th_x (th_x (bl_eq (th_n (wpE_seq (rg (q0 out1.v (q0 out1.v (wpL_nil (th_n (wpE_ret ?_)))))))))))
  refine rs1 Try.results33 (v := out1.v) ?_
  exact ⟨out1, rfl, h⟩
def m_N_l2 (aV : Int) (r3 : Option Addr) (r9 r11 : Sl) (trees1 r15 : Sl) (i1 : Int) (Hl1 : Nat → Prop) (wl1 : World) (Kc2 : Int → (Nat → Prop) → World → Prop) (K : Bool → World → Prop) : Prop :=
 Br (decide (i1 < (r9.len : Int)))
  (∃ C3 : World → Prop, C3 wl1.drew ∧ ∀ w25, w25 = wl1.drew →
  ∃ a1 : Addr, At r11 i1 1 a1 ∧
  ∃ v1 : Int, w25.cell? a1 = some (vi v1) ∧
  ∃ a2 : Addr, At r15 i1 1 a2 ∧
  ∃ v2 : Int, w25.cell? a2 = some (vi v2) ∧
  Br (v1 != v2)
   (K false w25)
   (∃ a3 : Addr, At r9 i1 1 a3 ∧
   ∃ v3 : Int, w25.cell? a3 = some (vi v3) ∧
   ∃ a4 : Addr, At trees1 i1 6 a4 ∧
   ∃ bC bD : Int, ∃ bE bF : Int, ∃ bG : ByteArray, ∃ bJ : Sl, (∀ w', C3 w' → Row w' a4 [(vi bC), (vi bD), (vi bE), (vu bF), (vs bG), bJ.v]) ∧
   Calls Try.prog 27 #[(vp r3), (vi v3)] w25 (fun e w26 => ∃ aA aC : Int, ∃ aD aE : Int, ∃ aF : ByteArray, ∃ bS : Sl, e = .returned (.agg #[(vi aA), (vi aC), (vi aD), (vu aE), (vs aF), bS.v]) ∧ C3 w26 ∧ 
    Kept Hl1 w25 w26 ∧
    Calls Try.prog 28 #[(vi aV), (.agg #[(vi bC), (vi bD), (vi bE), (vu bF), (vs bG), bJ.v])] w26 (fun e w27 => ∃ aL aN : Int, ∃ aM aO : Int, ∃ aT : ByteArray, ∃ bZ : Sl, e = .returned (.agg #[(vi aL), (vi aN), (vi aM), (vu aO), (vs aT), bZ.v]) ∧ C3 w27 ∧ 
     Kept Hl1 w26 w27 ∧
     Calls Try.prog 26 #[(.agg #[(vi aA), (vi aC), (vi aD), (vu aE), (vs aF), bS.v]), (.agg #[(vi aL), (vi aN), (vi aM), (vu aO), (vs aT), bZ.v])] w27 (fun e w28 => ∃ r16 : Bool, e = .returned (vb r16) ∧ C3 w28 ∧ 
      Kept Hl1 w27 w28 ∧
      Br (!r16)
       (K false w28)
       (Kc2 (IntKind.i64.wrap (i1 + 1)) Hl1 w28))))))
  (Calls Try.prog 8 #[] wl1 (fun e w29 => ∃ r17 : Bool, e = .returned (vb r17) ∧ 
   Kept Hl1 wl1 w29 ∧
   K r17 w29))
def m_N_j1 (aJ : Sl) (aV : Int) (r3 : Option Addr) (r9 : Sl) (r10 : Int) (r11 : Sl) (r12 wantV1 : Int) (trees1 : Sl) (w0 : World) (H : Nat → Prop) (w : World) (K : Bool → World → Prop) : Prop :=
 Br (((aJ.len : Int) : Int) == 0)
  (Br ((((r9.len : Int) : Int) == 0) && (((r11.len : Int) : Int) == 0))
   (∀ (H2 : Nat → Prop) (w14 : World), Hst w0 H w H2 w14 →
   Calls Try.prog 8 #[] w14 (fun e w15 => ∃ r13 : Bool, e = .returned (vb r13) ∧ 
    Kept H2 w14 w15 ∧
    K r13 w15))
   (∀ (H2 : Nat → Prop) (w14 : World), Hst w0 H w H2 w14 →
   K false w14))
  (Br ((r10 != wantV1) || (r12 != wantV1))
   (∀ (H3 : Nat → Prop) (w18 : World), Hst w0 H w H3 w18 →
   K false w18)
   (Br (wantV1 != 0)
    (Br ((((r9.len : Int) : Int) == 0) && (((r11.len : Int) : Int) == 0))
     (∀ (H4 : Nat → Prop) (w21 : World), Hst w0 H w H4 w21 →
     Calls Try.prog 8 #[] w21 (fun e w22 => ∃ r14 : Bool, e = .returned (vb r14) ∧ 
      Kept H4 w21 w22 ∧
      K r14 w22))
     (∀ (H4 : Nat → Prop) (w21 : World), Hst w0 H w H4 w21 →
     K false w21))
    (∀ (H3 : Nat → Prop) (w18 : World), Hst w0 H w H3 w18 →
    Calls Try.prog 33 #[(vi aV), trees1.v] w18 (fun e w23 => ∃ r15 : Sl, e = .returned r15.v ∧ 
     Kept H3 w18 w23 ∧
     ∀ y1 : Bool, y1 = ((((r9.len : Int) : Int) != (aJ.len : Int)) || (((r11.len : Int) : Int) != (aJ.len : Int))) →
     Br y1
      (∀ (H5 : Nat → Prop) (w24 : World), Hst w0 H3 w23 H5 w24 →
      K false w24)
      (∀ (H5 : Nat → Prop) (w24 : World), Hst w0 H3 w23 H5 w24 →
      ∃ (I1 : Int → (Nat → Prop) → World → Prop) (mu1 : Int → World → Nat), I1 0 H5 w24 ∧
       ∀ (i1 : Int) (Hl1 : Nat → Prop) (wl1 : World), Hst w0 Hl1 wl1 Hl1 wl1 → I1 i1 Hl1 wl1 → m_N_l2 aV r3 r9 r11 trees1 r15 i1 Hl1 wl1 (fun y'0 H' w' => I1 y'0 H' w' ∧ mu1 y'0 w' < mu1 i1 wl1) K)))))
def m_N_j4 (aJ : Sl) (r4 : Option Addr) (trees2 : Sl) (i2 wantV3 : Int) (H : Nat → Prop) (w : World) (Kc3 : Int → Sl → Int → (Nat → Prop) → World → Prop) (_K : Bool → World → Prop) : Prop :=
 ∃ a5 : Addr, At aJ i2 1 a5 ∧
 ∃ v4 : Int, w.cell? a5 = some (vi v4) ∧
 Calls Try.prog 29 #[(vp r4), (vi v4)] w (fun e w32 => ∃ cA cB : Int, ∃ cC cD : Int, ∃ cE : ByteArray, ∃ cS : Sl, e = .returned (.agg #[(vi cA), (vi cB), (vi cC), (vu cD), (vs cE), cS.v]) ∧ 
  Kept H w w32 ∧
  ∀ (p4 : Addr) (w33 : World), New w32 (.cells #[(vi cA), (vi cB), (vi cC), (vu cD), (vs cE), cS.v] 63) p4 w33 →
  ∃ s3 : Sl, ∃ w34 : World, (Builtin.append_ #[22, 22] 22 #[trees2.v, (Sl.mk (some p4) 1 1).v]).run Try.prog w33 = .ok s3.v w34 ∧
  Kept H w33 w34 ∧
  Kc3 wantV3 s3 (IntKind.i64.wrap (i2 + 1)) H w34)
def m_N_l3 (aJ : Sl) (aV : Int) (r3 : Option Addr) (r4 : Option Addr) (r9 : Sl) (r10 : Int) (r11 : Sl) (r12 wantV2 : Int) (trees2 : Sl) (i2 : Int) (w0 : World) (Hl2 : Nat → Prop) (wl2 : World) (Kc3 : Int → Sl → Int → (Nat → Prop) → World → Prop) (K : Bool → World → Prop) : Prop :=
 Br ((decide (i2 < (aJ.len : Int))) && (wantV2 == 0))
  (Br (!((decide (aV ≥ 0)) && (decide (aV < 16))))
   (∀ (H6 : Nat → Prop) (w31 : World), Hst w0 Hl2 wl2 H6 w31 →
   m_N_j4 aJ r4 trees2 i2 50 H6 w31 Kc3 K)
   (∃ a6 : Addr, At aJ i2 1 a6 ∧
   ∀ (H6 : Nat → Prop) (w31 : World), Hst w0 Hl2 wl2 H6 w31 →
   ∃ v5 : Int, w31.cell? a6 = some (vi v5) ∧
   Calls Try.prog 25 #[(vp r4), (vi v5)] w31 (fun e w35 => ∃ r18 : Bool, e = .returned (vb r18) ∧ 
    Kept H6 w31 w35 ∧
    ∀ (H7 : Nat → Prop) (w36 : World), Hst w0 H6 w35 H7 w36 →
    m_N_j4 aJ r4 trees2 i2 (cond (!r18) 51 wantV2) H7 w36 Kc3 K)))
  (∀ (H6 : Nat → Prop) (w30 : World), Hst w0 Hl2 wl2 H6 w30 →
  m_N_j1 aJ aV r3 r9 r10 r11 r12 wantV2 trees2 w0 H6 w30 K)
def m_N (aY aJ : Sl) (aX aZ : Sl) (aV : Int) (w0 : World) (K : Bool → World → Prop) : Prop :=
 ∀ (H1 : Nat → Prop) (w1 : World), Hst w0 None w0 H1 w1 →
 Calls Try.prog 17 #[(.agg #[aY.v, aJ.v, aX.v, aZ.v, (vi aV)])] w1 (fun e w2 => ∃ r1 : Bool, e = .returned (vb r1) ∧ 
  Kept H1 w1 w2 ∧
  Br r1
   (Calls Try.prog 8 #[] w2 (fun e w3 => ∃ r2 : Bool, e = .returned (vb r2) ∧ 
    Kept H1 w2 w3 ∧
    K r2 w3))
   (Calls Try.prog 9 #[aY.v] w2 (fun e w4 => ∃ r3 : Option Addr, ∃ r4 : Option Addr, ∃ r5 : Bool, e = .returned (.tuple #[(vp r3), (vp r4), (vb r5)]) ∧ 
    Kept H1 w2 w4 ∧
    Br (!r5)
     (K false w4)
     (Calls Try.prog 9 #[aY.v] w4 (fun e w5 => ∃ r6 : Option Addr, ∃ r7 : Option Addr, ∃ r8 : Bool, e = .returned (.tuple #[(vp r6), (vp r7), (vb r8)]) ∧ 
      Kept H1 w4 w5 ∧
      Br (!r8)
       (K false w5)
       (∃ C1 : World → Prop, C1 w5.drew ∧ ∀ w6, w6 = w5.drew →
       ∀ (p2 : Addr) (w7 : World), New w6 (.cells #[] 23) p2 w7 → C1 w7 ∧
       ∃ s1 : Sl, ∃ w8 : World, (Builtin.append_ #[36, 36] 36 #[(Sl.mk (some p2) 0 0).v, aJ.v]).run Try.prog w7 = .ok s1.v w8 ∧ C1 w8 ∧
       Kept H1 w7 w8 ∧
       Calls Try.prog 31 #[(vp r3), (vi aV), s1.v] w8 (fun e w9 => ∃ r9 : Sl, ∃ r10 : Int, e = .returned (.tuple #[r9.v, (vi r10)]) ∧ C1 w9 ∧ 
        Kept H1 w8 w9 ∧
        ∃ C2 : World → Prop, C2 w9.drew ∧ ∀ w10, w10 = w9.drew →
        ∀ (p3 : Addr) (w11 : World), New w10 (.cells #[] 23) p3 w11 → C2 w11 ∧
        ∃ s2 : Sl, ∃ w12 : World, (Builtin.append_ #[36, 36] 36 #[(Sl.mk (some p3) 0 0).v, aJ.v]).run Try.prog w11 = .ok s2.v w12 ∧ C2 w12 ∧
        Kept H1 w11 w12 ∧
        Calls Try.prog 32 #[(vp r6), (vi aV), s2.v] w12 (fun e w13 => ∃ r11 : Sl, ∃ r12 : Int, e = .returned (.tuple #[r11.v, (vi r12)]) ∧ C2 w13 ∧ 
         Kept H1 w12 w13 ∧
         ∃ (I2 : Int → Sl → Int → (Nat → Prop) → World → Prop) (mu2 : Int → Sl → Int → World → Nat), I2 0 Sl.nil 0 H1 w13 ∧
          ∀ (wantV2 : Int) (trees2 : Sl) (i2 : Int) (Hl2 : Nat → Prop) (wl2 : World), Hst w0 Hl2 wl2 Hl2 wl2 → I2 wantV2 trees2 i2 Hl2 wl2 → m_N_l3 aJ aV r3 r4 r9 r10 r11 r12 wantV2 trees2 i2 w0 Hl2 wl2 (fun y'0 y'1 y'2 H' w' => I2 y'0 y'1 y'2 H' w' ∧ mu2 y'0 y'1 y'2 w' < mu2 wantV2 trees2 i2 wl2) K))))))))
theorem w_N (aY aJ : Sl) (aX aZ : Sl) (aV : Int) (w0 : World) (K : Bool → World → Prop) (h : m_N aY aJ aX aZ aV w0 K) :
  Calls Try.prog 6 #[(.agg #[aY.v, aJ.v, aX.v, aZ.v, (vi aV)])] w0 (fun e w' => ∃ r19 : Bool, e = .returned (vb r19) ∧ K r19 w') := by
 unfold m_N at h
 refine cw (args := [(.agg #[aY.v, aJ.v, aX.v, aZ.v, (vi aV)])]) Try.func6 Try.ntmps6 ?_
 have hs := Hst.start w0
 have hb := HB.nil None w0
 refine wpE_seq (rg (sn (O := (.cells #[aY.v, aJ.v, aX.v, aZ.v, (vi aV)] 48)) xb ?_))
 intro p1 w1 hn1
 obtain ⟨H1, hs, hb⟩ := hs.alloc hb hn1
 refine q0 (vb false) (wpL_nil (th_n (wpE_seq (wpE_seq (rg (q2 (.agg #[aY.v, aJ.v, aX.v, aZ.v, (vi aV)]) (x_loadA (a := p1) (vs := [aY.v, aJ.v, aX.v, aZ.v, (vi aV)]) (by kernel_rfl) (Try.isAgg48 _) (Try.sizeOf48 _) rfl (hb.row0 0 5 gZ (by kernel_rfl))) ?_))))))
 replace h := h H1 w1 hs
 replace hs := hs.here
 refine sc Try.call17 (h.mono ?_)
 rintro e w2 ⟨r1, rfl, hk, h⟩
 refine ⟨_, rfl, ?_⟩
 obtain ⟨hs, hb⟩ := hk.hh hs hb
 clear hk
 refine wpL_nil (th_n ?_)
 refine wpE_cond (t := r1) (by kernel_rfl) (fun hc1 => ?_) (fun hc1 => ?_)
 ·replace h := h.1 hc1
  refine wpE_seq (rg ?_)
  refine sc Try.call8 (h.mono ?_)
  rintro e w3 ⟨r2, rfl, hk, h⟩
  refine ⟨_, rfl, ?_⟩
  obtain ⟨hs, hb⟩ := hk.hh hs hb
  clear hk
  refine q0 (vb r2) (wpL_nil (th_n (wpE_ret (th_r (rs1 Try.results6 (v := (vb r2)) ?_)))))
  exact ⟨r2, rfl, h⟩
 ·replace h := h.2 hc1
  refine wpE_skip (th_n (wpE_seq (rg (q0 (vp (some p1)) (q2 aY.v (xl (Try.isAgg22 _) (hb.c0 0 gZ)) ?_)))))
  refine sc Try.call9 (h.mono ?_)
  rintro e w4 ⟨r3, r4, r5, rfl, hk, h⟩
  refine ⟨_, rfl, ?_⟩
  obtain ⟨hs, hb⟩ := hk.hh hs hb
  clear hk
  refine q0 (.tuple #[(vp r3), (vp r4), (vb r5)]) (q0 (vp r3) (q0 (vp r4) (q0 (vb r5) (q0 (vp r3) (q0 (vp r4) (q0 (vb r5) (wpL_nil (th_n (wpE_seq (wpE_seq (rg ?_)))))))))))
  refine q0 (vb r5) (q0 (vb (!r5)) (wpL_nil (th_n ?_)))
  refine wpE_cond (t := (!r5)) (by kernel_rfl) (fun hc2 => ?_) (fun hc2 => ?_)
  ·replace h := h.1 hc2
   refine wpE_seq (rg (q0 (vb false) (wpL_nil (th_n (wpE_ret (th_r (rs1 Try.results6 (v := (vb false)) ?_)))))))
   exact ⟨false, rfl, h⟩
  ·replace h := h.2 hc2
   refine wpE_skip (th_n (wpE_seq (rg (q0 (vp (some p1)) (q2 aY.v (xl (Try.isAgg22 _) (hb.c0 0 gZ)) ?_)))))
   refine sc Try.call9 (h.mono ?_)
   rintro e w5 ⟨r6, r7, r8, rfl, hk, h⟩
   refine ⟨_, rfl, ?_⟩
   obtain ⟨hs, hb⟩ := hk.hh hs hb
   clear hk
   refine q0 (.tuple #[(vp r6), (vp r7), (vb r8)]) (q0 (vp r6) (q0 (vp r7) (q0 (vb r8) (q0 (vp r6) (q0 (vp r7) (q0 (vb r8) (wpL_nil (th_n (wpE_seq (wpE_seq (rg ?_)))))))))))
   refine q0 (vb r8) (q0 (vb (!r8)) (wpL_nil (th_n ?_)))
   refine wpE_cond (t := (!r8)) (by kernel_rfl) (fun hc3 => ?_) (fun hc3 => ?_)
   ·replace h := h.1 hc3
    refine wpE_seq (rg (q0 (vb false) (wpL_nil (th_n (wpE_ret (th_r (rs1 Try.results6 (v := (vb false)) ?_)))))))
    exact ⟨false, rfl, h⟩
   ·replace h := h.2 hc3
    refine wpE_skip (th_n (wpE_seq ?_))
    obtain ⟨C1, hC, h⟩ := h
    refine wpE_drawnC (fun x => C1 x ∧ HB H1 x [(p1, [aY.v, aJ.v, aX.v, aZ.v, (vi aV)], 48)]) [3, 6, 7] [] (by kernel_rfl) (by kernel_rfl) (by kernel_rfl) (by kernel_rfl) ⟨hC, hb.drew⟩ ?_
    clear hC
    intro w6 hw6
    replace h := h w6 hw6
    replace hs : Hst w0 H1 w5 H1 w6 := by rw [hw6]; exact hs.drew
    replace hb : HB H1 w6 [(p1, [aY.v, aJ.v, aX.v, aZ.v, (vi aV)], 48)] := by rw [hw6]; exact hb.drew
    replace hs := hs.here
    refine qx 0 (vp r3) Kp0 (qx 1 (vp (some (p1.add 4))) Kp1 (qz 2 (vi aV) Kp2 (fun w' hw' => (xl (Try.isAgg3 _) (hw'.2.cell 0 4 gZ (by kernel_rfl)))) (qx 4 (vp (some (p1.add 1))) Kp4 (qz 5 aJ.v Kp5 (fun w' hw' => (xl (Try.isAgg36 _) (hw'.2.cell 0 1 gZ (by kernel_rfl)))) (lg 3 (sl_new (O := (.cells #[] 23)) (fun p => (Sl.mk (some p) 0 0).v) Kp3 (want0 rfl) (by kernel_rfl) (x_buildSlice (vs := #[]) (by kernel_rfl) (by kernel_rfl)) ?_))))))
    intro p2 w7 hn4
    replace h := h p2 w7 hn4
    refine ⟨.inr ⟨h.1, hb.kept (Ext.new (F := None) hn4).keptP⟩, ?_⟩
    replace h := h.2
    replace hs := hs.again (Ext.new (F := None) hn4).keptP
    replace hb := hb.kept (Ext.new (F := None) hn4).keptP
    refine lg 6 ?_
    obtain ⟨s1, w8, hv15, hC, hk, h⟩ := h
    refine sl (v := s1.v) Kp6 (want0 rfl) (by kernel_rfl) (x_builtin (args := #[(Sl.mk (some p2) 0 0).v, aJ.v]) (by kernel_rfl) (fun _ => rfl) hv15) (.inr ⟨hC, hb.kept hk⟩) ?_
    clear hC
    obtain ⟨hs, hb⟩ := hk.hh hs hb
    clear hk
    refine lg 7 ?_
    refine sl_call Kp7 (want0 rfl) (by kernel_rfl) (xc Try.call31) (h.mono ?_)
    rintro e w9 ⟨r9, r10, rfl, hC, hk, h⟩
    refine ⟨_, rfl, .inr ⟨hC, hb.kept hk⟩, ?_⟩
    obtain ⟨hs, hb⟩ := hk.hh hs hb
    clear hk
    refine qx 8 (.tuple #[r9.v, (vi r10)]) Kp8 (qx 9 r9.v Kp9 (qx 10 (vi r10) (pickA (S8 (pickS (pickS pickZ)))) (qx 11 r9.v (pickA (S8 (pickS (pickS (pickS pickZ))))) (qx 12 (vi r10) (pickA (S8 (S4 pickZ))) (wn (th_n (wpE_seq ?_)))))))
    obtain ⟨C2, hC, h⟩ := h
    refine wpE_drawnC (fun x => C2 x ∧ HB H1 x [(p1, [aY.v, aJ.v, aX.v, aZ.v, (vi aV)], 48)]) [3, 6, 7] [] (by kernel_rfl) (by kernel_rfl) (by kernel_rfl) (by kernel_rfl) ⟨hC, hb.drew⟩ ?_
    clear hC
    intro w10 hw10
    replace h := h w10 hw10
    replace hs : Hst w0 H1 w9 H1 w10 := by rw [hw10]; exact hs.drew
    replace hb : HB H1 w10 [(p1, [aY.v, aJ.v, aX.v, aZ.v, (vi aV)], 48)] := by rw [hw10]; exact hb.drew
    replace hs := hs.here
    refine qx 0 (vp r6) Kp0 (qx 1 (vp (some (p1.add 4))) Kp1 (qz 2 (vi aV) Kp2 (fun w' hw' => (xl (Try.isAgg3 _) (hw'.2.cell 0 4 gZ (by kernel_rfl)))) (qx 4 (vp (some (p1.add 1))) Kp4 (qz 5 aJ.v Kp5 (fun w' hw' => (xl (Try.isAgg36 _) (hw'.2.cell 0 1 gZ (by kernel_rfl)))) (lg 3 (sl_new (O := (.cells #[] 23)) (fun p => (Sl.mk (some p) 0 0).v) Kp3 (want0 rfl) (by kernel_rfl) (x_buildSlice (vs := #[]) (by kernel_rfl) (by kernel_rfl)) ?_))))))
    intro p3 w11 hn3
    replace h := h p3 w11 hn3
    refine ⟨.inr ⟨h.1, hb.kept (Ext.new (F := None) hn3).keptP⟩, ?_⟩
    replace h := h.2
    replace hs := hs.again (Ext.new (F := None) hn3).keptP
    replace hb := hb.kept (Ext.new (F := None) hn3).keptP
    refine lg 6 ?_
    obtain ⟨s2, w12, hv14, hC, hk, h⟩ := h
    refine sl (v := s2.v) Kp6 (want0 rfl) (by kernel_rfl) (x_builtin (args := #[(Sl.mk (some p3) 0 0).v, aJ.v]) (by kernel_rfl) (fun _ => rfl) hv14) (.inr ⟨hC, hb.kept hk⟩) ?_
    clear hC
    obtain ⟨hs, hb⟩ := hk.hh hs hb
    clear hk
    refine lg 7 ?_
    refine sl_call Kp7 (want0 rfl) (by kernel_rfl) (xc Try.call32) (h.mono ?_)
    rintro e w13 ⟨r11, r12, rfl, hC, hk, h⟩
    refine ⟨_, rfl, .inr ⟨hC, hb.kept hk⟩, ?_⟩
    obtain ⟨hs, hb⟩ := hk.hh hs hb
    clear hk
    refine qx 8 (.tuple #[r11.v, (vi r12)]) Kp8 (qx 9 r11.v Kp9 (qx 10 (vi r12) (pickA (S8 (pickS (pickS pickZ)))) (qx 11 r11.v (pickA (S8 (pickS (pickS (pickS pickZ))))) (qx 12 (vi r12) (pickA (S8 (S4 pickZ))) (wn (th_n (wpE_seq (rg (q0 (vi 0) (wpL_nil (th_n ?_)))))))))))
    refine wpE_seq (rg (q0 Sl.nil.v (wpL_nil (th_n (wpE_seq (wpE_seq (rg (q0 (vi 0) (wpL_nil (th_n ?_))))))))))
    refine wpE_joinT (fun ρ w => ∃ wantV1 : Int, ∃ trees1 : Sl, ∃ H : Nat → Prop, Has ρ [(1, (vp (some p1))), (3, (vp r3)), (9, r9.v), (10, (vi r10)), (11, r11.v), (12, (vi r12)), (13, (vi wantV1)), (14, trees1.v)] ∧ Hst w0 H w H w ∧ HB H w [(p1, [aY.v, aJ.v, aX.v, aZ.v, (vi aV)], 48)] ∧ m_N_j1 aJ aV r3 r9 r10 r11 r12 wantV1 trees1 w0 H w K) ?_ ?_
    ·clear h hs hb
     rintro ρ w ⟨wantV1, trees1, H, hH, hs, hb, h⟩
     unfold m_N_j1 at h
     refine wpE_has hH ?_
     clear hH
     refine wpE_seq (wpE_seq (rg (q0 (vp (some (p1.add 1))) (q2 aJ.v (xl (Try.isAgg36 _) (hb.c 0 1 gZ)) (q0 (vi (aJ.len : Int)) (q0 (vb (((aJ.len : Int) : Int) == 0)) (wpL_nil (th_n ?_))))))))
     refine wpE_cond (t := (((aJ.len : Int) : Int) == 0)) (by kernel_rfl) (fun hc4 => ?_) (fun hc4 => ?_)
     ·replace h := h.1 hc4
      refine wpE_seq (rg (q0 r9.v (q0 (vi (r9.len : Int)) (q0 (vb (((r9.len : Int) : Int) == 0)) (q0 (vb (((r9.len : Int) : Int) == 0)) ?_)))))
      refine wpL_join 4 (fun ρ wJ => ∃ b1'0 : Bool, ∃ HJ : Nat → Prop, ((((r9.len : Int) : Int) == 0) = b1'0) ∧ Hst w0 H w HJ wJ ∧ HB HJ wJ [(p1, [aY.v, aJ.v, aX.v, aZ.v, (vi aV)], 48)] ∧ Has ρ [(105, (vb (b1'0 && (((r11.len : Int) : Int) == 0))))]) ?_ ?_
      ·clear hs hb
       rintro ρ w14 ⟨b1'0, H2, he0, hs, hb, hH⟩
       subst he0
       refine wpL_has hH ?_
       clear hH
       refine q0 (vb ((((r9.len : Int) : Int) == 0) && (((r11.len : Int) : Int) == 0))) ?_
       rcases Bool.eq_false_or_eq_true ((((r9.len : Int) : Int) == 0) && (((r11.len : Int) : Int) == 0)) with hg3 | hg3
       ·replace h := h.1 hg3
        replace h := h H2 w14 hs
        replace hs := hs.here
        refine st_call (want1 rfl (yD 106 hg3)) (xc Try.call8) (h.mono ?_)
        rintro e w15 ⟨r13, rfl, hk, h⟩
        refine ⟨_, rfl, ?_⟩
        obtain ⟨hs, hb⟩ := hk.hh hs hb
        clear hk
        refine q2 (vb r13) (xT hg3) (q0 (vb r13) (wpL_nil (th_n (wpE_ret (th_r (rs1 Try.results6 (v := (vb r13)) ?_))))))
        exact ⟨r13, rfl, h⟩
       ·replace h := h.2 hg3
        refine sk (yD 106 hg3) (q2 (vb false) (xF hg3) (q0 (vb false) (wpL_nil (th_n (wpE_ret (th_r ?_))))))
        replace h := h H2 w14 hs
        replace hs := hs.here
        refine rs1 Try.results6 (v := (vb false)) ?_
        exact ⟨false, rfl, h⟩
      ·skip
       rcases Bool.eq_false_or_eq_true (((r9.len : Int) : Int) == 0) with hg2 | hg2
       ·skip
        refine q1 r11.v (want1 rfl (yD 101 hg2)) (q1 (vi (r11.len : Int)) (want1 rfl (yD 101 hg2)) (q1 (vb (((r11.len : Int) : Int) == 0)) (want1 rfl (yD 101 hg2)) (q2 (vb (((r11.len : Int) : Int) == 0)) (xT hg2) (wpL_nil ?_))))
        exact ⟨true, _, hg2, hs, hb, hm⟩
       ·skip
        refine sk (yD 101 hg2) (sk (yD 101 hg2) (sk (yD 101 hg2) (q2 (vb false) (xF hg2) (wpL_nil ?_))))
        exact ⟨false, _, hg2, hs, hb, hm⟩
     ·replace h := h.2 hc4
      refine wpE_skip (th_n (wpE_seq (wpE_seq ?_)))
      refine wpE_via (fun ρ wJ => ∃ b2'0 : Bool, ∃ HJ : Nat → Prop, ((r10 != wantV1) = b2'0) ∧ Hst w0 H w HJ wJ ∧ HB HJ wJ [(p1, [aY.v, aJ.v, aX.v, aZ.v, (vi aV)], 48)] ∧ Has ρ [(1, (vp (some p1))), (3, (vp r3)), (9, r9.v), (11, r11.v), (13, (vi wantV1)), (14, trees1.v), (118, (vb (b2'0 || (r12 != wantV1))))]) ?_ ?_
      ·skip
       refine rg (q0 (vi r10) ?_)
       refine sc Try.call11 ((p_B1 r10 w).mono ?_)
       rintro e w19 ⟨he, hE⟩
       refine ⟨(vi r10), he.trans (by kernel_rfl), ?_⟩
       replace hs := hs.pure hE
       replace hb := hb.pure hE
       clear hE he
       refine q0 (vi wantV1) (q0 (vb (r10 != wantV1)) (q0 (vb (r10 != wantV1)) ?_))
       rcases Bool.eq_false_or_eq_true (r10 != wantV1) with hg5 | hg5
       ·skip
        refine sk (yD 113 hg5) (sk (yD 113 hg5) (sk (yD 113 hg5) (sk (yD 113 hg5) (q2 (vb true) (xT hg5) (wpL_nil (th_n ?_))))))
        exact ⟨true, _, hg5, hs, hb, hm⟩
       ·skip
        refine q1 (vi r12) (want1 rfl (yD 113 hg5)) ?_
        refine st_call (want1 rfl (yD 113 hg5)) (xc Try.call11) ((p_B1 r12 w19).mono ?_)
        rintro e w20 ⟨he, hE⟩
        refine ⟨(vi r12), he.trans (by kernel_rfl), ?_⟩
        replace hs := hs.pure hE
        replace hb := hb.pure hE
        clear hE he
        refine q1 (vi wantV1) (want1 rfl (yD 113 hg5)) (q1 (vb (r12 != wantV1)) (want1 rfl (yD 113 hg5)) (q2 (vb (r12 != wantV1)) (xF hg5) (wpL_nil (th_n ?_))))
        exact ⟨false, _, hg5, hs, hb, hm⟩
      ·clear hs hb
       rintro ρ w18 ⟨b2'0, H3, he0, hs, hb, hH⟩
       subst he0
       refine norm_has hH ?_
       clear hH
       refine th_n ?_
       refine wpE_cond (t := ((r10 != wantV1) || (r12 != wantV1))) (by kernel_rfl) (fun hc5 => ?_) (fun hc5 => ?_)
       ·replace h := h.1 hc5
        refine wpE_seq (rg (q0 (vb false) (wpL_nil (th_n (wpE_ret (th_r ?_))))))
        replace h := h H3 w18 hs
        replace hs := hs.here
        refine rs1 Try.results6 (v := (vb false)) ?_
        exact ⟨false, rfl, h⟩
       ·replace h := h.2 hc5
        refine wpE_skip (th_n (wpE_seq (wpE_seq (rg (q0 (vi wantV1) (q0 (vb (wantV1 != 0)) (wpL_nil (th_n ?_))))))))
        refine wpE_cond (t := (wantV1 != 0)) (by kernel_rfl) (fun hc6 => ?_) (fun hc6 => ?_)
        ·replace h := h.1 hc6
         refine wpE_seq (rg (q0 r9.v (q0 (vi (r9.len : Int)) (q0 (vb (((r9.len : Int) : Int) == 0)) (q0 (vb (((r9.len : Int) : Int) == 0)) ?_)))))
         refine wpL_join 4 (fun ρ wJ => ∃ b3'0 : Bool, ∃ HJ : Nat → Prop, ((((r9.len : Int) : Int) == 0) = b3'0) ∧ Hst w0 H w HJ wJ ∧ HB HJ wJ [(p1, [aY.v, aJ.v, aX.v, aZ.v, (vi aV)], 48)] ∧ Has ρ [(128, (vb (b3'0 && (((r11.len : Int) : Int) == 0))))]) ?_ ?_
         ·clear hs hb
          rintro ρ w21 ⟨b3'0, H4, he0, hs, hb, hH⟩
          subst he0
          refine wpL_has hH ?_
          clear hH
          refine q0 (vb ((((r9.len : Int) : Int) == 0) && (((r11.len : Int) : Int) == 0))) ?_
          rcases Bool.eq_false_or_eq_true ((((r9.len : Int) : Int) == 0) && (((r11.len : Int) : Int) == 0)) with hg8 | hg8
          ·replace h := h.1 hg8
           replace h := h H4 w21 hs
           replace hs := hs.here
           refine st_call (want1 rfl (yD 129 hg8)) (xc Try.call8) (h.mono ?_)
           rintro e w22 ⟨r14, rfl, hk, h⟩
           refine ⟨_, rfl, ?_⟩
           obtain ⟨hs, hb⟩ := hk.hh hs hb
           clear hk
           refine q2 (vb r14) (xT hg8) (q0 (vb r14) (wpL_nil (th_n (wpE_ret (th_r (rs1 Try.results6 (v := (vb r14)) ?_))))))
           exact ⟨r14, rfl, h⟩
          ·replace h := h.2 hg8
           refine sk (yD 129 hg8) (q2 (vb false) (xF hg8) (q0 (vb false) (wpL_nil (th_n (wpE_ret (th_r ?_))))))
           replace h := h H4 w21 hs
           replace hs := hs.here
           refine rs1 Try.results6 (v := (vb false)) ?_
           exact ⟨false, rfl, h⟩
         ·skip
          rcases Bool.eq_false_or_eq_true (((r9.len : Int) : Int) == 0) with hg7 | hg7
          ·skip
           refine q1 r11.v (want1 rfl (yD 124 hg7)) (q1 (vi (r11.len : Int)) (want1 rfl (yD 124 hg7)) (q1 (vb (((r11.len : Int) : Int) == 0)) (want1 rfl (yD 124 hg7)) (q2 (vb (((r11.len : Int) : Int) == 0)) (xT hg7) (wpL_nil ?_))))
           exact ⟨true, _, hg7, hs, hb, hm⟩
          ·skip
           refine sk (yD 124 hg7) (sk (yD 124 hg7) (sk (yD 124 hg7) (q2 (vb false) (xF hg7) (wpL_nil ?_))))
           exact ⟨false, _, hg7, hs, hb, hm⟩
        ·replace h := h.2 hc6
         refine wpE_skip (th_n (wpE_seq (rg (q0 (vp (some (p1.add 4))) (q2 (vi aV) (xl (Try.isAgg3 _) (hb.c 0 4 gZ)) (q0 trees1.v ?_))))))
         replace h := h H3 w18 hs
         replace hs := hs.here
         refine sc Try.call33 (h.mono ?_)
         rintro e w23 ⟨r15, rfl, hk, h⟩
         refine ⟨_, rfl, ?_⟩
         obtain ⟨hs, hb⟩ := hk.hh hs hb
         clear hk
         refine q0 r15.v (wpL_nil (th_n (wpE_seq (wpE_seq ?_))))
         refine wpE_via (fun ρ wJ => ∃ b4'0 y1 : Bool, ∃ HJ : Nat → Prop, ((((r9.len : Int) : Int) != (aJ.len : Int)) = b4'0) ∧ (y1 = (b4'0 || (((r11.len : Int) : Int) != (aJ.len : Int)))) ∧ Hst w0 H3 w23 HJ wJ ∧ HB HJ wJ [(p1, [aY.v, aJ.v, aX.v, aZ.v, (vi aV)], 48)] ∧ Has ρ [(1, (vp (some p1))), (3, (vp r3)), (9, r9.v), (11, r11.v), (14, trees1.v), (16, r15.v), (149, (vb y1))]) ?_ ?_
         ·skip
          refine rg (q0 r9.v (q0 (vi (r9.len : Int)) (q0 (vp (some (p1.add 1))) (q2 aJ.v (xl (Try.isAgg36 _) (hb.c 0 1 gZ)) (q0 (vi (aJ.len : Int)) (q0 (vb (((r9.len : Int) : Int) != (aJ.len : Int))) (q0 (vb (((r9.len : Int) : Int) != (aJ.len : Int))) ?_)))))))
          rcases Bool.eq_false_or_eq_true (((r9.len : Int) : Int) != (aJ.len : Int)) with hg10 | hg10
          ·skip
           refine sk (yD 142 hg10) (sk (yD 142 hg10) (sk (yD 142 hg10) (sk (yD 142 hg10) (sk (yD 142 hg10) (sk (yD 142 hg10) (q2 (vb true) (xT hg10) (wpL_nil (th_n ?_))))))))
           exact ⟨true, _, _, hg10, rfl, hs, hb, hm⟩
          ·skip
           refine q1 r11.v (want1 rfl (yD 142 hg10)) (q1 (vi (r11.len : Int)) (want1 rfl (yD 142 hg10)) (q1 (vp (some (p1.add 1))) (want1 rfl (yD 142 hg10)) (stp (v := aJ.v) (want1 rfl (yD 142 hg10)) (xl (Try.isAgg36 _) (hb.c 0 1 gZ)) (q1 (vi (aJ.len : Int)) (want1 rfl (yD 142 hg10)) (q1 (vb (((r11.len : Int) : Int) != (aJ.len : Int))) (want1 rfl (yD 142 hg10)) (q2 (vb (((r11.len : Int) : Int) != (aJ.len : Int))) (xF hg10) (wpL_nil (th_n ?_))))))))
           exact ⟨false, _, _, hg10, rfl, hs, hb, hm⟩
         ·clear hs hb
          rintro ρ w24 ⟨b4'0, y1, H5, he0, hy1, hs, hb, hH⟩
          subst he0
          replace h := h y1 hy1
          refine norm_has hH ?_
          clear hH
          refine th_n ?_
          refine wpE_cond (t := y1) (by kernel_rfl) (fun hc7 => ?_) (fun hc7 => ?_)
          ·replace h := h.1 hc7
           refine wpE_seq (rg (q0 (vb false) (wpL_nil (th_n (wpE_ret (th_r ?_))))))
           replace h := h H5 w24 hs
           replace hs := hs.here
           refine rs1 Try.results6 (v := (vb false)) ?_
           exact ⟨false, rfl, h⟩
          ·replace h := h.2 hc7
           refine wpE_skip (th_n (wpE_seq (wpE_seq (rg (q0 (vi 0) (wpL_nil (th_n (wpE_block ?_))))))))
           replace h := h H5 w24 hs
           replace hs := hs.here
           obtain ⟨I1, mu1, h0, hr⟩ := h
           refine wpE_loop (σ := Int × (Nat → Prop) × World) (fun s ρ w => w = s.2.2 ∧ Has ρ [(1, (vp (some p1))), (3, (vp r3)), (9, r9.v), (11, r11.v), (14, trees1.v), (16, r15.v), (17, (vi s.1))] ∧ Hst w0 s.2.1 w s.2.1 w ∧ HB s.2.1 w [(p1, [aY.v, aJ.v, aX.v, aZ.v, (vi aV)], 48)] ∧ I1 s.1 s.2.1 s.2.2) (fun s => mu1 s.1 s.2.2) (0, H5, w24) ⟨rfl, hm, hs, hb, h0⟩ ?_
           clear hs hb
           rintro ⟨i1, Hl1, wl1⟩ ρ w ⟨hw, hH, hs, hb, hI⟩
           obtain rfl : wl1 = w := (show w = wl1 from hw).symm
           replace hH : Has ρ [(1, (vp (some p1))), (3, (vp r3)), (9, r9.v), (11, r11.v), (14, trees1.v), (16, r15.v), (17, (vi i1))] := hH
           replace hs : Hst w0 Hl1 wl1 Hl1 wl1 := hs
           replace hb : HB Hl1 wl1 [(p1, [aY.v, aJ.v, aX.v, aZ.v, (vi aV)], 48)] := hb
           have h := hr i1 Hl1 wl1 hs hI
           clear hr h0
           unfold m_N_l2 at h
           refine wpE_has hH ?_
           clear hH hI
           refine wpE_seq (wpE_seq (rg (q0 (vi i1) (q0 r9.v (q0 (vi (r9.len : Int)) (q0 (vb (decide (i1 < (r9.len : Int)))) (wpL_nil (th_n ?_))))))))
           refine wpE_cond (t := (decide (i1 < (r9.len : Int)))) (by kernel_rfl) (fun hc8 => ?_) (fun hc8 => ?_)
           ·replace h := h.1 hc8
            refine wpE_skip (th_n (wpE_seq (wpE_block (wpE_seq ?_))))
            obtain ⟨C3, hC, h⟩ := h
            refine wpE_drawnC (fun x => C3 x ∧ HB Hl1 x [(p1, [aY.v, aJ.v, aX.v, aZ.v, (vi aV)], 48)]) [15, 22, 23] [] (by kernel_rfl) (by kernel_rfl) (by kernel_rfl) (by kernel_rfl) ⟨hC, hb.drew⟩ ?_
            clear hC
            intro w25 hw25
            replace h := h w25 hw25
            replace hs : Hst w0 Hl1 wl1 Hl1 w25 := by rw [hw25]; exact hs.drew
            replace hb : HB Hl1 w25 [(p1, [aY.v, aJ.v, aX.v, aZ.v, (vi aV)], 48)] := by rw [hw25]; exact hb.drew
            replace hs := hs.here
            refine qx 0 r11.v Kp0 (qx 1 (vi i1) Kp1 (qg 2 ?_))
            obtain ⟨a1, hv8, h⟩ := h
            refine sy (v := (vp (some a1))) Kp2 (fun _ _ => (xi (Try.runUnderlying54 _) (Try.sizeOf3 _) hv8)) (qg 3 ?_)
            obtain ⟨v1, hv7, h⟩ := h
            refine sye Kp3 (xl (Try.isAgg3 _) hv7) (qx 4 r15.v Kp4 (qx 5 (vi i1) Kp5 (qg 6 ?_)))
            obtain ⟨a2, hv6, h⟩ := h
            refine sy (v := (vp (some a2))) Kp6 (fun _ _ => (xi (Try.runUnderlying54 _) (Try.sizeOf3 _) hv6)) (qg 7 ?_)
            obtain ⟨v2, hv5, h⟩ := h
            refine sye Kp7 (xl (Try.isAgg3 _) hv5) (qx 8 (vb (v1 != v2)) Kp8 (qx 9 (vb (v1 != v2)) Kp9 (qg 10 ?_)))
            rcases Bool.eq_false_or_eq_true (v1 != v2) with hg11 | hg11
            ·replace h := h.1 hg11
             refine sx_not (pickA (S8 (pickS (pickS pickZ)))) (unwant rfl (yD 165 hg11) rfl) (qn 11 (pickA (S8 (pickS (pickS (pickS pickZ))))) (unwant rfl (yD 165 hg11) rfl) (qn 12 (pickA (S8 (S4 pickZ))) (unwant rfl (yD 165 hg11) rfl) (qn 13 (pickA (S8 (S4 (pickS pickZ)))) (unwant rfl (yD 165 hg11) rfl) (qn 14 (pickA (S8 (S4 (pickS (pickS pickZ))))) (unwant rfl (yD 165 hg11) rfl) (qn 16 (pickA (S8 (S8 pickZ))) (unwant rfl (yD 165 hg11) rfl) (qn 17 (pickA (S8 (S8 (pickS pickZ)))) (unwant rfl (yD 165 hg11) rfl) (qn 18 (pickA (S8 (S8 (pickS (pickS pickZ))))) (unwant rfl (yD 165 hg11) rfl) (qn 19 (pickA (S8 (S8 (pickS (pickS (pickS pickZ)))))) (unwant rfl (yD 165 hg11) rfl) (qn 20 (pickA (S8 (S8 (S4 pickZ)))) (unwant rfl (yD 165 hg11) rfl) (qn 21 (pickA (S8 (S8 (S4 (pickS pickZ))))) (unwant rfl (yD 165 hg11) rfl) (lg 15 ?_)))))))))))
             refine sx_not (pickA (S8 (S4 (pickS (pickS (pickS pickZ)))))) (unwant rfl (yD 165 hg11) rfl) (lg 22 (sx_not (pickA (S8 (S8 (S4 (pickS (pickS pickZ)))))) (unwant rfl (yD 165 hg11) rfl) (lg 23 (sx_not (pickA (S8 (S8 (S4 (pickS (pickS (pickS pickZ))))))) (unwant rfl (yD 165 hg11) rfl) (qn 24 (pickA (S8 (S8 (S8 pickZ)))) (unwant rfl (yD 165 hg11) rfl) (qz 25 (vb true) (pickA (S8 (S8 (S8 (pickS pickZ))))) (fun _ _ => (xT hg11)) (wn (th_n (wpE_condT (by kernel_rfl) (wpE_seq (rg ?_)))))))))))
             refine q0 (vb false) (wpL_nil (th_n (wpE_ret (bl_r (th_r (th_r (bl_r (th_r (rs1 Try.results6 (v := (vb false)) ?_)))))))))
             exact ⟨false, rfl, h⟩
            ·replace h := h.2 hg11
             refine sz (v := (vp r3)) (pickA (S8 (pickS (pickS pickZ)))) (want1 rfl (yD 165 hg11)) (fun _ _ => (by kernel_rfl)) (qw 11 r9.v (pickA (S8 (pickS (pickS (pickS pickZ))))) (want1 rfl (yD 165 hg11)) (qw 12 (vi i1) (pickA (S8 (S4 pickZ))) (want1 rfl (yD 165 hg11)) (qg 13 ?_)))
             obtain ⟨a3, hv4, h⟩ := h
             refine sz (v := (vp (some a3))) (pickA (S8 (S4 (pickS pickZ)))) (want1 rfl (yD 165 hg11)) (fun _ _ => (xi (Try.runUnderlying36 _) (Try.sizeOf23 _) hv4)) (qg 14 ?_)
             obtain ⟨v3, hv3, h⟩ := h
             refine sze (pickA (S8 (S4 (pickS (pickS pickZ))))) (want1 rfl (yD 165 hg11)) (xl (Try.isAgg23 _) hv3) (qw 16 (vp (some (p1.add 4))) (pickA (S8 (S8 pickZ))) (want1 rfl (yD 165 hg11)) (qg 17 (sz (v := (vi aV)) (pickA (S8 (S8 (pickS pickZ)))) (want1 rfl (yD 165 hg11)) (fun w' hw' => (xl (Try.isAgg3 _) (hw'.2.cell 0 4 gZ (by kernel_rfl)))) (qw 18 trees1.v (pickA (S8 (S8 (pickS (pickS pickZ))))) (want1 rfl (yD 165 hg11)) (qw 19 (vi i1) (pickA (S8 (S8 (pickS (pickS (pickS pickZ)))))) (want1 rfl (yD 165 hg11)) (qg 20 ?_))))))
             obtain ⟨a4, hv2, h⟩ := h
             refine sz (v := (vp (some a4))) (pickA (S8 (S8 (S4 pickZ)))) (want1 rfl (yD 165 hg11)) (fun _ _ => (xi (Try.runUnderlying22 _) (Try.sizeOf63 _) hv2)) (qg 21 ?_)
             obtain ⟨bC, bD, bE, bF, bG, bJ, hv1, h⟩ := h
             refine sz (v := (.agg #[(vi bC), (vi bD), (vi bE), (vu bF), (vs bG), bJ.v])) (pickA (S8 (S8 (S4 (pickS pickZ))))) (want1 rfl (yD 165 hg11)) (fun w' hw' => (x_loadA (a := a4) (vs := [(vi bC), (vi bD), (vi bE), (vu bF), (vs bG), bJ.v]) (by kernel_rfl) (Try.isAgg63 _) (Try.sizeOf63 _) rfl (hv1 w' hw'.1))) (lg 15 ?_)
             refine sl_call (pickA (S8 (S4 (pickS (pickS (pickS pickZ)))))) (want1 rfl (yD 165 hg11)) (by kernel_rfl) (xc Try.call27) (h.mono ?_)
             rintro e w26 ⟨aA, aC, aD, aE, aF, bS, rfl, hC, hk, h⟩
             refine ⟨_, rfl, .inr ⟨hC, hb.kept hk⟩, ?_⟩
             obtain ⟨hs, hb⟩ := hk.hh hs hb
             clear hk
             refine lg 22 ?_
             refine sl_call (pickA (S8 (S8 (S4 (pickS (pickS pickZ)))))) (want1 rfl (yD 165 hg11)) (by kernel_rfl) (xc Try.call28) (h.mono ?_)
             rintro e w27 ⟨aL, aN, aM, aO, aT, bZ, rfl, hC, hk, h⟩
             refine ⟨_, rfl, .inr ⟨hC, hb.kept hk⟩, ?_⟩
             obtain ⟨hs, hb⟩ := hk.hh hs hb
             clear hk
             refine lg 23 ?_
             refine sl_call (pickA (S8 (S8 (S4 (pickS (pickS (pickS pickZ))))))) (want1 rfl (yD 165 hg11)) (by kernel_rfl) (xc Try.call26) (h.mono ?_)
             rintro e w28 ⟨r16, rfl, hC, hk, h⟩
             refine ⟨_, rfl, .inr ⟨hC, hb.kept hk⟩, ?_⟩
             obtain ⟨hs, hb⟩ := hk.hh hs hb
             clear hk
             refine qw 24 (vb (!r16)) (pickA (S8 (S8 (S8 pickZ)))) (want1 rfl (yD 165 hg11)) (qz 25 (vb (!r16)) (pickA (S8 (S8 (S8 (pickS pickZ))))) (fun _ _ => (xF hg11)) (wn (th_n ?_)))
             refine wpE_cond (t := (!r16)) (by kernel_rfl) (fun hc9 => ?_) (fun hc9 => ?_)
             ·replace h := h.1 hc9
              refine wpE_seq (rg (q0 (vb false) (wpL_nil (th_n (wpE_ret (bl_r (th_r (th_r (bl_r (th_r (rs1 Try.results6 (v := (vb false)) ?_)))))))))))
              exact ⟨false, rfl, h⟩
             ·replace h := h.2 hc9
              refine wpE_skip (bl_n (th_n (rg (q0 (vi i1) (q0 (vi (IntKind.i64.wrap (i1 + 1))) (q0 (vi (IntKind.i64.wrap (i1 + 1))) (wpL_nil (th_n ?_))))))))
              exact ⟨((IntKind.i64.wrap (i1 + 1)), Hl1, w28), ⟨rfl, hm, hs, hb, h.1⟩, h.2⟩
           ·replace h := h.2 hc8
            refine wpE_exit (th_x (th_x (bl_eq (th_n (wpE_seq (rg ?_))))))
            refine sc Try.call8 (h.mono ?_)
            rintro e w29 ⟨r17, rfl, hk, h⟩
            refine ⟨_, rfl, ?_⟩
            obtain ⟨hs, hb⟩ := hk.hh hs hb
            clear hk
            refine q0 (vb r17) (wpL_nil (th_n (wpE_ret (rs1 Try.results6 (v := (vb r17)) ?_))))
            exact ⟨r17, rfl, h⟩
    ·skip
     refine wpE_block ?_
     obtain ⟨I2, mu2, h0, hr⟩ := h
     refine wpE_loop (σ := Int × Sl × Int × (Nat → Prop) × World) (fun s ρ w => w = s.2.2.2.2 ∧ Has ρ [(1, (vp (some p1))), (3, (vp r3)), (4, (vp r4)), (9, r9.v), (10, (vi r10)), (11, r11.v), (12, (vi r12)), (13, (vi s.1)), (14, s.2.1.v), (15, (vi s.2.2.1))] ∧ Hst w0 s.2.2.2.1 w s.2.2.2.1 w ∧ HB s.2.2.2.1 w [(p1, [aY.v, aJ.v, aX.v, aZ.v, (vi aV)], 48)] ∧ I2 s.1 s.2.1 s.2.2.1 s.2.2.2.1 s.2.2.2.2) (fun s => mu2 s.1 s.2.1 s.2.2.1 s.2.2.2.2) (0, Sl.nil, 0, H1, w13) ⟨rfl, hm, hs, hb, h0⟩ ?_
     clear hs hb
     rintro ⟨wantV2, trees2, i2, Hl2, wl2⟩ ρ w ⟨hw, hH, hs, hb, hI⟩
     obtain rfl : wl2 = w := (show w = wl2 from hw).symm
     replace hH : Has ρ [(1, (vp (some p1))), (3, (vp r3)), (4, (vp r4)), (9, r9.v), (10, (vi r10)), (11, r11.v), (12, (vi r12)), (13, (vi wantV2)), (14, trees2.v), (15, (vi i2))] := hH
     replace hs : Hst w0 Hl2 wl2 Hl2 wl2 := hs
     replace hb : HB Hl2 wl2 [(p1, [aY.v, aJ.v, aX.v, aZ.v, (vi aV)], 48)] := hb
     have h := hr wantV2 trees2 i2 Hl2 wl2 hs hI
     clear hr h0
     unfold m_N_l3 at h
     refine wpE_has hH ?_
     clear hH hI
     refine wpE_seq (wpE_seq ?_)
     refine wpE_via (fun ρ wJ => ∃ b5'0 : Bool, ∃ HJ : Nat → Prop, ((decide (i2 < (aJ.len : Int))) = b5'0) ∧ Hst w0 Hl2 wl2 HJ wJ ∧ HB HJ wJ [(p1, [aY.v, aJ.v, aX.v, aZ.v, (vi aV)], 48)] ∧ Has ρ [(1, (vp (some p1))), (3, (vp r3)), (4, (vp r4)), (9, r9.v), (10, (vi r10)), (11, r11.v), (12, (vi r12)), (13, (vi wantV2)), (14, trees2.v), (15, (vi i2)), (69, (vb (b5'0 && (wantV2 == 0))))]) ?_ ?_
     ·skip
      refine rg (q0 (vi i2) (q0 (vp (some (p1.add 1))) (q2 aJ.v (xl (Try.isAgg36 _) (hb.c 0 1 gZ)) (q0 (vi (aJ.len : Int)) (q0 (vb (decide (i2 < (aJ.len : Int)))) (q0 (vb (decide (i2 < (aJ.len : Int)))) ?_))))))
      rcases Bool.eq_false_or_eq_true (decide (i2 < (aJ.len : Int))) with hg13 | hg13
      ·skip
       refine q1 (vi wantV2) (want1 rfl (yD 66 hg13)) (q1 (vb (wantV2 == 0)) (want1 rfl (yD 66 hg13)) (q2 (vb (wantV2 == 0)) (xT hg13) (wpL_nil (th_n ?_))))
       exact ⟨true, _, hg13, hs, hb, hm⟩
      ·skip
       refine sk (yD 66 hg13) (sk (yD 66 hg13) (q2 (vb false) (xF hg13) (wpL_nil (th_n ?_))))
       exact ⟨false, _, hg13, hs, hb, hm⟩
     ·clear hs hb
      rintro ρ w30 ⟨b5'0, H6, he0, hs, hb, hH⟩
      subst he0
      refine norm_has hH ?_
      clear hH
      refine th_n ?_
      refine wpE_cond (t := ((decide (i2 < (aJ.len : Int))) && (wantV2 == 0))) (by kernel_rfl) (fun hc10 => ?_) (fun hc10 => ?_)
      ·replace h := h.1 hc10
       refine wpE_skip (th_n (wpE_seq (wpE_block (wpE_seq (wpE_seq (rg (q0 (vp (some (p1.add 4))) (q2 (vi aV) (xl (Try.isAgg3 _) (hb.c 0 4 gZ)) ?_))))))))
       refine sc Try.call15 ((p_C3 aV w30).mono ?_)
       rintro e w31 ⟨he, hE⟩
       refine ⟨(vb ((decide (aV ≥ 0)) && (decide (aV < 16)))), he.trans (by kernel_rfl), ?_⟩
       replace hs := hs.pure hE
       replace hb := hb.pure hE
       clear hE he
       refine q0 (vb (!((decide (aV ≥ 0)) && (decide (aV < 16))))) (wpL_nil (th_n ?_))
       refine wpE_joinT (fun ρ w => ∃ wantV3 : Int, ∃ H : Nat → Prop, Has ρ [(1, (vp (some p1))), (3, (vp r3)), (4, (vp r4)), (9, r9.v), (10, (vi r10)), (11, r11.v), (12, (vi r12)), (13, (vi wantV3)), (14, trees2.v), (15, (vi i2))] ∧ Hst w0 H w H w ∧ HB H w [(p1, [aY.v, aJ.v, aX.v, aZ.v, (vi aV)], 48)] ∧ m_N_j4 aJ r4 trees2 i2 wantV3 H w (fun y'0 y'1 y'2 H' w' => I2 y'0 y'1 y'2 H' w' ∧ mu2 y'0 y'1 y'2 w' < mu2 wantV2 trees2 i2 wl2) K) ?_ ?_
       ·clear h hs hb
        rintro ρ w ⟨wantV3, H, hH, hs, hb, h⟩
        unfold m_N_j4 at h
        refine wpE_has hH ?_
        clear hH
        refine rg (q0 trees2.v (q0 (vp r4) (q0 (vp (some (p1.add 1))) (q2 aJ.v (xl (Try.isAgg36 _) (hb.c 0 1 gZ)) (q0 (vi i2) ?_)))))
        obtain ⟨a5, hv11, h⟩ := h
        refine q2 (vp (some a5)) (xi (Try.runUnderlying36 _) (Try.sizeOf23 _) hv11) ?_
        obtain ⟨v4, hv10, h⟩ := h
        refine q2 (vi v4) (xl (Try.isAgg23 _) hv10) ?_
        refine sc Try.call29 (h.mono ?_)
        rintro e w32 ⟨cA, cB, cC, cD, cE, cS, rfl, hk, h⟩
        refine ⟨_, rfl, ?_⟩
        obtain ⟨hs, hb⟩ := hk.hh hs hb
        clear hk
        refine st_new (O := (.cells #[(vi cA), (vi cB), (vi cC), (vu cD), (vs cE), cS.v] 63)) (fun p => (Sl.mk (some p) 1 1).v) (want0 rfl) (x_buildSlice (vs := #[(0, (.agg #[(vi cA), (vi cB), (vi cC), (vu cD), (vs cE), cS.v]))]) (by kernel_rfl) (by kernel_rfl)) ?_
        intro p4 w33 hn2
        replace h := h p4 w33 hn2
        replace hs := hs.again (Ext.new (F := None) hn2).keptP
        replace hb := hb.kept (Ext.new (F := None) hn2).keptP
        obtain ⟨s3, w34, hv9, hk, h⟩ := h
        refine st (v := s3.v) (want0 rfl) (x_builtin (args := #[trees2.v, (Sl.mk (some p4) 1 1).v]) (by kernel_rfl) (fun _ => rfl) hv9) ?_
        obtain ⟨hs, hb⟩ := hk.hh hs hb
        clear hk
        refine q0 s3.v (wpL_nil (bl_n (th_n (rg (q0 (vi i2) (q0 (vi (IntKind.i64.wrap (i2 + 1))) (q0 (vi (IntKind.i64.wrap (i2 + 1))) (wpL_nil (th_n ?_)))))))))
        exact ⟨(wantV3, s3, (IntKind.i64.wrap (i2 + 1)), H, w34), ⟨rfl, hm, hs, hb, h.1⟩, h.2⟩
       ·skip
        refine wpE_cond (t := (!((decide (aV ≥ 0)) && (decide (aV < 16))))) (by kernel_rfl) (fun hc11 => ?_) (fun hc11 => ?_)
        ·replace h := h.1 hc11
         refine rg (q0 (vi 50) (wpL_nil ?_))
         replace h := h H6 w31 hs
         replace hs := hs.here
         refine th_n ?_
         exact ⟨50, H6, hm, hs, hb, h⟩
        ·replace h := h.2 hc11
         refine wpE_seq (rg (q0 (vp r4) (q0 (vp (some (p1.add 1))) (q2 aJ.v (xl (Try.isAgg36 _) (hb.c 0 1 gZ)) (q0 (vi i2) ?_)))))
         obtain ⟨a6, hv13, h⟩ := h
         refine q2 (vp (some a6)) (xi (Try.runUnderlying36 _) (Try.sizeOf23 _) hv13) ?_
         replace h := h H6 w31 hs
         replace hs := hs.here
         obtain ⟨v5, hv12, h⟩ := h
         refine q2 (vi v5) (xl (Try.isAgg23 _) hv12) ?_
         refine sc Try.call25 (h.mono ?_)
         rintro e w35 ⟨r18, rfl, hk, h⟩
         refine ⟨_, rfl, ?_⟩
         obtain ⟨hs, hb⟩ := hk.hh hs hb
         clear hk
         refine q0 (vb (!r18)) (wpL_nil (th_n ?_))
         refine wpE_via (fun ρ wJ => ∃ b6'0 : Bool, ∃ HJ : Nat → Prop, ((!r18) = b6'0) ∧ Hst w0 H6 w35 HJ wJ ∧ HB HJ wJ [(p1, [aY.v, aJ.v, aX.v, aZ.v, (vi aV)], 48)] ∧ Has ρ [(1, (vp (some p1))), (3, (vp r3)), (4, (vp r4)), (9, r9.v), (10, (vi r10)), (11, r11.v), (12, (vi r12)), (13, (vi (cond b6'0 51 wantV2))), (14, trees2.v), (15, (vi i2))]) ?_ ?_
         ·skip
          refine wpE_cond (t := (!r18)) (by kernel_rfl) (fun hc13 => ?_) (fun hc13 => ?_)
          ·skip
           refine rg (q0 (vi 51) (wpL_nil (th_n ?_)))
           exact ⟨true, _, hc13, hs, hb, hm⟩
          ·skip
           refine wpE_skip (th_n ?_)
           exact ⟨false, _, hc13, hs, hb, hm⟩
         ·clear hs hb
          rintro ρ w36 ⟨b6'0, H7, he0, hs, hb, hH⟩
          subst he0
          refine norm_has hH ?_
          clear hH
          replace h := h H7 w36 hs
          replace hs := hs.here
          refine th_n ?_
          exact ⟨(cond (!r18) 51 wantV2), H7, hm, hs, hb, h⟩
      ·replace h := h.2 hc10
       refine wpE_exit (th_x (th_x (bl_eq ?_)))
       replace h := h H6 w30 hs
       replace hs := hs.here
       refine th_n ?_
       exact ⟨wantV2, trees2, H6, hm, hs, hb, h⟩
def m_E3 (aB aK : Int) (aH aP : Int) (aQ : ByteArray) (aR aS : Int) (cap1 : Addr) (w0 : World) (K : Int → Int → Int → Int → ByteArray → Int → Int → World → Prop) : Prop :=
 Br (aB == 8)
  (∀ (H2 : Nat → Prop) (w2 : World), Hst w0 None w0 H2 w2 →
  ∃ v1 : Int, w2.cell? cap1 = some (vi v1) ∧
  ∀ (H3 : Nat → Prop) (w6 : World), Hst w0 H2 w2 H3 w6 →
  K (cond (aH == v1) 9 aB) aK aH aP aQ aR aS w6)
  (∀ (H2 : Nat → Prop) (w7 : World), Hst w0 None w0 H2 w7 →
  K aB aK aH aP aQ aR aS w7)
theorem w_E3 (aB aK : Int) (aH aP : Int) (aQ : ByteArray) (aR aS : Int) (cap1 : Addr) (w0 : World) (K : Int → Int → Int → Int → ByteArray → Int → Int → World → Prop) (h : m_E3 aB aK aH aP aQ aR aS cap1 w0 K) :
  Calls Try.prog 43 #[(.agg #[(vi aB), (vi aK), (vi aH), (vu aP), (vs aQ), (vi aR), (vi aS)]), (vp (some cap1))] w0 (fun e w' => ∃ aA aC : Int, ∃ aD aE : Int, ∃ aF : ByteArray, ∃ aI aG : Int, e = .returned (.agg #[(vi aA), (vi aC), (vi aD), (vu aE), (vs aF), (vi aI), (vi aG)]) ∧ K aA aC aD aE aF aI aG w') := by
 unfold m_E3 at h
 refine cw (args := [(.agg #[(vi aB), (vi aK), (vi aH), (vu aP), (vs aQ), (vi aR), (vi aS)]), (vp (some cap1))]) Try.func43 Try.ntmps43 ?_
 have hs := Hst.start w0
 have hb := HB.nil None w0
 refine wpE_seq (rg (sn (O := (.cells #[(vi aB), (vi aK), (vi aH), (vu aP), (vs aQ), (vi aR), (vi aS)] 41)) xb ?_))
 intro p1 w1 hn1
 obtain ⟨H1, hs, hb⟩ := hs.alloc hb hn1
 refine sn (O := (.cells #[(vi 0), (vi 0), (vi 0), (vu 0), (vs ⟨#[]⟩), (vi 0), (vi 0)] 41)) (x_alloc (Try.zeroValue41 _) rfl) ?_
 intro p2 w2 hn2
 obtain ⟨H2, hs, hb⟩ := hs.alloc hb hn2
 refine wpL_nil (th_n (wpE_seq (wpE_seq (rg (q0 (vp (some p1)) (q2 (vi aB) (xl (Try.isAgg3 _) (hb.c0 1 (gS gZ))) (q0 (vb (aB == 8)) (q0 (vb (aB == 8)) ?_))))))))
 rcases Bool.eq_false_or_eq_true (aB == 8) with hg1 | hg1
 ·replace h := h.1 hg1
  refine q1 (vp (some (p1.add 2))) (want1 rfl (yD 7 hg1)) (stp (v := (vi aH)) (want1 rfl (yD 7 hg1)) (xl (Try.isAgg3 _) (hb.c 1 2 (gS gZ))) ?_)
  replace h := h H2 w2 hs
  replace hs := hs.here
  obtain ⟨v1, hv1, h⟩ := h
  refine stp (v := (vi v1)) (want1 rfl (yD 7 hg1)) (xl (Try.isAgg3 _) hv1) (q1 (vb (aH == v1)) (want1 rfl (yD 7 hg1)) (q2 (vb (aH == v1)) (xT hg1) (wpL_nil (th_n ?_))))
  refine wpE_via (fun ρ wJ => ∃ b1'0 : Bool, ∃ HJ : Nat → Prop, ((aH == v1) = b1'0) ∧ Hst w0 H2 w2 HJ wJ ∧ HB HJ wJ [(p2, [(vi 0), (vi 0), (vi 0), (vu 0), (vs ⟨#[]⟩), (vi 0), (vi 0)], 41), (p1, [(vi (cond b1'0 9 aB)), (vi aK), (vi aH), (vu aP), (vs aQ), (vi aR), (vi aS)], 41)] ∧ Has ρ [(2, (vp (some p1))), (3, (vp (some p2)))]) ?_ ?_
  ·skip
   refine wpE_cond (t := (aH == v1)) (by kernel_rfl) (fun hc2 => ?_) (fun hc2 => ?_)
   ·skip
    refine rg (q0 (vp (some p1)) (st_set (want0 rfl) (x_store (a := p1) (v := (vi 9)) (by kernel_rfl) (by kernel_rfl) rfl (Try.sizeOf3 _) (hb.canW0 1 (gS gZ) (by kernel_rfl))) ?_))
    intro w5 hn4
    have hsb : Hst w0 H2 w2 H2 w5 ∧ HB H2 w5 [(p2, [(vi 0), (vi 0), (vi 0), (vu 0), (vs ⟨#[]⟩), (vi 0), (vi 0)], 41), (p1, [(vi 9), (vi aK), (vi aH), (vu aP), (vs aQ), (vi aR), (vi aS)], 41)] := by
     rw [hn4]
     exact hb.set0 (i := 1) (v := (vi 9)) hs (gS gZ) (by kernel_rfl)
    clear hs hb hn4
    obtain ⟨hs, hb⟩ := hsb
    refine wpL_nil (th_n ?_)
    exact ⟨true, _, hc2, hs, hb, hm⟩
   ·skip
    refine wpE_skip (th_n ?_)
    exact ⟨false, _, hc2, hs, hb, hm⟩
  ·clear hs hb
   rintro ρ w4 ⟨b1'0, H3, he0, hs, hb, hH⟩
   subst he0
   refine norm_has hH ?_
   clear hH
   refine th_n (wpE_seq (rg (q2 (.agg #[(vi (cond (aH == v1) 9 aB)), (vi aK), (vi aH), (vu aP), (vs aQ), (vi aR), (vi aS)]) (x_loadA (a := p1) (vs := [(vi (cond (aH == v1) 9 aB)), (vi aK), (vi aH), (vu aP), (vs aQ), (vi aR), (vi aS)]) (by kernel_rfl) (Try.isAgg41 _) (Try.sizeOf41 _) rfl (hb.row0 1 7 (gS gZ) (by kernel_rfl))) (st_set (want0 rfl) (x_storeA (a := p2) (vs := [(vi (cond (aH == v1) 9 aB)), (vi aK), (vi aH), (vu aP), (vs aQ), (vi aR), (vi aS)]) (by kernel_rfl) (by kernel_rfl) rfl (Try.sizeOf41 _) rfl (hb.canWs0 0 7 gZ (by kernel_rfl))) ?_))))
   intro w6 hn5
   have hsb : Hst w0 H2 w2 H3 w6 ∧ HB H3 w6 [(p2, [(vi (cond (aH == v1) 9 aB)), (vi aK), (vi aH), (vu aP), (vs aQ), (vi aR), (vi aS)], 41), (p1, [(vi (cond (aH == v1) 9 aB)), (vi aK), (vi aH), (vu aP), (vs aQ), (vi aR), (vi aS)], 41)] := by
    rw [hn5]
    exact hb.store0 (i := 0) (vs := [(vi (cond (aH == v1) 9 aB)), (vi aK), (vi aH), (vu aP), (vs aQ), (vi aR), (vi aS)]) hs gZ (by kernel_rfl) (by kernel_rfl)
   clear hs hb hn5
   obtain ⟨hs, hb⟩ := hsb
   refine wpL_nil (th_n (wpE_ret ?_))
   replace h := h H3 w6 hs
   replace hs := hs.here
   refine resG (.inl rfl) (vs := [(.agg #[(vi (cond (aH == v1) 9 aB)), (vi aK), (vi aH), (vu aP), (vs aQ), (vi aR), (vi aS)])]) (v := (.agg #[(vi (cond (aH == v1) 9 aB)), (vi aK), (vi aH), (vu aP), (vs aQ), (vi aR), (vi aS)])) Try.results43 ⟨(RV.cellA (by kernel_rfl) (Try.isAgg41 _) (Try.sizeOf41 _) rfl (hb.row0 0 7 gZ (by kernel_rfl))), trivial⟩ (by kernel_rfl) ?_
   exact ⟨(cond (aH == v1) 9 aB), aK, aH, aP, aQ, aR, aS, rfl, h⟩
 ·replace h := h.2 hg1
  refine sk (yD 7 hg1) (sk (yD 7 hg1) (sk (yD 7 hg1) (sk (yD 7 hg1) (q2 (vb false) (xF hg1) (wpL_nil (th_n (wpE_condF (by kernel_rfl) (wpE_skip (th_n (wpE_seq (rg ?_)))))))))))
  refine q2 (.agg #[(vi aB), (vi aK), (vi aH), (vu aP), (vs aQ), (vi aR), (vi aS)]) (x_loadA (a := p1) (vs := [(vi aB), (vi aK), (vi aH), (vu aP), (vs aQ), (vi aR), (vi aS)]) (by kernel_rfl) (Try.isAgg41 _) (Try.sizeOf41 _) rfl (hb.row0 1 7 (gS gZ) (by kernel_rfl))) (st_set (want0 rfl) (x_storeA (a := p2) (vs := [(vi aB), (vi aK), (vi aH), (vu aP), (vs aQ), (vi aR), (vi aS)]) (by kernel_rfl) (by kernel_rfl) rfl (Try.sizeOf41 _) rfl (hb.canWs0 0 7 gZ (by kernel_rfl))) ?_)
  intro w7 hn6
  have hsb : Hst w0 None w0 H2 w7 ∧ HB H2 w7 [(p2, [(vi aB), (vi aK), (vi aH), (vu aP), (vs aQ), (vi aR), (vi aS)], 41), (p1, [(vi aB), (vi aK), (vi aH), (vu aP), (vs aQ), (vi aR), (vi aS)], 41)] := by
   rw [hn6]
   exact hb.store0 (i := 0) (vs := [(vi aB), (vi aK), (vi aH), (vu aP), (vs aQ), (vi aR), (vi aS)]) hs gZ (by kernel_rfl) (by kernel_rfl)
  clear hs hb hn6
  obtain ⟨hs, hb⟩ := hsb
  refine wpL_nil (th_n (wpE_ret ?_))
  replace h := h H2 w7 hs
  replace hs := hs.here
  refine resG (.inl rfl) (vs := [(.agg #[(vi aB), (vi aK), (vi aH), (vu aP), (vs aQ), (vi aR), (vi aS)])]) (v := (.agg #[(vi aB), (vi aK), (vi aH), (vu aP), (vs aQ), (vi aR), (vi aS)])) Try.results43 ⟨(RV.cellA (by kernel_rfl) (Try.isAgg41 _) (Try.sizeOf41 _) rfl (hb.row0 0 7 gZ (by kernel_rfl))), trivial⟩ (by kernel_rfl) ?_
  exact ⟨aB, aK, aH, aP, aQ, aR, aS, rfl, h⟩
theorem eqt_view_Alike_1_eql_41 (a0 a1 : Int) (a2 a3 : Int) (a4 : ByteArray) (a5 a6 : Int) (b0 b1 : Int) (b2 b3 : Int) (b4 : ByteArray) (b5 b6 : Int) (w : World) : (Go.binOp .eql 41 (.agg #[(.int .i64 a0), (.int .i64 a1), (.int .i64 a2), (.int .u64 a3), (.string a4), (.int .i64 a5), (.int .i64 a6)]) (.agg #[(.int .i64 b0), (.int .i64 b1), (.int .i64 b2), (.int .u64 b3), (.string b4), (.int .i64 b5), (.int .i64 b6)])).run Try.prog w = .ok (.bool ((a0 == b0) && ((a1 == b1) && ((a2 == b2) && ((a3 == b3) && ((decide (a4 = b4)) && ((a5 == b5) && (a6 == b6)))))))) w := by
 simp [Go.binOp, Op.equal, Op.maxDepth, go_sem, streq, bne]
 repeat' split
 all_goals simp_all
def m_H_j2 (cap5 : Addr) (aG aU : Int) (x2 : Bool) (H : Nat → Prop) (w : World) (K : Bool → World → Prop) : Prop :=
 Br x2
  (Br (aG == 0)
   (K true w)
   (∃ v9 : Value, w.cell? cap5 = some v9 ∧
   ∃ (f1 : FuncId) (fs1 cs1 : Array Value), v9 = .func (.func f1) fs1 cs1 ∧
   (∀ args w, (callFunc f1 args).run Try.prog w = .ok (.enter f1 args) w) ∧ Calls Try.prog f1 (fs1 ++ #[(vi aG), (vi aU)] ++ cs1) w (fun e w28 => ∃ r3 : Bool, e = .returned (vb r3) ∧ 
    Kept H w w28 ∧
    K r3 w28)))
  (K false w)
def m_H_j3 (cap5 : Addr) (aA aC : Int) (aD aE : Int) (aF : ByteArray) (aG aL : Int) (aN aM aO : Int) (aT : ByteArray) (aU : Int) (x1 x3 : Bool) (H : Nat → Prop) (w : World) (K : Bool → World → Prop) : Prop :=
 Br ((aA == (cond x1 aA aL)) && ((aC == aN) && ((aD == aM) && ((aE == aO) && ((decide (aF = aT)) && (((0 : Int) == 0) && ((0 : Int) == 0)))))))
  (m_H_j2 cap5 aG aU x3 H w K)
  (m_H_j2 cap5 aG aU false H w K)
def m_H_j1 (cap5 : Addr) (aA aC : Int) (aD aE : Int) (aF : ByteArray) (aI aG : Int) (aL aN : Int) (aM aO : Int) (aT : ByteArray) (aW aU : Int) (x1 : Bool) (w0 : World) (H : Nat → Prop) (w : World) (K : Bool → World → Prop) : Prop :=
 Br ((aA == (cond x1 aA aL)) && ((aC == aN) && ((aD == aM) && ((aE == aO) && ((decide (aF = aT)) && (((0 : Int) == 0) && ((0 : Int) == 0)))))))
  (Br (aI == 0)
   (∀ (H12 : Nat → Prop) (w27 : World), Hst w0 H w H12 w27 →
   m_H_j3 cap5 aA aC aD aE aF aG aL aN aM aO aT aU x1 true H12 w27 K)
   (∀ (H12 : Nat → Prop) (w27 : World), Hst w0 H w H12 w27 →
   ∃ v10 : Value, w27.cell? cap5 = some v10 ∧
   ∃ (f2 : FuncId) (fs2 cs2 : Array Value), v10 = .func (.func f2) fs2 cs2 ∧
   (∀ args w, (callFunc f2 args).run Try.prog w = .ok (.enter f2 args) w) ∧ Calls Try.prog f2 (fs2 ++ #[(vi aI), (vi aW)] ++ cs2) w27 (fun e w29 => ∃ r4 : Bool, e = .returned (vb r4) ∧ 
    Kept H12 w27 w29 ∧
    m_H_j3 cap5 aA aC aD aE aF aG aL aN aM aO aT aU x1 r4 H12 w29 K)))
  (∀ (H12 : Nat → Prop) (w27 : World), Hst w0 H w H12 w27 →
  m_H_j2 cap5 aG aU false H12 w27 K)
def m_H_j4 (cap4 cap5 : Addr) (aA aC : Int) (aD aE : Int) (aF : ByteArray) (aI aG : Int) (aL aN : Int) (aM aO : Int) (aT : ByteArray) (aW aU : Int) (x4 : Bool) (w0 : World) (H : Nat → Prop) (w : World) (K : Bool → World → Prop) : Prop :=
 Br x4
  (∃ v11 : Int, w.cell? cap4 = some (vi v11) ∧
  ∀ (w34 : World), Hst w0 H w H w34 →
  m_H_j1 cap5 aA aC aD aE aF aI aG aL aN aM aO aT aW aU (!(s_G v11 aL aN aM aO aT aW aU)) w0 H w34 K)
  (m_H_j1 cap5 aA aC aD aE aF aI aG aL aN aM aO aT aW aU false w0 H w K)
def m_H (a1 b1 : Int) (cap1 cap2 : Addr) (cap3 cap4 cap5 : Addr) (w0 : World) (K : Bool → World → Prop) : Prop :=
 ∃ v1 : Option Nat, w0.cell? cap1 = some (.map v1) ∧
 ∃ v2 : Int, ∃ ok1 : Bool, (Instr.lookup 91 (.map v1) (vi a1) true).run Try.prog w0 = .ok (.tuple #[(vi v2), (vb ok1)]) w0 ∧
 ∃ v3 : Option Nat, w0.cell? cap2 = some (.map v3) ∧
 ∃ v4 : Int, ∃ ok2 : Bool, (Instr.lookup 91 (.map v3) (vi b1) true).run Try.prog w0 = .ok (.tuple #[(vi v4), (vb ok2)]) w0 ∧
 Br (ok1 || ok2)
  (∀ (H5 : Nat → Prop) (w5 : World), Hst w0 None w0 H5 w5 →
  K (((ok1 && ok2) && (v2 == b1)) && (v4 == a1)) w5)
  (∀ (H1 : Nat → Prop) (w1 : World), Hst w0 None w0 H1 w1 →
  ∃ v5 : Option Addr, w1.cell? cap3 = some (vp v5) ∧
  Calls Try.prog 44 #[(vp v5), (vi a1)] w1 (fun e w9 => ∃ aA aC : Int, ∃ aD aE : Int, ∃ aF : ByteArray, ∃ aI aG : Int, ∃ r1 : Bool, e = .returned (.tuple #[(.agg #[(vi aA), (vi aC), (vi aD), (vu aE), (vs aF), (vi aI), (vi aG)]), (vb r1)]) ∧ 
   Kept H1 w1 w9 ∧
   ∀ (H9 : Nat → Prop) (w11 : World), Hst w0 H1 w9 H9 w11 →
   ∃ v6 : Option Addr, w11.cell? cap3 = some (vp v6) ∧
   Calls Try.prog 44 #[(vp v6), (vi b1)] w11 (fun e w12 => ∃ aL aN : Int, ∃ aM aO : Int, ∃ aT : ByteArray, ∃ aW aU : Int, ∃ r2 : Bool, e = .returned (.tuple #[(.agg #[(vi aL), (vi aN), (vi aM), (vu aO), (vs aT), (vi aW), (vi aU)]), (vb r2)]) ∧ 
    Kept H9 w11 w12 ∧
    Br ((!r1) || (!r2))
     (∀ (H11 : Nat → Prop) (w15 : World), Hst w0 H9 w12 H11 w15 →
     K false w15)
     (∀ (H11 : Nat → Prop) (w15 : World), Hst w0 H9 w12 H11 w15 →
     ∃ C1 : World → Prop, C1 w15.drew ∧ ∀ w16, w16 = w15.drew →
     ∃ v7 : Option Nat, w16.cell? cap1 = some (.map v7) ∧
     ∃ v8 : Option Nat, (∀ w', C1 w' → w'.cell? cap2 = some (.map v8)) ∧
     ∃ w17 : World, (Instr.mapUpdate 91 (.map v7) (vi a1) (vi b1)).run Try.prog w16 = .ok () w17 ∧ C1 w17 ∧
     Kept H11 w16 w17 ∧
     ∃ w18 : World, (Instr.mapUpdate 91 (.map v8) (vi b1) (vi a1)).run Try.prog w17 = .ok () w18 ∧
     Kept H11 w17 w18 ∧
     ∀ y1 : Bool, y1 = (((aA == 8) || (aA == 9)) && ((aL == 8) || (aL == 9))) →
     Br y1
      (∀ (H13 : Nat → Prop) (w32 : World), Hst w0 H11 w18 H13 w32 →
      ∃ v12 : Int, w32.cell? cap4 = some (vi v12) ∧
      ∀ (w35 : World), Hst w0 H13 w32 H13 w35 →
      m_H_j4 cap4 cap5 aA aC aD aE aF aI aG aL aN aM aO aT aW aU (!(s_G v12 aA aC aD aE aF aI aG)) w0 H13 w35 K)
      (∀ (H13 : Nat → Prop) (w32 : World), Hst w0 H11 w18 H13 w32 →
      m_H_j4 cap4 cap5 aA aC aD aE aF aI aG aL aN aM aO aT aW aU false w0 H13 w32 K)))))
theorem w_H (a1 b1 : Int) (cap1 cap2 : Addr) (cap3 cap4 cap5 : Addr) (w0 : World) (K : Bool → World → Prop) (h : m_H a1 b1 cap1 cap2 cap3 cap4 cap5 w0 K) :
  Calls Try.prog 49 #[(vi a1), (vi b1), (vp (some cap1)), (vp (some cap2)), (vp (some cap3)), (vp (some cap4)), (vp (some cap5))] w0 (fun e w' => ∃ r5 : Bool, e = .returned (vb r5) ∧ K r5 w') := by
 unfold m_H at h
 refine cw (args := [(vi a1), (vi b1), (vp (some cap1)), (vp (some cap2)), (vp (some cap3)), (vp (some cap4)), (vp (some cap5))]) Try.func49 Try.ntmps49 ?_
 have hs := Hst.start w0
 have hb := HB.nil None w0
 refine wpE_seq (rg (q0 (vb false) (wpL_nil (th_n (wpE_seq (rg ?_))))))
 obtain ⟨v1, hv14, h⟩ := h
 refine q2 (.map v1) (xl (Try.isAgg91 _) hv14) (q0 (vi a1) ?_)
 obtain ⟨v2, ok1, hv13, h⟩ := h
 refine q2 (.tuple #[(vi v2), (vb ok1)]) (x_lookup (by kernel_rfl) (by kernel_rfl) hv13) (q0 (.tuple #[(vi v2), (vb ok1)]) (q0 (vi v2) (q0 (vb ok1) (q0 (vi v2) (q0 (vb ok1) (wpL_nil (th_n (wpE_seq (rg ?_)))))))))
 obtain ⟨v3, hv12, h⟩ := h
 refine q2 (.map v3) (xl (Try.isAgg91 _) hv12) (q0 (vi b1) ?_)
 obtain ⟨v4, ok2, hv11, h⟩ := h
 refine q2 (.tuple #[(vi v4), (vb ok2)]) (x_lookup (by kernel_rfl) (by kernel_rfl) hv11) (q0 (.tuple #[(vi v4), (vb ok2)]) (q0 (vi v4) (q0 (vb ok2) (q0 (vi v4) (q0 (vb ok2) (wpL_nil (th_n (wpE_seq (wpE_seq ?_)))))))))
 refine wpE_via (fun ρ wJ => ∃ b2'0 : Bool, ∃ HJ : Nat → Prop, (ok1 = b2'0) ∧ Hst w0 None w0 HJ wJ ∧ HB HJ wJ [] ∧ Has ρ [(0, (vi a1)), (1, (vi b1)), (2, (vp (some cap1))), (3, (vp (some cap2))), (4, (vp (some cap3))), (5, (vp (some cap4))), (6, (vp (some cap5))), (10, (vi v2)), (11, (vb ok1)), (12, (vi v4)), (13, (vb ok2)), (37, (vb (b2'0 || ok2)))]) ?_ ?_
 ·skip
  refine rg (q0 (vb ok1) (q0 (vb ok1) ?_))
  rcases Bool.eq_false_or_eq_true ok1 with hg2 | hg2
  ·skip
   refine sk (yD 35 hg2) (q2 (vb true) (xT hg2) (wpL_nil (th_n ?_)))
   exact ⟨true, _, hg2, hs, hb, hm⟩
  ·skip
   refine q1 (vb ok2) (want1 rfl (yD 35 hg2)) (q2 (vb ok2) (xF hg2) (wpL_nil (th_n ?_)))
   exact ⟨false, _, hg2, hs, hb, hm⟩
 ·clear hs hb
  rintro ρ w1 ⟨b2'0, H1, he0, hs, hb, hH⟩
  subst he0
  refine norm_has hH ?_
  clear hH
  refine th_n ?_
  refine wpE_cond (t := (ok1 || ok2)) (by kernel_rfl) (fun hc1 => ?_) (fun hc1 => ?_)
  ·replace h := h.1 hc1
   refine wpE_seq ?_
   refine wpE_via (fun ρ wJ => ∃ HJ : Nat → Prop, Hst w0 None w0 HJ wJ ∧ HB HJ wJ [] ∧ Has ρ [(9, (vb (((ok1 && ok2) && (v2 == b1)) && (v4 == a1))))]) ?_ ?_
   ·skip
    refine rg (q0 (vb ok1) (q0 (vb ok1) ?_))
    refine wpL_join 2 (fun ρ wJ => ∃ b7'0 : Bool, ∃ HJ : Nat → Prop, (ok1 = b7'0) ∧ Hst w0 None w0 HJ wJ ∧ HB HJ wJ [] ∧ Has ρ [(0, (vi a1)), (1, (vi b1)), (10, (vi v2)), (12, (vi v4)), (41, (vb (b7'0 && ok2)))]) ?_ ?_
    ·clear hs hb
     rintro ρ w6 ⟨b7'0, H6, he0, hs, hb, hH⟩
     subst he0
     refine wpL_has hH ?_
     clear hH
     refine q0 (vb (ok1 && ok2)) ?_
     refine wpL_join 4 (fun ρ wJ => ∃ b8'0 : Bool, ∃ HJ : Nat → Prop, ((ok1 && ok2) = b8'0) ∧ Hst w0 None w0 HJ wJ ∧ HB HJ wJ [] ∧ Has ρ [(0, (vi a1)), (12, (vi v4)), (46, (vb (b8'0 && (v2 == b1))))]) ?_ ?_
     ·clear hs hb
      rintro ρ w7 ⟨b8'0, H7, he0, hs, hb, hH⟩
      subst he0
      refine wpL_has hH ?_
      clear hH
      refine q0 (vb ((ok1 && ok2) && (v2 == b1))) ?_
      refine wpL_join 4 (fun ρ wJ => ∃ b9'0 : Bool, ∃ HJ : Nat → Prop, (((ok1 && ok2) && (v2 == b1)) = b9'0) ∧ Hst w0 None w0 HJ wJ ∧ HB HJ wJ [] ∧ Has ρ [(51, (vb (b9'0 && (v4 == a1))))]) ?_ ?_
      ·clear hs hb
       rintro ρ w8 ⟨b9'0, H8, he0, hs, hb, hH⟩
       subst he0
       refine wpL_has hH ?_
       clear hH
       refine q0 (vb (((ok1 && ok2) && (v2 == b1)) && (v4 == a1))) (wpL_nil (th_n ?_))
       exact ⟨_, hs, hb, hm⟩
      ·skip
       rcases Bool.eq_false_or_eq_true ((ok1 && ok2) && (v2 == b1)) with hg14 | hg14
       ·skip
        refine q1 (vi v4) (want1 rfl (yD 47 hg14)) (q1 (vi a1) (want1 rfl (yD 47 hg14)) (q1 (vb (v4 == a1)) (want1 rfl (yD 47 hg14)) (q2 (vb (v4 == a1)) (xT hg14) (wpL_nil ?_))))
        exact ⟨true, _, hg14, hs, hb, hm⟩
       ·skip
        refine sk (yD 47 hg14) (sk (yD 47 hg14) (sk (yD 47 hg14) (q2 (vb false) (xF hg14) (wpL_nil ?_))))
        exact ⟨false, _, hg14, hs, hb, hm⟩
     ·skip
      rcases Bool.eq_false_or_eq_true (ok1 && ok2) with hg12 | hg12
      ·skip
       refine q1 (vi v2) (want1 rfl (yD 42 hg12)) (q1 (vi b1) (want1 rfl (yD 42 hg12)) (q1 (vb (v2 == b1)) (want1 rfl (yD 42 hg12)) (q2 (vb (v2 == b1)) (xT hg12) (wpL_nil ?_))))
       exact ⟨true, _, hg12, hs, hb, hm⟩
      ·skip
       refine sk (yD 42 hg12) (sk (yD 42 hg12) (sk (yD 42 hg12) (q2 (vb false) (xF hg12) (wpL_nil ?_))))
       exact ⟨false, _, hg12, hs, hb, hm⟩
    ·skip
     rcases Bool.eq_false_or_eq_true ok1 with hg10 | hg10
     ·skip
      refine q1 (vb ok2) (want1 rfl (yD 39 hg10)) (q2 (vb ok2) (xT hg10) (wpL_nil ?_))
      exact ⟨true, _, hg10, hs, hb, hm⟩
     ·skip
      refine sk (yD 39 hg10) (q2 (vb false) (xF hg10) (wpL_nil ?_))
      exact ⟨false, _, hg10, hs, hb, hm⟩
   ·clear hs hb
    rintro ρ w5 ⟨H5, hs, hb, hH⟩
    refine norm_has hH ?_
    clear hH
    refine th_n (wpE_ret (th_r ?_))
    replace h := h H5 w5 hs
    replace hs := hs.here
    refine rs1 Try.results49 (v := (vb (((ok1 && ok2) && (v2 == b1)) && (v4 == a1)))) ?_
    exact ⟨(((ok1 && ok2) && (v2 == b1)) && (v4 == a1)), rfl, h⟩
  ·replace h := h.2 hc1
   refine wpE_skip (th_n (wpE_seq (rg ?_)))
   replace h := h H1 w1 hs
   replace hs := hs.here
   obtain ⟨v5, hv10, h⟩ := h
   refine q2 (vp v5) (xl (Try.isAgg28 _) hv10) (q0 (vi a1) ?_)
   refine sc Try.call44 (h.mono ?_)
   rintro e w9 ⟨aA, aC, aD, aE, aF, aI, aG, r1, rfl, hk, h⟩
   refine ⟨_, rfl, ?_⟩
   obtain ⟨hs, hb⟩ := hk.hh hs hb
   clear hk
   refine q0 (.tuple #[(.agg #[(vi aA), (vi aC), (vi aD), (vu aE), (vs aF), (vi aI), (vi aG)]), (vb r1)]) (q0 (.agg #[(vi aA), (vi aC), (vi aD), (vu aE), (vs aF), (vi aI), (vi aG)]) (q0 (vb r1) (sn (O := (.cells #[(vi 0), (vi 0), (vi 0), (vu 0), (vs ⟨#[]⟩), (vi 0), (vi 0)] 41)) (x_alloc (Try.zeroValue41 _) rfl) ?_)))
   intro p1 w10 hn1
   obtain ⟨H9, hs, hb⟩ := hs.alloc hb hn1
   refine st_set (want0 rfl) (x_storeA (a := p1) (vs := [(vi aA), (vi aC), (vi aD), (vu aE), (vs aF), (vi aI), (vi aG)]) (by kernel_rfl) (by kernel_rfl) rfl (Try.sizeOf41 _) rfl (hb.canWs0 0 7 gZ (by kernel_rfl))) ?_
   intro w11 hn2
   have hsb : Hst w0 H1 w9 H9 w11 ∧ HB H9 w11 [(p1, [(vi aA), (vi aC), (vi aD), (vu aE), (vs aF), (vi aI), (vi aG)], 41)] := by
    rw [hn2]
    exact hb.store0 (i := 0) (vs := [(vi aA), (vi aC), (vi aD), (vu aE), (vs aF), (vi aI), (vi aG)]) hs gZ (by kernel_rfl) (by kernel_rfl)
   clear hs hb hn2
   obtain ⟨hs, hb⟩ := hsb
   refine q0 (vb r1) (wpL_nil (th_n (wpE_seq (rg ?_))))
   replace h := h H9 w11 hs
   replace hs := hs.here
   obtain ⟨v6, hv9, h⟩ := h
   refine q2 (vp v6) (xl (Try.isAgg28 _) hv9) (q0 (vi b1) ?_)
   refine sc Try.call44 (h.mono ?_)
   rintro e w12 ⟨aL, aN, aM, aO, aT, aW, aU, r2, rfl, hk, h⟩
   refine ⟨_, rfl, ?_⟩
   obtain ⟨hs, hb⟩ := hk.hh hs hb
   clear hk
   refine q0 (.tuple #[(.agg #[(vi aL), (vi aN), (vi aM), (vu aO), (vs aT), (vi aW), (vi aU)]), (vb r2)]) (q0 (.agg #[(vi aL), (vi aN), (vi aM), (vu aO), (vs aT), (vi aW), (vi aU)]) (q0 (vb r2) (sn (O := (.cells #[(vi 0), (vi 0), (vi 0), (vu 0), (vs ⟨#[]⟩), (vi 0), (vi 0)] 41)) (x_alloc (Try.zeroValue41 _) rfl) ?_)))
   intro p2 w13 hn3
   obtain ⟨H10, hs, hb⟩ := hs.alloc hb hn3
   refine st_set (want0 rfl) (x_storeA (a := p2) (vs := [(vi aL), (vi aN), (vi aM), (vu aO), (vs aT), (vi aW), (vi aU)]) (by kernel_rfl) (by kernel_rfl) rfl (Try.sizeOf41 _) rfl (hb.canWs0 0 7 gZ (by kernel_rfl))) ?_
   intro w14 hn4
   have hsb : Hst w0 H9 w12 H10 w14 ∧ HB H10 w14 [(p2, [(vi aL), (vi aN), (vi aM), (vu aO), (vs aT), (vi aW), (vi aU)], 41), (p1, [(vi aA), (vi aC), (vi aD), (vu aE), (vs aF), (vi aI), (vi aG)], 41)] := by
    rw [hn4]
    exact hb.store0 (i := 0) (vs := [(vi aL), (vi aN), (vi aM), (vu aO), (vs aT), (vi aW), (vi aU)]) hs gZ (by kernel_rfl) (by kernel_rfl)
   clear hs hb hn4
   obtain ⟨hs, hb⟩ := hsb
   refine q0 (vb r2) (wpL_nil (th_n (wpE_seq (wpE_seq ?_))))
   refine wpE_via (fun ρ wJ => ∃ b10'0 : Bool, ∃ HJ : Nat → Prop, ((!r1) = b10'0) ∧ Hst w0 H9 w12 HJ wJ ∧ HB HJ wJ [(p2, [(vi aL), (vi aN), (vi aM), (vu aO), (vs aT), (vi aW), (vi aU)], 41), (p1, [(vi aA), (vi aC), (vi aD), (vu aE), (vs aF), (vi aI), (vi aG)], 41)] ∧ Has ρ [(0, (vi a1)), (1, (vi b1)), (2, (vp (some cap1))), (3, (vp (some cap2))), (5, (vp (some cap4))), (6, (vp (some cap5))), (14, (vp (some p1))), (16, (vp (some p2))), (69, (vb (b10'0 || (!r2))))]) ?_ ?_
   ·skip
    refine rg (q0 (vb r1) (q0 (vb (!r1)) (q0 (vb (!r1)) ?_)))
    rcases Bool.eq_false_or_eq_true (!r1) with hg16 | hg16
    ·skip
     refine sk (yD 66 hg16) (sk (yD 66 hg16) (q2 (vb true) (xT hg16) (wpL_nil (th_n ?_))))
     exact ⟨true, _, hg16, hs, hb, hm⟩
    ·skip
     refine q1 (vb r2) (want1 rfl (yD 66 hg16)) (q1 (vb (!r2)) (want1 rfl (yD 66 hg16)) (q2 (vb (!r2)) (xF hg16) (wpL_nil (th_n ?_))))
     exact ⟨false, _, hg16, hs, hb, hm⟩
   ·clear hs hb
    rintro ρ w15 ⟨b10'0, H11, he0, hs, hb, hH⟩
    subst he0
    refine norm_has hH ?_
    clear hH
    refine th_n ?_
    refine wpE_cond (t := ((!r1) || (!r2))) (by kernel_rfl) (fun hc2 => ?_) (fun hc2 => ?_)
    ·replace h := h.1 hc2
     refine wpE_seq (rg (q0 (vb false) (wpL_nil (th_n (wpE_ret (th_r ?_))))))
     replace h := h H11 w15 hs
     replace hs := hs.here
     refine rs1 Try.results49 (v := (vb false)) ?_
     exact ⟨false, rfl, h⟩
    ·replace h := h.2 hc2
     refine wpE_skip (th_n (wpE_seq ?_))
     replace h := h H11 w15 hs
     replace hs := hs.here
     obtain ⟨C1, hC, h⟩ := h
     refine wpE_drawnC (fun x => C1 x ∧ HB H11 x [(p2, [(vi aL), (vi aN), (vi aM), (vu aO), (vs aT), (vi aW), (vi aU)], 41), (p1, [(vi aA), (vi aC), (vi aD), (vu aE), (vs aF), (vi aI), (vi aG)], 41)]) [6, 7] [7] (by kernel_rfl) (by kernel_rfl) (by kernel_rfl) (by kernel_rfl) ⟨hC, hb.drew⟩ ?_
     clear hC
     intro w16 hw16
     replace h := h w16 hw16
     replace hs : Hst w0 H11 w15 H11 w16 := by rw [hw16]; exact hs.drew
     replace hb : HB H11 w16 [(p2, [(vi aL), (vi aN), (vi aM), (vu aO), (vs aT), (vi aW), (vi aU)], 41), (p1, [(vi aA), (vi aC), (vi aD), (vu aE), (vs aF), (vi aI), (vi aG)], 41)] := by rw [hw16]; exact hb.drew
     replace hs := hs.here
     refine qg 0 ?_
     obtain ⟨v7, hv8, h⟩ := h
     refine sye Kp0 (xl (Try.isAgg91 _) hv8) (qx 1 (vi a1) Kp1 (qg 2 ?_))
     obtain ⟨v8, hv7, h⟩ := h
     refine sy (v := (.map v8)) Kp2 (fun w' hw' => (xl (Try.isAgg91 _) (hv7 w' hw'.1))) (qx 3 (vi b1) Kp3 (qx 4 (vi b1) Kp4 (qx 5 (vi a1) Kp5 (lg 6 ?_))))
     obtain ⟨w17, hv6, hC, hk, h⟩ := h
     refine sl_skip Kp6 (want0 rfl) (by kernel_rfl) (x_mapUpdate (by kernel_rfl) (by kernel_rfl) (by kernel_rfl) hv6) (.inr ⟨hC, hb.kept hk⟩) ?_
     clear hC
     obtain ⟨hs, hb⟩ := hk.hh hs hb
     clear hk
     refine lg 7 ?_
     obtain ⟨w18, hv5, hk, h⟩ := h
     refine sl_skip Kp7 (want0 rfl) (by kernel_rfl) (x_mapUpdate (by kernel_rfl) (by kernel_rfl) (by kernel_rfl) hv5) (.inl (by kernel_rfl)) ?_
     obtain ⟨hs, hb⟩ := hk.hh hs hb
     clear hk
     refine wn (th_n (wpE_seq (wpE_seq ?_)))
     refine wpE_joinT (fun ρ w => ∃ x1 : Bool, ∃ H : Nat → Prop, Has ρ [(6, (vp (some cap5))), (14, (vp (some p1))), (16, (vp (some p2))), (93, (vb x1))] ∧ Hst w0 H w H w ∧ HB H w [(p2, [(vi aL), (vi aN), (vi aM), (vu aO), (vs aT), (vi aW), (vi aU)], 41), (p1, [(vi aA), (vi aC), (vi aD), (vu aE), (vs aF), (vi aI), (vi aG)], 41)] ∧ m_H_j1 cap5 aA aC aD aE aF aI aG aL aN aM aO aT aW aU x1 w0 H w K) ?_ ?_
     ·clear h hs hb
      rintro ρ w ⟨x1, H, hH, hs, hb, h⟩
      unfold m_H_j1 at h
      refine wpE_has hH ?_
      clear hH
      refine wpE_via (fun ρ wJ => ∃ b11'0 : Bool, ∃ HJ : Nat → Prop, (x1 = b11'0) ∧ Hst w0 H w HJ wJ ∧ HB HJ wJ [(p2, [(vi (cond b11'0 aA aL)), (vi aN), (vi aM), (vu aO), (vs aT), (vi aW), (vi aU)], 41), (p1, [(vi aA), (vi aC), (vi aD), (vu aE), (vs aF), (vi aI), (vi aG)], 41)] ∧ Has ρ [(6, (vp (some cap5))), (14, (vp (some p1))), (16, (vp (some p2)))]) ?_ ?_
      ·skip
       refine wpE_cond (t := x1) (by kernel_rfl) (fun hc4 => ?_) (fun hc4 => ?_)
       ·skip
        refine rg (q0 (vp (some p1)) (q2 (vi aA) (xl (Try.isAgg3 _) (hb.c0 1 (gS gZ))) (q0 (vp (some p2)) (st_set (want0 rfl) (x_store (a := p2) (v := (vi aA)) (by kernel_rfl) (by kernel_rfl) rfl (Try.sizeOf3 _) (hb.canW0 0 gZ (by kernel_rfl))) ?_))))
        intro w21 hn6
        have hsb : Hst w0 H w H w21 ∧ HB H w21 [(p2, [(vi aA), (vi aN), (vi aM), (vu aO), (vs aT), (vi aW), (vi aU)], 41), (p1, [(vi aA), (vi aC), (vi aD), (vu aE), (vs aF), (vi aI), (vi aG)], 41)] := by
         rw [hn6]
         exact hb.set0 (i := 0) (v := (vi aA)) hs gZ (by kernel_rfl)
        clear hs hb hn6
        obtain ⟨hs, hb⟩ := hsb
        refine wpL_nil (th_n ?_)
        exact ⟨true, _, hc4, hs, hb, hm⟩
       ·skip
        refine wpE_skip (th_n ?_)
        exact ⟨false, _, hc4, hs, hb, hm⟩
      ·clear hs hb
       rintro ρ w20 ⟨b11'0, H12, he0, hs, hb, hH⟩
       subst he0
       refine norm_has hH ?_
       clear hH
       refine th_n (wpE_seq (wpE_drawnQ (by kernel_rfl) (by kernel_rfl) (by kernel_rfl) (by kernel_rfl) ?_))
       intro w22 hw22
       replace hs : Hst w0 H w H12 w22 := by rw [hw22]; exact hs.drew
       replace hb : HB H12 w22 [(p2, [(vi (cond x1 aA aL)), (vi aN), (vi aM), (vu aO), (vs aT), (vi aW), (vi aU)], 41), (p1, [(vi aA), (vi aC), (vi aD), (vu aE), (vs aF), (vi aI), (vi aG)], 41)] := by rw [hw22]; exact hb.drew
       clear hw22
       refine qq 0 (vp (some (p1.add 5))) Kp0 (qr 1 (vi aI) Kp1 (xl (Try.isAgg23 _) (hb.c 1 5 (gS gZ))) (qq 2 (vp (some (p2.add 5))) Kp2 (qr 3 (vi aW) Kp3 (xl (Try.isAgg23 _) (hb.c 0 5 gZ)) (qq 4 (vi aI) Kp4 (qq 5 (vi aW) Kp5 (wn (th_n (wpE_seq (wpE_drawnQ (by kernel_rfl) (by kernel_rfl) (by kernel_rfl) (by kernel_rfl) ?_)))))))))
       intro w23 hw23
       replace hs : Hst w0 H w H12 w23 := by rw [hw23]; exact hs.drew
       replace hb : HB H12 w23 [(p2, [(vi (cond x1 aA aL)), (vi aN), (vi aM), (vu aO), (vs aT), (vi aW), (vi aU)], 41), (p1, [(vi aA), (vi aC), (vi aD), (vu aE), (vs aF), (vi aI), (vi aG)], 41)] := by rw [hw23]; exact hb.drew
       clear hw23
       refine qq 0 (vp (some (p1.add 6))) Kp0 (qr 1 (vi aG) Kp1 (xl (Try.isAgg23 _) (hb.c 1 6 (gS gZ))) (qq 2 (vp (some (p2.add 6))) Kp2 (qr 3 (vi aU) Kp3 (xl (Try.isAgg23 _) (hb.c 0 6 gZ)) (qq 4 (vi aG) Kp4 (qq 5 (vi aU) Kp5 (wn (th_n (wpE_seq (rg (q0 (vp (some (p1.add 5))) (st_set (want0 rfl) (x_store (a := (p1.add 5)) (v := (vi 0)) (by kernel_rfl) (by kernel_rfl) rfl (Try.sizeOf23 _) (hb.canW 1 5 (gS gZ) (by kernel_rfl))) ?_)))))))))))
       intro w24 hn7
       have hsb : Hst w0 H w H12 w24 ∧ HB H12 w24 [(p2, [(vi (cond x1 aA aL)), (vi aN), (vi aM), (vu aO), (vs aT), (vi aW), (vi aU)], 41), (p1, [(vi aA), (vi aC), (vi aD), (vu aE), (vs aF), (vi 0), (vi aG)], 41)] := by
        rw [hn7]
        exact hb.set (i := 1) 5 (v := (vi 0)) hs (gS gZ) (by kernel_rfl)
       clear hs hb hn7
       obtain ⟨hs, hb⟩ := hsb
       refine q0 (vp (some (p1.add 6))) (st_set (want0 rfl) (x_store (a := (p1.add 6)) (v := (vi 0)) (by kernel_rfl) (by kernel_rfl) rfl (Try.sizeOf23 _) (hb.canW 1 6 (gS gZ) (by kernel_rfl))) ?_)
       intro w25 hn8
       have hsb : Hst w0 H w H12 w25 ∧ HB H12 w25 [(p2, [(vi (cond x1 aA aL)), (vi aN), (vi aM), (vu aO), (vs aT), (vi aW), (vi aU)], 41), (p1, [(vi aA), (vi aC), (vi aD), (vu aE), (vs aF), (vi 0), (vi 0)], 41)] := by
        rw [hn8]
        exact hb.set (i := 1) 6 (v := (vi 0)) hs (gS gZ) (by kernel_rfl)
       clear hs hb hn8
       obtain ⟨hs, hb⟩ := hsb
       refine q0 (vp (some (p2.add 5))) (st_set (want0 rfl) (x_store (a := (p2.add 5)) (v := (vi 0)) (by kernel_rfl) (by kernel_rfl) rfl (Try.sizeOf23 _) (hb.canW 0 5 gZ (by kernel_rfl))) ?_)
       intro w26 hn9
       have hsb : Hst w0 H w H12 w26 ∧ HB H12 w26 [(p2, [(vi (cond x1 aA aL)), (vi aN), (vi aM), (vu aO), (vs aT), (vi 0), (vi aU)], 41), (p1, [(vi aA), (vi aC), (vi aD), (vu aE), (vs aF), (vi 0), (vi 0)], 41)] := by
        rw [hn9]
        exact hb.set (i := 0) 5 (v := (vi 0)) hs gZ (by kernel_rfl)
       clear hs hb hn9
       obtain ⟨hs, hb⟩ := hsb
       refine q0 (vp (some (p2.add 6))) (st_set (want0 rfl) (x_store (a := (p2.add 6)) (v := (vi 0)) (by kernel_rfl) (by kernel_rfl) rfl (Try.sizeOf23 _) (hb.canW 0 6 gZ (by kernel_rfl))) ?_)
       intro w27 hn10
       have hsb : Hst w0 H w H12 w27 ∧ HB H12 w27 [(p2, [(vi (cond x1 aA aL)), (vi aN), (vi aM), (vu aO), (vs aT), (vi 0), (vi 0)], 41), (p1, [(vi aA), (vi aC), (vi aD), (vu aE), (vs aF), (vi 0), (vi 0)], 41)] := by
        rw [hn10]
        exact hb.set (i := 0) 6 (v := (vi 0)) hs gZ (by kernel_rfl)
       clear hs hb hn10
       obtain ⟨hs, hb⟩ := hsb
       refine wpL_nil (th_n (wpE_seq (rg (q2 (.agg #[(vi aA), (vi aC), (vi aD), (vu aE), (vs aF), (vi 0), (vi 0)]) (x_loadA (a := p1) (vs := [(vi aA), (vi aC), (vi aD), (vu aE), (vs aF), (vi 0), (vi 0)]) (by kernel_rfl) (Try.isAgg41 _) (Try.sizeOf41 _) rfl (hb.row0 1 7 (gS gZ) (by kernel_rfl))) (q2 (.agg #[(vi (cond x1 aA aL)), (vi aN), (vi aM), (vu aO), (vs aT), (vi 0), (vi 0)]) (x_loadA (a := p2) (vs := [(vi (cond x1 aA aL)), (vi aN), (vi aM), (vu aO), (vs aT), (vi 0), (vi 0)]) (by kernel_rfl) (Try.isAgg41 _) (Try.sizeOf41 _) rfl (hb.row0 0 7 gZ (by kernel_rfl))) (q2 (vb ((aA == (cond x1 aA aL)) && ((aC == aN) && ((aD == aM) && ((aE == aO) && ((decide (aF = aT)) && (((0 : Int) == 0) && ((0 : Int) == 0)))))))) (x_aggeq (by kernel_rfl) (by kernel_rfl) (by kernel_rfl) (eqt_view_Alike_1_eql_41 aA aC aD aE aF 0 0 (cond x1 aA aL) aN aM aO aT 0 0 _)) (q0 (vb ((aA == (cond x1 aA aL)) && ((aC == aN) && ((aD == aM) && ((aE == aO) && ((decide (aF = aT)) && (((0 : Int) == 0) && ((0 : Int) == 0)))))))) ?_)))))))
       refine wpL_join 9 (fun ρ w => ∃ x2 : Bool, ∃ H : Nat → Prop, Has ρ [(6, (vp (some cap5))), (20, (vi aG)), (21, (vi aU)), (121, (vb x2))] ∧ Hst w0 H w H w ∧ HB H w [(p2, [(vi (cond x1 aA aL)), (vi aN), (vi aM), (vu aO), (vs aT), (vi 0), (vi 0)], 41), (p1, [(vi aA), (vi aC), (vi aD), (vu aE), (vs aF), (vi 0), (vi 0)], 41)] ∧ m_H_j2 cap5 aG aU x2 H w K) ?_ ?_
       ·clear h hs hb
        rintro ρ w ⟨x2, H, hH, hs, hb, h⟩
        unfold m_H_j2 at h
        refine wpL_has hH ?_
        clear hH
        refine q0 (vb x2) ?_
        rcases Bool.eq_false_or_eq_true x2 with hg17 | hg17
        ·replace h := h.1 hg17
         refine q1 (vi aG) (want1 rfl (yD 122 hg17)) (q1 (vb (aG == 0)) (want1 rfl (yD 122 hg17)) (q1 (vb (aG == 0)) (want1 rfl (yD 122 hg17)) ?_))
         rcases Bool.eq_false_or_eq_true (aG == 0) with hg18 | hg18
         ·replace h := h.1 hg18
          refine sk (yD 125 hg18) (sk (yD 125 hg18) (sk (yD 125 hg18) (sk (yD 125 hg18) (stp (v := (vb true)) (want1 rfl (yD 122 hg17)) (xT hg18) (q2 (vb true) (xT hg17) (q0 (vb true) (wpL_nil (th_n (wpE_ret (rs1 Try.results49 (v := (vb true)) ?_))))))))))
          exact ⟨true, rfl, h⟩
         ·replace h := h.2 hg18
          obtain ⟨v9, hv1, h⟩ := h
          refine stp (v := v9) (want1 rfl (yD 125 hg18)) (xl (Try.isAgg92 _) hv1) (q1 (vi aG) (want1 rfl (yD 125 hg18)) (q1 (vi aU) (want1 rfl (yD 125 hg18)) ?_))
          obtain ⟨f1, fs1, cs1, hp1, h⟩ := h
          obtain ⟨hf1, h⟩ := h
          refine st_call (want1 rfl (yD 125 hg18)) (x_callmE (fs := fs1) (caps := cs1) (args := #[(vi aG), (vi aU)]) (by kernel_rfl) hp1 hf1 (by kernel_rfl) rfl) (h.mono ?_)
          rintro e w28 ⟨r3, rfl, hk, h⟩
          refine ⟨_, rfl, ?_⟩
          obtain ⟨hs, hb⟩ := hk.hh hs hb
          clear hk
          refine stp (v := (vb r3)) (want1 rfl (yD 122 hg17)) (xF hg18) (q2 (vb r3) (xT hg17) (q0 (vb r3) (wpL_nil (th_n (wpE_ret (rs1 Try.results49 (v := (vb r3)) ?_))))))
          exact ⟨r3, rfl, h⟩
        ·replace h := h.2 hg17
         refine sk (yD 122 hg17) (sk (yD 122 hg17) (sk (yD 122 hg17) (sm (sm (sm (sm (sk (yD 122 hg17) (q2 (vb false) (xF hg17) (q0 (vb false) (wpL_nil (th_n ?_)))))))))))
         refine wpE_ret (rs1 Try.results49 (v := (vb false)) ?_)
         exact ⟨false, rfl, h⟩
       ·skip
        rcases Bool.eq_false_or_eq_true ((aA == (cond x1 aA aL)) && ((aC == aN) && ((aD == aM) && ((aE == aO) && ((decide (aF = aT)) && (((0 : Int) == 0) && ((0 : Int) == 0))))))) with hg19 | hg19
        ·replace h := h.1 hg19
         refine q1 (vi aI) (want1 rfl (yD 112 hg19)) (q1 (vb (aI == 0)) (want1 rfl (yD 112 hg19)) (q1 (vb (aI == 0)) (want1 rfl (yD 112 hg19)) ?_))
         refine wpL_join 5 (fun ρ w => ∃ x3 : Bool, ∃ H : Nat → Prop, Has ρ [(6, (vp (some cap5))), (20, (vi aG)), (21, (vi aU)), (112, (vb ((aA == (cond x1 aA aL)) && ((aC == aN) && ((aD == aM) && ((aE == aO) && ((decide (aF = aT)) && (((0 : Int) == 0) && ((0 : Int) == 0))))))))), (120, (vb x3))] ∧ Hst w0 H w H w ∧ HB H w [(p2, [(vi (cond x1 aA aL)), (vi aN), (vi aM), (vu aO), (vs aT), (vi 0), (vi 0)], 41), (p1, [(vi aA), (vi aC), (vi aD), (vu aE), (vs aF), (vi 0), (vi 0)], 41)] ∧ m_H_j3 cap5 aA aC aD aE aF aG aL aN aM aO aT aU x1 x3 H w K) ?_ ?_
         ·clear h hs hb
          rintro ρ w ⟨x3, H, hH, hs, hb, h⟩
          unfold m_H_j3 at h
          refine wpL_has hH ?_
          clear hH
          rcases Bool.eq_false_or_eq_true ((aA == (cond x1 aA aL)) && ((aC == aN) && ((aD == aM) && ((aE == aO) && ((decide (aF = aT)) && (((0 : Int) == 0) && ((0 : Int) == 0))))))) with hg20 | hg20
          ·replace h := h.1 hg20
           refine q2 (vb x3) (xT hg20) (wpL_nil ?_)
           exact ⟨x3, H, hm, hs, hb, h⟩
          ·replace h := h.2 hg20
           refine q2 (vb false) (xF hg20) (wpL_nil ?_)
           exact ⟨false, H, hm, hs, hb, h⟩
         ·skip
          rcases Bool.eq_false_or_eq_true (aI == 0) with hg21 | hg21
          ·replace h := h.1 hg21
           refine sk (yD 115 hg21) (sk (yD 115 hg21) (sk (yD 115 hg21) (sk (yD 115 hg21) (stp (v := (vb true)) (want1 rfl (yD 112 hg19)) (xT hg21) (wpL_nil ?_)))))
           replace h := h H12 w27 hs
           replace hs := hs.here
           exact ⟨true, H12, hm, hs, hb, h⟩
          ·replace h := h.2 hg21
           replace h := h H12 w27 hs
           replace hs := hs.here
           obtain ⟨v10, hv2, h⟩ := h
           refine stp (v := v10) (want1 rfl (yD 115 hg21)) (xl (Try.isAgg92 _) hv2) (q1 (vi aI) (want1 rfl (yD 115 hg21)) (q1 (vi aW) (want1 rfl (yD 115 hg21)) ?_))
           obtain ⟨f2, fs2, cs2, hp2, h⟩ := h
           obtain ⟨hf2, h⟩ := h
           refine st_call (want1 rfl (yD 115 hg21)) (x_callmE (fs := fs2) (caps := cs2) (args := #[(vi aI), (vi aW)]) (by kernel_rfl) hp2 hf2 (by kernel_rfl) rfl) (h.mono ?_)
           rintro e w29 ⟨r4, rfl, hk, h⟩
           refine ⟨_, rfl, ?_⟩
           obtain ⟨hs, hb⟩ := hk.hh hs hb
           clear hk
           refine stp (v := (vb r4)) (want1 rfl (yD 112 hg19)) (xF hg21) (wpL_nil ?_)
           exact ⟨r4, H12, hm, hs, hb, h⟩
        ·replace h := h.2 hg19
         refine sk (yD 112 hg19) (sk (yD 112 hg19) (sk (yD 112 hg19) (sm (sm (sm (sm (sk (yD 112 hg19) (q2 (vb false) (xF hg19) (wpL_nil ?_)))))))))
         replace h := h H12 w27 hs
         replace hs := hs.here
         exact ⟨false, H12, hm, hs, hb, h⟩
     ·skip
      refine rg (q2 (.agg #[(vi aA), (vi aC), (vi aD), (vu aE), (vs aF), (vi aI), (vi aG)]) (x_loadA (a := p1) (vs := [(vi aA), (vi aC), (vi aD), (vu aE), (vs aF), (vi aI), (vi aG)]) (by kernel_rfl) (Try.isAgg41 _) (Try.sizeOf41 _) rfl (hb.row0 1 7 (gS gZ) (by kernel_rfl))) ?_)
      refine sc Try.call50 ((p_U1 aA aC aD aE aF aI aG w18).mono ?_)
      rintro e w30 ⟨he, hE⟩
      refine ⟨(vb ((aA == 8) || (aA == 9))), he.trans (by kernel_rfl), ?_⟩
      replace hs := hs.pure hE
      replace hb := hb.pure hE
      clear hE he
      refine q0 (vb ((aA == 8) || (aA == 9))) ?_
      refine wpL_join 3 (fun ρ wJ => ∃ b12'0 y1 : Bool, ∃ HJ : Nat → Prop, (((aA == 8) || (aA == 9)) = b12'0) ∧ (y1 = (b12'0 && ((aL == 8) || (aL == 9)))) ∧ Hst w0 H11 w18 HJ wJ ∧ HB HJ wJ [(p2, [(vi aL), (vi aN), (vi aM), (vu aO), (vs aT), (vi aW), (vi aU)], 41), (p1, [(vi aA), (vi aC), (vi aD), (vu aE), (vs aF), (vi aI), (vi aG)], 41)] ∧ Has ρ [(5, (vp (some cap4))), (6, (vp (some cap5))), (14, (vp (some p1))), (16, (vp (some p2))), (81, (vb y1))]) ?_ ?_
      ·clear hs hb
       rintro ρ w32 ⟨b12'0, y1, H13, he0, hy1, hs, hb, hH⟩
       subst he0
       replace h := h y1 hy1
       refine wpL_has hH ?_
       clear hH
       refine q0 (vb y1) ?_
       refine wpL_join 5 (fun ρ w => ∃ x4 : Bool, ∃ H : Nat → Prop, Has ρ [(5, (vp (some cap4))), (6, (vp (some cap5))), (14, (vp (some p1))), (16, (vp (some p2))), (87, (vb x4))] ∧ Hst w0 H w H w ∧ HB H w [(p2, [(vi aL), (vi aN), (vi aM), (vu aO), (vs aT), (vi aW), (vi aU)], 41), (p1, [(vi aA), (vi aC), (vi aD), (vu aE), (vs aF), (vi aI), (vi aG)], 41)] ∧ m_H_j4 cap4 cap5 aA aC aD aE aF aI aG aL aN aM aO aT aW aU x4 w0 H w K) ?_ ?_
       ·clear h hs hb
        rintro ρ w ⟨x4, H, hH, hs, hb, h⟩
        unfold m_H_j4 at h
        refine wpL_has hH ?_
        clear hH
        refine q0 (vb x4) ?_
        rcases Bool.eq_false_or_eq_true x4 with hg24 | hg24
        ·replace h := h.1 hg24
         obtain ⟨v11, hv3, h⟩ := h
         refine stp (v := (vi v11)) (want1 rfl (yD 88 hg24)) (xl (Try.isAgg3 _) hv3) (stp (v := (.agg #[(vi aL), (vi aN), (vi aM), (vu aO), (vs aT), (vi aW), (vi aU)])) (want1 rfl (yD 88 hg24)) (x_loadA (a := p2) (vs := [(vi aL), (vi aN), (vi aM), (vu aO), (vs aT), (vi aW), (vi aU)]) (by kernel_rfl) (Try.isAgg41 _) (Try.sizeOf41 _) rfl (hb.row0 0 7 gZ (by kernel_rfl))) ?_)
         refine st_call (want1 rfl (yD 88 hg24)) (xc Try.call51) ((p_G v11 aL aN aM aO aT aW aU w).mono ?_)
         rintro e w34 ⟨he, hE⟩
         refine ⟨(vb (s_G v11 aL aN aM aO aT aW aU)), he.trans (by kernel_rfl), ?_⟩
         replace hs := hs.pure hE
         replace hb := hb.pure hE
         clear hE he
         refine q1 (vb (!(s_G v11 aL aN aM aO aT aW aU))) (want1 rfl (yD 88 hg24)) (q2 (vb (!(s_G v11 aL aN aM aO aT aW aU))) (xT hg24) (wpL_nil ?_))
         replace h := h w34 hs
         replace hs := hs.here
         refine th_n ?_
         exact ⟨(!(s_G v11 aL aN aM aO aT aW aU)), H, hm, hs, hb, h⟩
        ·replace h := h.2 hg24
         refine sk (yD 88 hg24) (sk (yD 88 hg24) (sk (yD 88 hg24) (sk (yD 88 hg24) (q2 (vb false) (xF hg24) (wpL_nil (th_n ?_))))))
         exact ⟨false, H, hm, hs, hb, h⟩
       ·skip
        rcases Bool.eq_false_or_eq_true y1 with hg25 | hg25
        ·replace h := h.1 hg25
         replace h := h H13 w32 hs
         replace hs := hs.here
         obtain ⟨v12, hv4, h⟩ := h
         refine stp (v := (vi v12)) (want1 rfl (yD 82 hg25)) (xl (Try.isAgg3 _) hv4) (stp (v := (.agg #[(vi aA), (vi aC), (vi aD), (vu aE), (vs aF), (vi aI), (vi aG)])) (want1 rfl (yD 82 hg25)) (x_loadA (a := p1) (vs := [(vi aA), (vi aC), (vi aD), (vu aE), (vs aF), (vi aI), (vi aG)]) (by kernel_rfl) (Try.isAgg41 _) (Try.sizeOf41 _) rfl (hb.row0 1 7 (gS gZ) (by kernel_rfl))) ?_)
         refine st_call (want1 rfl (yD 82 hg25)) (xc Try.call51) ((p_G v12 aA aC aD aE aF aI aG w32).mono ?_)
         rintro e w35 ⟨he, hE⟩
         refine ⟨(vb (s_G v12 aA aC aD aE aF aI aG)), he.trans (by kernel_rfl), ?_⟩
         replace hs := hs.pure hE
         replace hb := hb.pure hE
         clear hE he
         refine q1 (vb (!(s_G v12 aA aC aD aE aF aI aG))) (want1 rfl (yD 82 hg25)) (q2 (vb (!(s_G v12 aA aC aD aE aF aI aG))) (xT hg25) (wpL_nil ?_))
         replace h := h w35 hs
         replace hs := hs.here
         exact ⟨(!(s_G v12 aA aC aD aE aF aI aG)), H13, hm, hs, hb, h⟩
        ·replace h := h.2 hg25
         refine sk (yD 82 hg25) (sk (yD 82 hg25) (sk (yD 82 hg25) (sk (yD 82 hg25) (q2 (vb false) (xF hg25) (wpL_nil ?_)))))
         replace h := h H13 w32 hs
         replace hs := hs.here
         exact ⟨false, H13, hm, hs, hb, h⟩
      ·skip
       rcases Bool.eq_false_or_eq_true ((aA == 8) || (aA == 9)) with hg23 | hg23
       ·skip
        refine stp (v := (.agg #[(vi aL), (vi aN), (vi aM), (vu aO), (vs aT), (vi aW), (vi aU)])) (want1 rfl (yD 78 hg23)) (x_loadA (a := p2) (vs := [(vi aL), (vi aN), (vi aM), (vu aO), (vs aT), (vi aW), (vi aU)]) (by kernel_rfl) (Try.isAgg41 _) (Try.sizeOf41 _) rfl (hb.row0 0 7 gZ (by kernel_rfl))) ?_
        refine st_call (want1 rfl (yD 78 hg23)) (xc Try.call50) ((p_U1 aL aN aM aO aT aW aU w30).mono ?_)
        rintro e w33 ⟨he, hE⟩
        refine ⟨(vb ((aL == 8) || (aL == 9))), he.trans (by kernel_rfl), ?_⟩
        replace hs := hs.pure hE
        replace hb := hb.pure hE
        clear hE he
        refine q2 (vb ((aL == 8) || (aL == 9))) (xT hg23) (wpL_nil ?_)
        exact ⟨true, _, _, hg23, rfl, hs, hb, hm⟩
       ·skip
        refine sk (yD 78 hg23) (sk (yD 78 hg23) (q2 (vb false) (xF hg23) (wpL_nil ?_)))
        exact ⟨false, _, _, hg23, rfl, hs, hb, hm⟩
def m_F3 (aB aK : Int) (aH aP : Int) (aQ : ByteArray) (aR aS : Int) (cap1 : Addr) (w0 : World) (K : Int → Int → Int → Int → ByteArray → Int → Int → World → Prop) : Prop :=
 Br ((aB == 8) || (aB == 9))
  (∀ (H2 : Nat → Prop) (w3 : World), Hst w0 None w0 H2 w3 →
  ∃ v1 : Int, w3.cell? cap1 = some (vi v1) ∧
  ∀ (H3 : Nat → Prop) (w8 : World), Hst w0 H2 w3 H3 w8 →
  K (cond (!(s_G v1 aB aK aH aP aQ aR aS)) 8 aB) aK aH aP aQ aR aS w8)
  (∀ (H2 : Nat → Prop) (w9 : World), Hst w0 None w0 H2 w9 →
  K aB aK aH aP aQ aR aS w9)
theorem w_F3 (aB aK : Int) (aH aP : Int) (aQ : ByteArray) (aR aS : Int) (cap1 : Addr) (w0 : World) (K : Int → Int → Int → Int → ByteArray → Int → Int → World → Prop) (h : m_F3 aB aK aH aP aQ aR aS cap1 w0 K) :
  Calls Try.prog 55 #[(.agg #[(vi aB), (vi aK), (vi aH), (vu aP), (vs aQ), (vi aR), (vi aS)]), (vp (some cap1))] w0 (fun e w' => ∃ aA aC : Int, ∃ aD aE : Int, ∃ aF : ByteArray, ∃ aI aG : Int, e = .returned (.agg #[(vi aA), (vi aC), (vi aD), (vu aE), (vs aF), (vi aI), (vi aG)]) ∧ K aA aC aD aE aF aI aG w') := by
 unfold m_F3 at h
 refine cw (args := [(.agg #[(vi aB), (vi aK), (vi aH), (vu aP), (vs aQ), (vi aR), (vi aS)]), (vp (some cap1))]) Try.func55 Try.ntmps55 ?_
 have hs := Hst.start w0
 have hb := HB.nil None w0
 refine wpE_seq (rg (sn (O := (.cells #[(vi aB), (vi aK), (vi aH), (vu aP), (vs aQ), (vi aR), (vi aS)] 41)) xb ?_))
 intro p1 w1 hn1
 obtain ⟨H1, hs, hb⟩ := hs.alloc hb hn1
 refine sn (O := (.cells #[(vi 0), (vi 0), (vi 0), (vu 0), (vs ⟨#[]⟩), (vi 0), (vi 0)] 41)) (x_alloc (Try.zeroValue41 _) rfl) ?_
 intro p2 w2 hn2
 obtain ⟨H2, hs, hb⟩ := hs.alloc hb hn2
 refine wpL_nil (th_n (wpE_seq (wpE_seq (rg (q2 (.agg #[(vi aB), (vi aK), (vi aH), (vu aP), (vs aQ), (vi aR), (vi aS)]) (x_loadA (a := p1) (vs := [(vi aB), (vi aK), (vi aH), (vu aP), (vs aQ), (vi aR), (vi aS)]) (by kernel_rfl) (Try.isAgg41 _) (Try.sizeOf41 _) rfl (hb.row0 1 7 (gS gZ) (by kernel_rfl))) ?_)))))
 refine sc Try.call50 ((p_U1 aB aK aH aP aQ aR aS w2).mono ?_)
 rintro e w3 ⟨he, hE⟩
 refine ⟨(vb ((aB == 8) || (aB == 9))), he.trans (by kernel_rfl), ?_⟩
 replace hs := hs.pure hE
 replace hb := hb.pure hE
 clear hE he
 refine q0 (vb ((aB == 8) || (aB == 9))) ?_
 rcases Bool.eq_false_or_eq_true ((aB == 8) || (aB == 9)) with hg1 | hg1
 ·replace h := h.1 hg1
  replace h := h H2 w3 hs
  replace hs := hs.here
  obtain ⟨v1, hv1, h⟩ := h
  refine stp (v := (vi v1)) (want1 rfl (yD 6 hg1)) (xl (Try.isAgg3 _) hv1) (stp (v := (.agg #[(vi aB), (vi aK), (vi aH), (vu aP), (vs aQ), (vi aR), (vi aS)])) (want1 rfl (yD 6 hg1)) (x_loadA (a := p1) (vs := [(vi aB), (vi aK), (vi aH), (vu aP), (vs aQ), (vi aR), (vi aS)]) (by kernel_rfl) (Try.isAgg41 _) (Try.sizeOf41 _) rfl (hb.row0 1 7 (gS gZ) (by kernel_rfl))) ?_)
  refine st_call (want1 rfl (yD 6 hg1)) (xc Try.call51) ((p_G v1 aB aK aH aP aQ aR aS w3).mono ?_)
  rintro e w4 ⟨he, hE⟩
  refine ⟨(vb (s_G v1 aB aK aH aP aQ aR aS)), he.trans (by kernel_rfl), ?_⟩
  replace hs := hs.pure hE
  replace hb := hb.pure hE
  clear hE he
  refine q1 (vb (!(s_G v1 aB aK aH aP aQ aR aS))) (want1 rfl (yD 6 hg1)) (q2 (vb (!(s_G v1 aB aK aH aP aQ aR aS))) (xT hg1) (wpL_nil (th_n ?_)))
  refine wpE_via (fun ρ wJ => ∃ b1'0 : Bool, ∃ HJ : Nat → Prop, ((!(s_G v1 aB aK aH aP aQ aR aS)) = b1'0) ∧ Hst w0 H2 w3 HJ wJ ∧ HB HJ wJ [(p2, [(vi 0), (vi 0), (vi 0), (vu 0), (vs ⟨#[]⟩), (vi 0), (vi 0)], 41), (p1, [(vi (cond b1'0 8 aB)), (vi aK), (vi aH), (vu aP), (vs aQ), (vi aR), (vi aS)], 41)] ∧ Has ρ [(2, (vp (some p1))), (3, (vp (some p2)))]) ?_ ?_
  ·skip
   refine wpE_cond (t := (!(s_G v1 aB aK aH aP aQ aR aS))) (by kernel_rfl) (fun hc2 => ?_) (fun hc2 => ?_)
   ·skip
    refine rg (q0 (vp (some p1)) (st_set (want0 rfl) (x_store (a := p1) (v := (vi 8)) (by kernel_rfl) (by kernel_rfl) rfl (Try.sizeOf3 _) (hb.canW0 1 (gS gZ) (by kernel_rfl))) ?_))
    intro w7 hn4
    have hsb : Hst w0 H2 w3 H2 w7 ∧ HB H2 w7 [(p2, [(vi 0), (vi 0), (vi 0), (vu 0), (vs ⟨#[]⟩), (vi 0), (vi 0)], 41), (p1, [(vi 8), (vi aK), (vi aH), (vu aP), (vs aQ), (vi aR), (vi aS)], 41)] := by
     rw [hn4]
     exact hb.set0 (i := 1) (v := (vi 8)) hs (gS gZ) (by kernel_rfl)
    clear hs hb hn4
    obtain ⟨hs, hb⟩ := hsb
    refine wpL_nil (th_n ?_)
    exact ⟨true, _, hc2, hs, hb, hm⟩
   ·skip
    refine wpE_skip (th_n ?_)
    exact ⟨false, _, hc2, hs, hb, hm⟩
  ·clear hs hb
   rintro ρ w6 ⟨b1'0, H3, he0, hs, hb, hH⟩
   subst he0
   refine norm_has hH ?_
   clear hH
   refine th_n (wpE_seq (rg (q2 (.agg #[(vi (cond (!(s_G v1 aB aK aH aP aQ aR aS)) 8 aB)), (vi aK), (vi aH), (vu aP), (vs aQ), (vi aR), (vi aS)]) (x_loadA (a := p1) (vs := [(vi (cond (!(s_G v1 aB aK aH aP aQ aR aS)) 8 aB)), (vi aK), (vi aH), (vu aP), (vs aQ), (vi aR), (vi aS)]) (by kernel_rfl) (Try.isAgg41 _) (Try.sizeOf41 _) rfl (hb.row0 1 7 (gS gZ) (by kernel_rfl))) (st_set (want0 rfl) (x_storeA (a := p2) (vs := [(vi (cond (!(s_G v1 aB aK aH aP aQ aR aS)) 8 aB)), (vi aK), (vi aH), (vu aP), (vs aQ), (vi aR), (vi aS)]) (by kernel_rfl) (by kernel_rfl) rfl (Try.sizeOf41 _) rfl (hb.canWs0 0 7 gZ (by kernel_rfl))) ?_))))
   intro w8 hn5
   have hsb : Hst w0 H2 w3 H3 w8 ∧ HB H3 w8 [(p2, [(vi (cond (!(s_G v1 aB aK aH aP aQ aR aS)) 8 aB)), (vi aK), (vi aH), (vu aP), (vs aQ), (vi aR), (vi aS)], 41), (p1, [(vi (cond (!(s_G v1 aB aK aH aP aQ aR aS)) 8 aB)), (vi aK), (vi aH), (vu aP), (vs aQ), (vi aR), (vi aS)], 41)] := by
    rw [hn5]
    exact hb.store0 (i := 0) (vs := [(vi (cond (!(s_G v1 aB aK aH aP aQ aR aS)) 8 aB)), (vi aK), (vi aH), (vu aP), (vs aQ), (vi aR), (vi aS)]) hs gZ (by kernel_rfl) (by kernel_rfl)
   clear hs hb hn5
   obtain ⟨hs, hb⟩ := hsb
   refine wpL_nil (th_n (wpE_ret ?_))
   replace h := h H3 w8 hs
   replace hs := hs.here
   refine resG (.inl rfl) (vs := [(.agg #[(vi (cond (!(s_G v1 aB aK aH aP aQ aR aS)) 8 aB)), (vi aK), (vi aH), (vu aP), (vs aQ), (vi aR), (vi aS)])]) (v := (.agg #[(vi (cond (!(s_G v1 aB aK aH aP aQ aR aS)) 8 aB)), (vi aK), (vi aH), (vu aP), (vs aQ), (vi aR), (vi aS)])) Try.results55 ⟨(RV.cellA (by kernel_rfl) (Try.isAgg41 _) (Try.sizeOf41 _) rfl (hb.row0 0 7 gZ (by kernel_rfl))), trivial⟩ (by kernel_rfl) ?_
   exact ⟨(cond (!(s_G v1 aB aK aH aP aQ aR aS)) 8 aB), aK, aH, aP, aQ, aR, aS, rfl, h⟩
 ·replace h := h.2 hg1
  refine sk (yD 6 hg1) (sk (yD 6 hg1) (sk (yD 6 hg1) (sk (yD 6 hg1) (q2 (vb false) (xF hg1) (wpL_nil (th_n (wpE_condF (by kernel_rfl) (wpE_skip (th_n (wpE_seq (rg ?_)))))))))))
  refine q2 (.agg #[(vi aB), (vi aK), (vi aH), (vu aP), (vs aQ), (vi aR), (vi aS)]) (x_loadA (a := p1) (vs := [(vi aB), (vi aK), (vi aH), (vu aP), (vs aQ), (vi aR), (vi aS)]) (by kernel_rfl) (Try.isAgg41 _) (Try.sizeOf41 _) rfl (hb.row0 1 7 (gS gZ) (by kernel_rfl))) (st_set (want0 rfl) (x_storeA (a := p2) (vs := [(vi aB), (vi aK), (vi aH), (vu aP), (vs aQ), (vi aR), (vi aS)]) (by kernel_rfl) (by kernel_rfl) rfl (Try.sizeOf41 _) rfl (hb.canWs0 0 7 gZ (by kernel_rfl))) ?_)
  intro w9 hn6
  have hsb : Hst w0 None w0 H2 w9 ∧ HB H2 w9 [(p2, [(vi aB), (vi aK), (vi aH), (vu aP), (vs aQ), (vi aR), (vi aS)], 41), (p1, [(vi aB), (vi aK), (vi aH), (vu aP), (vs aQ), (vi aR), (vi aS)], 41)] := by
   rw [hn6]
   exact hb.store0 (i := 0) (vs := [(vi aB), (vi aK), (vi aH), (vu aP), (vs aQ), (vi aR), (vi aS)]) hs gZ (by kernel_rfl) (by kernel_rfl)
  clear hs hb hn6
  obtain ⟨hs, hb⟩ := hsb
  refine wpL_nil (th_n (wpE_ret ?_))
  replace h := h H2 w9 hs
  replace hs := hs.here
  refine resG (.inl rfl) (vs := [(.agg #[(vi aB), (vi aK), (vi aH), (vu aP), (vs aQ), (vi aR), (vi aS)])]) (v := (.agg #[(vi aB), (vi aK), (vi aH), (vu aP), (vs aQ), (vi aR), (vi aS)])) Try.results55 ⟨(RV.cellA (by kernel_rfl) (Try.isAgg41 _) (Try.sizeOf41 _) rfl (hb.row0 0 7 gZ (by kernel_rfl))), trivial⟩ (by kernel_rfl) ?_
  exact ⟨aB, aK, aH, aP, aQ, aR, aS, rfl, h⟩
end Go.Proofs
end
section
open Go Go.SE
namespace Go.Proofs
attribute [local irreducible] Calls
def imk (v : Int) : Value := .int .i64 v
def Turned (f : Sp.Node → Sp.Node) (p : Addr) (who t : Int) (L0 : Sp.Pool) (FP : Nat → Prop) (w0 : World) (r e : Int) (w' : World) : Prop :=
 (Sp.isName who = false ∧ r = 0 ∧ e = 50 ∧ Pure w0 w') ∨ (Sp.isName who = true ∧ Sp.inP L0 t = false ∧ r = 0 ∧ e = 51 ∧ Pure w0 w') ∨
 (Sp.isName who = true ∧ Sp.inP L0 t = true ∧ e = 0 ∧ ∃ L FP', PoolAt w' p L FP' ∧ Ext FP w0 w' ∧ (∀ b, FP' b → FP b ∨ w0.heap.size ≤ b) ∧ Sp.Wf L ∧ (∃ X, L = L0 ++ X) ∧ L.length ≤ L0.length + (Sp.subs L0 t).length ∧ (L = (Sp.turnS f L0 (Sp.subs L0 t)).1 ∧ r = Sp.toF (Sp.turnS f L0 (Sp.subs L0 t)).2 t) ∧ Sp.inP L r = true ∧ Sp.treeOf L r = Sp.mapT f (Sp.treeOf L0 t))
structure TrA (w0 wb : World) (Y : Nat → Prop) (A : World) (p p2 p3 p4 p5 p8 pc : Addr) (m : Nat) (arg : Int) (cf : FuncId) (L : Sp.Pool) (FP FP' : Nat → Prop) (M : List (Int × Int)) : Prop where
 b2 : Box A p2 [.pointer (some p)] 28
 b3 : Box A p3 [.func (.func cf) #[] #[.pointer (some pc)]] 81
 b4 : Box A p4 [.int .i64 0] 23
 b5 : Box A p5 [.int .i64 0] 32
 b8 : Box A p8 [.map (some m)] 91
 mp : IMap imk A m M
 bc : Box A pc [.int .i64 arg] 3
 pool : PoolAt A p L FP'
 ext : Ext FP w0 A
 nf : ∀ b, FP' b → FP b ∨ wb.heap.size ≤ b
 vis : ∀ b, (b = p2.block ∨ b = p3.block ∨ b = p4.block ∨ b = p5.block ∨ b = p8.block ∨ b = m ∨ b = pc.block ∨ FP' b) → ¬ Y b
 le : wb.heap.size ≤ A.heap.size
section
variable {w0 wb A A' : World} {Y Y' : Nat → Prop} {p p2 p3 p4 p5 p8 pc : Addr} {m : Nat} {arg : Int} {cf : FuncId} {L : Sp.Pool} {FP FP' : Nat → Prop} {M : List (Int × Int)}
theorem TrA.hst (h : TrA w0 wb Y A p p2 p3 p4 p5 p8 pc m arg cf L FP FP' M) (hs : Hst w0 Y A Y' A') : TrA w0 wb Y' A' p p2 p3 p4 p5 p8 pc m arg cf L FP FP' M := by
 have hv : ∀ b, (b = p2.block ∨ b = p3.block ∨ b = p4.block ∨ b = p5.block ∨ b = p8.block ∨ b = m ∨ b = pc.block ∨ FP' b) → ¬ Y' b := hs.disj (fun b hb => ⟨by
  rcases hb with rfl | rfl | rfl | rfl | rfl | rfl | rfl | hb
  ·exact h.b2.lt
  ·exact h.b3.lt
  ·exact h.b4.lt
  ·exact h.b5.lt
  ·exact h.b8.lt
  ·exact h.mp.lt
  ·exact h.bc.lt
  ·exact h.pool.lt hb, h.vis b hb⟩)
 have E := hs.ext
 exact ⟨h.b2.ext E (hv _ (by simp)), h.b3.ext E (hv _ (by simp)), h.b4.ext E (hv _ (by simp)), h.b5.ext E (hv _ (by simp)), h.b8.ext E (hv _ (by simp)), h.mp.ext E (hv _ (by simp)), h.bc.ext E (hv _ (by simp)), h.pool.ext E (fun b hb => hv b (by simp [hb])), h.ext.hst hs, h.nf, hv, Nat.le_trans h.le E.size⟩
theorem TrA.pure (h : TrA w0 wb Y A p p2 p3 p4 p5 p8 pc m arg cf L FP FP' M) (E : Pure A A') : TrA w0 wb Y A' p p2 p3 p4 p5 p8 pc m arg cf L FP FP' M :=
 ⟨h.b2.pure E, h.b3.pure E, h.b4.pure E, h.b5.pure E, h.b8.pure E, h.mp.pure E, h.bc.pure E, h.pool.pure E, h.ext.thenPure E, h.nf, h.vis, Nat.le_trans h.le E.size⟩
end
theorem zero_term (w : World) : (zeroValue 23).run Try.prog w = .ok (.int .i64 0) w := Try.zeroValue23 w
theorem imap_get {w : World} {m : Nat} {M : List (Int × Int)} (h : IMap imk w m M) (a : Int) : (Instr.lookup 91 (.map (some m)) (.int .i64 a) false).run Try.prog w = .ok (.int .i64 (Sp.toF M a)) w := by
 unfold Sp.toF
 rcases h.get Try.underlying91 Try.underlying23 (zero_term w) a false with ⟨hn, hl⟩ | ⟨v, hv, hl⟩
 ·rw [hn]; exact hl
 ·rw [hv]; exact hl
theorem c_turned (f : Sp.Node → Sp.Node) (hf : Sp.Turn f) (cf : FuncId) (hcf : ∀ args w, (callFunc cf args).run Try.prog w = .ok (.enter cf args) w) (p pc : Addr) (who t : Int) (w0 : World) {L0 : Sp.Pool} {FP : Nat → Prop}
  (hturn : ∀ (w : World) (n : Sp.Node), Box w pc [.int .i64 who] 3 → Calls Try.prog cf #[.agg #[.int .i64 n.kind, .int .i64 n.frm, .int .i64 n.to, .int .u64 n.num, .string n.text, .int .i64 n.a, .int .i64 n.b], .pointer (some pc)] w (fun e w' => ∃ (k r t' u : Int) (x : ByteArray) (a b : Int), e = .returned (.agg #[.int .i64 k, .int .i64 r, .int .i64 t', .int .u64 u, .string x, .int .i64 a, .int .i64 b]) ∧ ((⟨k, r, t', u, x, a, b⟩ : Sp.Node) = f n ∧ Pure w w')))
  (hW : Sp.Wf L0) (hP : PoolAt w0 p L0 FP) (hc : Box w0 pc [.int .i64 who] 3) (hpc : ¬ FP pc.block) (hroom : 2 * L0.length ≤ 65000) :
  Calls Try.prog 42 #[.pointer (some p), .int .i64 who, .int .i64 t, .func (.func cf) #[] #[.pointer (some pc)]] w0 (fun e w' => ∃ r1 r2 : Int, e = .returned (.tuple #[.int .i64 r1, .int .i64 r2]) ∧ Turned f p who t L0 FP w0 r1 r2 w') := by
 suffices key : ∀ K : Int → Int → World → Prop, (∀ r1 r2 w', Turned f p who t L0 FP w0 r1 r2 w' → K r1 r2 w') → m_C2 (some p) who t (.func (.func cf) #[] #[.pointer (some pc)]) w0 K from
  w_C2 _ _ _ _ w0 _ (key _ (fun _ _ _ h => h))
 intro K hK
 unfold m_C2
 intro p2 w1 h1
 refine ⟨rfl, ?_⟩
 intro p3 w2 h2 p4 w3 h3 p5 w4 h4
 have E1 : Pure w0 w1 := Ext.new h1
 have E2 : Pure w1 w2 := Ext.new h2
 have E3 : Pure w2 w3 := Ext.new h3
 have E4 : Pure w3 w4 := Ext.new h4
 have s1 := h1.at_size; have s2 := h2.at_size; have s3 := h3.at_size; have s4 := h4.at_size
 have B2 := (((Box.of_new h1).pure E2).pure E3).pure E4
 have B3 := ((Box.of_new h2).pure E3).pure E4
 have B4 := (Box.of_new h3).pure E4
 have B5 := Box.of_new h4
 have l1 := (Box.of_new h1).lt; have l2 := (Box.of_new h2).lt; have l3 := (Box.of_new h3).lt; have l4 := B5.lt
 have z1 := E1.size; have z2 := E2.size; have z3 := E3.size; have z4 := E4.size
 have E04 : Pure w0 w4 := ((E1.trans E2).trans E3).trans E4
 have hcl := hc.lt
 have out : ∀ (H : Nat → Prop) (w : World) (e : Int), Pure w0 w → Box w p4 [.int .i64 0] 23 → Box w p5 [.int .i64 0] 32 → ¬ H p4.block → ¬ H p5.block → (∀ w', Pure w0 w' → K 0 e w') →
   CanW w p4 ∧ ¬ H p4.block ∧ ∀ w5 : World, w5 = w.setCell p4 (.int .i64 0) → CanW w5 p5 ∧ ¬ H p5.block ∧ ∀ w6 : World, w6 = w5.setCell p5 (.int .i64 e) → ∃ q1 : Int, w6.cell? p4 = some (.int .i64 q1) ∧ ∃ q2 : Int, w6.cell? p5 = some (.int .i64 q2) ∧ K q1 q2 w6 := by
  intro H w e E hb4 hb5 n4 n5 hk
  refine ⟨hb4.canW0 (by simp), n4, fun w5 h5 => ?_⟩
  have E5 : Ext (· = p4.block) w w5 := by rw [h5]; exact Ext.setCell p4 _
  have b4 : Box w5 p4 [.int .i64 0] 23 := by rw [h5]; exact hb4.set0
  have b5 := hb5.ext E5 (by omega)
  refine ⟨b5.canW0 (by simp), n5, fun w6 h6 => ?_⟩
  have E6 : Ext (· = p5.block) w5 w6 := by rw [h6]; exact Ext.setCell p5 _
  have b5' : Box w6 p5 [.int .i64 e] 32 := by rw [h6]; exact b5.set0
  exact ⟨0, (b4.ext E6 (by omega)).cell0, e, b5'.cell0, hk w6 ((E.own (by omega) E5).own (by omega) E6)⟩
 refine ⟨some p, B2.cell0, Br.f rfl ?_⟩
 refine ⟨fun hc1 w7 hs7 => ?_, fun hc1 w7 hs7 => ?_⟩
 ·have hn : Sp.isName who = false := by unfold Sp.isName; simp at hc1 ⊢; omega
  have E7 : Pure w4 w7 := hs7.ext
  exact out None w7 50 (E04.trans E7) (B4.pure E7) (B5.pure E7) (fun h => h) (fun h => h) (fun w' h => hK _ _ _ (.inl ⟨hn, rfl, rfl, h⟩))
 have hn : Sp.isName who = true := by unfold Sp.isName; simpa using hc1
 have E7 : Pure w4 w7 := hs7.ext
 have E07 := E04.trans E7
 refine ⟨some p, (B2.pure E7).cell0, ?_⟩
 refine (c_Node p t w7 (hP.pure E07) hW.ok).mono ?_
 rintro _ w10 ⟨k, r, t', u, x, a, b, r1, rfl, ⟨_, rfl⟩, E10⟩
 refine ⟨_, _, _, _, _, _, _, _, rfl, E10.keptP, ?_⟩
 have E710 : Pure w4 w10 := E7.trans E10
 have E010 := E07.trans E10
 have z10 := E710.size
 have hold : ∀ {H : Nat → Prop} {w : World}, Hst w0 None w10 H w → ∀ b, b < w10.heap.size → ¬ H b := fun hs b hb hh => (hs.new b hh).elim id (fun h => by omega)
 have up : ∀ {H : Nat → Prop} {w : World} {T : TypeId} {c : Addr} {vs : List Value}, Hst w0 None w10 H w → Box w4 c vs T → Box w c vs T := fun hs h => (h.pure E710).ext hs.ext (hold hs _ (by have := h.lt; omega))
 refine ⟨fun hc2 H1 w12 hs12 => ?_, fun hc2 H1 w12 hs12 => ?_⟩
 ·have hin : Sp.inP L0 t = false := by simpa using hc2
  have E12 : Pure w0 w12 := E010.hst hs12
  exact out H1 w12 51 E12 (up hs12 B4) (up hs12 B5) (hold hs12 _ (by omega)) (hold hs12 _ (by omega)) (fun w' h => hK _ _ _ (.inr (.inl ⟨hn, hin, rfl, rfl, h⟩)))
 have hin : Sp.inP L0 t = true := by simpa using hc2
 have E12 : Pure w0 w12 := E010.hst hs12
 have z12 := hs12.ext.size
 have hlt12 := hs12.lt
 intro p7 w15 h15 p8 w16 h16
 have E15 : Pure w12 w15 := Ext.new h15
 have E16 : Pure w15 w16 := Ext.new h16
 have s15 := h15.at_size; have s16 := h16.at_size
 have M7 := IMap.of_new (f := imk) h15
 have B8 := Box.of_new h16
 have l15 := M7.lt; have l16 := B8.lt; have z15 := E15.size; have z16 := E16.size
 refine ⟨B8.canW0 (by simp), fun hh => by have := hlt12 _ hh; omega, fun w17 h17 => ?_⟩
 have E17 : Ext (· = p8.block) w16 w17 := by rw [h17]; exact Ext.setCell p8 _
 have B8' : Box w17 p8 [.map (some p7.block)] 91 := by rw [h17]; exact B8.set0
 have up17 : ∀ {T : TypeId} {c : Addr} {vs : List Value}, Box w4 c vs T → Box w17 c vs T := fun h => (((up hs12 h).pure E15).pure E16).ext E17 (by have := h.lt; omega)
 have E017 : Pure w0 w17 := ((E12.trans E15).trans E16).own (by omega) E17
 have z17 := E17.size
 refine ⟨some p, (up17 B2).cell0, ?_⟩
 refine (c_Subs p t w17).mono ?_
 rintro _ w18 ⟨_, rfl, q2, q3, rfl, Bq2, Bq3, E18⟩
 refine ⟨_, rfl, E18.keptP, _, _, rfl, Try.call67, ?_⟩
 have E018 : Pure w0 w18 := E017.trans E18
 have z18 := E18.size
 have z018 := E018.size
 refine ⟨_, _, it_Subs hW (hP.pure E018) Bq2 Bq3, ?_⟩
 have hsub := fun u => Sp.subs_mem hW (t := t) (x := u)
 have hahead := Sp.subs_ahead hW t
 have hnd := Sp.subs_nd hW t
 obtain ⟨pl, hpl⟩ := Sp.subs_last hin
 have hfew := Sp.subs_few hW t
 generalize hxs : Sp.subs L0 t = xs at *
 refine ⟨fun pre Y A => ∃ L FP' M, Sp.TurnOk f L0 pre L M ∧ TrA w0 w18 Y A p p2 p3 p4 p5 p8 pc p7.block who cf L FP FP' M, fun _ _ _ => False, ⟨fun _ _ _ _ => trivial, ?_, fun _ _ _ _ _ h => h.elim, fun _ _ _ _ _ h => h.elim⟩, ?_, ?_, ?_⟩
 ·rintro pre Y A Y' A' ⟨L, FP', M, h1, h2⟩ hs
  exact ⟨L, FP', M, h1, h2.hst hs⟩
 ·refine ⟨L0, FP, [], .start hW, (up17 B2).pure E18, (up17 B3).pure E18, (up17 B4).pure E18, (up17 B5).pure E18, B8'.pure E18, ((M7.pure E16).ext E17 (by omega)).pure E18, hc.pure E018, hP.pure E018, E018.pure, fun b hb => .inl hb, ?_, Nat.le_refl _⟩
  intro b hb hh
  have hlt := hlt12 _ hh
  rcases hb with rfl | rfl | rfl | rfl | rfl | rfl | rfl | hb
  ·exact hold hs12 _ (by omega) hh
  ·exact hold hs12 _ (by omega) hh
  ·exact hold hs12 _ (by omega) hh
  ·exact hold hs12 _ (by omega) hh
  ·omega
  ·omega
  ·exact hold hs12 _ (by have := E010.size; omega) hh
  ·exact hold hs12 _ (by have := hP.lt hb; have := E010.size; omega) hh
 ·-- one part
  rintro pre z Y A ⟨L, FP', M, hT, hA⟩ hsA ⟨post, hpost⟩
  have hzin : Sp.inP L0 z = true := by
   have hz := (hsub z).1 (by rw [hpost]; simp)
   exact (hz.2.le hW hz.1).1
  have hzk := hahead pre z post hpost
  have hzn : z ∉ pre := fun h => by
   rw [hpost] at hnd
   exact (List.nodup_append.1 hnd).2.2 z h z (by simp) rfl
  have hzL : Sp.inP L z = true := by obtain ⟨X, hX⟩ := hT.ext; rw [hX]; exact Sp.inP_app hzin
  have hnz : Sp.nodeOf L z = Sp.nodeOf L0 z := by obtain ⟨X, hX⟩ := hT.ext; rw [hX]; exact Sp.nodeOf_app hzin
  have hprelen : pre.length < xs.length := by rw [hpost]; simp
  refine ⟨some p, hA.b2.cell0, ?_⟩
  refine (c_Node p z A hA.pool hT.wf.ok).mono ?_
  rintro _ w19 ⟨k, r, t', u, x, a, b, r3, rfl, ⟨hnode, _⟩, E19⟩
  refine ⟨_, _, _, _, _, _, _, _, rfl, E19.keptP, ?_⟩
  rw [hnz] at hnode
  have A19 := hA.pure E19
  intro p9 w20 h20
  have E20 : Pure w19 w20 := Ext.new h20
  have A20 := A19.pure E20
  have s20 := h20.at_size
  have zA := hA.le
  have z19 := E19.size
  have z20 := E20.size
  have hne9 : ∀ b, b < A.heap.size → b ≠ p9.block := fun b hb => by omega
  have hYlt := hsA.lt
  refine ⟨(Box.of_new h20).canWs (by decide), fun h => h, fun w21 h21 => ?_⟩
  have c9 : Box w21 p9 [.int .i64 k, .int .i64 r, .int .i64 t', .int .u64 u, .string x, .int .i64 a, .int .i64 b] 41 := by rw [h21]; exact (Box.of_new h20).store rfl
  have E21 : Ext (· = p9.block) w20 w21 := by rw [h21]; exact Ext.storeRow _ _ _
  have side : ∀ {w w' : World} {L' : Sp.Pool} {F' : Nat → Prop} {M' : List (Int × Int)}, A.heap.size ≤ w.heap.size → TrA w0 w18 Y w p p2 p3 p4 p5 p8 pc p7.block who cf L' FP F' M' → (∀ b, F' b → b ≠ p9.block) → Ext (· = p9.block) w w' → TrA w0 w18 Y w' p p2 p3 p4 p5 p8 pc p7.block who cf L' FP F' M' := by
   intro w w' L' F' M' hz h hF E
   have b2lt := hA.b2.lt; have b3lt := hA.b3.lt; have b4lt := hA.b4.lt; have b5lt := hA.b5.lt; have b8lt := hA.b8.lt; have mlt := hA.mp.lt; have bclt := hA.bc.lt
   exact ⟨h.b2.ext E (by omega), h.b3.ext E (by omega), h.b4.ext E (by omega), h.b5.ext E (by omega), h.b8.ext E (by omega), h.mp.ext E (by omega), h.bc.ext E (by omega), h.pool.ext E hF, h.ext.trans' E (fun i hi e => by omega), h.nf, h.vis, Nat.le_trans h.le E.size⟩
  have hF9 : ∀ b, FP' b → b ≠ p9.block := fun b hb => by have := hA.pool.lt hb; omega
  have A21 := side (by omega) A20 hF9 E21
  have A22 := A21.pure (Ext.drew w21)
  have c9d := c9.pure (Ext.drew w21)
  refine ⟨fun w' => Box w' p8 [.map (some p7.block)] 91 ∧ IMap imk w' p7.block M, ⟨A22.b8, A22.mp⟩, fun w22 hw22 => ?_⟩
  subst hw22
  refine ⟨some p7.block, A22.b8.cell0, _, c9d.cell rfl, _, imap_get A22.mp _, some p7.block, fun w' hw' => hw'.1.cell0, _, c9d.cell rfl, _, fun w' hw' => imap_get hw'.2 _, ?_⟩
  refine ⟨c9d.canW (by simp), fun h => h, fun w23 h23 => ?_⟩
  have E23 : Ext (· = p9.block) w21.drew w23 := by rw [h23]; have := Ext.setCell (w := w21.drew) (p9.add 5) (.int .i64 (Sp.toF M a)); rwa [add_block] at this
  have c23 := c9d.set 5 (.int .i64 (Sp.toF M a))
  rw [← h23] at c23
  have A23 := side (by have := E21.size; show A.heap.size ≤ w21.heap.size; omega) A22 hF9 E23
  refine ⟨⟨A23.b8, A23.mp⟩, c23.canW (by simp), fun h => h, fun w24 h24 => ?_⟩
  have E24 : Ext (· = p9.block) w23 w24 := by rw [h24]; have := Ext.setCell (w := w23) (p9.add 6) (.int .i64 (Sp.toF M b)); rwa [add_block] at this
  have c24 := c23.set 6 (.int .i64 (Sp.toF M b))
  rw [← h24] at c24
  have A24 := side (by have := E21.size; have := E23.size; have : w21.drew.heap.size = w21.heap.size := rfl; omega) A23 hF9 E24
  have A25 := A24.pure (Ext.drew w24)
  have c25 := c24.pure (Ext.drew w24)
  refine ⟨fun w' => Box w' p2 [.pointer (some p)] 28, A25.b2, fun w25 hw25 => ?_⟩
  subst hw25
  refine ⟨some p, fun w' hw' => hw'.cell0, _, A25.b3.cell0, _, _, _, _, _, _, _, c25.row, cf, #[], #[.pointer (some pc)], rfl, hcf, ?_⟩
  have hzk0 : ∀ w', Pure w24.drew w' → A.heap.size ≤ w'.heap.size := fun w' h => by
   have := E21.size; have := E23.size; have := E24.size; have := h.size; have : w21.drew.heap.size = w21.heap.size := rfl; have : w24.drew.heap.size = w24.heap.size := rfl; omega
  refine (hturn w24.drew ⟨k, r, t', u, x, Sp.toF M a, Sp.toF M b⟩ A25.bc).mono ?_
  rintro _ w26 ⟨k3, r3', t3, u3, x3, a3, b3, rfl, hn3, E26⟩
  have A26 := A25.pure E26
  refine ⟨_, _, _, _, _, _, _, rfl, A26.b2, E26.keptP, ?_⟩
  refine (c_Make p k3 r3' t3 u3 x3 a3 b3 w26 A26.pool hT.wf.ok).mono ?_
  rintro _ w27 ⟨r4, r5, rfl, hm, FP2, P27, X27, f27⟩
  have hnode2 : ({ Sp.nodeOf L0 z with a := Sp.toF M (Sp.nodeOf L0 z).a, b := Sp.toF M (Sp.nodeOf L0 z).b } : Sp.Node) = ⟨k, r, t', u, x, Sp.toF M a, Sp.toF M b⟩ := by rw [← hnode]
  have hst := hT.step hf hW hzin hzn hzk (by have := hT.few; omega)
  rw [hnode2, ← hn3] at hst
  obtain ⟨hst0, hst1⟩ := hst
  generalize hmk : Sp.make L ⟨k3, r3', t3, u3, x3, a3, b3⟩ = mk at *
  obtain ⟨v, e0, L'⟩ := mk
  simp only [Prod.mk.injEq] at hm
  obtain ⟨rfl, rfl⟩ := hm
  simp only at hst0 hst1 P27
  subst hst0
  have hvis : ∀ b, FP' b → ¬ Y b := fun b hb => hA.vis b (by simp [hb])
  have g2 : ¬ FP' p2.block := fun hb => (hA.nf _ hb).elim (fun h => by have := hP.lt h; omega) (fun h => by omega)
  have g3 : ¬ FP' p3.block := fun hb => (hA.nf _ hb).elim (fun h => by have := hP.lt h; omega) (fun h => by omega)
  have g4 : ¬ FP' p4.block := fun hb => (hA.nf _ hb).elim (fun h => by have := hP.lt h; omega) (fun h => by omega)
  have g5 : ¬ FP' p5.block := fun hb => (hA.nf _ hb).elim (fun h => by have := hP.lt h; omega) (fun h => by omega)
  have g8 : ¬ FP' p8.block := fun hb => (hA.nf _ hb).elim (fun h => by have := hP.lt h; omega) (fun h => by omega)
  have gm : ¬ FP' p7.block := fun hb => (hA.nf _ hb).elim (fun h => by have := hP.lt h; omega) (fun h => by omega)
  have gc : ¬ FP' pc.block := fun hb => (hA.nf _ hb).elim hpc (fun h => by omega)
  have z26 := hzk0 w26 E26
  have B27 := A26.b2.ext X27 g2
  have A27 : TrA w0 w18 Y w27 p p2 p3 p4 p5 p8 pc p7.block who cf L' FP FP2 M :=
   ⟨B27, A26.b3.ext X27 g3, A26.b4.ext X27 g4, A26.b5.ext X27 g5, A26.b8.ext X27 g8, A26.mp.ext X27 gm, A26.bc.ext X27 gc, P27, A26.ext.trans' X27 (fun i hi hb => (hA.nf i hb).elim id (fun h => by omega)), fun b hb => (f27 b hb).elim (fun h => hA.nf b h) (fun h => .inr (by omega)), fun b hb hY => by
    rcases hb with hb | hb | hb | hb | hb | hb | hb | hb
    ·exact hA.vis b (by simp [hb]) hY
    ·exact hA.vis b (by simp [hb]) hY
    ·exact hA.vis b (by simp [hb]) hY
    ·exact hA.vis b (by simp [hb]) hY
    ·exact hA.vis b (by simp [hb]) hY
    ·exact hA.vis b (by simp [hb]) hY
    ·exact hA.vis b (by simp [hb]) hY
    ·exact (f27 b hb).elim (fun h => hvis b h hY) (fun h => by have := hYlt b hY; omega), by have := X27.size; omega⟩
  refine ⟨_, _, rfl, B27, Kept.mono (X27.kept (H := None) (fun b h => h.elim)) (fun b h => h), Br.f rfl ?_⟩
  have hlk : SE.look M z = none := SE.look_none.2 (by rw [hT.keys]; exact hzn)
  obtain ⟨w30, hu, M30, E30⟩ := A27.mp.put (P := Try.prog) Try.underlying91 Try.underlying23 hlk r4
  refine ⟨some p7.block, A27.b8.cell0, w30, hu, E30.kept (H := None) (fun b h => h.elim), ?_, ?_⟩
  ·-- what the iterator hides was kept
   have XX : Ext (fun b => b = p9.block ∨ FP' b ∨ b = p7.block) A w30 := by
    have x1 : Ext (fun b => b = p9.block ∨ FP' b ∨ b = p7.block) A w20 := (E19.trans E20).pure
    have x2 := x1.trans (E21.mono (fun b _ h => .inl h))
    have x3 := (x2.thenPure (Ext.drew w21)).trans (E23.mono (fun b _ h => .inl h))
    have x4 := x3.trans (E24.mono (fun b _ h => .inl h))
    have x5 := (x4.thenPure (Ext.drew w24)).thenPure E26
    exact (x5.trans (X27.mono (fun b _ h => .inr (.inl h)))).trans (E30.mono (fun b _ h => .inr (.inr h)))
   refine XX.kept (fun b hY hb => ?_)
   rcases hb with hb | hb | hb
   ·have := hYlt b hY; omega
   ·exact hvis b hb hY
   ·exact hA.vis b (by simp [hb]) hY
  ·have n7 : ∀ b, FP2 b → b ≠ p7.block := fun b hb e => by
    subst e
    exact (f27 _ hb).elim gm (fun h => by omega)
   have b2lt := hA.b2.lt; have b3lt := hA.b3.lt; have b4lt := hA.b4.lt; have b5lt := hA.b5.lt; have b8lt := hA.b8.lt; have bclt := hA.bc.lt
   refine ⟨L', FP2, M ++ [(z, r4)], hst1, A27.b2.ext E30 (by omega), A27.b3.ext E30 (by omega), A27.b4.ext E30 (by omega), A27.b5.ext E30 (by omega), A27.b8.ext E30 (by omega), M30, A27.bc.ext E30 (by omega), A27.pool.ext E30 n7, A27.ext.trans' E30 (fun i hi e => by omega), A27.nf, A27.vis, Nat.le_trans A27.le E30.size⟩
 ·refine ⟨?_, fun _ _ _ _ h => h.elim⟩
  rintro H2 w31 hs31 hsub2 hk31 ⟨L, FP', M, hT, hA⟩
  refine ⟨some p7.block, hA.b8.cell0, _, imap_get hA.mp _, hA.b4.canW0 (by simp), hA.vis _ (by simp), fun w32 h32 => ?_⟩
  have E32 : Ext (· = p4.block) w31 w32 := by rw [h32]; exact Ext.setCell p4 _
  have b4 : Box w32 p4 [.int .i64 (Sp.toF M t)] 23 := by rw [h32]; exact hA.b4.set0
  have b5 := hA.b5.ext E32 (by omega)
  refine ⟨b5.canW0 (by simp), hA.vis _ (by simp), fun w33 h33 => ?_⟩
  have E33 : Ext (· = p5.block) w32 w33 := by rw [h33]; exact Ext.setCell p5 _
  have b5' : Box w33 p5 [.int .i64 0] 32 := by rw [h33]; exact b5.set0
  intro w34 hs34
  have n4 : ¬ H2 p4.block := hA.vis _ (by simp)
  have n5 : ¬ H2 p5.block := hA.vis _ (by simp)
  have hF4 : ∀ b, FP' b → b ≠ p4.block ∧ b ≠ p5.block := fun b hb => (hA.nf b hb).elim (fun h => by have := hP.lt h; omega) (fun h => by omega)
  have hP34 : PoolAt w34 p L FP' := ((hA.pool.ext E32 (fun b hb => (hF4 b hb).1)).ext E33 (fun b hb => (hF4 b hb).2)).ext hs34.ext (fun b hb => hA.vis b (by simp [hb]))
  have E34 : Ext FP w0 w34 := ((hA.ext.trans' E32 (fun i hi e => by omega)).trans' E33 (fun i hi e => by omega)).hst hs34
  refine ⟨_, ((b4.ext E33 (by omega)).ext hs34.ext n4).cell0, _, (b5'.ext hs34.ext n5).cell0, ?_⟩
  have htm := hT.toF (u := t) (by rw [hpl]; simp)
  obtain ⟨v1, v2, _, _⟩ := hT.val _ _ htm
  exact hK _ _ _ (.inr (.inr ⟨hn, hin, rfl, L, FP', hP34, E34, fun b hb => (hA.nf b hb).imp_right (fun h => by omega), hT.wf, hT.ext, by rw [hxs]; exact hT.few, by rw [hxs, ← hT.run]; exact ⟨rfl, rfl⟩, v1, v2⟩))
end Go.Proofs
end
