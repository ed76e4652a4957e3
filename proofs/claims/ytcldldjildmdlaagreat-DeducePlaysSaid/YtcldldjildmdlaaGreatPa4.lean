import Derived.Test.YtcldldjildmdlaaGreatProg
import Derived.KernelRfl
import Derived.Test.YtcldldjildmdlaaGreatPa2
import Derived.IntWalk
import Derived.Test.YtcldldjildmdlaaGreatPa3
section
open Go Go.SE
open Go.IntKind renaming i64 → q6
namespace Go.Proofs
set_option maxRecDepth 100000
set_option maxHeartbeats 4000000
attribute [local irreducible] wpL wpX opE wpE Calls
def m_N2  (w : World) (K : (Option Addr) → WP) : Prop :=
 ∀ (p1 : Addr) (w1 : World), New w (.map #[] 0) p1 w1 →
 ∀ (p2 : Addr) (w2 : World), New w1 (.cells #[Sl.nil.v, (.map (some p1.block))] 94) p2 w2 →
 K (some p2) w2
theorem w_N2  (w : World) (K : (Option Addr) → WP) (h : m_N2  w K) :
  Calls Tryz.prog 27 #[] w (fun e w' => ∃ r1 : Option Addr, e = .returned (vp r1) ∧ K r1 w') := by
 unfold m_N2 at h
 refine cw (args := []) Tryz.func27 Tryz.ntmps27 (wpE_seq (rg (q0 (vp none) (wpL_nil (th_n (wpE_seq (rg (st_new (O := (.map #[] 0)) (fun p => .map (some p.block)) (want0 rfl) (by kernel_rfl) ?_))))))))
 intro p1 w1 hn2
 have h := h p1 w1 hn2
 refine q0 (.agg #[Sl.nil.v, (.map (some p1.block))]) (sn (O := (.cells #[Sl.nil.v, (.map (some p1.block))] 94)) xb ?_)
 intro p2 w2 hn1
 have h := h p2 w2 hn1
 refine q0 (vp (some p2)) (wpL_nil (th_n (wpE_ret (rs1 Tryz.results27 (v := (vp (some p2))) ?_))))
 exact ⟨(some p2), rfl, h⟩
def m_O2 (p1 : Option Addr) (n1 : Int) (w : World) (K : Int → Int → WP) : Prop :=
 Calls Tryz.prog 66 #[(vp p1), (.agg #[(vi 1), (vi n1), (vi 0), (vu 0), (vs ⟨#[]⟩), (vi 0), (vi 0)])] w (fun e w1 => ∃ r1 r2 : Int, e = .returned (.tuple #[(vi r1), (vi r2)]) ∧ 
  K r1 r2 w1)
theorem w_O2 (p1 : Option Addr) (n1 : Int) (w : World) (K : Int → Int → WP) (h : m_O2 p1 n1 w K) :
  Calls Tryz.prog 28 #[(vp p1), (vi n1)] w (fun e w' => ∃ r3 r4 : Int, e = .returned (.tuple #[(vi r3), (vi r4)]) ∧ K r3 r4 w') := by
 unfold m_O2 at h
 refine cw (args := [(vp p1), (vi n1)]) Tryz.func28 Tryz.ntmps28 (wpE_seq (rg (q0 (vi 0) (q0 (vi 0) (wpL_nil (th_n (wpE_seq (rg (q0 (vp p1) (q0 (vi n1) (q0 (.agg #[(vi 1), (vi n1), (vi 0), (vu 0), (vs ⟨#[]⟩), (vi 0), (vi 0)]) ?_)))))))))))
 refine sc Tryz.call66 (h.mono ?_)
 rintro e w1 ⟨r1, r2, rfl, h⟩
 refine ⟨_, rfl, ?_⟩
 refine q0 (vi r1) (q0 (vi r2) (q0 (vi r1) (q0 (vi r2) (wpL_nil (th_n (wpE_ret (res2 (.inl rfl) Tryz.results28 (v := (vi r1)) (by kernel_rfl) (v' := (vi r2)) (by kernel_rfl) ?_)))))))
 exact ⟨r1, r2, rfl, h⟩
def m_P2 (p1 : Option Addr) (a1 b1 : Int) (w : World) (K : Int → Int → WP) : Prop :=
 Calls Tryz.prog 66 #[(vp p1), (.agg #[(vi 4), (vi 0), (vi 0), (vu 0), (vs ⟨#[]⟩), (vi a1), (vi b1)])] w (fun e w1 => ∃ r1 r2 : Int, e = .returned (.tuple #[(vi r1), (vi r2)]) ∧ 
  K r1 r2 w1)
theorem w_P2 (p1 : Option Addr) (a1 b1 : Int) (w : World) (K : Int → Int → WP) (h : m_P2 p1 a1 b1 w K) :
  Calls Tryz.prog 29 #[(vp p1), (vi a1), (vi b1)] w (fun e w' => ∃ r3 r4 : Int, e = .returned (.tuple #[(vi r3), (vi r4)]) ∧ K r3 r4 w') := by
 unfold m_P2 at h
 refine cw (args := [(vp p1), (vi a1), (vi b1)]) Tryz.func29 Tryz.ntmps29 (wpE_seq (rg (q0 (vi 0) (q0 (vi 0) (wpL_nil (th_n (wpE_seq (rg (q0 (vp p1) (q0 (vi a1) (q0 (vi b1) ?_)))))))))))
 refine q0 (.agg #[(vi 4), (vi 0), (vi 0), (vu 0), (vs ⟨#[]⟩), (vi a1), (vi b1)]) ?_
 refine sc Tryz.call66 (h.mono ?_)
 rintro e w1 ⟨r1, r2, rfl, h⟩
 refine ⟨_, rfl, ?_⟩
 refine q0 (vi r1) (q0 (vi r2) (q0 (vi r1) (q0 (vi r2) (wpL_nil (th_n (wpE_ret (res2 (.inl rfl) Tryz.results29 (v := (vi r1)) (by kernel_rfl) (v' := (vi r2)) (by kernel_rfl) ?_)))))))
 exact ⟨r1, r2, rfl, h⟩
def m_Y1 (p1 : Option Addr) (bA bB : Int) (bC bD : Int) (bE : ByteArray) (bF : Sl) (w : World) (K : Int → Int → WP) : Prop :=
 ∀ (p2 : Addr) (w1 : World), New w (.cells #[(vi bA), (vi bB), (vi bC), (vu bD), (vs bE), bF.v] 49) p2 w1 →
 Br (Option.isNone p1)
  (K 0 0 w1)
  (∀ (p3 : Addr) (w2 : World), New w1 (.cells #[(vi 0)] 3) p3 w2 →
  CanW w2 p3 ∧ ∀ w3 : World, w3 = w2.setCell p3 (vi 0) →
  ∃ aA aB : Int, ∃ aC aD : Int, ∃ aE : ByteArray, ∃ bG : Sl, Row w3 p2 [(vi aA), (vi aB), (vi aC), (vu aD), (vs aE), bG.v] ∧
  Calls Tryz.prog 68 #[(.agg #[(vi aA), (vi aB), (vi aC), (vu aD), (vs aE), bG.v]), (vi 0), (vp (some p3))] w3 (fun e w4 => ∃ r1 : Int, e = .returned (vi r1) ∧ 
   Br (r1 != 0)
    (K 0 r1 w4)
    (∃ a1 : Addr, p1 = some a1 ∧
    ∃ v1 : Sl, w4.cell? a1 = some v1.v ∧
    ∃ aO aP : Int, ∃ aQ aR : Int, ∃ aS : ByteArray, ∃ bR : Sl, Row w4 p2 [(vi aO), (vi aP), (vi aQ), (vu aR), (vs aS), bR.v] ∧
    Calls Tryz.prog 69 #[(vp p1), (.agg #[(vi aO), (vi aP), (vi aQ), (vu aR), (vs aS), bR.v])] w4 (fun e w5 => ∃ r2 r3 : Int, e = .returned (.tuple #[(vi r2), (vi r3)]) ∧ 
     Br (r3 != 0)
      (Calls Tryz.prog 70 #[(vp p1), (vi (v1.len : Int))] w5 (fun e w6 => e = .returned (.tuple #[]) ∧ 
       K 0 r3 w6))
      (K r2 0 w5)))))
theorem w_Y1 (p1 : Option Addr) (bA bB : Int) (bC bD : Int) (bE : ByteArray) (bF : Sl) (w : World) (K : Int → Int → WP) (h : m_Y1 p1 bA bB bC bD bE bF w K) :
  Calls Tryz.prog 32 #[(vp p1), (.agg #[(vi bA), (vi bB), (vi bC), (vu bD), (vs bE), bF.v])] w (fun e w' => ∃ r4 r5 : Int, e = .returned (.tuple #[(vi r4), (vi r5)]) ∧ K r4 r5 w') := by
 unfold m_Y1 at h
 refine cw (args := [(vp p1), (.agg #[(vi bA), (vi bB), (vi bC), (vu bD), (vs bE), bF.v])]) Tryz.func32 Tryz.ntmps32 (wpE_seq (rg (sn (O := (.cells #[(vi bA), (vi bB), (vi bC), (vu bD), (vs bE), bF.v] 49)) xb ?_)))
 intro p2 w1 hn3
 have h := h p2 w1 hn3
 refine q0 (vi 0) (q0 (vi 0) (wpL_nil (th_n (wpE_seq (wpE_seq (rg (q0 (vp p1) (q2 (vb (Option.isNone p1)) (x_ptreq (by kernel_rfl) rfl Tryz.underlying26) (wpL_nil (th_n ?_))))))))))
 refine wpE_cond (t := (Option.isNone p1)) (by kernel_rfl) (fun hc1 => ?_) (fun hc1 => ?_)
 ·have h := h.1 hc1
  refine wpE_seq (rg (q0 (vi 0) (q0 (vi 0) (wpL_nil (th_n (wpE_ret (th_r (res2 (.inl rfl) Tryz.results32 (v := (vi 0)) (by kernel_rfl) (v' := (vi 0)) (by kernel_rfl) ?_))))))))
  exact ⟨0, 0, rfl, h⟩
 ·have h := h.2 hc1
  refine wpE_skip (th_n (wpE_seq (rg (sn (O := (.cells #[(vi 0)] 3)) (x_alloc (Tryz.zeroValue3 _) rfl) ?_))))
  intro p3 w2 hn2
  have h := h p3 w2 hn2
  obtain ⟨hp1, h⟩ := h
  refine st_set (want0 rfl) (x_store (a := p3) (v := (vi 0)) (by kernel_rfl) (by kernel_rfl) rfl (Tryz.sizeOf3 _) hp1) ?_
  intro w3 hn1
  have h := h w3 hn1
  refine wpL_nil (th_n (wpE_seq (wpE_seq (rg ?_))))
  obtain ⟨aA, aB, aC, aD, aE, bG, hv3, h⟩ := h
  refine q2 (.agg #[(vi aA), (vi aB), (vi aC), (vu aD), (vs aE), bG.v]) (x_loadA (a := p2) (vs := [(vi aA), (vi aB), (vi aC), (vu aD), (vs aE), bG.v]) (by kernel_rfl) (Tryz.isAgg49 _) (Tryz.sizeOf49 _) rfl hv3) ?_
  refine sc Tryz.call68 (h.mono ?_)
  rintro e w4 ⟨r1, rfl, h⟩
  refine ⟨_, rfl, ?_⟩
  refine q0 (vi r1) (wpL_nil (th_n (wpE_seq (rg (q0 (vi r1) (q0 (vb (r1 != 0)) (wpL_nil (th_n ?_))))))))
  refine wpE_cond (t := (r1 != 0)) (by kernel_rfl) (fun hc2 => ?_) (fun hc2 => ?_)
  ·have h := h.1 hc2
   refine wpE_seq (rg (q0 (vi r1) (q0 (vi 0) (q0 (vi r1) (wpL_nil (th_n (wpE_ret (th_r (res2 (.inl rfl) Tryz.results32 (v := (vi 0)) (by kernel_rfl) (v' := (vi r1)) (by kernel_rfl) ?_)))))))))
   exact ⟨0, r1, rfl, h⟩
  ·have h := h.2 hc2
   refine wpE_skip (th_n (wpE_seq (rg (q0 (vp p1) ?_))))
   obtain ⟨a1, hp2, h⟩ := h
   refine q2 (vp (some a1)) (x_nilCheck (p := p1) (by kernel_rfl) hp2) (q0 (vp (some a1)) ?_)
   obtain ⟨v1, hv2, h⟩ := h
   refine q2 v1.v (xl (Tryz.isAgg91 _) hv2) (q0 (vi (v1.len : Int)) (q0 (vi (v1.len : Int)) (wpL_nil (th_n (wpE_seq (rg (q0 (vp p1) ?_)))))))
   obtain ⟨aO, aP, aQ, aR, aS, bR, hv1, h⟩ := h
   refine q2 (.agg #[(vi aO), (vi aP), (vi aQ), (vu aR), (vs aS), bR.v]) (x_loadA (a := p2) (vs := [(vi aO), (vi aP), (vi aQ), (vu aR), (vs aS), bR.v]) (by kernel_rfl) (Tryz.isAgg49 _) (Tryz.sizeOf49 _) rfl hv1) ?_
   refine sc Tryz.call69 (h.mono ?_)
   rintro e w5 ⟨r2, r3, rfl, h⟩
   refine ⟨_, rfl, ?_⟩
   refine q0 (.tuple #[(vi r2), (vi r3)]) (q0 (vi r2) (q0 (vi r3) (q0 (vi r2) (q0 (vi r3) (wpL_nil (th_n (wpE_seq (wpE_seq (rg (q0 (vi r3) (q0 (vb (r3 != 0)) ?_)))))))))))
   refine wpL_nil (th_n ?_)
   refine wpE_cond (t := (r3 != 0)) (by kernel_rfl) (fun hc3 => ?_) (fun hc3 => ?_)
   ·have h := h.1 hc3
    refine wpE_seq (rg (q0 (vp p1) (q0 (vi (v1.len : Int)) ?_)))
    refine sc Tryz.call70 (h.mono ?_)
    rintro e w6 ⟨rfl, h⟩
    refine ⟨_, rfl, ?_⟩
    refine wpL_nil (th_n (wpE_seq (rg (q0 (vi r3) (q0 (vi 0) (q0 (vi r3) (wpL_nil (th_n (wpE_ret (th_r (res2 (.inl rfl) Tryz.results32 (v := (vi 0)) (by kernel_rfl) (v' := (vi r3)) (by kernel_rfl) ?_)))))))))))
    exact ⟨0, r3, rfl, h⟩
   ·have h := h.2 hc3
    refine wpE_skip (th_n (wpE_seq (rg (q0 (vi r2) (q0 (vi r2) (q0 (vi 0) (wpL_nil (th_n (wpE_ret (res2 (.inl rfl) Tryz.results32 (v := (vi r2)) (by kernel_rfl) (v' := (vi 0)) (by kernel_rfl) ?_))))))))))
    exact ⟨r2, 0, rfl, h⟩
def m_Q2 (p1 : Option Addr) (t1 : Int) (w : World) (K : Int → Int → Int → Int → ByteArray → Int → Int → Bool → WP) : Prop :=
 ∀ (p2 : Addr) (w1 : World), New w (.cells #[(vi 0), (vi 0), (vi 0), (vu 0), (vs ⟨#[]⟩), (vi 0), (vi 0)] 86) p2 w1 →
 Calls Tryz.prog 80 #[(vp p1), (vi t1)] w1 (fun e w2 => ∃ r1 : Bool, e = .returned (vb r1) ∧ 
  Br (!r1)
   ((∀ j, j < 7 → CanW w2 (p2.add j)) ∧ ∀ w3 : World, w3 = storeRow w2 p2 [(vi 0), (vi 0), (vi 0), (vu 0), (vs ⟨#[]⟩), (vi 0), (vi 0)] →
   ∃ bH bI : Int, ∃ bJ bK : Int, ∃ bL : ByteArray, ∃ cE cF : Int, Row w3 p2 [(vi bH), (vi bI), (vi bJ), (vu bK), (vs bL), (vi cE), (vi cF)] ∧
   K bH bI bJ bK bL cE cF false w3)
   (∃ a1 : Addr, p1 = some a1 ∧
   ∃ v1 : Sl, w2.cell? a1 = some v1.v ∧
   ∃ a2 : Addr, At v1 (q6.wrap (t1 - 1)) 9 a2 ∧
   ∃ aA aB : Int, ∃ aC aD : Int, ∃ aE : ByteArray, ∃ aF aG : Int, Row w2 a2 [(vi aA), (vi aB), (vi aC), (vu aD), (vs aE), (vi aF), (vi aG)] ∧
   (∀ j, j < 7 → CanW w2 (p2.add j)) ∧ ∀ w4 : World, w4 = storeRow w2 p2 [(vi aA), (vi aB), (vi aC), (vu aD), (vs aE), (vi aF), (vi aG)] →
   ∃ bZ cA : Int, ∃ cB cC : Int, ∃ cD : ByteArray, ∃ cK cL : Int, Row w4 p2 [(vi bZ), (vi cA), (vi cB), (vu cC), (vs cD), (vi cK), (vi cL)] ∧
   K bZ cA cB cC cD cK cL true w4))
theorem w_Q2 (p1 : Option Addr) (t1 : Int) (w : World) (K : Int → Int → Int → Int → ByteArray → Int → Int → Bool → WP) (h : m_Q2 p1 t1 w K) :
  Calls Tryz.prog 43 #[(vp p1), (vi t1)] w (fun e w' => ∃ aT aU : Int, ∃ aV aW : Int, ∃ aX : ByteArray, ∃ aY aZ : Int, ∃ r2 : Bool, e = .returned (.tuple #[(.agg #[(vi aT), (vi aU), (vi aV), (vu aW), (vs aX), (vi aY), (vi aZ)]), (vb r2)]) ∧ K aT aU aV aW aX aY aZ r2 w') := by
 unfold m_Q2 at h
 refine cw (args := [(vp p1), (vi t1)]) Tryz.func43 Tryz.ntmps43 (wpE_seq (rg (sn (O := (.cells #[(vi 0), (vi 0), (vi 0), (vu 0), (vs ⟨#[]⟩), (vi 0), (vi 0)] 86)) (x_alloc (Tryz.zeroValue86 _) rfl) ?_)))
 intro p2 w1 hn3
 have h := h p2 w1 hn3
 refine q0 (vb false) (wpL_nil (th_n (wpE_seq (wpE_seq (rg (q0 (vp p1) (q0 (vi t1) ?_)))))))
 refine sc Tryz.call80 (h.mono ?_)
 rintro e w2 ⟨r1, rfl, h⟩
 refine ⟨_, rfl, ?_⟩
 refine q0 (vb (!r1)) (wpL_nil (th_n ?_))
 refine wpE_cond (t := (!r1)) (by kernel_rfl) (fun hc1 => ?_) (fun hc1 => ?_)
 ·have h := h.1 hc1
  refine wpE_seq (rg (q0 (.agg #[(vi 0), (vi 0), (vi 0), (vu 0), (vs ⟨#[]⟩), (vi 0), (vi 0)]) ?_))
  obtain ⟨hp1, h⟩ := h
  refine st_set (want0 rfl) (x_storeA (a := p2) (vs := [(vi 0), (vi 0), (vi 0), (vu 0), (vs ⟨#[]⟩), (vi 0), (vi 0)]) (by kernel_rfl) (by kernel_rfl) rfl (Tryz.sizeOf86 _) rfl hp1) ?_
  intro w3 hn1
  have h := h w3 hn1
  refine q0 (vb false) (wpL_nil (th_n (wpE_ret (th_r ?_))))
  obtain ⟨bH, bI, bJ, bK, bL, cE, cF, hv1, h⟩ := h
  refine resG (.inl rfl) (vs := [(.agg #[(vi bH), (vi bI), (vi bJ), (vu bK), (vs bL), (vi cE), (vi cF)]), (vb false)]) (v := (.tuple #[(.agg #[(vi bH), (vi bI), (vi bJ), (vu bK), (vs bL), (vi cE), (vi cF)]), (vb false)])) Tryz.results43 ⟨(RV.cellA (by kernel_rfl) (Tryz.isAgg86 _) (Tryz.sizeOf86 _) rfl hv1), (rvT (by kernel_rfl)), trivial⟩ (by kernel_rfl) ?_
  exact ⟨bH, bI, bJ, bK, bL, cE, cF, false, rfl, h⟩
 ·have h := h.2 hc1
  refine wpE_skip (th_n (wpE_seq (rg (q0 (vp p1) ?_))))
  obtain ⟨a1, hp2, h⟩ := h
  refine q2 (vp (some a1)) (x_nilCheck (p := p1) (by kernel_rfl) hp2) (q0 (vp (some a1)) ?_)
  obtain ⟨v1, hv5, h⟩ := h
  refine q2 v1.v (xl (Tryz.isAgg91 _) hv5) (q0 (vi t1) (q0 (vi (q6.wrap (t1 - 1))) ?_))
  obtain ⟨a2, hv4, h⟩ := h
  refine q2 (vp (some a2)) (xi (Tryz.runUnderlying91 _) (Tryz.sizeOf147 _) hv4) (q0 (vp (some a2)) ?_)
  obtain ⟨aA, aB, aC, aD, aE, aF, aG, hv3, h⟩ := h
  refine q2 (.agg #[(vi aA), (vi aB), (vi aC), (vu aD), (vs aE), (vi aF), (vi aG)]) (x_loadA (a := a2) (vs := [(vi aA), (vi aB), (vi aC), (vu aD), (vs aE), (vi aF), (vi aG)]) (by kernel_rfl) (Tryz.isAgg86 _) (Tryz.sizeOf86 _) rfl hv3) ?_
  obtain ⟨hp3, h⟩ := h
  refine st_set (want0 rfl) (x_storeA (a := p2) (vs := [(vi aA), (vi aB), (vi aC), (vu aD), (vs aE), (vi aF), (vi aG)]) (by kernel_rfl) (by kernel_rfl) rfl (Tryz.sizeOf86 _) rfl hp3) ?_
  intro w4 hn2
  have h := h w4 hn2
  refine q0 (vb true) (wpL_nil (th_n (wpE_ret ?_)))
  obtain ⟨bZ, cA, cB, cC, cD, cK, cL, hv2, h⟩ := h
  refine resG (.inl rfl) (vs := [(.agg #[(vi bZ), (vi cA), (vi cB), (vu cC), (vs cD), (vi cK), (vi cL)]), (vb true)]) (v := (.tuple #[(.agg #[(vi bZ), (vi cA), (vi cB), (vu cC), (vs cD), (vi cK), (vi cL)]), (vb true)])) Tryz.results43 ⟨(RV.cellA (by kernel_rfl) (Tryz.isAgg86 _) (Tryz.sizeOf86 _) rfl hv2), (rvT (by kernel_rfl)), trivial⟩ (by kernel_rfl) ?_
  exact ⟨bZ, cA, cB, cC, cD, cK, cL, true, rfl, h⟩
def m_R2 (p1 : Option Addr) (n1 : Int) (w : World) (K : Int → Int → WP) : Prop :=
 Calls Tryz.prog 66 #[(vp p1), (.agg #[(vi 2), (vi 0), (vi 0), (vu n1), (vs ⟨#[]⟩), (vi 0), (vi 0)])] w (fun e w1 => ∃ r1 r2 : Int, e = .returned (.tuple #[(vi r1), (vi r2)]) ∧ 
  K r1 r2 w1)
theorem w_R2 (p1 : Option Addr) (n1 : Int) (w : World) (K : Int → Int → WP) (h : m_R2 p1 n1 w K) :
  Calls Tryz.prog 47 #[(vp p1), (vu n1)] w (fun e w' => ∃ r3 r4 : Int, e = .returned (.tuple #[(vi r3), (vi r4)]) ∧ K r3 r4 w') := by
 unfold m_R2 at h
 refine cw (args := [(vp p1), (vu n1)]) Tryz.func47 Tryz.ntmps47 (wpE_seq (rg (q0 (vi 0) (q0 (vi 0) (wpL_nil (th_n (wpE_seq (rg (q0 (vp p1) (q0 (vu n1) (q0 (.agg #[(vi 2), (vi 0), (vi 0), (vu n1), (vs ⟨#[]⟩), (vi 0), (vi 0)]) ?_)))))))))))
 refine sc Tryz.call66 (h.mono ?_)
 rintro e w1 ⟨r1, r2, rfl, h⟩
 refine ⟨_, rfl, ?_⟩
 refine q0 (vi r1) (q0 (vi r2) (q0 (vi r1) (q0 (vi r2) (wpL_nil (th_n (wpE_ret (res2 (.inl rfl) Tryz.results47 (v := (vi r1)) (by kernel_rfl) (v' := (vi r2)) (by kernel_rfl) ?_)))))))
 exact ⟨r1, r2, rfl, h⟩
def m_S2 (p1 : Option Addr) (n1 a1 : Int) (w : World) (K : Int → Int → WP) : Prop :=
 Calls Tryz.prog 66 #[(vp p1), (.agg #[(vi 7), (vi n1), (vi 0), (vu 0), (vs ⟨#[]⟩), (vi a1), (vi 0)])] w (fun e w1 => ∃ r1 r2 : Int, e = .returned (.tuple #[(vi r1), (vi r2)]) ∧ 
  K r1 r2 w1)
theorem w_S2 (p1 : Option Addr) (n1 a1 : Int) (w : World) (K : Int → Int → WP) (h : m_S2 p1 n1 a1 w K) :
  Calls Tryz.prog 48 #[(vp p1), (vi n1), (vi a1)] w (fun e w' => ∃ r3 r4 : Int, e = .returned (.tuple #[(vi r3), (vi r4)]) ∧ K r3 r4 w') := by
 unfold m_S2 at h
 refine cw (args := [(vp p1), (vi n1), (vi a1)]) Tryz.func48 Tryz.ntmps48 (wpE_seq (rg (q0 (vi 0) (q0 (vi 0) (wpL_nil (th_n (wpE_seq (rg (q0 (vp p1) (q0 (vi n1) (q0 (vi a1) ?_)))))))))))
 refine q0 (.agg #[(vi 7), (vi n1), (vi 0), (vu 0), (vs ⟨#[]⟩), (vi a1), (vi 0)]) ?_
 refine sc Tryz.call66 (h.mono ?_)
 rintro e w1 ⟨r1, r2, rfl, h⟩
 refine ⟨_, rfl, ?_⟩
 refine q0 (vi r1) (q0 (vi r2) (q0 (vi r1) (q0 (vi r2) (wpL_nil (th_n (wpE_ret (res2 (.inl rfl) Tryz.results48 (v := (vi r1)) (by kernel_rfl) (v' := (vi r2)) (by kernel_rfl) ?_)))))))
 exact ⟨r1, r2, rfl, h⟩
def m_T2 (p1 : Option Addr) (a1 : Int) (w : World) (K : Int → Int → WP) : Prop :=
 Calls Tryz.prog 66 #[(vp p1), (.agg #[(vi 5), (vi 0), (vi 0), (vu 0), (vs ⟨#[]⟩), (vi a1), (vi 0)])] w (fun e w1 => ∃ r1 r2 : Int, e = .returned (.tuple #[(vi r1), (vi r2)]) ∧ 
  K r1 r2 w1)
theorem w_T2 (p1 : Option Addr) (a1 : Int) (w : World) (K : Int → Int → WP) (h : m_T2 p1 a1 w K) :
  Calls Tryz.prog 49 #[(vp p1), (vi a1)] w (fun e w' => ∃ r3 r4 : Int, e = .returned (.tuple #[(vi r3), (vi r4)]) ∧ K r3 r4 w') := by
 unfold m_T2 at h
 refine cw (args := [(vp p1), (vi a1)]) Tryz.func49 Tryz.ntmps49 (wpE_seq (rg (q0 (vi 0) (q0 (vi 0) (wpL_nil (th_n (wpE_seq (rg (q0 (vp p1) (q0 (vi a1) (q0 (.agg #[(vi 5), (vi 0), (vi 0), (vu 0), (vs ⟨#[]⟩), (vi a1), (vi 0)]) ?_)))))))))))
 refine sc Tryz.call66 (h.mono ?_)
 rintro e w1 ⟨r1, r2, rfl, h⟩
 refine ⟨_, rfl, ?_⟩
 refine q0 (vi r1) (q0 (vi r2) (q0 (vi r1) (q0 (vi r2) (wpL_nil (th_n (wpE_ret (res2 (.inl rfl) Tryz.results49 (v := (vi r1)) (by kernel_rfl) (v' := (vi r2)) (by kernel_rfl) ?_)))))))
 exact ⟨r1, r2, rfl, h⟩
def m_U2 (p1 : Option Addr) (n1 : Int) (w : World) (K : Int → Int → WP) : Prop :=
 Calls Tryz.prog 66 #[(vp p1), (.agg #[(vi 6), (vi n1), (vi 0), (vu 0), (vs ⟨#[]⟩), (vi 0), (vi 0)])] w (fun e w1 => ∃ r1 r2 : Int, e = .returned (.tuple #[(vi r1), (vi r2)]) ∧ 
  K r1 r2 w1)
theorem w_U2 (p1 : Option Addr) (n1 : Int) (w : World) (K : Int → Int → WP) (h : m_U2 p1 n1 w K) :
  Calls Tryz.prog 50 #[(vp p1), (vi n1)] w (fun e w' => ∃ r3 r4 : Int, e = .returned (.tuple #[(vi r3), (vi r4)]) ∧ K r3 r4 w') := by
 unfold m_U2 at h
 refine cw (args := [(vp p1), (vi n1)]) Tryz.func50 Tryz.ntmps50 (wpE_seq (rg (q0 (vi 0) (q0 (vi 0) (wpL_nil (th_n (wpE_seq (rg (q0 (vp p1) (q0 (vi n1) (q0 (.agg #[(vi 6), (vi n1), (vi 0), (vu 0), (vs ⟨#[]⟩), (vi 0), (vi 0)]) ?_)))))))))))
 refine sc Tryz.call66 (h.mono ?_)
 rintro e w1 ⟨r1, r2, rfl, h⟩
 refine ⟨_, rfl, ?_⟩
 refine q0 (vi r1) (q0 (vi r2) (q0 (vi r1) (q0 (vi r2) (wpL_nil (th_n (wpE_ret (res2 (.inl rfl) Tryz.results50 (v := (vi r1)) (by kernel_rfl) (v' := (vi r2)) (by kernel_rfl) ?_)))))))
 exact ⟨r1, r2, rfl, h⟩
def m_Z1 (p1 : Option Addr) (aH aI : Int) (aJ aK : Int) (aL : ByteArray) (aM aN : Int) (w : World) (K : Int → Int → WP) : Prop :=
 ∀ (p2 : Addr) (w1 : World), New w (.cells #[(vi aH), (vi aI), (vi aJ), (vu aK), (vs aL), (vi aM), (vi aN)] 86) p2 w1 →
 Br (Option.isNone p1)
  (K 0 0 w1)
  (∃ aA aB : Int, ∃ aC aD : Int, ∃ aE : ByteArray, ∃ aF aG : Int, Row w1 p2 [(vi aA), (vi aB), (vi aC), (vu aD), (vs aE), (vi aF), (vi aG)] ∧
  Calls Tryz.prog 102 #[(vp p1), (.agg #[(vi aA), (vi aB), (vi aC), (vu aD), (vs aE), (vi aF), (vi aG)])] w1 (fun e w2 => ∃ r1 r2 r3 : Int, e = .returned (.tuple #[(vi r1), (vi r2), (vi r3)]) ∧ 
   Br (r3 != 0)
    (K 0 r3 w2)
    (∀ w3, w3 = w2.drew →
    ∃ a1 : Addr, p1 = some a1 ∧
    ∃ v1 : Option Nat, w3.cell? (a1.add 1) = some (.map v1) ∧
    ∃ aO aP : Int, ∃ aQ aR : Int, ∃ aS : ByteArray, ∃ bS bT : Int, Row w3 p2 [(vi aO), (vi aP), (vi aQ), (vu aR), (vs aS), (vi bS), (vi bT)] ∧
    ∃ v2 : Int, ∃ ok1 : Bool, (Instr.lookup 92 (.map v1) (.agg #[(vi aO), (vi aP), (vi aQ), (vu aR), (vs aS), (vi bS), (vi bT)]) true).run Tryz.prog w3 = .ok (.tuple #[(vi v2), (vb ok1)]) w3 ∧
    Br ok1
     (K v2 0 w3)
     (∃ a2 : Addr, p1 = some a2 ∧
     ∃ v3 : Sl, w3.cell? a2 = some v3.v ∧
     Br (decide ((v3.len : Int) ≥ 65536))
      (K 0 6 w3)
      (∃ C1 : WP, C1 w3.drew ∧ ∀ w4, w4 = w3.drew →
      ∃ a3 : Addr, p1 = some a3 ∧
      ∃ v4 : Sl, (∀ w', C1 w' → w'.cell? a3 = some v4.v) ∧
      ∃ bM bN : Int, ∃ bO bP : Int, ∃ bQ : ByteArray, ∃ cG cH : Int, (∀ w', C1 w' → Row w' p2 [(vi bM), (vi bN), (vi bO), (vu bP), (vs bQ), (vi cG), (vi cH)]) ∧
      ∀ (p3 : Addr) (w5 : World), New w4 (.cells #[(vi bM), (vi bN), (vi bO), (vu bP), (vs bQ), (vi cG), (vi cH), (vi r1), (vi r2)] 147) p3 w5 → C1 w5 ∧
      ∃ s1 : Sl, ∃ w6 : World, (Builtin.append_ #[91, 91] 91 #[v4.v, (Sl.mk (some p3) 1 1).v]).run Tryz.prog w5 = .ok s1.v w6 ∧ C1 w6 ∧
      ∃ a4 : Addr, p1 = some a4 ∧
      CanW w6 a4 ∧ ∀ w7 : World, w7 = w6.setCell a4 s1.v →
      ∃ a5 : Addr, p1 = some a5 ∧
      ∃ v5 : Sl, w7.cell? a5 = some v5.v ∧
      ∃ C2 : WP, C2 w7.drew ∧ ∀ w8, w8 = w7.drew →
      ∃ a6 : Addr, p1 = some a6 ∧
      ∃ v6 : Option Nat, (∀ w', C2 w' → w'.cell? (a6.add 1) = some (.map v6)) ∧
      ∃ bU bV : Int, ∃ bW bX : Int, ∃ bY : ByteArray, ∃ cS cT : Int, (∀ w', C2 w' → Row w' p2 [(vi bU), (vi bV), (vi bW), (vu bX), (vs bY), (vi cS), (vi cT)]) ∧
      ∃ w9 : World, (Instr.mapUpdate 92 (.map v6) (.agg #[(vi bU), (vi bV), (vi bW), (vu bX), (vs bY), (vi cS), (vi cT)]) (vi (v5.len : Int))).run Tryz.prog w8 = .ok () w9 ∧
      K (v5.len : Int) 0 w9)))))
theorem w_Z1 (p1 : Option Addr) (aH aI : Int) (aJ aK : Int) (aL : ByteArray) (aM aN : Int) (w : World) (K : Int → Int → WP) (h : m_Z1 p1 aH aI aJ aK aL aM aN w K) :
  Calls Tryz.prog 66 #[(vp p1), (.agg #[(vi aH), (vi aI), (vi aJ), (vu aK), (vs aL), (vi aM), (vi aN)])] w (fun e w' => ∃ r4 r5 : Int, e = .returned (.tuple #[(vi r4), (vi r5)]) ∧ K r4 r5 w') := by
 unfold m_Z1 at h
 refine cw (args := [(vp p1), (.agg #[(vi aH), (vi aI), (vi aJ), (vu aK), (vs aL), (vi aM), (vi aN)])]) Tryz.func66 Tryz.ntmps66 (wpE_seq (rg (sn (O := (.cells #[(vi aH), (vi aI), (vi aJ), (vu aK), (vs aL), (vi aM), (vi aN)] 86)) xb ?_)))
 intro p2 w1 hn3
 have h := h p2 w1 hn3
 refine q0 (vi 0) (q0 (vi 0) (wpL_nil (th_n (wpE_seq (wpE_seq (rg (q0 (vp p1) (q2 (vb (Option.isNone p1)) (x_ptreq (by kernel_rfl) rfl Tryz.underlying26) (wpL_nil (th_n ?_))))))))))
 refine wpE_cond (t := (Option.isNone p1)) (by kernel_rfl) (fun hc1 => ?_) (fun hc1 => ?_)
 ·have h := h.1 hc1
  refine wpE_seq (rg (q0 (vi 0) (q0 (vi 0) (wpL_nil (th_n (wpE_ret (th_r (res2 (.inl rfl) Tryz.results66 (v := (vi 0)) (by kernel_rfl) (v' := (vi 0)) (by kernel_rfl) ?_))))))))
  exact ⟨0, 0, rfl, h⟩
 ·have h := h.2 hc1
  refine wpE_skip (th_n (wpE_seq (rg (q0 (vp p1) ?_))))
  obtain ⟨aA, aB, aC, aD, aE, aF, aG, hv12, h⟩ := h
  refine q2 (.agg #[(vi aA), (vi aB), (vi aC), (vu aD), (vs aE), (vi aF), (vi aG)]) (x_loadA (a := p2) (vs := [(vi aA), (vi aB), (vi aC), (vu aD), (vs aE), (vi aF), (vi aG)]) (by kernel_rfl) (Tryz.isAgg86 _) (Tryz.sizeOf86 _) rfl hv12) ?_
  refine sc Tryz.call102 (h.mono ?_)
  rintro e w2 ⟨r1, r2, r3, rfl, h⟩
  refine ⟨_, rfl, ?_⟩
  refine q0 (.tuple #[(vi r1), (vi r2), (vi r3)]) (q0 (vi r1) (q0 (vi r2) (q0 (vi r3) (q0 (vi r1) (q0 (vi r2) (q0 (vi r3) (wpL_nil (th_n (wpE_seq (wpE_seq (rg ?_)))))))))))
  refine q0 (vi r3) (q0 (vb (r3 != 0)) (wpL_nil (th_n ?_)))
  refine wpE_cond (t := (r3 != 0)) (by kernel_rfl) (fun hc2 => ?_) (fun hc2 => ?_)
  ·have h := h.1 hc2
   refine wpE_seq (rg (q0 (vi r3) (q0 (vi 0) (q0 (vi r3) (wpL_nil (th_n (wpE_ret (th_r (res2 (.inl rfl) Tryz.results66 (v := (vi 0)) (by kernel_rfl) (v' := (vi r3)) (by kernel_rfl) ?_)))))))))
   exact ⟨0, r3, rfl, h⟩
  ·have h := h.2 hc2
   refine wpE_skip (th_n (wpE_seq (wpE_seq (wpE_drawnQ (by kernel_rfl) (by kernel_rfl) (by kernel_rfl) (by kernel_rfl) ?_))))
   intro w3 hw3
   have h := h w3 hw3
   refine qq 0 (vp p1) Kp0 (qg 1 ?_)
   obtain ⟨a1, hp1, h⟩ := h
   refine sxQ (v := (vp (some a1))) Kp1 (want0 rfl) rfl (x_nilCheck (p := p1) (by kernel_rfl) hp1) (qq 2 (vp (some (a1.add 1))) Kp2 (qg 3 ?_))
   obtain ⟨v1, hv11, h⟩ := h
   refine sxQ (v := (.map v1)) Kp3 (want0 rfl) rfl (xl (Tryz.isAgg92 _) hv11) (qg 4 ?_)
   obtain ⟨aO, aP, aQ, aR, aS, bS, bT, hv10, h⟩ := h
   refine sxQ (v := (.agg #[(vi aO), (vi aP), (vi aQ), (vu aR), (vs aS), (vi bS), (vi bT)])) Kp4 (want0 rfl) rfl (x_loadA (a := p2) (vs := [(vi aO), (vi aP), (vi aQ), (vu aR), (vs aS), (vi bS), (vi bT)]) (by kernel_rfl) (Tryz.isAgg86 _) (Tryz.sizeOf86 _) rfl hv10) (qg 5 ?_)
   obtain ⟨v2, ok1, hv9, h⟩ := h
   refine sxQ (v := (.tuple #[(vi v2), (vb ok1)])) Kp5 (want0 rfl) rfl (x_lookup (by kernel_rfl) (by kernel_rfl) hv9) (qq 6 (.tuple #[(vi v2), (vb ok1)]) Kp6 (qq 7 (vi v2) Kp7 (qq 8 (vb ok1) Kp8 (qq 9 (vi v2) Kp9 (qq 10 (vb ok1) (pickA (S8 (pickS (pickS pickZ)))) (wn (th_n (wpE_seq (rg (q0 (vb ok1) (wpL_nil ?_)))))))))))
   refine th_n ?_
   refine wpE_cond (t := ok1) (by kernel_rfl) (fun hc3 => ?_) (fun hc3 => ?_)
   ·have h := h.1 hc3
    refine wpE_seq (rg (q0 (vi v2) (q0 (vi v2) (q0 (vi 0) (wpL_nil (th_n (wpE_ret (th_r (res2 (.inl rfl) Tryz.results66 (v := (vi v2)) (by kernel_rfl) (v' := (vi 0)) (by kernel_rfl) ?_)))))))))
    exact ⟨v2, 0, rfl, h⟩
   ·have h := h.2 hc3
    refine wpE_skip (th_n (wpE_seq (wpE_seq (rg (q0 (vp p1) ?_)))))
    obtain ⟨a2, hp2, h⟩ := h
    refine q2 (vp (some a2)) (x_nilCheck (p := p1) (by kernel_rfl) hp2) (q0 (vp (some a2)) ?_)
    obtain ⟨v3, hv8, h⟩ := h
    refine q2 v3.v (xl (Tryz.isAgg91 _) hv8) (q0 (vi (v3.len : Int)) (q0 (vb (decide ((v3.len : Int) ≥ 65536))) (wpL_nil (th_n ?_))))
    refine wpE_cond (t := (decide ((v3.len : Int) ≥ 65536))) (by kernel_rfl) (fun hc4 => ?_) (fun hc4 => ?_)
    ·have h := h.1 hc4
     refine wpE_seq (rg (q0 (vi 0) (q0 (vi 6) (wpL_nil (th_n (wpE_ret (th_r (res2 (.inl rfl) Tryz.results66 (v := (vi 0)) (by kernel_rfl) (v' := (vi 6)) (by kernel_rfl) ?_))))))))
     exact ⟨0, 6, rfl, h⟩
    ·have h := h.2 hc4
     refine wpE_skip (th_n (wpE_seq ?_))
     obtain ⟨C1, hC, h⟩ := h
     refine wpE_drawnC C1 [9, 10, 13] [13] (by kernel_rfl) (by kernel_rfl) (by kernel_rfl) (by kernel_rfl) hC ?_
     intro w4 hw4
     have h := h w4 hw4
     refine qx 0 (vp p1) Kp0 (qx 1 (vp p1) Kp1 (qg 2 ?_))
     obtain ⟨a3, hp3, h⟩ := h
     refine sy (v := (vp (some a3))) Kp2 (fun _ _ => (x_nilCheck (p := p1) (by kernel_rfl) hp3)) (qx 3 (vp (some a3)) Kp3 (qg 4 ?_))
     obtain ⟨v4, hv7, h⟩ := h
     refine sy (v := v4.v) Kp4 (fun w' hw' => (xl (Tryz.isAgg91 _) (hv7 w' hw'))) (qg 5 ?_)
     obtain ⟨bM, bN, bO, bP, bQ, cG, cH, hv6, h⟩ := h
     refine sy (v := (.agg #[(vi bM), (vi bN), (vi bO), (vu bP), (vs bQ), (vi cG), (vi cH)])) Kp5 (fun w' hw' => (x_loadA (a := p2) (vs := [(vi bM), (vi bN), (vi bO), (vu bP), (vs bQ), (vi cG), (vi cH)]) (by kernel_rfl) (Tryz.isAgg86 _) (Tryz.sizeOf86 _) rfl (hv6 w' hw'))) (qx 6 (vi r1) Kp6 (qx 7 (vi r2) Kp7 (qx 8 (.agg #[(vi bM), (vi bN), (vi bO), (vu bP), (vs bQ), (vi cG), (vi cH), (vi r1), (vi r2)]) Kp8 (lg 9 (sl_new (O := (.cells #[(vi bM), (vi bN), (vi bO), (vu bP), (vs bQ), (vi cG), (vi cH), (vi r1), (vi r2)] 147)) (fun p => (Sl.mk (some p) 1 1).v) Kp9 (want0 rfl) (by kernel_rfl) (x_buildSlice (vs := #[(0, (.agg #[(vi bM), (vi bN), (vi bO), (vu bP), (vs bQ), (vi cG), (vi cH), (vi r1), (vi r2)]))]) (by kernel_rfl) (by kernel_rfl)) ?_)))))
     intro p3 w5 hn2
     have h := h p3 w5 hn2
     refine ⟨.inr h.1, ?_⟩
     have h := h.2
     refine lg 10 ?_
     obtain ⟨s1, w6, hv5, hC, h⟩ := h
     refine sl (v := s1.v) (pickA (S8 (pickS (pickS pickZ)))) (want0 rfl) (by kernel_rfl) (x_builtin (args := #[v4.v, (Sl.mk (some p3) 1 1).v]) (by kernel_rfl) (fun _ => rfl) hv5) (.inr hC) ?_
     refine qg 11 ?_
     obtain ⟨a4, hp4, h⟩ := h
     refine sy (v := (vp (some a4))) (pickA (S8 (pickS (pickS (pickS pickZ))))) (fun _ _ => (x_nilCheck (p := p1) (by kernel_rfl) hp4)) (qx 12 (vp (some a4)) (pickA (S8 (S4 pickZ))) (lg 13 ?_))
     obtain ⟨hp5, h⟩ := h
     refine sl_t (pickA (S8 (S4 (pickS pickZ)))) (xs (v := s1.v) (Tryz.sizeOf91 _) hp5) ?_
     intro w7 hn1
     have h := h w7 hn1
     refine ⟨.inl (by kernel_rfl), ?_⟩
     refine wn (th_n (wpE_seq (rg (q0 (vp p1) ?_))))
     obtain ⟨a5, hp6, h⟩ := h
     refine q2 (vp (some a5)) (x_nilCheck (p := p1) (by kernel_rfl) hp6) (q0 (vp (some a5)) ?_)
     obtain ⟨v5, hv4, h⟩ := h
     refine q2 v5.v (xl (Tryz.isAgg91 _) hv4) (q0 (vi (v5.len : Int)) (q0 (vi (v5.len : Int)) (wpL_nil (th_n (wpE_seq ?_)))))
     obtain ⟨C2, hC, h⟩ := h
     refine wpE_drawnC C2 [6] [6] (by kernel_rfl) (by kernel_rfl) (by kernel_rfl) (by kernel_rfl) hC ?_
     intro w8 hw8
     have h := h w8 hw8
     refine qx 0 (vp p1) Kp0 (qg 1 ?_)
     obtain ⟨a6, hp7, h⟩ := h
     refine sy (v := (vp (some a6))) Kp1 (fun _ _ => (x_nilCheck (p := p1) (by kernel_rfl) hp7)) (qx 2 (vp (some (a6.add 1))) Kp2 (qg 3 ?_))
     obtain ⟨v6, hv3, h⟩ := h
     refine sy (v := (.map v6)) Kp3 (fun w' hw' => (xl (Tryz.isAgg92 _) (hv3 w' hw'))) (qg 4 ?_)
     obtain ⟨bU, bV, bW, bX, bY, cS, cT, hv2, h⟩ := h
     refine sy (v := (.agg #[(vi bU), (vi bV), (vi bW), (vu bX), (vs bY), (vi cS), (vi cT)])) Kp4 (fun w' hw' => (x_loadA (a := p2) (vs := [(vi bU), (vi bV), (vi bW), (vu bX), (vs bY), (vi cS), (vi cT)]) (by kernel_rfl) (Tryz.isAgg86 _) (Tryz.sizeOf86 _) rfl (hv2 w' hw'))) (qx 5 (vi (v5.len : Int)) Kp5 (lg 6 ?_))
     obtain ⟨w9, hv1, h⟩ := h
     refine sl_skip Kp6 (want0 rfl) (by kernel_rfl) (x_mapUpdate (by kernel_rfl) (by kernel_rfl) (by kernel_rfl) hv1) (.inl (by kernel_rfl)) (wn (th_n (wpE_seq (rg (q0 (vi (v5.len : Int)) (q0 (vi (v5.len : Int)) (q0 (vi 0) (wpL_nil (th_n (wpE_ret (res2 (.inl rfl) Tryz.results66 (v := (vi (v5.len : Int))) (by kernel_rfl) (v' := (vi 0)) (by kernel_rfl) ?_)))))))))))
     exact ⟨(v5.len : Int), 0, rfl, h⟩
def m_M_l4 (inside1 : Int) (seen1 : Option Addr) (p1 : Addr) (e3 i1 : Int) (wl1 : World) (Kc4 : Int → Int → WP) (K : Int → WP) : Prop :=
 ∃ v2 : Sl, wl1.cell? (p1.add 5) = some v2.v ∧
 Br (decide (i1 < (v2.len : Int)))
  (Br (e3 == 0)
   (∃ v3 : Sl, wl1.cell? (p1.add 5) = some v3.v ∧
   ∃ a3 : Addr, At v3 i1 6 a3 ∧
   ∃ bM bN : Int, ∃ bO bP : Int, ∃ bQ : ByteArray, ∃ bR : Sl, Row wl1 a3 [(vi bM), (vi bN), (vi bO), (vu bP), (vs bQ), bR.v] ∧
   Calls Tryz.prog 68 #[(.agg #[(vi bM), (vi bN), (vi bO), (vu bP), (vs bQ), bR.v]), (vi (q6.wrap (inside1 + 1))), (vp seen1)] wl1 (fun e w9 => ∃ r2 : Int, e = .returned (vi r2) ∧ 
    Kc4 r2 (q6.wrap (i1 + 1)) w9))
   (K e3 wl1))
  (K e3 wl1)
def m_M_j3 (inside1 : Int) (seen1 : Option Addr) (p1 : Addr) (e2 : Int) (w : World) (K : Int → WP) : Prop :=
 ∃ (I1 : Int → Int → WP) (mu1 : Int → Int → World → Nat), I1 e2 0 w ∧
  ∀ (e3 i1 : Int) (wl1 : World), I1 e3 i1 wl1 → m_M_l4 inside1 seen1 p1 e3 i1 wl1 (fun y'0 y'1 w' => I1 y'0 y'1 w' ∧ mu1 y'0 y'1 w' < mu1 e3 i1 wl1) K
def m_M_j2 (inside1 : Int) (seen1 : Option Addr) (p1 p2 p3 : Addr) (e1 : Int) (w : World) (K : Int → WP) : Prop :=
 Br (e1 == 0)
  (∃ vfrom1 vto1 : Bool, ∃ vnum1 vtext1 : Bool, ∃ vkids1 : Int, Row w p3 [(vb vfrom1), (vb vto1), (vb vnum1), (vb vtext1), (vi vkids1)] ∧
  ∃ bU bV : Int, ∃ bW bX : Int, ∃ bY : ByteArray, ∃ bS bT : Int, Row w p2 [(vi bU), (vi bV), (vi bW), (vu bX), (vs bY), (vi bS), (vi bT)] ∧
  Calls Tryz.prog 105 #[(.agg #[(vb vfrom1), (vb vto1), (vb vnum1), (vb vtext1), (vi vkids1)]), (.agg #[(vi bU), (vi bV), (vi bW), (vu bX), (vs bY), (vi bS), (vi bT)])] w (fun e w10 => ∃ r3 : Int, e = .returned (vi r3) ∧ 
   m_M_j3 inside1 seen1 p1 r3 w10 K))
  (m_M_j3 inside1 seen1 p1 e1 w K)
def m_M_j1 (inside1 : Int) (seen1 : Option Addr) (p1 : Addr) (w : World) (K : Int → WP) : Prop :=
 ∃ a1 : Addr, seen1 = some a1 ∧
 ∃ v1 : Int, w.cell? a1 = some (vi v1) ∧
 ∃ a2 : Addr, seen1 = some a2 ∧
 CanW w a2 ∧ ∀ w2 : World, w2 = w.setCell a2 (vi (q6.wrap (v1 + 1))) →
 ∃ aA aB : Int, ∃ aC aD : Int, ∃ aE : ByteArray, ∃ bG : Sl, Row w2 p1 [(vi aA), (vi aB), (vi aC), (vu aD), (vs aE), bG.v] ∧
 Calls Tryz.prog 103 #[(.agg #[(vi aA), (vi aB), (vi aC), (vu aD), (vs aE), bG.v])] w2 (fun e w3 => ∃ aT aU : Int, ∃ aV aW : Int, ∃ aX : ByteArray, ∃ aY aZ : Int, e = .returned (.agg #[(vi aT), (vi aU), (vi aV), (vu aW), (vs aX), (vi aY), (vi aZ)]) ∧ 
  ∀ (p2 : Addr) (w4 : World), New w3 (.cells #[(vi 0), (vi 0), (vi 0), (vu 0), (vs ⟨#[]⟩), (vi 0), (vi 0)] 86) p2 w4 →
  (∀ j, j < 7 → CanW w4 (p2.add j)) ∧ ∀ w5 : World, w5 = storeRow w4 p2 [(vi aT), (vi aU), (vi aV), (vu aW), (vs aX), (vi aY), (vi aZ)] →
  ∃ aO aP : Int, ∃ aQ aR : Int, ∃ aS : ByteArray, ∃ aF aG : Int, Row w5 p2 [(vi aO), (vi aP), (vi aQ), (vu aR), (vs aS), (vi aF), (vi aG)] ∧
  Calls Tryz.prog 104 #[(.agg #[(vi aO), (vi aP), (vi aQ), (vu aR), (vs aS), (vi aF), (vi aG)])] w5 (fun e w6 => ∃ rfrom1 rto1 : Bool, ∃ rnum1 rtext1 : Bool, ∃ rkids1 r1 : Int, e = .returned (.tuple #[(.agg #[(vb rfrom1), (vb rto1), (vb rnum1), (vb rtext1), (vi rkids1)]), (vi r1)]) ∧ 
   ∀ (p3 : Addr) (w7 : World), New w6 (.cells #[(vb false), (vb false), (vb false), (vb false), (vi 0)] 149) p3 w7 →
   (∀ j, j < 5 → CanW w7 (p3.add j)) ∧ ∀ w8 : World, w8 = storeRow w7 p3 [(vb rfrom1), (vb rto1), (vb rnum1), (vb rtext1), (vi rkids1)] →
   Br (r1 == 0)
    (∃ v4 : Sl, w8.cell? (p1.add 5) = some v4.v ∧
    ∃ v5 : Int, w8.cell? (p3.add 4) = some (vi v5) ∧
    Br (((v4.len : Int) : Int) != v5)
     (m_M_j2 inside1 seen1 p1 p2 p3 53 w8 K)
     (m_M_j2 inside1 seen1 p1 p2 p3 r1 w8 K))
    (m_M_j2 inside1 seen1 p1 p2 p3 r1 w8 K)))
def m_M (bA bB : Int) (bC bD : Int) (bE : ByteArray) (bF : Sl) (inside1 : Int) (seen1 : Option Addr) (w : World) (K : Int → WP) : Prop :=
 ∀ (p1 : Addr) (w1 : World), New w (.cells #[(vi bA), (vi bB), (vi bC), (vu bD), (vs bE), bF.v] 49) p1 w1 →
 ∃ a4 : Addr, seen1 = some a4 ∧
 ∃ v6 : Int, w1.cell? a4 = some (vi v6) ∧
 Br (decide (v6 ≥ 4096))
  (K 52 w1)
  (Br (decide (inside1 ≥ 64))
   (K 52 w1)
   (m_M_j1 inside1 seen1 p1 w1 K))
theorem w_M (bA bB : Int) (bC bD : Int) (bE : ByteArray) (bF : Sl) (inside1 : Int) (seen1 : Option Addr) (w : World) (K : Int → WP) (h : m_M bA bB bC bD bE bF inside1 seen1 w K) :
  Calls Tryz.prog 68 #[(.agg #[(vi bA), (vi bB), (vi bC), (vu bD), (vs bE), bF.v]), (vi inside1), (vp seen1)] w (fun e w' => ∃ r4 : Int, e = .returned (vi r4) ∧ K r4 w') := by
 unfold m_M at h
 refine cw (args := [(.agg #[(vi bA), (vi bB), (vi bC), (vu bD), (vs bE), bF.v]), (vi inside1), (vp seen1)]) Tryz.func68 Tryz.ntmps68 (wpE_seq (rg (sn (O := (.cells #[(vi bA), (vi bB), (vi bC), (vu bD), (vs bE), bF.v] 49)) xb ?_)))
 intro p1 w1 hn6
 have h := h p1 w1 hn6
 refine q0 (vi 0) (wpL_nil (th_n ?_))
 refine wpE_join (fun ρ w => Has ρ [(1, (vi inside1)), (2, (vp seen1)), (3, (vp (some p1)))] ∧ m_M_j1 inside1 seen1 p1 w K) ?_ ?_
 ·rintro ρ w ⟨hH, h⟩
  unfold m_M_j1 at h
  refine wpE_has hH ?_
  refine wpE_seq (rg (q0 (vp seen1) ?_))
  obtain ⟨a1, hp1, h⟩ := h
  refine q2 (vp (some a1)) (x_nilCheck (p := seen1) (by kernel_rfl) hp1) ?_
  obtain ⟨v1, hv11, h⟩ := h
  refine q2 (vi v1) (xl (Tryz.isAgg3 _) hv11) (q0 (vi (q6.wrap (v1 + 1))) ?_)
  obtain ⟨a2, hp2, h⟩ := h
  refine q2 (vp (some a2)) (x_nilCheck (p := seen1) (by kernel_rfl) hp2) ?_
  obtain ⟨hp3, h⟩ := h
  refine st_set (want0 rfl) (x_store (a := a2) (v := (vi (q6.wrap (v1 + 1)))) (by kernel_rfl) (by kernel_rfl) rfl (Tryz.sizeOf3 _) hp3) ?_
  intro w2 hn1
  have h := h w2 hn1
  refine wpL_nil (th_n (wpE_seq (rg ?_)))
  obtain ⟨aA, aB, aC, aD, aE, bG, hv10, h⟩ := h
  refine q2 (.agg #[(vi aA), (vi aB), (vi aC), (vu aD), (vs aE), bG.v]) (x_loadA (a := p1) (vs := [(vi aA), (vi aB), (vi aC), (vu aD), (vs aE), bG.v]) (by kernel_rfl) (Tryz.isAgg49 _) (Tryz.sizeOf49 _) rfl hv10) ?_
  refine sc Tryz.call103 (h.mono ?_)
  rintro e w3 ⟨aT, aU, aV, aW, aX, aY, aZ, rfl, h⟩
  refine ⟨_, rfl, ?_⟩
  refine sn (O := (.cells #[(vi 0), (vi 0), (vi 0), (vu 0), (vs ⟨#[]⟩), (vi 0), (vi 0)] 86)) (x_alloc (Tryz.zeroValue86 _) rfl) ?_
  intro p2 w4 hn5
  have h := h p2 w4 hn5
  obtain ⟨hp4, h⟩ := h
  refine st_set (want0 rfl) (x_storeA (a := p2) (vs := [(vi aT), (vi aU), (vi aV), (vu aW), (vs aX), (vi aY), (vi aZ)]) (by kernel_rfl) (by kernel_rfl) rfl (Tryz.sizeOf86 _) rfl hp4) ?_
  intro w5 hn2
  have h := h w5 hn2
  refine wpL_nil (th_n (wpE_seq (rg ?_)))
  obtain ⟨aO, aP, aQ, aR, aS, aF, aG, hv9, h⟩ := h
  refine q2 (.agg #[(vi aO), (vi aP), (vi aQ), (vu aR), (vs aS), (vi aF), (vi aG)]) (x_loadA (a := p2) (vs := [(vi aO), (vi aP), (vi aQ), (vu aR), (vs aS), (vi aF), (vi aG)]) (by kernel_rfl) (Tryz.isAgg86 _) (Tryz.sizeOf86 _) rfl hv9) ?_
  refine sc Tryz.call104 (h.mono ?_)
  rintro e w6 ⟨rfrom1, rto1, rnum1, rtext1, rkids1, r1, rfl, h⟩
  refine ⟨_, rfl, ?_⟩
  refine q0 (.tuple #[(.agg #[(vb rfrom1), (vb rto1), (vb rnum1), (vb rtext1), (vi rkids1)]), (vi r1)]) (q0 (.agg #[(vb rfrom1), (vb rto1), (vb rnum1), (vb rtext1), (vi rkids1)]) (q0 (vi r1) (sn (O := (.cells #[(vb false), (vb false), (vb false), (vb false), (vi 0)] 149)) (x_alloc (Tryz.zeroValue149 _) rfl) ?_)))
  intro p3 w7 hn4
  have h := h p3 w7 hn4
  obtain ⟨hp5, h⟩ := h
  refine st_set (want0 rfl) (x_storeA (a := p3) (vs := [(vb rfrom1), (vb rto1), (vb rnum1), (vb rtext1), (vi rkids1)]) (by kernel_rfl) (by kernel_rfl) rfl (Tryz.sizeOf149 _) rfl hp5) ?_
  intro w8 hn3
  have h := h w8 hn3
  refine q0 (vi r1) (wpL_nil (th_n ?_))
  refine wpE_join (fun ρ w => ∃ e1 : Int, Has ρ [(1, (vi inside1)), (2, (vp seen1)), (3, (vp (some p1))), (7, (vp (some p2))), (8, (vp (some p3))), (9, (vi e1))] ∧ m_M_j2 inside1 seen1 p1 p2 p3 e1 w K) ?_ ?_
  ·rintro ρ w ⟨e1, hH, h⟩
   unfold m_M_j2 at h
   refine wpE_has hH ?_
   refine wpE_join (fun ρ w => ∃ e2 : Int, Has ρ [(1, (vi inside1)), (2, (vp seen1)), (3, (vp (some p1))), (9, (vi e2))] ∧ m_M_j3 inside1 seen1 p1 e2 w K) ?_ ?_
   ·rintro ρ w ⟨e2, hH, h⟩
    unfold m_M_j3 at h
    refine wpE_has hH ?_
    refine wpE_seq (wpE_seq (rg (q0 (vi 0) (wpL_nil (th_n (wpE_block ?_))))))
    obtain ⟨I1, mu1, h0, hr⟩ := h
    refine wpE_loop (σ := Int × Int × World) (fun s ρ w => w = s.2.2 ∧ Has ρ [(1, (vi inside1)), (2, (vp seen1)), (3, (vp (some p1))), (9, (vi s.1)), (10, (vi s.2.1))] ∧ I1 s.1 s.2.1 s.2.2) (fun s => mu1 s.1 s.2.1 s.2.2) (e2, 0, w) ⟨rfl, hm, h0⟩ ?_
    rintro ⟨e3, i1, wl1⟩ ρ w ⟨hw, hH, hI⟩
    obtain rfl : wl1 = w := (show w = wl1 from hw).symm
    have hH : Has ρ [(1, (vi inside1)), (2, (vp seen1)), (3, (vp (some p1))), (9, (vi e3)), (10, (vi i1))] := hH
    have h := hr e3 i1 wl1 hI
    unfold m_M_l4 at h
    refine wpE_has hH ?_
    refine wpE_seq (wpE_seq (rg (q0 (vi i1) (q0 (vp (some (p1.add 5))) ?_))))
    obtain ⟨v2, hv4, h⟩ := h
    refine q2 v2.v (xl (Tryz.isAgg22 _) hv4) (q0 (vi (v2.len : Int)) (q0 (vb (decide (i1 < (v2.len : Int)))) (q0 (vb (decide (i1 < (v2.len : Int)))) ?_)))
    rcases Bool.eq_false_or_eq_true (decide (i1 < (v2.len : Int))) with hg1 | hg1
    ·have h := h.1 hg1
     refine q1 (vi e3) (want1 rfl (yD 51 hg1)) (q1 (vb (e3 == 0)) (want1 rfl (yD 51 hg1)) (q2 (vb (e3 == 0)) (xT hg1) (wpL_nil (th_n ?_))))
     refine wpE_cond (t := (e3 == 0)) (by kernel_rfl) (fun hc1 => ?_) (fun hc1 => ?_)
     ·have h := h.1 hc1
      refine wpE_skip (th_n (wpE_seq (wpE_block (rg (q0 (vp (some (p1.add 5))) ?_)))))
      obtain ⟨v3, hv3, h⟩ := h
      refine q2 v3.v (xl (Tryz.isAgg22 _) hv3) (q0 (vi i1) ?_)
      obtain ⟨a3, hv2, h⟩ := h
      refine q2 (vp (some a3)) (xi (Tryz.runUnderlying22 _) (Tryz.sizeOf49 _) hv2) ?_
      obtain ⟨bM, bN, bO, bP, bQ, bR, hv1, h⟩ := h
      refine q2 (.agg #[(vi bM), (vi bN), (vi bO), (vu bP), (vs bQ), bR.v]) (x_loadA (a := a3) (vs := [(vi bM), (vi bN), (vi bO), (vu bP), (vs bQ), bR.v]) (by kernel_rfl) (Tryz.isAgg49 _) (Tryz.sizeOf49 _) rfl hv1) (q0 (vi inside1) (q0 (vi (q6.wrap (inside1 + 1))) (q0 (vp seen1) ?_)))
      refine sc Tryz.call68 (h.mono ?_)
      rintro e w9 ⟨r2, rfl, h⟩
      refine ⟨_, rfl, ?_⟩
      refine q0 (vi r2) (wpL_nil (bl_n (th_n (rg (q0 (vi i1) (q0 (vi (q6.wrap (i1 + 1))) (q0 (vi (q6.wrap (i1 + 1))) (wpL_nil (th_n ?_)))))))))
      exact ⟨(r2, (q6.wrap (i1 + 1)), w9), ⟨rfl, hm, h.1⟩, h.2⟩
     ·have h := h.2 hc1
      refine wpE_exit (th_x (th_x (bl_eq (th_n (wpE_seq (rg (q0 (vi e3) (q0 (vi e3) (wpL_nil (th_n (wpE_ret ?_)))))))))))
      refine rs1 Tryz.results68 (v := (vi e3)) ?_
      exact ⟨e3, rfl, h⟩
    ·have h := h.2 hg1
     refine sk (yD 51 hg1) (sk (yD 51 hg1) (q2 (vb false) (xF hg1) (wpL_nil (th_n (wpE_condF (by kernel_rfl) (wpE_exit (th_x (th_x (bl_eq (th_n (wpE_seq ?_)))))))))))
     refine rg (q0 (vi e3) (q0 (vi e3) (wpL_nil (th_n (wpE_ret (rs1 Tryz.results68 (v := (vi e3)) ?_))))))
     exact ⟨e3, rfl, h⟩
   ·refine wpE_seq (rg (q0 (vi e1) (q0 (vb (e1 == 0)) (wpL_nil (th_n ?_)))))
    refine wpE_cond (t := (e1 == 0)) (by kernel_rfl) (fun hc2 => ?_) (fun hc2 => ?_)
    ·have h := h.1 hc2
     refine rg ?_
     obtain ⟨vfrom1, vto1, vnum1, vtext1, vkids1, hv6, h⟩ := h
     refine q2 (.agg #[(vb vfrom1), (vb vto1), (vb vnum1), (vb vtext1), (vi vkids1)]) (x_loadA (a := p3) (vs := [(vb vfrom1), (vb vto1), (vb vnum1), (vb vtext1), (vi vkids1)]) (by kernel_rfl) (Tryz.isAgg149 _) (Tryz.sizeOf149 _) rfl hv6) ?_
     obtain ⟨bU, bV, bW, bX, bY, bS, bT, hv5, h⟩ := h
     refine q2 (.agg #[(vi bU), (vi bV), (vi bW), (vu bX), (vs bY), (vi bS), (vi bT)]) (x_loadA (a := p2) (vs := [(vi bU), (vi bV), (vi bW), (vu bX), (vs bY), (vi bS), (vi bT)]) (by kernel_rfl) (Tryz.isAgg86 _) (Tryz.sizeOf86 _) rfl hv5) ?_
     refine sc Tryz.call105 (h.mono ?_)
     rintro e w10 ⟨r3, rfl, h⟩
     refine ⟨_, rfl, ?_⟩
     refine q0 (vi r3) (wpL_nil (th_n ?_))
     exact ⟨r3, hm, h⟩
    ·have h := h.2 hc2
     refine wpE_skip (th_n ?_)
     exact ⟨e1, hm, h⟩
  ·refine wpE_seq (rg (q0 (vi r1) (q0 (vb (r1 == 0)) (q0 (vb (r1 == 0)) ?_))))
   rcases Bool.eq_false_or_eq_true (r1 == 0) with hg2 | hg2
   ·have h := h.1 hg2
    refine q1 (vp (some (p1.add 5))) (want1 rfl (yD 33 hg2)) ?_
    obtain ⟨v4, hv8, h⟩ := h
    refine stp (v := v4.v) (want1 rfl (yD 33 hg2)) (xl (Tryz.isAgg22 _) hv8) (q1 (vi (v4.len : Int)) (want1 rfl (yD 33 hg2)) (q1 (vp (some (p3.add 4))) (want1 rfl (yD 33 hg2)) ?_))
    obtain ⟨v5, hv7, h⟩ := h
    refine stp (v := (vi v5)) (want1 rfl (yD 33 hg2)) (xl (Tryz.isAgg3 _) hv7) (q1 (vb (((v4.len : Int) : Int) != v5)) (want1 rfl (yD 33 hg2)) (q2 (vb (((v4.len : Int) : Int) != v5)) (xT hg2) (wpL_nil (th_n ?_))))
    refine wpE_cond (t := (((v4.len : Int) : Int) != v5)) (by kernel_rfl) (fun hc3 => ?_) (fun hc3 => ?_)
    ·have h := h.1 hc3
     refine rg (q0 (vi 53) (wpL_nil (th_n ?_)))
     exact ⟨53, hm, h⟩
    ·have h := h.2 hc3
     refine wpE_skip (th_n ?_)
     exact ⟨r1, hm, h⟩
   ·have h := h.2 hg2
    refine sk (yD 33 hg2) (sk (yD 33 hg2) (sk (yD 33 hg2) (sk (yD 33 hg2) (sk (yD 33 hg2) (sk (yD 33 hg2) (q2 (vb false) (xF hg2) (wpL_nil (th_n (wpE_condF (by kernel_rfl) (wpE_skip (th_n ?_)))))))))))
    exact ⟨r1, hm, h⟩
 ·refine wpE_seq (rg (q0 (vp seen1) ?_))
  obtain ⟨a4, hp6, h⟩ := h
  refine q2 (vp (some a4)) (x_nilCheck (p := seen1) (by kernel_rfl) hp6) ?_
  obtain ⟨v6, hv12, h⟩ := h
  refine q2 (vi v6) (xl (Tryz.isAgg3 _) hv12) (q0 (vb (decide (v6 ≥ 4096))) (q0 (vb (decide (v6 ≥ 4096))) ?_))
  rcases Bool.eq_false_or_eq_true (decide (v6 ≥ 4096)) with hg3 | hg3
  ·have h := h.1 hg3
   refine sk (yD 15 hg3) (sk (yD 15 hg3) (q2 (vb true) (xT hg3) (wpL_nil (th_n (wpE_condT (by kernel_rfl) (wpE_seq (rg (q0 (vi 52) (wpL_nil (th_n (wpE_ret ?_)))))))))))
   refine th_r (rs1 Tryz.results68 (v := (vi 52)) ?_)
   exact ⟨52, rfl, h⟩
  ·have h := h.2 hg3
   refine q1 (vi inside1) (want1 rfl (yD 15 hg3)) (q1 (vb (decide (inside1 ≥ 64))) (want1 rfl (yD 15 hg3)) (q2 (vb (decide (inside1 ≥ 64))) (xF hg3) (wpL_nil (th_n ?_))))
   refine wpE_cond (t := (decide (inside1 ≥ 64))) (by kernel_rfl) (fun hc4 => ?_) (fun hc4 => ?_)
   ·have h := h.1 hc4
    refine wpE_seq (rg (q0 (vi 52) (wpL_nil (th_n (wpE_ret (th_r (rs1 Tryz.results68 (v := (vi 52)) ?_)))))))
    exact ⟨52, rfl, h⟩
   ·have h := h.2 hc4
    refine wpE_skip (th_n ?_)
    exact ⟨hm, h⟩
def m_D1_l1 (p1 : Option Addr) (p3 p4 : Addr) (v1 : Sl) (x1 : Int) (wl1 : World) (Kc1 : Int → WP) (K : Int → Int → WP) : Prop :=
 Br (decide (x1 < (v1.len : Int)))
  (∃ a1 : Addr, At v1 x1 6 a1 ∧
  ∃ aO aP : Int, ∃ aQ aR : Int, ∃ aS : ByteArray, ∃ bR : Sl, Row wl1 a1 [(vi aO), (vi aP), (vi aQ), (vu aR), (vs aS), bR.v] ∧
  ∀ (p5 : Addr) (w6 : World), New wl1 (.cells #[(vi 0), (vi 0), (vi 0), (vu 0), (vs ⟨#[]⟩), Sl.nil.v] 49) p5 w6 →
  (∀ j, j < 6 → CanW w6 (p5.add j)) ∧ ∀ w7 : World, w7 = storeRow w6 p5 [(vi aO), (vi aP), (vi aQ), (vu aR), (vs aS), bR.v] →
  ∃ bM bN : Int, ∃ bO bP : Int, ∃ bQ : ByteArray, ∃ cU : Sl, Row w7 p5 [(vi bM), (vi bN), (vi bO), (vu bP), (vs bQ), cU.v] ∧
  Calls Tryz.prog 69 #[(vp p1), (.agg #[(vi bM), (vi bN), (vi bO), (vu bP), (vs bQ), cU.v])] w7 (fun e w8 => ∃ r1 r2 : Int, e = .returned (.tuple #[(vi r1), (vi r2)]) ∧ 
   Br (r2 != 0)
    (K 0 r2 w8)
    (∃ a2 : Addr, At (Sl.mk (some p4) 2 2) x1 1 a2 ∧
    ∃ v2 : Option Addr, w8.cell? a2 = some (vp v2) ∧
    ∃ a3 : Addr, v2 = some a3 ∧
    CanW w8 a3 ∧ ∀ w9 : World, w9 = w8.setCell a3 (vi r1) →
    Kc1 (q6.wrap (x1 + 1)) w9)))
  (∃ bU bV : Int, ∃ bW bX : Int, ∃ bY : ByteArray, ∃ aF aG : Int, Row wl1 p3 [(vi bU), (vi bV), (vi bW), (vu bX), (vs bY), (vi aF), (vi aG)] ∧
  Calls Tryz.prog 66 #[(vp p1), (.agg #[(vi bU), (vi bV), (vi bW), (vu bX), (vs bY), (vi aF), (vi aG)])] wl1 (fun e w10 => ∃ r3 r4 : Int, e = .returned (.tuple #[(vi r3), (vi r4)]) ∧ 
   K r3 r4 w10))
def m_D1 (p1 : Option Addr) (bA bB : Int) (bC bD : Int) (bE : ByteArray) (bF : Sl) (w : World) (K : Int → Int → WP) : Prop :=
 ∀ (p2 : Addr) (w1 : World), New w (.cells #[(vi bA), (vi bB), (vi bC), (vu bD), (vs bE), bF.v] 49) p2 w1 →
 ∃ aA aB : Int, ∃ aC aD : Int, ∃ aE : ByteArray, ∃ bG : Sl, Row w1 p2 [(vi aA), (vi aB), (vi aC), (vu aD), (vs aE), bG.v] ∧
 Calls Tryz.prog 103 #[(.agg #[(vi aA), (vi aB), (vi aC), (vu aD), (vs aE), bG.v])] w1 (fun e w2 => ∃ aT aU : Int, ∃ aV aW : Int, ∃ aX : ByteArray, ∃ aY aZ : Int, e = .returned (.agg #[(vi aT), (vi aU), (vi aV), (vu aW), (vs aX), (vi aY), (vi aZ)]) ∧ 
  ∀ (p3 : Addr) (w3 : World), New w2 (.cells #[(vi 0), (vi 0), (vi 0), (vu 0), (vs ⟨#[]⟩), (vi 0), (vi 0)] 86) p3 w3 →
  (∀ j, j < 7 → CanW w3 (p3.add j)) ∧ ∀ w4 : World, w4 = storeRow w3 p3 [(vi aT), (vi aU), (vi aV), (vu aW), (vs aX), (vi aY), (vi aZ)] →
  ∀ (p4 : Addr) (w5 : World), New w4 (.cells #[(vp (some (p3.add 5))), (vp (some (p3.add 6)))] 179) p4 w5 →
  ∃ v1 : Sl, w5.cell? (p2.add 5) = some v1.v ∧
  ∃ (I1 : Int → WP) (mu1 : Int → World → Nat), I1 0 w5 ∧
   ∀ (x1 : Int) (wl1 : World), I1 x1 wl1 → m_D1_l1 p1 p3 p4 v1 x1 wl1 (fun y'0 w' => I1 y'0 w' ∧ mu1 y'0 w' < mu1 x1 wl1) K)
theorem w_D1 (p1 : Option Addr) (bA bB : Int) (bC bD : Int) (bE : ByteArray) (bF : Sl) (w : World) (K : Int → Int → WP) (h : m_D1 p1 bA bB bC bD bE bF w K) :
  Calls Tryz.prog 69 #[(vp p1), (.agg #[(vi bA), (vi bB), (vi bC), (vu bD), (vs bE), bF.v])] w (fun e w' => ∃ r5 r6 : Int, e = .returned (.tuple #[(vi r5), (vi r6)]) ∧ K r5 r6 w') := by
 unfold m_D1 at h
 refine cw (args := [(vp p1), (.agg #[(vi bA), (vi bB), (vi bC), (vu bD), (vs bE), bF.v])]) Tryz.func69 Tryz.ntmps69 (wpE_seq (rg (sn (O := (.cells #[(vi bA), (vi bB), (vi bC), (vu bD), (vs bE), bF.v] 49)) xb ?_)))
 intro p2 w1 hn7
 have h := h p2 w1 hn7
 refine q0 (vi 0) (q0 (vi 0) (wpL_nil (th_n (wpE_seq (rg ?_)))))
 obtain ⟨aA, aB, aC, aD, aE, bG, hv8, h⟩ := h
 refine q2 (.agg #[(vi aA), (vi aB), (vi aC), (vu aD), (vs aE), bG.v]) (x_loadA (a := p2) (vs := [(vi aA), (vi aB), (vi aC), (vu aD), (vs aE), bG.v]) (by kernel_rfl) (Tryz.isAgg49 _) (Tryz.sizeOf49 _) rfl hv8) ?_
 refine sc Tryz.call103 (h.mono ?_)
 rintro e w2 ⟨aT, aU, aV, aW, aX, aY, aZ, rfl, h⟩
 refine ⟨_, rfl, ?_⟩
 refine sn (O := (.cells #[(vi 0), (vi 0), (vi 0), (vu 0), (vs ⟨#[]⟩), (vi 0), (vi 0)] 86)) (x_alloc (Tryz.zeroValue86 _) rfl) ?_
 intro p3 w3 hn6
 have h := h p3 w3 hn6
 obtain ⟨hp1, h⟩ := h
 refine st_set (want0 rfl) (x_storeA (a := p3) (vs := [(vi aT), (vi aU), (vi aV), (vu aW), (vs aX), (vi aY), (vi aZ)]) (by kernel_rfl) (by kernel_rfl) rfl (Tryz.sizeOf86 _) rfl hp1) ?_
 intro w4 hn1
 have h := h w4 hn1
 refine wpL_nil (th_n (wpE_seq (rg (q0 (vp (some (p3.add 5))) (q0 (vp (some (p3.add 6))) (st_new (O := (.cells #[(vp (some (p3.add 5))), (vp (some (p3.add 6)))] 179)) (fun p => (Sl.mk (some p) 2 2).v) (want0 rfl) (x_buildSlice (vs := #[(0, (vp (some (p3.add 5)))), (1, (vp (some (p3.add 6))))]) (by kernel_rfl) (by kernel_rfl)) ?_))))))
 intro p4 w5 hn5
 have h := h p4 w5 hn5
 refine q0 ((Sl.mk (some p4) 2 2).v) (wpL_nil (th_n (wpE_seq (wpE_seq (rg (q0 (vp (some (p2.add 5))) ?_))))))
 obtain ⟨v1, hv7, h⟩ := h
 refine q2 v1.v (xl (Tryz.isAgg22 _) hv7) (q0 (vi (v1.len : Int)) (q0 (vi 0) (wpL_nil (th_n (wpE_block ?_)))))
 obtain ⟨I1, mu1, h0, hr⟩ := h
 refine wpE_loop (σ := Int × World) (fun s ρ w => w = s.2 ∧ Has ρ [(0, (vp p1)), (6, (vp (some p3))), (7, (Sl.mk (some p4) 2 2).v), (18, v1.v), (19, (vi (v1.len : Int))), (20, (vi s.1))] ∧ I1 s.1 s.2) (fun s => mu1 s.1 s.2) (0, w5) ⟨rfl, hm, h0⟩ ?_
 rintro ⟨x1, wl1⟩ ρ w ⟨hw, hH, hI⟩
 obtain rfl : wl1 = w := (show w = wl1 from hw).symm
 have hH : Has ρ [(0, (vp p1)), (6, (vp (some p3))), (7, (Sl.mk (some p4) 2 2).v), (18, v1.v), (19, (vi (v1.len : Int))), (20, (vi x1))] := hH
 have h := hr x1 wl1 hI
 unfold m_D1_l1 at h
 refine wpE_has hH ?_
 refine wpE_seq (rg (q0 (vb (decide (x1 < (v1.len : Int)))) (wpL_nil (th_n (wpE_seq ?_)))))
 refine wpE_cond (t := (decide (x1 < (v1.len : Int)))) (by kernel_rfl) (fun hc1 => ?_) (fun hc1 => ?_)
 ·have h := h.1 hc1
  refine wpE_skip (th_n (wpE_seq (wpE_block (wpE_seq (rg (q0 (vi x1) ?_))))))
  obtain ⟨a1, hv5, h⟩ := h
  refine q2 (vp (some a1)) (xi (Tryz.runUnderlying22 _) (Tryz.sizeOf49 _) hv5) ?_
  obtain ⟨aO, aP, aQ, aR, aS, bR, hv4, h⟩ := h
  refine q2 (.agg #[(vi aO), (vi aP), (vi aQ), (vu aR), (vs aS), bR.v]) (x_loadA (a := a1) (vs := [(vi aO), (vi aP), (vi aQ), (vu aR), (vs aS), bR.v]) (by kernel_rfl) (Tryz.isAgg49 _) (Tryz.sizeOf49 _) rfl hv4) (sn (O := (.cells #[(vi 0), (vi 0), (vi 0), (vu 0), (vs ⟨#[]⟩), Sl.nil.v] 49)) (x_alloc (Tryz.zeroValue49 _) rfl) ?_)
  intro p5 w6 hn4
  have h := h p5 w6 hn4
  refine q0 (vi x1) ?_
  obtain ⟨hp2, h⟩ := h
  refine st_set (want0 rfl) (x_storeA (a := p5) (vs := [(vi aO), (vi aP), (vi aQ), (vu aR), (vs aS), bR.v]) (by kernel_rfl) (by kernel_rfl) rfl (Tryz.sizeOf49 _) rfl hp2) ?_
  intro w7 hn2
  have h := h w7 hn2
  refine wpL_nil (th_n (wpE_seq (rg (q0 (vp p1) ?_))))
  obtain ⟨bM, bN, bO, bP, bQ, cU, hv3, h⟩ := h
  refine q2 (.agg #[(vi bM), (vi bN), (vi bO), (vu bP), (vs bQ), cU.v]) (x_loadA (a := p5) (vs := [(vi bM), (vi bN), (vi bO), (vu bP), (vs bQ), cU.v]) (by kernel_rfl) (Tryz.isAgg49 _) (Tryz.sizeOf49 _) rfl hv3) ?_
  refine sc Tryz.call69 (h.mono ?_)
  rintro e w8 ⟨r1, r2, rfl, h⟩
  refine ⟨_, rfl, ?_⟩
  refine q0 (.tuple #[(vi r1), (vi r2)]) (q0 (vi r1) (q0 (vi r2) (q0 (vi r1) (q0 (vi r2) (wpL_nil (th_n (wpE_seq (wpE_seq (rg (q0 (vi r2) (q0 (vb (r2 != 0)) ?_)))))))))))
  refine wpL_nil (th_n ?_)
  refine wpE_cond (t := (r2 != 0)) (by kernel_rfl) (fun hc2 => ?_) (fun hc2 => ?_)
  ·have h := h.1 hc2
   refine wpE_seq (rg (q0 (vi r2) (q0 (vi 0) (q0 (vi r2) (wpL_nil (th_n (wpE_ret (th_r (bl_r (th_r (th_r ?_)))))))))))
   refine bl_r (th_r (res2 (.inl rfl) Tryz.results69 (v := (vi 0)) (by kernel_rfl) (v' := (vi r2)) (by kernel_rfl) ?_))
   exact ⟨0, r2, rfl, h⟩
  ·have h := h.2 hc2
   refine wpE_skip (th_n (rg (q0 ((Sl.mk (some p4) 2 2).v) (q0 (vi x1) ?_))))
   obtain ⟨a2, hv2, h⟩ := h
   refine q2 (vp (some a2)) (xi (Tryz.runUnderlying180 _) (Tryz.sizeOf179 _) hv2) ?_
   obtain ⟨v2, hv1, h⟩ := h
   refine q2 (vp v2) (xl (Tryz.isAgg179 _) hv1) (q0 (vi r1) ?_)
   obtain ⟨a3, hp3, h⟩ := h
   refine q2 (vp (some a3)) (x_nilCheck (p := v2) (by kernel_rfl) hp3) ?_
   obtain ⟨hp4, h⟩ := h
   refine st_set (want0 rfl) (x_store (a := a3) (v := (vi r1)) (by kernel_rfl) (by kernel_rfl) rfl (Tryz.sizeOf30 _) hp4) ?_
   intro w9 hn3
   have h := h w9 hn3
   refine wpL_nil (bl_n (th_n (rg (q0 (vi (q6.wrap (x1 + 1))) (q0 (vi (q6.wrap (x1 + 1))) (wpL_nil (th_n ?_)))))))
   exact ⟨((q6.wrap (x1 + 1)), w9), ⟨rfl, hm, h.1⟩, h.2⟩
 ·have h := h.2 hc1
  refine wpE_exit (th_x (th_x (bl_eq (th_n (wpE_seq (rg (q0 (vp p1) ?_)))))))
  obtain ⟨bU, bV, bW, bX, bY, aF, aG, hv6, h⟩ := h
  refine q2 (.agg #[(vi bU), (vi bV), (vi bW), (vu bX), (vs bY), (vi aF), (vi aG)]) (x_loadA (a := p3) (vs := [(vi bU), (vi bV), (vi bW), (vu bX), (vs bY), (vi aF), (vi aG)]) (by kernel_rfl) (Tryz.isAgg86 _) (Tryz.sizeOf86 _) rfl hv6) ?_
  refine sc Tryz.call66 (h.mono ?_)
  rintro e w10 ⟨r3, r4, rfl, h⟩
  refine ⟨_, rfl, ?_⟩
  refine q0 (vi r3) (q0 (vi r4) (q0 (vi r3) (q0 (vi r4) (wpL_nil (th_n (wpE_ret (res2 (.inl rfl) Tryz.results69 (v := (vi r3)) (by kernel_rfl) (v' := (vi r4)) (by kernel_rfl) ?_)))))))
  exact ⟨r3, r4, rfl, h⟩
def m_E1_l1 (p1 : Option Addr) (n1 : Int) (s1 : Sl) (x1 : Int) (wl1 : World) (Kc1 : Int → WP) (K : WP) : Prop :=
 Br (decide (x1 < (s1.len : Int)))
  (∃ a2 : Addr, At s1 x1 9 a2 ∧
  ∃ vnodeKind1 vnodeFrom1 : Int, ∃ vnodeTo1 vnodeNum1 : Int, ∃ vnodeText1 : ByteArray, ∃ vnodeA1 vnodeB1 : Int, ∃ vsize1 vdepth1 : Int, Row wl1 a2 [(vi vnodeKind1), (vi vnodeFrom1), (vi vnodeTo1), (vu vnodeNum1), (vs vnodeText1), (vi vnodeA1), (vi vnodeB1), (vi vsize1), (vi vdepth1)] ∧
  ∀ (p2 : Addr) (w1 : World), New wl1 (.cells #[(vi 0), (vi 0), (vi 0), (vu 0), (vs ⟨#[]⟩), (vi 0), (vi 0), (vi 0), (vi 0)] 147) p2 w1 →
  (∀ j, j < 9 → CanW w1 (p2.add j)) ∧ ∀ w2 : World, w2 = storeRow w1 p2 [(vi vnodeKind1), (vi vnodeFrom1), (vi vnodeTo1), (vu vnodeNum1), (vs vnodeText1), (vi vnodeA1), (vi vnodeB1), (vi vsize1), (vi vdepth1)] →
  ∃ C1 : WP, C1 w2.drew ∧ ∀ w3, w3 = w2.drew →
  ∃ a3 : Addr, p1 = some a3 ∧
  ∃ v2 : Option Nat, (∀ w', C1 w' → w'.cell? (a3.add 1) = some (.map v2)) ∧
  ∃ aA aB : Int, ∃ aC aD : Int, ∃ aE : ByteArray, ∃ aF aG : Int, (∀ w', C1 w' → Row w' p2 [(vi aA), (vi aB), (vi aC), (vu aD), (vs aE), (vi aF), (vi aG)]) ∧
  ∃ w4 : World, (Builtin.delete_ #[92, 86] 0 #[(.map v2), (.agg #[(vi aA), (vi aB), (vi aC), (vu aD), (vs aE), (vi aF), (vi aG)])]).run Tryz.prog w3 = .ok (.tuple #[]) w4 ∧
  Kc1 (q6.wrap (x1 + 1)) w4)
  (∃ a4 : Addr, p1 = some a4 ∧
  ∃ v3 : Sl, wl1.cell? a4 = some v3.v ∧
  ∃ s2 : Sl, (Instr.sliceAt 91 v3.v none (some (vi n1)) none).run Tryz.prog wl1 = .ok s2.v wl1 ∧
  ∃ a5 : Addr, p1 = some a5 ∧
  CanW wl1 a5 ∧ ∀ w5 : World, w5 = wl1.setCell a5 s2.v →
  K w5)
def m_E1 (p1 : Option Addr) (n1 : Int) (w : World) (K : WP) : Prop :=
 ∃ a1 : Addr, p1 = some a1 ∧
 ∃ v1 : Sl, w.cell? a1 = some v1.v ∧
 ∃ s1 : Sl, (Instr.sliceAt 91 v1.v (some (vi n1)) none none).run Tryz.prog w = .ok s1.v w ∧
 ∃ (I1 : Int → WP) (mu1 : Int → World → Nat), I1 0 w ∧
  ∀ (x1 : Int) (wl1 : World), I1 x1 wl1 → m_E1_l1 p1 n1 s1 x1 wl1 (fun y'0 w' => I1 y'0 w' ∧ mu1 y'0 w' < mu1 x1 wl1) K
theorem w_E1 (p1 : Option Addr) (n1 : Int) (w : World) (K : WP) (h : m_E1 p1 n1 w K) :
  Calls Tryz.prog 70 #[(vp p1), (vi n1)] w (fun e w' => e = .returned (.tuple #[]) ∧ K  w') := by
 unfold m_E1 at h
 refine cw (args := [(vp p1), (vi n1)]) Tryz.func70 Tryz.ntmps70 (wpE_seq (wpE_seq (rg (q0 (vp p1) ?_))))
 obtain ⟨a1, hp1, h⟩ := h
 refine q2 (vp (some a1)) (x_nilCheck (p := p1) (by kernel_rfl) hp1) (q0 (vp (some a1)) ?_)
 obtain ⟨v1, hv9, h⟩ := h
 refine q2 v1.v (xl (Tryz.isAgg91 _) hv9) (q0 (vi n1) ?_)
 obtain ⟨s1, hv8, h⟩ := h
 refine q2 s1.v (x_slice (by kernel_rfl) (by kernel_rfl) (by kernel_rfl) (by kernel_rfl) hv8) (q0 (vi (s1.len : Int)) (q0 (vi 0) (wpL_nil (th_n (wpE_block ?_)))))
 obtain ⟨I1, mu1, h0, hr⟩ := h
 refine wpE_loop (σ := Int × World) (fun s ρ w => w = s.2 ∧ Has ρ [(0, (vp p1)), (1, (vi n1)), (11, s1.v), (12, (vi (s1.len : Int))), (13, (vi s.1))] ∧ I1 s.1 s.2) (fun s => mu1 s.1 s.2) (0, w) ⟨rfl, hm, h0⟩ ?_
 rintro ⟨x1, wl1⟩ ρ w ⟨hw, hH, hI⟩
 obtain rfl : wl1 = w := (show w = wl1 from hw).symm
 have hH : Has ρ [(0, (vp p1)), (1, (vi n1)), (11, s1.v), (12, (vi (s1.len : Int))), (13, (vi x1))] := hH
 have h := hr x1 wl1 hI
 unfold m_E1_l1 at h
 refine wpE_has hH ?_
 refine wpE_seq (rg (q0 (vb (decide (x1 < (s1.len : Int)))) (wpL_nil (th_n (wpE_seq ?_)))))
 refine wpE_cond (t := (decide (x1 < (s1.len : Int)))) (by kernel_rfl) (fun hc1 => ?_) (fun hc1 => ?_)
 ·have h := h.1 hc1
  refine wpE_skip (th_n (wpE_seq (wpE_block (wpE_seq (rg ?_)))))
  obtain ⟨a2, hv5, h⟩ := h
  refine q2 (vp (some a2)) (xi (Tryz.runUnderlying91 _) (Tryz.sizeOf147 _) hv5) ?_
  obtain ⟨vnodeKind1, vnodeFrom1, vnodeTo1, vnodeNum1, vnodeText1, vnodeA1, vnodeB1, vsize1, vdepth1, hv4, h⟩ := h
  refine q2 (.agg #[(vi vnodeKind1), (vi vnodeFrom1), (vi vnodeTo1), (vu vnodeNum1), (vs vnodeText1), (vi vnodeA1), (vi vnodeB1), (vi vsize1), (vi vdepth1)]) (x_loadA (a := a2) (vs := [(vi vnodeKind1), (vi vnodeFrom1), (vi vnodeTo1), (vu vnodeNum1), (vs vnodeText1), (vi vnodeA1), (vi vnodeB1), (vi vsize1), (vi vdepth1)]) (by kernel_rfl) (Tryz.isAgg147 _) (Tryz.sizeOf147 _) rfl hv4) (sn (O := (.cells #[(vi 0), (vi 0), (vi 0), (vu 0), (vs ⟨#[]⟩), (vi 0), (vi 0), (vi 0), (vi 0)] 147)) (x_alloc (Tryz.zeroValue147 _) rfl) ?_)
  intro p2 w1 hn2
  have h := h p2 w1 hn2
  obtain ⟨hp2, h⟩ := h
  refine st_set (want0 rfl) (x_storeA (a := p2) (vs := [(vi vnodeKind1), (vi vnodeFrom1), (vi vnodeTo1), (vu vnodeNum1), (vs vnodeText1), (vi vnodeA1), (vi vnodeB1), (vi vsize1), (vi vdepth1)]) (by kernel_rfl) (by kernel_rfl) rfl (Tryz.sizeOf147 _) rfl hp2) ?_
  intro w2 hn1
  have h := h w2 hn1
  refine wpL_nil (th_n ?_)
  obtain ⟨C1, hC, h⟩ := h
  refine wpE_drawnC C1 [6] [6] (by kernel_rfl) (by kernel_rfl) (by kernel_rfl) (by kernel_rfl) hC ?_
  intro w3 hw3
  have h := h w3 hw3
  refine qx 0 (vp p1) Kp0 (qg 1 ?_)
  obtain ⟨a3, hp3, h⟩ := h
  refine sy (v := (vp (some a3))) Kp1 (fun _ _ => (x_nilCheck (p := p1) (by kernel_rfl) hp3)) (qx 2 (vp (some (a3.add 1))) Kp2 (qg 3 ?_))
  obtain ⟨v2, hv3, h⟩ := h
  refine sy (v := (.map v2)) Kp3 (fun w' hw' => (xl (Tryz.isAgg92 _) (hv3 w' hw'))) (qx 4 (vp (some p2)) Kp4 (qg 5 ?_))
  obtain ⟨aA, aB, aC, aD, aE, aF, aG, hv2, h⟩ := h
  refine sy (v := (.agg #[(vi aA), (vi aB), (vi aC), (vu aD), (vs aE), (vi aF), (vi aG)])) Kp5 (fun w' hw' => (x_loadA (a := p2) (vs := [(vi aA), (vi aB), (vi aC), (vu aD), (vs aE), (vi aF), (vi aG)]) (by kernel_rfl) (Tryz.isAgg86 _) (Tryz.sizeOf86 _) rfl (hv2 w' hw'))) (lg 6 ?_)
  obtain ⟨w4, hv1, h⟩ := h
  refine sl (v := (.tuple #[])) Kp6 (want0 rfl) (by kernel_rfl) (x_builtin (args := #[(.map v2), (.agg #[(vi aA), (vi aB), (vi aC), (vu aD), (vs aE), (vi aF), (vi aG)])]) (by kernel_rfl) (fun _ => rfl) hv1) (.inl (by kernel_rfl)) (wn (bl_n (th_n (rg (q0 (vi (q6.wrap (x1 + 1))) (q0 (vi (q6.wrap (x1 + 1))) (wpL_nil (th_n ?_))))))))
  exact ⟨((q6.wrap (x1 + 1)), w4), ⟨rfl, hm, h.1⟩, h.2⟩
 ·have h := h.2 hc1
  refine wpE_exit (th_x (th_x (bl_eq (th_n (rg (q0 (vp p1) (q0 (vp p1) ?_)))))))
  obtain ⟨a4, hp4, h⟩ := h
  refine q2 (vp (some a4)) (x_nilCheck (p := p1) (by kernel_rfl) hp4) (q0 (vp (some a4)) ?_)
  obtain ⟨v3, hv7, h⟩ := h
  refine q2 v3.v (xl (Tryz.isAgg91 _) hv7) (q0 (vi n1) ?_)
  obtain ⟨s2, hv6, h⟩ := h
  refine q2 s2.v (x_slice (by kernel_rfl) (by kernel_rfl) (by kernel_rfl) (by kernel_rfl) hv6) ?_
  obtain ⟨a5, hp5, h⟩ := h
  refine q2 (vp (some a5)) (x_nilCheck (p := p1) (by kernel_rfl) hp5) (q0 (vp (some a5)) ?_)
  obtain ⟨hp6, h⟩ := h
  refine st_set (want0 rfl) (x_store (a := a5) (v := s2.v) (by kernel_rfl) (by kernel_rfl) rfl (Tryz.sizeOf91 _) hp6) ?_
  intro w5 hn3
  have h := h w5 hn3
  refine wpL_nil (res0 (.inr rfl) Tryz.results70 ?_)
  exact ⟨rfl, h⟩
def m_F1_j1 (p1 : Option Addr) (t1 : Int) (x1 : Bool) (w : World) (K : Bool → WP) : Prop :=
 Br x1
  (∃ a1 : Addr, p1 = some a1 ∧
  ∃ v1 : Sl, w.cell? a1 = some v1.v ∧
  K (decide (t1 ≤ (v1.len : Int))) w)
  (K false w)
def m_F1 (p1 : Option Addr) (t1 : Int) (w : World) (K : Bool → WP) : Prop :=
 Br (!(Option.isNone p1))
  (m_F1_j1 p1 t1 (decide (t1 ≥ 1)) w K)
  (m_F1_j1 p1 t1 false w K)
theorem w_F1 (p1 : Option Addr) (t1 : Int) (w : World) (K : Bool → WP) (h : m_F1 p1 t1 w K) :
  Calls Tryz.prog 80 #[(vp p1), (vi t1)] w (fun e w' => ∃ r1 : Bool, e = .returned (vb r1) ∧ K r1 w') := by
 unfold m_F1 at h
 refine cw (args := [(vp p1), (vi t1)]) Tryz.func80 Tryz.ntmps80 (wpE_seq (rg (q0 (vb false) (wpL_nil (th_n (wpE_seq (rg (q0 (vp p1) (q2 (vb (!(Option.isNone p1))) (x_ptrneq (by kernel_rfl) rfl Tryz.underlying26) (q0 (vb (!(Option.isNone p1))) ?_))))))))))
 refine wpL_join 3 (fun ρ w => ∃ x1 : Bool, Has ρ [(0, (vp p1)), (1, (vi t1)), (10, (vb x1))] ∧ m_F1_j1 p1 t1 x1 w K) ?_ ?_
 ·rintro ρ w ⟨x1, hH, h⟩
  unfold m_F1_j1 at h
  refine wpL_has hH ?_
  refine q0 (vb x1) ?_
  rcases Bool.eq_false_or_eq_true x1 with hg1 | hg1
  ·have h := h.1 hg1
   refine q1 (vi t1) (want1 rfl (yD 11 hg1)) (q1 (vp p1) (want1 rfl (yD 11 hg1)) ?_)
   obtain ⟨a1, hp1, h⟩ := h
   refine stp (v := (vp (some a1))) (want1 rfl (yD 11 hg1)) (x_nilCheck (p := p1) (by kernel_rfl) hp1) (q1 (vp (some a1)) (want1 rfl (yD 11 hg1)) ?_)
   obtain ⟨v1, hv1, h⟩ := h
   refine stp (v := v1.v) (want1 rfl (yD 11 hg1)) (xl (Tryz.isAgg91 _) hv1) (q1 (vi (v1.len : Int)) (want1 rfl (yD 11 hg1)) (q1 (vb (decide (t1 ≤ (v1.len : Int)))) (want1 rfl (yD 11 hg1)) (q2 (vb (decide (t1 ≤ (v1.len : Int)))) (xT hg1) (q0 (vb (decide (t1 ≤ (v1.len : Int)))) (wpL_nil (th_n (wpE_ret (rs1 Tryz.results80 (v := (vb (decide (t1 ≤ (v1.len : Int))))) ?_))))))))
   exact ⟨(decide (t1 ≤ (v1.len : Int))), rfl, h⟩
  ·have h := h.2 hg1
   refine sk (yD 11 hg1) (sk (yD 11 hg1) (sk (yD 11 hg1) (sk (yD 11 hg1) (sk (yD 11 hg1) (sk (yD 11 hg1) (sk (yD 11 hg1) (q2 (vb false) (xF hg1) (q0 (vb false) (wpL_nil (th_n (wpE_ret ?_)))))))))))
   refine rs1 Tryz.results80 (v := (vb false)) ?_
   exact ⟨false, rfl, h⟩
 ·rcases Bool.eq_false_or_eq_true (!(Option.isNone p1)) with hg2 | hg2
  ·have h := h.1 hg2
   refine q1 (vi t1) (want1 rfl (yD 7 hg2)) (q1 (vb (decide (t1 ≥ 1))) (want1 rfl (yD 7 hg2)) (q2 (vb (decide (t1 ≥ 1))) (xT hg2) (wpL_nil ?_)))
   exact ⟨(decide (t1 ≥ 1)), hm, h⟩
  ·have h := h.2 hg2
   refine sk (yD 7 hg2) (sk (yD 7 hg2) (q2 (vb false) (xF hg2) (wpL_nil ?_)))
   exact ⟨false, hm, h⟩
def m_V2 (kind1 : Int) (w : World) (K : Bool → Bool → Bool → Bool → Int → Bool → WP) : Prop :=
 ∀ (p1 : Addr) (w1 : World), New w (.cells #[(vb false), (vb false), (vb false), (vb false), (vi 0)] 149) p1 w1 →
 Br (decide (kind1 < 1))
  ((∀ j, j < 5 → CanW w1 (p1.add j)) ∧ ∀ w2 : World, w2 = storeRow w1 p1 [(vb false), (vb false), (vb false), (vb false), (vi 0)] →
  ∃ qfrom1 qto1 : Bool, ∃ qnum1 qtext1 : Bool, ∃ qkids1 : Int, Row w2 p1 [(vb qfrom1), (vb qto1), (vb qnum1), (vb qtext1), (vi qkids1)] ∧
  K qfrom1 qto1 qnum1 qtext1 qkids1 false w2)
  (Br (decide (kind1 > 9))
   ((∀ j, j < 5 → CanW w1 (p1.add j)) ∧ ∀ w3 : World, w3 = storeRow w1 p1 [(vb false), (vb false), (vb false), (vb false), (vi 0)] →
   ∃ qfrom2 qto2 : Bool, ∃ qnum2 qtext2 : Bool, ∃ qkids2 : Int, Row w3 p1 [(vb qfrom2), (vb qto2), (vb qnum2), (vb qtext2), (vi qkids2)] ∧
   K qfrom2 qto2 qnum2 qtext2 qkids2 false w3)
   (Calls Tryz.prog 137 #[] w1 (fun e w4 => ∃ r1 : Array Value, e = .returned (.agg r1) ∧ 
    ∃ efrom1 eto1 : Bool, ∃ enum1 etext1 : Bool, ∃ ekids1 : Int, (Instr.index 196 (.agg r1) (vi kind1)).run Tryz.prog w4 = .ok (.agg #[(vb efrom1), (vb eto1), (vb enum1), (vb etext1), (vi ekids1)]) w4 ∧
    (∀ j, j < 5 → CanW w4 (p1.add j)) ∧ ∀ w5 : World, w5 = storeRow w4 p1 [(vb efrom1), (vb eto1), (vb enum1), (vb etext1), (vi ekids1)] →
    ∃ qfrom3 qto3 : Bool, ∃ qnum3 qtext3 : Bool, ∃ qkids3 : Int, Row w5 p1 [(vb qfrom3), (vb qto3), (vb qnum3), (vb qtext3), (vi qkids3)] ∧
    K qfrom3 qto3 qnum3 qtext3 qkids3 true w5)))
theorem w_V2 (kind1 : Int) (w : World) (K : Bool → Bool → Bool → Bool → Int → Bool → WP) (h : m_V2 kind1 w K) :
  Calls Tryz.prog 91 #[(vi kind1)] w (fun e w' => ∃ rfrom1 rto1 : Bool, ∃ rnum1 rtext1 : Bool, ∃ rkids1 : Int, ∃ r2 : Bool, e = .returned (.tuple #[(.agg #[(vb rfrom1), (vb rto1), (vb rnum1), (vb rtext1), (vi rkids1)]), (vb r2)]) ∧ K rfrom1 rto1 rnum1 rtext1 rkids1 r2 w') := by
 unfold m_V2 at h
 refine cw (args := [(vi kind1)]) Tryz.func91 Tryz.ntmps91 (wpE_seq (rg (sn (O := (.cells #[(vb false), (vb false), (vb false), (vb false), (vi 0)] 149)) (x_alloc (Tryz.zeroValue149 _) rfl) ?_)))
 intro p1 w1 hn4
 have h := h p1 w1 hn4
 refine q0 (vb false) (wpL_nil (th_n (wpE_seq (wpE_seq (rg (q0 (vi kind1) (q0 (vb (decide (kind1 < 1))) (q0 (vb (decide (kind1 < 1))) ?_))))))))
 rcases Bool.eq_false_or_eq_true (decide (kind1 < 1)) with hg1 | hg1
 ·have h := h.1 hg1
  refine sk (yD 6 hg1) (sk (yD 6 hg1) (q2 (vb true) (xT hg1) (wpL_nil (th_n (wpE_condT (by kernel_rfl) (wpE_seq (rg (q0 (.agg #[(vb false), (vb false), (vb false), (vb false), (vi 0)]) ?_))))))))
  obtain ⟨hp1, h⟩ := h
  refine st_set (want0 rfl) (x_storeA (a := p1) (vs := [(vb false), (vb false), (vb false), (vb false), (vi 0)]) (by kernel_rfl) (by kernel_rfl) rfl (Tryz.sizeOf149 _) rfl hp1) ?_
  intro w2 hn1
  have h := h w2 hn1
  refine q0 (vb false) (wpL_nil (th_n (wpE_ret (th_r ?_))))
  obtain ⟨qfrom1, qto1, qnum1, qtext1, qkids1, hv1, h⟩ := h
  refine resG (.inl rfl) (vs := [(.agg #[(vb qfrom1), (vb qto1), (vb qnum1), (vb qtext1), (vi qkids1)]), (vb false)]) (v := (.tuple #[(.agg #[(vb qfrom1), (vb qto1), (vb qnum1), (vb qtext1), (vi qkids1)]), (vb false)])) Tryz.results91 ⟨(RV.cellA (by kernel_rfl) (Tryz.isAgg149 _) (Tryz.sizeOf149 _) rfl hv1), (rvT (by kernel_rfl)), trivial⟩ (by kernel_rfl) ?_
  exact ⟨qfrom1, qto1, qnum1, qtext1, qkids1, false, rfl, h⟩
 ·have h := h.2 hg1
  refine q1 (vi kind1) (want1 rfl (yD 6 hg1)) (q1 (vb (decide (kind1 > 9))) (want1 rfl (yD 6 hg1)) (q2 (vb (decide (kind1 > 9))) (xF hg1) (wpL_nil (th_n ?_))))
  refine wpE_cond (t := (decide (kind1 > 9))) (by kernel_rfl) (fun hc1 => ?_) (fun hc1 => ?_)
  ·have h := h.1 hc1
   refine wpE_seq (rg (q0 (.agg #[(vb false), (vb false), (vb false), (vb false), (vi 0)]) ?_))
   obtain ⟨hp2, h⟩ := h
   refine st_set (want0 rfl) (x_storeA (a := p1) (vs := [(vb false), (vb false), (vb false), (vb false), (vi 0)]) (by kernel_rfl) (by kernel_rfl) rfl (Tryz.sizeOf149 _) rfl hp2) ?_
   intro w3 hn2
   have h := h w3 hn2
   refine q0 (vb false) (wpL_nil (th_n (wpE_ret (th_r ?_))))
   obtain ⟨qfrom2, qto2, qnum2, qtext2, qkids2, hv2, h⟩ := h
   refine resG (.inl rfl) (vs := [(.agg #[(vb qfrom2), (vb qto2), (vb qnum2), (vb qtext2), (vi qkids2)]), (vb false)]) (v := (.tuple #[(.agg #[(vb qfrom2), (vb qto2), (vb qnum2), (vb qtext2), (vi qkids2)]), (vb false)])) Tryz.results91 ⟨(RV.cellA (by kernel_rfl) (Tryz.isAgg149 _) (Tryz.sizeOf149 _) rfl hv2), (rvT (by kernel_rfl)), trivial⟩ (by kernel_rfl) ?_
   exact ⟨qfrom2, qto2, qnum2, qtext2, qkids2, false, rfl, h⟩
  ·have h := h.2 hc1
   refine wpE_skip (th_n (wpE_seq (rg ?_)))
   refine sc Tryz.call137 (h.mono ?_)
   rintro e w4 ⟨r1, rfl, h⟩
   refine ⟨_, rfl, ?_⟩
   refine q0 (vi kind1) ?_
   obtain ⟨efrom1, eto1, enum1, etext1, ekids1, hv4, h⟩ := h
   refine q2 (.agg #[(vb efrom1), (vb eto1), (vb enum1), (vb etext1), (vi ekids1)]) (x_index (by kernel_rfl) (by kernel_rfl) hv4) ?_
   obtain ⟨hp3, h⟩ := h
   refine st_set (want0 rfl) (x_storeA (a := p1) (vs := [(vb efrom1), (vb eto1), (vb enum1), (vb etext1), (vi ekids1)]) (by kernel_rfl) (by kernel_rfl) rfl (Tryz.sizeOf149 _) rfl hp3) ?_
   intro w5 hn3
   have h := h w5 hn3
   refine q0 (vb true) (wpL_nil (th_n (wpE_ret ?_)))
   obtain ⟨qfrom3, qto3, qnum3, qtext3, qkids3, hv3, h⟩ := h
   refine resG (.inl rfl) (vs := [(.agg #[(vb qfrom3), (vb qto3), (vb qnum3), (vb qtext3), (vi qkids3)]), (vb true)]) (v := (.tuple #[(.agg #[(vb qfrom3), (vb qto3), (vb qnum3), (vb qtext3), (vi qkids3)]), (vb true)])) Tryz.results91 ⟨(RV.cellA (by kernel_rfl) (Tryz.isAgg149 _) (Tryz.sizeOf149 _) rfl hv3), (rvT (by kernel_rfl)), trivial⟩ (by kernel_rfl) ?_
   exact ⟨qfrom3, qto3, qnum3, qtext3, qkids3, true, rfl, h⟩
def m_G_l3 (p1 : Option Addr) (s1 : Sl) (size1 depth1 x1 : Int) (wl1 : World) (Kc3 : Int → Int → Int → WP) (K : Int → Int → Int → WP) : Prop :=
 Br (decide (x1 < (s1.len : Int)))
  (∃ a1 : Addr, At s1 x1 1 a1 ∧
  ∃ v4 : Int, wl1.cell? a1 = some (vi v4) ∧
  Calls Tryz.prog 80 #[(vp p1), (vi v4)] wl1 (fun e w6 => ∃ r2 : Bool, e = .returned (vb r2) ∧ 
   Br (!r2)
    (K 0 0 51 w6)
    (Calls Tryz.prog 143 #[(vp p1), (vi v4)] w6 (fun e w7 => ∃ r3 : Int, e = .returned (vi r3) ∧ 
     Calls Tryz.prog 144 #[(vp p1), (vi v4)] w7 (fun e w8 => ∃ r4 : Int, e = .returned (vi r4) ∧ 
      ∃ z1 : Int, (Builtin.max_ #[3, 3] 3 #[(vi depth1), (vi r4)]).run Tryz.prog w8 = .ok (vi z1) w8 ∧
      Kc3 (q6.wrap (size1 + r3)) z1 (q6.wrap (x1 + 1)) w8)))))
  (Br (decide (size1 > 4096))
   (K 0 0 52 wl1)
   (Br (decide ((q6.wrap (depth1 + 1)) > 64))
    (K 0 0 52 wl1)
    (K size1 (q6.wrap (depth1 + 1)) 0 wl1)))
def m_G_j2 (p1 : Option Addr) (p2 p3 : Addr) (e2 : Int) (w : World) (K : Int → Int → Int → WP) : Prop :=
 Br (e2 != 0)
  (K 0 0 e2 w)
  (∃ v1 : Int, w.cell? (p2.add 5) = some (vi v1) ∧
  ∃ v2 : Int, w.cell? (p2.add 6) = some (vi v2) ∧
  ∀ (p4 : Addr) (w5 : World), New w (.cells #[(vi v1), (vi v2)] 30) p4 w5 →
  ∃ v3 : Int, w5.cell? (p3.add 4) = some (vi v3) ∧
  ∃ s1 : Sl, (Instr.sliceAt 52 (Sl.mk (some p4) 2 2).v none (some (vi v3)) none).run Tryz.prog w5 = .ok s1.v w5 ∧
  ∃ (I1 : Int → Int → Int → WP) (mu1 : Int → Int → Int → World → Nat), I1 1 0 0 w5 ∧
   ∀ (size1 depth1 x1 : Int) (wl1 : World), I1 size1 depth1 x1 wl1 → m_G_l3 p1 s1 size1 depth1 x1 wl1 (fun y'0 y'1 y'2 w' => I1 y'0 y'1 y'2 w' ∧ mu1 y'0 y'1 y'2 w' < mu1 size1 depth1 x1 wl1) K)
def m_G_j1 (p1 : Option Addr) (p2 p3 : Addr) (e1 : Int) (w : World) (K : Int → Int → Int → WP) : Prop :=
 Br (e1 == 0)
  (∃ vfrom1 vto1 : Bool, ∃ vnum1 vtext1 : Bool, ∃ vkids1 : Int, Row w p3 [(vb vfrom1), (vb vto1), (vb vnum1), (vb vtext1), (vi vkids1)] ∧
  ∃ aO aP : Int, ∃ aQ aR : Int, ∃ aS : ByteArray, ∃ bS bT : Int, Row w p2 [(vi aO), (vi aP), (vi aQ), (vu aR), (vs aS), (vi bS), (vi bT)] ∧
  Calls Tryz.prog 105 #[(.agg #[(vb vfrom1), (vb vto1), (vb vnum1), (vb vtext1), (vi vkids1)]), (.agg #[(vi aO), (vi aP), (vi aQ), (vu aR), (vs aS), (vi bS), (vi bT)])] w (fun e w9 => ∃ r5 : Int, e = .returned (vi r5) ∧ 
   m_G_j2 p1 p2 p3 r5 w9 K))
  (m_G_j2 p1 p2 p3 e1 w K)
def m_G_j5 (p1 : Option Addr) (p2 : Addr) (r1 : Int) (p3 : Addr) (x2 x3 : Bool) (w : World) (K : Int → Int → Int → WP) : Prop :=
 Br (r1 == 0)
  (Br x2
   (m_G_j1 p1 p2 p3 53 w K)
   (Br x3
    (m_G_j1 p1 p2 p3 53 w K)
    (m_G_j1 p1 p2 p3 r1 w K)))
  (m_G_j1 p1 p2 p3 r1 w K)
def m_G_j4 (p1 : Option Addr) (p2 : Addr) (r1 : Int) (p3 : Addr) (x2 : Bool) (w : World) (K : Int → Int → Int → WP) : Prop :=
 Br (r1 == 0)
  (Br x2
   (m_G_j1 p1 p2 p3 53 w K)
   (∃ v6 : Int, w.cell? (p3.add 4) = some (vi v6) ∧
   Br (decide (v6 < 2))
    (∃ v7 : Int, w.cell? (p2.add 6) = some (vi v7) ∧
    m_G_j5 p1 p2 r1 p3 x2 (v7 != 0) w K)
    (m_G_j5 p1 p2 r1 p3 x2 false w K)))
  (m_G_j1 p1 p2 p3 r1 w K)
def m_G (p1 : Option Addr) (aH aI : Int) (aJ aK : Int) (aL : ByteArray) (aM aN : Int) (w : World) (K : Int → Int → Int → WP) : Prop :=
 ∀ (p2 : Addr) (w1 : World), New w (.cells #[(vi aH), (vi aI), (vi aJ), (vu aK), (vs aL), (vi aM), (vi aN)] 86) p2 w1 →
 ∃ aA aB : Int, ∃ aC aD : Int, ∃ aE : ByteArray, ∃ aF aG : Int, Row w1 p2 [(vi aA), (vi aB), (vi aC), (vu aD), (vs aE), (vi aF), (vi aG)] ∧
 Calls Tryz.prog 104 #[(.agg #[(vi aA), (vi aB), (vi aC), (vu aD), (vs aE), (vi aF), (vi aG)])] w1 (fun e w2 => ∃ rfrom1 rto1 : Bool, ∃ rnum1 rtext1 : Bool, ∃ rkids1 r1 : Int, e = .returned (.tuple #[(.agg #[(vb rfrom1), (vb rto1), (vb rnum1), (vb rtext1), (vi rkids1)]), (vi r1)]) ∧ 
  ∀ (p3 : Addr) (w3 : World), New w2 (.cells #[(vb false), (vb false), (vb false), (vb false), (vi 0)] 149) p3 w3 →
  (∀ j, j < 5 → CanW w3 (p3.add j)) ∧ ∀ w4 : World, w4 = storeRow w3 p3 [(vb rfrom1), (vb rto1), (vb rnum1), (vb rtext1), (vi rkids1)] →
  Br (r1 == 0)
   (∃ v5 : Int, w4.cell? (p3.add 4) = some (vi v5) ∧
   Br (decide (v5 < 1))
    (∃ v8 : Int, w4.cell? (p2.add 5) = some (vi v8) ∧
    m_G_j4 p1 p2 r1 p3 (v8 != 0) w4 K)
    (m_G_j4 p1 p2 r1 p3 false w4 K))
   (m_G_j1 p1 p2 p3 r1 w4 K))
theorem w_G (p1 : Option Addr) (aH aI : Int) (aJ aK : Int) (aL : ByteArray) (aM aN : Int) (w : World) (K : Int → Int → Int → WP) (h : m_G p1 aH aI aJ aK aL aM aN w K) :
  Calls Tryz.prog 102 #[(vp p1), (.agg #[(vi aH), (vi aI), (vi aJ), (vu aK), (vs aL), (vi aM), (vi aN)])] w (fun e w' => ∃ r6 r7 r8 : Int, e = .returned (.tuple #[(vi r6), (vi r7), (vi r8)]) ∧ K r6 r7 r8 w') := by
 unfold m_G at h
 refine cw (args := [(vp p1), (.agg #[(vi aH), (vi aI), (vi aJ), (vu aK), (vs aL), (vi aM), (vi aN)])]) Tryz.func102 Tryz.ntmps102 (wpE_seq (rg (sn (O := (.cells #[(vi aH), (vi aI), (vi aJ), (vu aK), (vs aL), (vi aM), (vi aN)] 86)) xb ?_)))
 intro p2 w1 hn4
 have h := h p2 w1 hn4
 refine q0 (vi 0) (q0 (vi 0) (q0 (vi 0) (wpL_nil (th_n (wpE_seq (rg ?_))))))
 obtain ⟨aA, aB, aC, aD, aE, aF, aG, hv14, h⟩ := h
 refine q2 (.agg #[(vi aA), (vi aB), (vi aC), (vu aD), (vs aE), (vi aF), (vi aG)]) (x_loadA (a := p2) (vs := [(vi aA), (vi aB), (vi aC), (vu aD), (vs aE), (vi aF), (vi aG)]) (by kernel_rfl) (Tryz.isAgg86 _) (Tryz.sizeOf86 _) rfl hv14) ?_
 refine sc Tryz.call104 (h.mono ?_)
 rintro e w2 ⟨rfrom1, rto1, rnum1, rtext1, rkids1, r1, rfl, h⟩
 refine ⟨_, rfl, ?_⟩
 refine q0 (.tuple #[(.agg #[(vb rfrom1), (vb rto1), (vb rnum1), (vb rtext1), (vi rkids1)]), (vi r1)]) (q0 (.agg #[(vb rfrom1), (vb rto1), (vb rnum1), (vb rtext1), (vi rkids1)]) (q0 (vi r1) (sn (O := (.cells #[(vb false), (vb false), (vb false), (vb false), (vi 0)] 149)) (x_alloc (Tryz.zeroValue149 _) rfl) ?_)))
 intro p3 w3 hn3
 have h := h p3 w3 hn3
 obtain ⟨hp1, h⟩ := h
 refine st_set (want0 rfl) (x_storeA (a := p3) (vs := [(vb rfrom1), (vb rto1), (vb rnum1), (vb rtext1), (vi rkids1)]) (by kernel_rfl) (by kernel_rfl) rfl (Tryz.sizeOf149 _) rfl hp1) ?_
 intro w4 hn1
 have h := h w4 hn1
 refine q0 (vi r1) (wpL_nil (th_n ?_))
 refine wpE_join (fun ρ w => ∃ e1 : Int, Has ρ [(0, (vp p1)), (3, (vp (some p2))), (7, (vp (some p3))), (8, (vi e1))] ∧ m_G_j1 p1 p2 p3 e1 w K) ?_ ?_
 ·rintro ρ w ⟨e1, hH, h⟩
  unfold m_G_j1 at h
  refine wpE_has hH ?_
  refine wpE_join (fun ρ w => ∃ e2 : Int, Has ρ [(0, (vp p1)), (3, (vp (some p2))), (7, (vp (some p3))), (8, (vi e2))] ∧ m_G_j2 p1 p2 p3 e2 w K) ?_ ?_
  ·rintro ρ w ⟨e2, hH, h⟩
   unfold m_G_j2 at h
   refine wpE_has hH ?_
   refine wpE_seq (wpE_seq (rg (q0 (vi e2) (q0 (vb (e2 != 0)) (wpL_nil (th_n ?_))))))
   refine wpE_cond (t := (e2 != 0)) (by kernel_rfl) (fun hc1 => ?_) (fun hc1 => ?_)
   ·have h := h.1 hc1
    refine wpE_seq (rg (q0 (vi e2) (q0 (vi 0) (q0 (vi 0) (q0 (vi e2) (wpL_nil (th_n (wpE_ret (th_r (res3 (.inl rfl) Tryz.results102 (v := (vi 0)) (by kernel_rfl) (v' := (vi 0)) (by kernel_rfl) (v'' := (vi e2)) (by kernel_rfl) ?_))))))))))
    exact ⟨0, 0, e2, rfl, h⟩
   ·have h := h.2 hc1
    refine wpE_skip (th_n (wpE_seq (rg (q0 (vi 1) (q0 (vi 0) (wpL_nil (th_n (wpE_seq (wpE_seq (rg (q0 (vp (some (p2.add 5))) ?_)))))))))))
    obtain ⟨v1, hv7, h⟩ := h
    refine q2 (vi v1) (xl (Tryz.isAgg30 _) hv7) (q0 (vp (some (p2.add 6))) ?_)
    obtain ⟨v2, hv6, h⟩ := h
    refine q2 (vi v2) (xl (Tryz.isAgg30 _) hv6) (st_new (O := (.cells #[(vi v1), (vi v2)] 30)) (fun p => (Sl.mk (some p) 2 2).v) (want0 rfl) (x_buildSlice (vs := #[(0, (vi v1)), (1, (vi v2))]) (by kernel_rfl) (by kernel_rfl)) ?_)
    intro p4 w5 hn2
    have h := h p4 w5 hn2
    refine q0 (vp (some (p3.add 4))) ?_
    obtain ⟨v3, hv5, h⟩ := h
    refine q2 (vi v3) (xl (Tryz.isAgg3 _) hv5) ?_
    obtain ⟨s1, hv4, h⟩ := h
    refine q2 s1.v (x_slice (by kernel_rfl) (by kernel_rfl) (by kernel_rfl) (by kernel_rfl) hv4) (q0 (vi (s1.len : Int)) (q0 (vi 0) (wpL_nil (th_n (wpE_block ?_)))))
    obtain ⟨I1, mu1, h0, hr⟩ := h
    refine wpE_loop (σ := Int × Int × Int × World) (fun s ρ w => w = s.2.2.2 ∧ Has ρ [(0, (vp p1)), (9, (vi s.1)), (10, (vi s.2.1)), (55, s1.v), (56, (vi (s1.len : Int))), (57, (vi s.2.2.1))] ∧ I1 s.1 s.2.1 s.2.2.1 s.2.2.2) (fun s => mu1 s.1 s.2.1 s.2.2.1 s.2.2.2) (1, 0, 0, w5) ⟨rfl, hm, h0⟩ ?_
    rintro ⟨size1, depth1, x1, wl1⟩ ρ w ⟨hw, hH, hI⟩
    obtain rfl : wl1 = w := (show w = wl1 from hw).symm
    have hH : Has ρ [(0, (vp p1)), (9, (vi size1)), (10, (vi depth1)), (55, s1.v), (56, (vi (s1.len : Int))), (57, (vi x1))] := hH
    have h := hr size1 depth1 x1 wl1 hI
    unfold m_G_l3 at h
    refine wpE_has hH ?_
    refine wpE_seq (rg (q0 (vb (decide (x1 < (s1.len : Int)))) (wpL_nil (th_n (wpE_seq ?_)))))
    refine wpE_cond (t := (decide (x1 < (s1.len : Int)))) (by kernel_rfl) (fun hc2 => ?_) (fun hc2 => ?_)
    ·have h := h.1 hc2
     refine wpE_skip (th_n (wpE_seq (wpE_block (wpE_seq (rg ?_)))))
     obtain ⟨a1, hv3, h⟩ := h
     refine q2 (vp (some a1)) (xi (Tryz.runUnderlying52 _) (Tryz.sizeOf30 _) hv3) ?_
     obtain ⟨v4, hv2, h⟩ := h
     refine q2 (vi v4) (xl (Tryz.isAgg30 _) hv2) (q0 (vi v4) (wpL_nil (th_n (wpE_seq (wpE_seq (rg (q0 (vp p1) (q0 (vi v4) ?_))))))))
     refine sc Tryz.call80 (h.mono ?_)
     rintro e w6 ⟨r2, rfl, h⟩
     refine ⟨_, rfl, ?_⟩
     refine q0 (vb (!r2)) (wpL_nil (th_n ?_))
     refine wpE_cond (t := (!r2)) (by kernel_rfl) (fun hc3 => ?_) (fun hc3 => ?_)
     ·have h := h.1 hc3
      refine wpE_seq (rg (q0 (vi 0) (q0 (vi 0) (q0 (vi 51) (wpL_nil (th_n (wpE_ret (th_r (bl_r (th_r (th_r ?_)))))))))))
      refine bl_r (th_r (res3 (.inl rfl) Tryz.results102 (v := (vi 0)) (by kernel_rfl) (v' := (vi 0)) (by kernel_rfl) (v'' := (vi 51)) (by kernel_rfl) ?_))
      exact ⟨0, 0, 51, rfl, h⟩
     ·have h := h.2 hc3
      refine wpE_skip (th_n (wpE_seq (rg (q0 (vi size1) (q0 (vp p1) (q0 (vi v4) ?_))))))
      refine sc Tryz.call143 (h.mono ?_)
      rintro e w7 ⟨r3, rfl, h⟩
      refine ⟨_, rfl, ?_⟩
      refine q0 (vi (q6.wrap (size1 + r3))) (q0 (vi (q6.wrap (size1 + r3))) (wpL_nil (th_n (rg (q0 (vi depth1) (q0 (vp p1) (q0 (vi v4) ?_)))))))
      refine sc Tryz.call144 (h.mono ?_)
      rintro e w8 ⟨r4, rfl, h⟩
      refine ⟨_, rfl, ?_⟩
      obtain ⟨z1, hv1, h⟩ := h
      refine q2 (vi z1) (x_builtin (args := #[(vi depth1), (vi r4)]) (by kernel_rfl) (fun _ => rfl) hv1) (q0 (vi z1) (wpL_nil (bl_n (th_n (rg (q0 (vi (q6.wrap (x1 + 1))) (q0 (vi (q6.wrap (x1 + 1))) (wpL_nil (th_n ?_)))))))))
      exact ⟨((q6.wrap (size1 + r3)), z1, (q6.wrap (x1 + 1)), w8), ⟨rfl, hm, h.1⟩, h.2⟩
    ·have h := h.2 hc2
     refine wpE_exit (th_x (th_x (bl_eq (th_n (wpE_seq (rg (q0 (vi depth1) (q0 (vi (q6.wrap (depth1 + 1))) (q0 (vi (q6.wrap (depth1 + 1))) (wpL_nil (th_n ?_)))))))))))
     refine wpE_seq (wpE_seq (rg (q0 (vi size1) (q0 (vb (decide (size1 > 4096))) (q0 (vb (decide (size1 > 4096))) ?_)))))
     rcases Bool.eq_false_or_eq_true (decide (size1 > 4096)) with hg1 | hg1
     ·have h := h.1 hg1
      refine sk (yD 80 hg1) (sk (yD 80 hg1) (q2 (vb true) (xT hg1) (wpL_nil (th_n (wpE_condT (by kernel_rfl) (wpE_seq (rg (q0 (vi 0) (q0 (vi 0) (q0 (vi 52) (wpL_nil ?_)))))))))))
      refine th_n (wpE_ret (th_r (res3 (.inl rfl) Tryz.results102 (v := (vi 0)) (by kernel_rfl) (v' := (vi 0)) (by kernel_rfl) (v'' := (vi 52)) (by kernel_rfl) ?_)))
      exact ⟨0, 0, 52, rfl, h⟩
     ·have h := h.2 hg1
      refine q1 (vi (q6.wrap (depth1 + 1))) (want1 rfl (yD 80 hg1)) (q1 (vb (decide ((q6.wrap (depth1 + 1)) > 64))) (want1 rfl (yD 80 hg1)) (q2 (vb (decide ((q6.wrap (depth1 + 1)) > 64))) (xF hg1) (wpL_nil (th_n ?_))))
      refine wpE_cond (t := (decide ((q6.wrap (depth1 + 1)) > 64))) (by kernel_rfl) (fun hc4 => ?_) (fun hc4 => ?_)
      ·have h := h.1 hc4
       refine wpE_seq (rg (q0 (vi 0) (q0 (vi 0) (q0 (vi 52) (wpL_nil (th_n (wpE_ret (th_r (res3 (.inl rfl) Tryz.results102 (v := (vi 0)) (by kernel_rfl) (v' := (vi 0)) (by kernel_rfl) (v'' := (vi 52)) (by kernel_rfl) ?_)))))))))
       exact ⟨0, 0, 52, rfl, h⟩
      ·have h := h.2 hc4
       refine wpE_skip (th_n (wpE_seq (rg (q0 (vi size1) (q0 (vi (q6.wrap (depth1 + 1))) (q0 (vi size1) (q0 (vi (q6.wrap (depth1 + 1))) (q0 (vi 0) (wpL_nil (th_n (wpE_ret ?_)))))))))))
       refine res3 (.inl rfl) Tryz.results102 (v := (vi size1)) (by kernel_rfl) (v' := (vi (q6.wrap (depth1 + 1)))) (by kernel_rfl) (v'' := (vi 0)) (by kernel_rfl) ?_
       exact ⟨size1, (q6.wrap (depth1 + 1)), 0, rfl, h⟩
  ·refine wpE_seq (rg (q0 (vi e1) (q0 (vb (e1 == 0)) (wpL_nil (th_n ?_)))))
   refine wpE_cond (t := (e1 == 0)) (by kernel_rfl) (fun hc5 => ?_) (fun hc5 => ?_)
   ·have h := h.1 hc5
    refine rg ?_
    obtain ⟨vfrom1, vto1, vnum1, vtext1, vkids1, hv9, h⟩ := h
    refine q2 (.agg #[(vb vfrom1), (vb vto1), (vb vnum1), (vb vtext1), (vi vkids1)]) (x_loadA (a := p3) (vs := [(vb vfrom1), (vb vto1), (vb vnum1), (vb vtext1), (vi vkids1)]) (by kernel_rfl) (Tryz.isAgg149 _) (Tryz.sizeOf149 _) rfl hv9) ?_
    obtain ⟨aO, aP, aQ, aR, aS, bS, bT, hv8, h⟩ := h
    refine q2 (.agg #[(vi aO), (vi aP), (vi aQ), (vu aR), (vs aS), (vi bS), (vi bT)]) (x_loadA (a := p2) (vs := [(vi aO), (vi aP), (vi aQ), (vu aR), (vs aS), (vi bS), (vi bT)]) (by kernel_rfl) (Tryz.isAgg86 _) (Tryz.sizeOf86 _) rfl hv8) ?_
    refine sc Tryz.call105 (h.mono ?_)
    rintro e w9 ⟨r5, rfl, h⟩
    refine ⟨_, rfl, ?_⟩
    refine q0 (vi r5) (wpL_nil (th_n ?_))
    exact ⟨r5, hm, h⟩
   ·have h := h.2 hc5
    refine wpE_skip (th_n ?_)
    exact ⟨e1, hm, h⟩
 ·refine wpE_seq (rg (q0 (vi r1) (q0 (vb (r1 == 0)) (q0 (vb (r1 == 0)) ?_))))
  rcases Bool.eq_false_or_eq_true (r1 == 0) with hg2 | hg2
  ·have h := h.1 hg2
   refine q1 (vp (some (p3.add 4))) (want1 rfl (yD 20 hg2)) ?_
   obtain ⟨v5, hv13, h⟩ := h
   refine stp (v := (vi v5)) (want1 rfl (yD 20 hg2)) (xl (Tryz.isAgg3 _) hv13) (q1 (vb (decide (v5 < 1))) (want1 rfl (yD 20 hg2)) (q1 (vb (decide (v5 < 1))) (want1 rfl (yD 20 hg2)) ?_))
   refine wpL_join 4 (fun ρ w => ∃ x2 : Bool, Has ρ [(0, (vp p1)), (3, (vp (some p2))), (7, (vp (some p3))), (8, (vi r1)), (20, (vb (r1 == 0))), (28, (vb x2))] ∧ m_G_j4 p1 p2 r1 p3 x2 w K) ?_ ?_
   ·rintro ρ w ⟨x2, hH, h⟩
    unfold m_G_j4 at h
    refine wpL_has hH ?_
    rcases Bool.eq_false_or_eq_true (r1 == 0) with hg3 | hg3
    ·have h := h.1 hg3
     refine q1 (vb x2) (want1 rfl (yD 20 hg3)) ?_
     rcases Bool.eq_false_or_eq_true x2 with hg4 | hg4
     ·have h := h.1 hg4
      refine sk (yD 29 hg4) (sk (yD 29 hg4) (sk (yD 29 hg4) (sk (yD 29 hg4) (sm (sm (sm (sk (yD 29 hg4) (stp (v := (vb true)) (want1 rfl (yD 20 hg3)) (xT hg4) (q2 (vb true) (xT hg3) (wpL_nil (th_n ?_)))))))))))
      refine wpE_condT (by kernel_rfl) (rg (q0 (vi 53) (wpL_nil (th_n ?_))))
      exact ⟨53, hm, h⟩
     ·have h := h.2 hg4
      refine q1 (vp (some (p3.add 4))) (want1 rfl (yD 29 hg4)) ?_
      obtain ⟨v6, hv11, h⟩ := h
      refine stp (v := (vi v6)) (want1 rfl (yD 29 hg4)) (xl (Tryz.isAgg3 _) hv11) (q1 (vb (decide (v6 < 2))) (want1 rfl (yD 29 hg4)) (q1 (vb (decide (v6 < 2))) (want1 rfl (yD 29 hg4)) ?_))
      refine wpL_join 4 (fun ρ w => ∃ x3 : Bool, Has ρ [(0, (vp p1)), (3, (vp (some p2))), (7, (vp (some p3))), (8, (vi r1)), (20, (vb (r1 == 0))), (29, (vb x2)), (37, (vb x3))] ∧ m_G_j5 p1 p2 r1 p3 x2 x3 w K) ?_ ?_
      ·rintro ρ w ⟨x3, hH, h⟩
       unfold m_G_j5 at h
       refine wpL_has hH ?_
       rcases Bool.eq_false_or_eq_true (r1 == 0) with hg5 | hg5
       ·have h := h.1 hg5
        rcases Bool.eq_false_or_eq_true x2 with hg6 | hg6
        ·have h := h.1 hg6
         refine stp (v := (vb true)) (want1 rfl (yD 20 hg5)) (xT hg6) (q2 (vb true) (xT hg5) (wpL_nil (th_n (wpE_condT (by kernel_rfl) (rg (q0 (vi 53) (wpL_nil (th_n ?_))))))))
         exact ⟨53, hm, h⟩
        ·have h := h.2 hg6
         refine stp (v := (vb x3)) (want1 rfl (yD 20 hg5)) (xF hg6) (q2 (vb x3) (xT hg5) (wpL_nil (th_n ?_)))
         refine wpE_cond (t := x3) (by kernel_rfl) (fun hc6 => ?_) (fun hc6 => ?_)
         ·have h := h.1 hc6
          refine rg (q0 (vi 53) (wpL_nil (th_n ?_)))
          exact ⟨53, hm, h⟩
         ·have h := h.2 hc6
          refine wpE_skip (th_n ?_)
          exact ⟨r1, hm, h⟩
       ·have h := h.2 hg5
        refine sk (yD 20 hg5) (q2 (vb false) (xF hg5) (wpL_nil (th_n (wpE_condF (by kernel_rfl) (wpE_skip (th_n ?_))))))
        exact ⟨r1, hm, h⟩
      ·rcases Bool.eq_false_or_eq_true (decide (v6 < 2)) with hg7 | hg7
       ·have h := h.1 hg7
        refine q1 (vp (some (p2.add 6))) (want1 rfl (yD 33 hg7)) ?_
        obtain ⟨v7, hv10, h⟩ := h
        refine stp (v := (vi v7)) (want1 rfl (yD 33 hg7)) (xl (Tryz.isAgg30 _) hv10) (q1 (vb (v7 != 0)) (want1 rfl (yD 33 hg7)) (stp (v := (vb (v7 != 0))) (want1 rfl (yD 29 hg4)) (xT hg7) (wpL_nil ?_)))
        exact ⟨(v7 != 0), hm, h⟩
       ·have h := h.2 hg7
        refine sk (yD 33 hg7) (sk (yD 33 hg7) (sk (yD 33 hg7) (stp (v := (vb false)) (want1 rfl (yD 29 hg4)) (xF hg7) (wpL_nil ?_))))
        exact ⟨false, hm, h⟩
    ·have h := h.2 hg3
     refine sk (yD 20 hg3) (sm (sm (sm (sm (sm (sm (sm (sm (sk (yD 20 hg3) (q2 (vb false) (xF hg3) (wpL_nil ?_)))))))))))
     refine th_n (wpE_condF (by kernel_rfl) (wpE_skip (th_n ?_)))
     exact ⟨r1, hm, h⟩
   ·rcases Bool.eq_false_or_eq_true (decide (v5 < 1)) with hg8 | hg8
    ·have h := h.1 hg8
     refine q1 (vp (some (p2.add 5))) (want1 rfl (yD 24 hg8)) ?_
     obtain ⟨v8, hv12, h⟩ := h
     refine stp (v := (vi v8)) (want1 rfl (yD 24 hg8)) (xl (Tryz.isAgg30 _) hv12) (q1 (vb (v8 != 0)) (want1 rfl (yD 24 hg8)) (stp (v := (vb (v8 != 0))) (want1 rfl (yD 20 hg2)) (xT hg8) (wpL_nil ?_)))
     exact ⟨(v8 != 0), hm, h⟩
    ·have h := h.2 hg8
     refine sk (yD 24 hg8) (sk (yD 24 hg8) (sk (yD 24 hg8) (stp (v := (vb false)) (want1 rfl (yD 20 hg2)) (xF hg8) (wpL_nil ?_))))
     exact ⟨false, hm, h⟩
  ·have h := h.2 hg2
   refine sk (yD 20 hg2) (sk (yD 20 hg2) (sk (yD 20 hg2) (sk (yD 20 hg2) (sm (sm (sm (sk (yD 20 hg2) (sk (yD 20 hg2) (sm (sm (sm ?_)))))))))))
   refine sm (sm (sm (sm (sm (sk (yD 20 hg2) (q2 (vb false) (xF hg2) (wpL_nil (th_n (wpE_condF (by kernel_rfl) (wpE_skip (th_n ?_)))))))))))
   exact ⟨r1, hm, h⟩
def m_W2 (bA bB : Int) (bC bD : Int) (bE : ByteArray) (bF : Sl) (w : World) (K : Int → Int → Int → Int → ByteArray → Int → Int → WP) : Prop :=
 ∀ (p1 : Addr) (w1 : World), New w (.cells #[(vi bA), (vi bB), (vi bC), (vu bD), (vs bE), bF.v] 49) p1 w1 →
 ∀ (p2 : Addr) (w2 : World), New w1 (.cells #[(vi 0), (vi 0), (vi 0), (vu 0), (vs ⟨#[]⟩), (vi 0), (vi 0)] 86) p2 w2 →
 ∃ v1 : Int, w2.cell? p1 = some (vi v1) ∧
 ∃ v2 : Int, w2.cell? (p1.add 1) = some (vi v2) ∧
 ∃ v3 : Int, w2.cell? (p1.add 2) = some (vi v3) ∧
 ∃ v4 : Int, w2.cell? (p1.add 3) = some (vu v4) ∧
 ∃ v5 : ByteArray, w2.cell? (p1.add 4) = some (vs v5) ∧
 (∀ j, j < 7 → CanW w2 (p2.add j)) ∧ ∀ w3 : World, w3 = storeRow w2 p2 [(vi v1), (vi v2), (vi v3), (vu v4), (vs v5), (vi 0), (vi 0)] →
 ∃ bH bI : Int, ∃ bJ bK : Int, ∃ bL : ByteArray, ∃ cE cF : Int, Row w3 p2 [(vi bH), (vi bI), (vi bJ), (vu bK), (vs bL), (vi cE), (vi cF)] ∧
 K bH bI bJ bK bL cE cF w3
theorem w_W2 (bA bB : Int) (bC bD : Int) (bE : ByteArray) (bF : Sl) (w : World) (K : Int → Int → Int → Int → ByteArray → Int → Int → WP) (h : m_W2 bA bB bC bD bE bF w K) :
  Calls Tryz.prog 103 #[(.agg #[(vi bA), (vi bB), (vi bC), (vu bD), (vs bE), bF.v])] w (fun e w' => ∃ aT aU : Int, ∃ aV aW : Int, ∃ aX : ByteArray, ∃ aY aZ : Int, e = .returned (.agg #[(vi aT), (vi aU), (vi aV), (vu aW), (vs aX), (vi aY), (vi aZ)]) ∧ K aT aU aV aW aX aY aZ w') := by
 unfold m_W2 at h
 refine cw (args := [(.agg #[(vi bA), (vi bB), (vi bC), (vu bD), (vs bE), bF.v])]) Tryz.func103 Tryz.ntmps103 (wpE_seq (rg (sn (O := (.cells #[(vi bA), (vi bB), (vi bC), (vu bD), (vs bE), bF.v] 49)) xb ?_)))
 intro p1 w1 hn3
 have h := h p1 w1 hn3
 refine sn (O := (.cells #[(vi 0), (vi 0), (vi 0), (vu 0), (vs ⟨#[]⟩), (vi 0), (vi 0)] 86)) (x_alloc (Tryz.zeroValue86 _) rfl) ?_
 intro p2 w2 hn2
 have h := h p2 w2 hn2
 refine wpL_nil (th_n (wpE_seq (rg (q0 (vp (some p1)) ?_))))
 obtain ⟨v1, hv6, h⟩ := h
 refine q2 (vi v1) (xl (Tryz.isAgg3 _) hv6) (q0 (vp (some (p1.add 1))) ?_)
 obtain ⟨v2, hv5, h⟩ := h
 refine q2 (vi v2) (xl (Tryz.isAgg3 _) hv5) (q0 (vp (some (p1.add 2))) ?_)
 obtain ⟨v3, hv4, h⟩ := h
 refine q2 (vi v3) (xl (Tryz.isAgg3 _) hv4) (q0 (vp (some (p1.add 3))) ?_)
 obtain ⟨v4, hv3, h⟩ := h
 refine q2 (vu v4) (xl (Tryz.isAgg47 _) hv3) (q0 (vp (some (p1.add 4))) ?_)
 obtain ⟨v5, hv2, h⟩ := h
 refine q2 (vs v5) (xl (Tryz.isAgg9 _) hv2) (q0 (.agg #[(vi v1), (vi v2), (vi v3), (vu v4), (vs v5), (vi 0), (vi 0)]) ?_)
 obtain ⟨hp1, h⟩ := h
 refine st_set (want0 rfl) (x_storeA (a := p2) (vs := [(vi v1), (vi v2), (vi v3), (vu v4), (vs v5), (vi 0), (vi 0)]) (by kernel_rfl) (by kernel_rfl) rfl (Tryz.sizeOf86 _) rfl hp1) ?_
 intro w3 hn1
 have h := h w3 hn1
 refine wpL_nil (th_n (wpE_ret ?_))
 obtain ⟨bH, bI, bJ, bK, bL, cE, cF, hv1, h⟩ := h
 refine resG (.inl rfl) (vs := [(.agg #[(vi bH), (vi bI), (vi bJ), (vu bK), (vs bL), (vi cE), (vi cF)])]) (v := (.agg #[(vi bH), (vi bI), (vi bJ), (vu bK), (vs bL), (vi cE), (vi cF)])) Tryz.results103 ⟨(RV.cellA (by kernel_rfl) (Tryz.isAgg86 _) (Tryz.sizeOf86 _) rfl hv1), trivial⟩ (by kernel_rfl) ?_
 exact ⟨bH, bI, bJ, bK, bL, cE, cF, rfl, h⟩
def m_F_j3 (p1 p2 p3 : Addr) (x3 : Bool) (w : World) (K : Bool → Bool → Bool → Bool → Int → Int → WP) : Prop :=
 Br x3
  (∃ vfrom1 vto1 : Bool, ∃ vnum1 vtext1 : Bool, ∃ vkids1 : Int, Row w p3 [(vb vfrom1), (vb vto1), (vb vnum1), (vb vtext1), (vi vkids1)] ∧
  (∀ j, j < 5 → CanW w (p2.add j)) ∧ ∀ w6 : World, w6 = storeRow w p2 [(vb vfrom1), (vb vto1), (vb vnum1), (vb vtext1), (vi vkids1)] →
  ∃ qfrom1 qto1 : Bool, ∃ qnum1 qtext1 : Bool, ∃ qkids1 : Int, Row w6 p2 [(vb qfrom1), (vb qto1), (vb qnum1), (vb qtext1), (vi qkids1)] ∧
  K qfrom1 qto1 qnum1 qtext1 qkids1 53 w6)
  (∃ v2 : Bool, w.cell? (p3.add 3) = some (vb v2) ∧
  Br (!v2)
   (∃ v3 : ByteArray, w.cell? (p1.add 4) = some (vs v3) ∧
   Br (!(decide (v3 = ⟨#[]⟩)))
    (∃ vfrom2 vto2 : Bool, ∃ vnum2 vtext2 : Bool, ∃ vkids2 : Int, Row w p3 [(vb vfrom2), (vb vto2), (vb vnum2), (vb vtext2), (vi vkids2)] ∧
    (∀ j, j < 5 → CanW w (p2.add j)) ∧ ∀ w7 : World, w7 = storeRow w p2 [(vb vfrom2), (vb vto2), (vb vnum2), (vb vtext2), (vi vkids2)] →
    ∃ qfrom2 qto2 : Bool, ∃ qnum2 qtext2 : Bool, ∃ qkids2 : Int, Row w7 p2 [(vb qfrom2), (vb qto2), (vb qnum2), (vb qtext2), (vi qkids2)] ∧
    K qfrom2 qto2 qnum2 qtext2 qkids2 53 w7)
    (∃ vfrom3 vto3 : Bool, ∃ vnum3 vtext3 : Bool, ∃ vkids3 : Int, Row w p3 [(vb vfrom3), (vb vto3), (vb vnum3), (vb vtext3), (vi vkids3)] ∧
    (∀ j, j < 5 → CanW w (p2.add j)) ∧ ∀ w8 : World, w8 = storeRow w p2 [(vb vfrom3), (vb vto3), (vb vnum3), (vb vtext3), (vi vkids3)] →
    ∃ qfrom3 qto3 : Bool, ∃ qnum3 qtext3 : Bool, ∃ qkids3 : Int, Row w8 p2 [(vb qfrom3), (vb qto3), (vb qnum3), (vb qtext3), (vi qkids3)] ∧
    K qfrom3 qto3 qnum3 qtext3 qkids3 0 w8))
   (∃ vfrom4 vto4 : Bool, ∃ vnum4 vtext4 : Bool, ∃ vkids4 : Int, Row w p3 [(vb vfrom4), (vb vto4), (vb vnum4), (vb vtext4), (vi vkids4)] ∧
   (∀ j, j < 5 → CanW w (p2.add j)) ∧ ∀ w9 : World, w9 = storeRow w p2 [(vb vfrom4), (vb vto4), (vb vnum4), (vb vtext4), (vi vkids4)] →
   ∃ qfrom4 qto4 : Bool, ∃ qnum4 qtext4 : Bool, ∃ qkids4 : Int, Row w9 p2 [(vb qfrom4), (vb qto4), (vb qnum4), (vb qtext4), (vi qkids4)] ∧
   K qfrom4 qto4 qnum4 qtext4 qkids4 0 w9))
def m_F_j4 (p1 p2 p3 : Addr) (x2 x4 : Bool) (w : World) (K : Bool → Bool → Bool → Bool → Int → Int → WP) : Prop :=
 Br x2
  (m_F_j3 p1 p2 p3 true w K)
  (m_F_j3 p1 p2 p3 x4 w K)
def m_F_j2 (p1 p2 p3 : Addr) (x2 : Bool) (w : World) (K : Bool → Bool → Bool → Bool → Int → Int → WP) : Prop :=
 Br x2
  (m_F_j3 p1 p2 p3 true w K)
  (∃ v4 : Bool, w.cell? (p3.add 2) = some (vb v4) ∧
  Br (!v4)
   (∃ v5 : Int, w.cell? (p1.add 3) = some (vu v5) ∧
   m_F_j4 p1 p2 p3 x2 (v5 != 0) w K)
   (m_F_j4 p1 p2 p3 x2 false w K))
def m_F_j5 (p1 p2 p3 : Addr) (x1 x5 : Bool) (w : World) (K : Bool → Bool → Bool → Bool → Int → Int → WP) : Prop :=
 Br x1
  (m_F_j2 p1 p2 p3 true w K)
  (m_F_j2 p1 p2 p3 x5 w K)
def m_F_j1 (p1 p2 p3 : Addr) (x1 : Bool) (w : World) (K : Bool → Bool → Bool → Bool → Int → Int → WP) : Prop :=
 Br x1
  (m_F_j2 p1 p2 p3 true w K)
  (∃ v6 : Bool, w.cell? (p3.add 1) = some (vb v6) ∧
  Br (!v6)
   (∃ v7 : Int, w.cell? (p1.add 2) = some (vi v7) ∧
   m_F_j5 p1 p2 p3 x1 (v7 != 0) w K)
   (m_F_j5 p1 p2 p3 x1 false w K))
def m_F_j6 (p1 p2 : Addr) (r1 : Bool) (p3 : Addr) (x6 : Bool) (w : World) (K : Bool → Bool → Bool → Bool → Int → Int → WP) : Prop :=
 Br (!r1)
  (m_F_j1 p1 p2 p3 true w K)
  (m_F_j1 p1 p2 p3 x6 w K)
def m_F (aH aI : Int) (aJ aK : Int) (aL : ByteArray) (aM aN : Int) (w : World) (K : Bool → Bool → Bool → Bool → Int → Int → WP) : Prop :=
 ∀ (p1 : Addr) (w1 : World), New w (.cells #[(vi aH), (vi aI), (vi aJ), (vu aK), (vs aL), (vi aM), (vi aN)] 86) p1 w1 →
 ∀ (p2 : Addr) (w2 : World), New w1 (.cells #[(vb false), (vb false), (vb false), (vb false), (vi 0)] 149) p2 w2 →
 ∃ v1 : Int, w2.cell? p1 = some (vi v1) ∧
 Calls Tryz.prog 91 #[(vi v1)] w2 (fun e w3 => ∃ rfrom1 rto1 : Bool, ∃ rnum1 rtext1 : Bool, ∃ rkids1 : Int, ∃ r1 : Bool, e = .returned (.tuple #[(.agg #[(vb rfrom1), (vb rto1), (vb rnum1), (vb rtext1), (vi rkids1)]), (vb r1)]) ∧ 
  ∀ (p3 : Addr) (w4 : World), New w3 (.cells #[(vb false), (vb false), (vb false), (vb false), (vi 0)] 149) p3 w4 →
  (∀ j, j < 5 → CanW w4 (p3.add j)) ∧ ∀ w5 : World, w5 = storeRow w4 p3 [(vb rfrom1), (vb rto1), (vb rnum1), (vb rtext1), (vi rkids1)] →
  Br (!r1)
   (m_F_j1 p1 p2 p3 true w5 K)
   (∃ v8 : Bool, w5.cell? p3 = some (vb v8) ∧
   Br (!v8)
    (∃ v9 : Int, w5.cell? (p1.add 1) = some (vi v9) ∧
    m_F_j6 p1 p2 r1 p3 (v9 != 0) w5 K)
    (m_F_j6 p1 p2 r1 p3 false w5 K)))
theorem w_F (aH aI : Int) (aJ aK : Int) (aL : ByteArray) (aM aN : Int) (w : World) (K : Bool → Bool → Bool → Bool → Int → Int → WP) (h : m_F aH aI aJ aK aL aM aN w K) :
  Calls Tryz.prog 104 #[(.agg #[(vi aH), (vi aI), (vi aJ), (vu aK), (vs aL), (vi aM), (vi aN)])] w (fun e w' => ∃ rfrom2 rto2 : Bool, ∃ rnum2 rtext2 : Bool, ∃ rkids2 r2 : Int, e = .returned (.tuple #[(.agg #[(vb rfrom2), (vb rto2), (vb rnum2), (vb rtext2), (vi rkids2)]), (vi r2)]) ∧ K rfrom2 rto2 rnum2 rtext2 rkids2 r2 w') := by
 unfold m_F at h
 refine cw (args := [(.agg #[(vi aH), (vi aI), (vi aJ), (vu aK), (vs aL), (vi aM), (vi aN)])]) Tryz.func104 Tryz.ntmps104 (wpE_seq (rg (sn (O := (.cells #[(vi aH), (vi aI), (vi aJ), (vu aK), (vs aL), (vi aM), (vi aN)] 86)) xb ?_)))
 intro p1 w1 hn8
 have h := h p1 w1 hn8
 refine sn (O := (.cells #[(vb false), (vb false), (vb false), (vb false), (vi 0)] 149)) (x_alloc (Tryz.zeroValue149 _) rfl) ?_
 intro p2 w2 hn7
 have h := h p2 w2 hn7
 refine q0 (vi 0) (wpL_nil (th_n (wpE_seq (rg (q0 (vp (some p1)) ?_)))))
 obtain ⟨v1, hv17, h⟩ := h
 refine q2 (vi v1) (xl (Tryz.isAgg3 _) hv17) ?_
 refine sc Tryz.call91 (h.mono ?_)
 rintro e w3 ⟨rfrom1, rto1, rnum1, rtext1, rkids1, r1, rfl, h⟩
 refine ⟨_, rfl, ?_⟩
 refine q0 (.tuple #[(.agg #[(vb rfrom1), (vb rto1), (vb rnum1), (vb rtext1), (vi rkids1)]), (vb r1)]) (q0 (.agg #[(vb rfrom1), (vb rto1), (vb rnum1), (vb rtext1), (vi rkids1)]) (q0 (vb r1) (sn (O := (.cells #[(vb false), (vb false), (vb false), (vb false), (vi 0)] 149)) (x_alloc (Tryz.zeroValue149 _) rfl) ?_)))
 intro p3 w4 hn6
 have h := h p3 w4 hn6
 obtain ⟨hp1, h⟩ := h
 refine st_set (want0 rfl) (x_storeA (a := p3) (vs := [(vb rfrom1), (vb rto1), (vb rnum1), (vb rtext1), (vi rkids1)]) (by kernel_rfl) (by kernel_rfl) rfl (Tryz.sizeOf149 _) rfl hp1) ?_
 intro w5 hn1
 have h := h w5 hn1
 refine q0 (vb r1) (wpL_nil (th_n (wpE_seq (wpE_seq (rg (q0 (vb r1) (q0 (vb (!r1)) (q0 (vb (!r1)) ?_))))))))
 refine wpL_join 9 (fun ρ w => ∃ x1 : Bool, Has ρ [(1, (vp (some p1))), (2, (vp (some p2))), (4, (vp (some p3))), (23, (vb x1))] ∧ m_F_j1 p1 p2 p3 x1 w K) ?_ ?_
 ·rintro ρ w ⟨x1, hH, h⟩
  unfold m_F_j1 at h
  refine wpL_has hH ?_
  refine q0 (vb x1) ?_
  refine wpL_join 9 (fun ρ w => ∃ x2 : Bool, Has ρ [(1, (vp (some p1))), (2, (vp (some p2))), (4, (vp (some p3))), (33, (vb x2))] ∧ m_F_j2 p1 p2 p3 x2 w K) ?_ ?_
  ·rintro ρ w ⟨x2, hH, h⟩
   unfold m_F_j2 at h
   refine wpL_has hH ?_
   refine q0 (vb x2) ?_
   refine wpL_join 9 (fun ρ w => ∃ x3 : Bool, Has ρ [(1, (vp (some p1))), (2, (vp (some p2))), (4, (vp (some p3))), (43, (vb x3))] ∧ m_F_j3 p1 p2 p3 x3 w K) ?_ ?_
   ·rintro ρ w ⟨x3, hH, h⟩
    unfold m_F_j3 at h
    refine wpL_has hH ?_
    refine q0 (vb x3) ?_
    rcases Bool.eq_false_or_eq_true x3 with hg1 | hg1
    ·have h := h.1 hg1
     refine sk (yD 44 hg1) (sk (yD 44 hg1) (sk (yD 44 hg1) (sk (yD 44 hg1) (sm (sm (sm (sk (yD 44 hg1) (q2 (vb true) (xT hg1) (wpL_nil (th_n (wpE_condT (by kernel_rfl) ?_)))))))))))
     refine wpE_seq (rg ?_)
     obtain ⟨vfrom1, vto1, vnum1, vtext1, vkids1, hv2, h⟩ := h
     refine q2 (.agg #[(vb vfrom1), (vb vto1), (vb vnum1), (vb vtext1), (vi vkids1)]) (x_loadA (a := p3) (vs := [(vb vfrom1), (vb vto1), (vb vnum1), (vb vtext1), (vi vkids1)]) (by kernel_rfl) (Tryz.isAgg149 _) (Tryz.sizeOf149 _) rfl hv2) ?_
     obtain ⟨hp2, h⟩ := h
     refine st_set (want0 rfl) (x_storeA (a := p2) (vs := [(vb vfrom1), (vb vto1), (vb vnum1), (vb vtext1), (vi vkids1)]) (by kernel_rfl) (by kernel_rfl) rfl (Tryz.sizeOf149 _) rfl hp2) ?_
     intro w6 hn2
     have h := h w6 hn2
     refine q0 (vi 53) (wpL_nil (th_n (wpE_ret (th_r ?_))))
     obtain ⟨qfrom1, qto1, qnum1, qtext1, qkids1, hv1, h⟩ := h
     refine resG (.inl rfl) (vs := [(.agg #[(vb qfrom1), (vb qto1), (vb qnum1), (vb qtext1), (vi qkids1)]), (vi 53)]) (v := (.tuple #[(.agg #[(vb qfrom1), (vb qto1), (vb qnum1), (vb qtext1), (vi qkids1)]), (vi 53)])) Tryz.results104 ⟨(RV.cellA (by kernel_rfl) (Tryz.isAgg149 _) (Tryz.sizeOf149 _) rfl hv1), (rvT (by kernel_rfl)), trivial⟩ (by kernel_rfl) ?_
     exact ⟨qfrom1, qto1, qnum1, qtext1, qkids1, 53, rfl, h⟩
    ·have h := h.2 hg1
     refine q1 (vp (some (p3.add 3))) (want1 rfl (yD 44 hg1)) ?_
     obtain ⟨v2, hv10, h⟩ := h
     refine stp (v := (vb v2)) (want1 rfl (yD 44 hg1)) (xl (Tryz.isAgg4 _) hv10) (q1 (vb (!v2)) (want1 rfl (yD 44 hg1)) (q1 (vb (!v2)) (want1 rfl (yD 44 hg1)) ?_))
     rcases Bool.eq_false_or_eq_true (!v2) with hg2 | hg2
     ·have h := h.1 hg2
      refine q1 (vp (some (p1.add 4))) (want1 rfl (yD 48 hg2)) ?_
      obtain ⟨v3, hv7, h⟩ := h
      refine stp (v := (vs v3)) (want1 rfl (yD 48 hg2)) (xl (Tryz.isAgg9 _) hv7) (stp (v := (vb (!(decide (v3 = ⟨#[]⟩))))) (want1 rfl (yD 48 hg2)) (x_strneq (by kernel_rfl) (by kernel_rfl)) (stp (v := (vb (!(decide (v3 = ⟨#[]⟩))))) (want1 rfl (yD 44 hg1)) (xT hg2) (q2 (vb (!(decide (v3 = ⟨#[]⟩)))) (xF hg1) (wpL_nil (th_n ?_)))))
      refine wpE_cond (t := (!(decide (v3 = ⟨#[]⟩)))) (by kernel_rfl) (fun hc1 => ?_) (fun hc1 => ?_)
      ·have h := h.1 hc1
       refine wpE_seq (rg ?_)
       obtain ⟨vfrom2, vto2, vnum2, vtext2, vkids2, hv4, h⟩ := h
       refine q2 (.agg #[(vb vfrom2), (vb vto2), (vb vnum2), (vb vtext2), (vi vkids2)]) (x_loadA (a := p3) (vs := [(vb vfrom2), (vb vto2), (vb vnum2), (vb vtext2), (vi vkids2)]) (by kernel_rfl) (Tryz.isAgg149 _) (Tryz.sizeOf149 _) rfl hv4) ?_
       obtain ⟨hp3, h⟩ := h
       refine st_set (want0 rfl) (x_storeA (a := p2) (vs := [(vb vfrom2), (vb vto2), (vb vnum2), (vb vtext2), (vi vkids2)]) (by kernel_rfl) (by kernel_rfl) rfl (Tryz.sizeOf149 _) rfl hp3) ?_
       intro w7 hn3
       have h := h w7 hn3
       refine q0 (vi 53) (wpL_nil (th_n (wpE_ret (th_r ?_))))
       obtain ⟨qfrom2, qto2, qnum2, qtext2, qkids2, hv3, h⟩ := h
       refine resG (.inl rfl) (vs := [(.agg #[(vb qfrom2), (vb qto2), (vb qnum2), (vb qtext2), (vi qkids2)]), (vi 53)]) (v := (.tuple #[(.agg #[(vb qfrom2), (vb qto2), (vb qnum2), (vb qtext2), (vi qkids2)]), (vi 53)])) Tryz.results104 ⟨(RV.cellA (by kernel_rfl) (Tryz.isAgg149 _) (Tryz.sizeOf149 _) rfl hv3), (rvT (by kernel_rfl)), trivial⟩ (by kernel_rfl) ?_
       exact ⟨qfrom2, qto2, qnum2, qtext2, qkids2, 53, rfl, h⟩
      ·have h := h.2 hc1
       refine wpE_skip (th_n (wpE_seq (rg ?_)))
       obtain ⟨vfrom3, vto3, vnum3, vtext3, vkids3, hv6, h⟩ := h
       refine q2 (.agg #[(vb vfrom3), (vb vto3), (vb vnum3), (vb vtext3), (vi vkids3)]) (x_loadA (a := p3) (vs := [(vb vfrom3), (vb vto3), (vb vnum3), (vb vtext3), (vi vkids3)]) (by kernel_rfl) (Tryz.isAgg149 _) (Tryz.sizeOf149 _) rfl hv6) ?_
       obtain ⟨hp4, h⟩ := h
       refine st_set (want0 rfl) (x_storeA (a := p2) (vs := [(vb vfrom3), (vb vto3), (vb vnum3), (vb vtext3), (vi vkids3)]) (by kernel_rfl) (by kernel_rfl) rfl (Tryz.sizeOf149 _) rfl hp4) ?_
       intro w8 hn4
       have h := h w8 hn4
       refine q0 (vi 0) (wpL_nil (th_n (wpE_ret ?_)))
       obtain ⟨qfrom3, qto3, qnum3, qtext3, qkids3, hv5, h⟩ := h
       refine resG (.inl rfl) (vs := [(.agg #[(vb qfrom3), (vb qto3), (vb qnum3), (vb qtext3), (vi qkids3)]), (vi 0)]) (v := (.tuple #[(.agg #[(vb qfrom3), (vb qto3), (vb qnum3), (vb qtext3), (vi qkids3)]), (vi 0)])) Tryz.results104 ⟨(RV.cellA (by kernel_rfl) (Tryz.isAgg149 _) (Tryz.sizeOf149 _) rfl hv5), (rvT (by kernel_rfl)), trivial⟩ (by kernel_rfl) ?_
       exact ⟨qfrom3, qto3, qnum3, qtext3, qkids3, 0, rfl, h⟩
     ·have h := h.2 hg2
      refine sk (yD 48 hg2) (sk (yD 48 hg2) (sk (yD 48 hg2) (stp (v := (vb false)) (want1 rfl (yD 44 hg1)) (xF hg2) (q2 (vb false) (xF hg1) (wpL_nil (th_n (wpE_condF (by kernel_rfl) (wpE_skip (th_n (wpE_seq (rg ?_)))))))))))
      obtain ⟨vfrom4, vto4, vnum4, vtext4, vkids4, hv9, h⟩ := h
      refine q2 (.agg #[(vb vfrom4), (vb vto4), (vb vnum4), (vb vtext4), (vi vkids4)]) (x_loadA (a := p3) (vs := [(vb vfrom4), (vb vto4), (vb vnum4), (vb vtext4), (vi vkids4)]) (by kernel_rfl) (Tryz.isAgg149 _) (Tryz.sizeOf149 _) rfl hv9) ?_
      obtain ⟨hp5, h⟩ := h
      refine st_set (want0 rfl) (x_storeA (a := p2) (vs := [(vb vfrom4), (vb vto4), (vb vnum4), (vb vtext4), (vi vkids4)]) (by kernel_rfl) (by kernel_rfl) rfl (Tryz.sizeOf149 _) rfl hp5) ?_
      intro w9 hn5
      have h := h w9 hn5
      refine q0 (vi 0) (wpL_nil (th_n (wpE_ret ?_)))
      obtain ⟨qfrom4, qto4, qnum4, qtext4, qkids4, hv8, h⟩ := h
      refine resG (.inl rfl) (vs := [(.agg #[(vb qfrom4), (vb qto4), (vb qnum4), (vb qtext4), (vi qkids4)]), (vi 0)]) (v := (.tuple #[(.agg #[(vb qfrom4), (vb qto4), (vb qnum4), (vb qtext4), (vi qkids4)]), (vi 0)])) Tryz.results104 ⟨(RV.cellA (by kernel_rfl) (Tryz.isAgg149 _) (Tryz.sizeOf149 _) rfl hv8), (rvT (by kernel_rfl)), trivial⟩ (by kernel_rfl) ?_
      exact ⟨qfrom4, qto4, qnum4, qtext4, qkids4, 0, rfl, h⟩
   ·rcases Bool.eq_false_or_eq_true x2 with hg3 | hg3
    ·have h := h.1 hg3
     refine sk (yD 34 hg3) (sk (yD 34 hg3) (sk (yD 34 hg3) (sk (yD 34 hg3) (sm (sm (sm (sk (yD 34 hg3) (q2 (vb true) (xT hg3) (wpL_nil ?_)))))))))
     exact ⟨true, hm, h⟩
    ·have h := h.2 hg3
     refine q1 (vp (some (p3.add 2))) (want1 rfl (yD 34 hg3)) ?_
     obtain ⟨v4, hv12, h⟩ := h
     refine stp (v := (vb v4)) (want1 rfl (yD 34 hg3)) (xl (Tryz.isAgg4 _) hv12) (q1 (vb (!v4)) (want1 rfl (yD 34 hg3)) (q1 (vb (!v4)) (want1 rfl (yD 34 hg3)) ?_))
     refine wpL_join 4 (fun ρ w => ∃ x4 : Bool, Has ρ [(1, (vp (some p1))), (2, (vp (some p2))), (4, (vp (some p3))), (34, (vb x2)), (42, (vb x4))] ∧ m_F_j4 p1 p2 p3 x2 x4 w K) ?_ ?_
     ·rintro ρ w ⟨x4, hH, h⟩
      unfold m_F_j4 at h
      refine wpL_has hH ?_
      rcases Bool.eq_false_or_eq_true x2 with hg4 | hg4
      ·have h := h.1 hg4
       refine q2 (vb true) (xT hg4) (wpL_nil ?_)
       exact ⟨true, hm, h⟩
      ·have h := h.2 hg4
       refine q2 (vb x4) (xF hg4) (wpL_nil ?_)
       exact ⟨x4, hm, h⟩
     ·rcases Bool.eq_false_or_eq_true (!v4) with hg5 | hg5
      ·have h := h.1 hg5
       refine q1 (vp (some (p1.add 3))) (want1 rfl (yD 38 hg5)) ?_
       obtain ⟨v5, hv11, h⟩ := h
       refine stp (v := (vu v5)) (want1 rfl (yD 38 hg5)) (xl (Tryz.isAgg47 _) hv11) (q1 (vb (v5 != 0)) (want1 rfl (yD 38 hg5)) (stp (v := (vb (v5 != 0))) (want1 rfl (yD 34 hg3)) (xT hg5) (wpL_nil ?_)))
       exact ⟨(v5 != 0), hm, h⟩
      ·have h := h.2 hg5
       refine sk (yD 38 hg5) (sk (yD 38 hg5) (sk (yD 38 hg5) (stp (v := (vb false)) (want1 rfl (yD 34 hg3)) (xF hg5) (wpL_nil ?_))))
       exact ⟨false, hm, h⟩
  ·rcases Bool.eq_false_or_eq_true x1 with hg6 | hg6
   ·have h := h.1 hg6
    refine sk (yD 24 hg6) (sk (yD 24 hg6) (sk (yD 24 hg6) (sk (yD 24 hg6) (sm (sm (sm (sk (yD 24 hg6) (q2 (vb true) (xT hg6) (wpL_nil ?_)))))))))
    exact ⟨true, hm, h⟩
   ·have h := h.2 hg6
    refine q1 (vp (some (p3.add 1))) (want1 rfl (yD 24 hg6)) ?_
    obtain ⟨v6, hv14, h⟩ := h
    refine stp (v := (vb v6)) (want1 rfl (yD 24 hg6)) (xl (Tryz.isAgg4 _) hv14) (q1 (vb (!v6)) (want1 rfl (yD 24 hg6)) (q1 (vb (!v6)) (want1 rfl (yD 24 hg6)) ?_))
    refine wpL_join 4 (fun ρ w => ∃ x5 : Bool, Has ρ [(1, (vp (some p1))), (2, (vp (some p2))), (4, (vp (some p3))), (24, (vb x1)), (32, (vb x5))] ∧ m_F_j5 p1 p2 p3 x1 x5 w K) ?_ ?_
    ·rintro ρ w ⟨x5, hH, h⟩
     unfold m_F_j5 at h
     refine wpL_has hH ?_
     rcases Bool.eq_false_or_eq_true x1 with hg7 | hg7
     ·have h := h.1 hg7
      refine q2 (vb true) (xT hg7) (wpL_nil ?_)
      exact ⟨true, hm, h⟩
     ·have h := h.2 hg7
      refine q2 (vb x5) (xF hg7) (wpL_nil ?_)
      exact ⟨x5, hm, h⟩
    ·rcases Bool.eq_false_or_eq_true (!v6) with hg8 | hg8
     ·have h := h.1 hg8
      refine q1 (vp (some (p1.add 2))) (want1 rfl (yD 28 hg8)) ?_
      obtain ⟨v7, hv13, h⟩ := h
      refine stp (v := (vi v7)) (want1 rfl (yD 28 hg8)) (xl (Tryz.isAgg3 _) hv13) (q1 (vb (v7 != 0)) (want1 rfl (yD 28 hg8)) (stp (v := (vb (v7 != 0))) (want1 rfl (yD 24 hg6)) (xT hg8) (wpL_nil ?_)))
      exact ⟨(v7 != 0), hm, h⟩
     ·have h := h.2 hg8
      refine sk (yD 28 hg8) (sk (yD 28 hg8) (sk (yD 28 hg8) (stp (v := (vb false)) (want1 rfl (yD 24 hg6)) (xF hg8) (wpL_nil ?_))))
      exact ⟨false, hm, h⟩
 ·rcases Bool.eq_false_or_eq_true (!r1) with hg9 | hg9
  ·have h := h.1 hg9
   refine sk (yD 14 hg9) (sk (yD 14 hg9) (sk (yD 14 hg9) (sk (yD 14 hg9) (sm (sm (sm (sk (yD 14 hg9) (q2 (vb true) (xT hg9) (wpL_nil ?_)))))))))
   exact ⟨true, hm, h⟩
  ·have h := h.2 hg9
   refine q1 (vp (some p3)) (want1 rfl (yD 14 hg9)) ?_
   obtain ⟨v8, hv16, h⟩ := h
   refine stp (v := (vb v8)) (want1 rfl (yD 14 hg9)) (xl (Tryz.isAgg4 _) hv16) (q1 (vb (!v8)) (want1 rfl (yD 14 hg9)) (q1 (vb (!v8)) (want1 rfl (yD 14 hg9)) ?_))
   refine wpL_join 4 (fun ρ w => ∃ x6 : Bool, Has ρ [(1, (vp (some p1))), (2, (vp (some p2))), (4, (vp (some p3))), (14, (vb (!r1))), (22, (vb x6))] ∧ m_F_j6 p1 p2 r1 p3 x6 w K) ?_ ?_
   ·rintro ρ w ⟨x6, hH, h⟩
    unfold m_F_j6 at h
    refine wpL_has hH ?_
    rcases Bool.eq_false_or_eq_true (!r1) with hg10 | hg10
    ·have h := h.1 hg10
     refine q2 (vb true) (xT hg10) (wpL_nil ?_)
     exact ⟨true, hm, h⟩
    ·have h := h.2 hg10
     refine q2 (vb x6) (xF hg10) (wpL_nil ?_)
     exact ⟨x6, hm, h⟩
   ·rcases Bool.eq_false_or_eq_true (!v8) with hg11 | hg11
    ·have h := h.1 hg11
     refine q1 (vp (some (p1.add 1))) (want1 rfl (yD 18 hg11)) ?_
     obtain ⟨v9, hv15, h⟩ := h
     refine stp (v := (vi v9)) (want1 rfl (yD 18 hg11)) (xl (Tryz.isAgg3 _) hv15) (q1 (vb (v9 != 0)) (want1 rfl (yD 18 hg11)) (stp (v := (vb (v9 != 0))) (want1 rfl (yD 14 hg9)) (xT hg11) (wpL_nil ?_)))
     exact ⟨(v9 != 0), hm, h⟩
    ·have h := h.2 hg11
     refine sk (yD 18 hg11) (sk (yD 18 hg11) (sk (yD 18 hg11) (stp (v := (vb false)) (want1 rfl (yD 14 hg9)) (xF hg11) (wpL_nil ?_))))
     exact ⟨false, hm, h⟩
def m_Y_j1 (p1 p2 : Addr) (x1 : Bool) (w : World) (K : Int → WP) : Prop :=
 Br x1
  (K 50 w)
  (∃ v1 : Bool, w.cell? (p1.add 1) = some (vb v1) ∧
  Br v1
   (∃ v2 : Int, w.cell? (p2.add 2) = some (vi v2) ∧
   Calls Tryz.prog 145 #[(vi v2)] w (fun e w3 => ∃ r1 : Bool, e = .returned (vb r1) ∧ 
    Br (!r1)
     (K 50 w3)
     (∃ v3 : Int, w3.cell? (p2.add 2) = some (vi v3) ∧
     ∃ v4 : Int, w3.cell? (p2.add 1) = some (vi v4) ∧
     Br (v3 == v4)
      (K 50 w3)
      (∃ v5 : ByteArray, w3.cell? (p2.add 4) = some (vs v5) ∧
      Br (decide ((v5.size : Int) > 64))
       (K 1 w3)
       (K 0 w3)))))
   (∃ v6 : ByteArray, w.cell? (p2.add 4) = some (vs v6) ∧
   Br (decide ((v6.size : Int) > 64))
    (K 1 w)
    (K 0 w)))
def m_Y (sfrom1 sto1 : Bool) (snum1 stext1 : Bool) (skids1 aH : Int) (aI aJ aK : Int) (aL : ByteArray) (aM aN : Int) (w : World) (K : Int → WP) : Prop :=
 ∀ (p1 : Addr) (w1 : World), New w (.cells #[(vb sfrom1), (vb sto1), (vb snum1), (vb stext1), (vi skids1)] 149) p1 w1 →
 ∀ (p2 : Addr) (w2 : World), New w1 (.cells #[(vi aH), (vi aI), (vi aJ), (vu aK), (vs aL), (vi aM), (vi aN)] 86) p2 w2 →
 ∃ v7 : Bool, w2.cell? p1 = some (vb v7) ∧
 Br v7
  (∃ v8 : Int, w2.cell? (p2.add 1) = some (vi v8) ∧
  Calls Tryz.prog 145 #[(vi v8)] w2 (fun e w4 => ∃ r2 : Bool, e = .returned (vb r2) ∧ 
   m_Y_j1 p1 p2 (!r2) w4 K))
  (m_Y_j1 p1 p2 false w2 K)
theorem w_Y (sfrom1 sto1 : Bool) (snum1 stext1 : Bool) (skids1 aH : Int) (aI aJ aK : Int) (aL : ByteArray) (aM aN : Int) (w : World) (K : Int → WP) (h : m_Y sfrom1 sto1 snum1 stext1 skids1 aH aI aJ aK aL aM aN w K) :
  Calls Tryz.prog 105 #[(.agg #[(vb sfrom1), (vb sto1), (vb snum1), (vb stext1), (vi skids1)]), (.agg #[(vi aH), (vi aI), (vi aJ), (vu aK), (vs aL), (vi aM), (vi aN)])] w (fun e w' => ∃ r3 : Int, e = .returned (vi r3) ∧ K r3 w') := by
 unfold m_Y at h
 refine cw (args := [(.agg #[(vb sfrom1), (vb sto1), (vb snum1), (vb stext1), (vi skids1)]), (.agg #[(vi aH), (vi aI), (vi aJ), (vu aK), (vs aL), (vi aM), (vi aN)])]) Tryz.func105 Tryz.ntmps105 (wpE_seq (rg (sn (O := (.cells #[(vb sfrom1), (vb sto1), (vb snum1), (vb stext1), (vi skids1)] 149)) xb ?_)))
 intro p1 w1 hn2
 have h := h p1 w1 hn2
 refine sn (O := (.cells #[(vi aH), (vi aI), (vi aJ), (vu aK), (vs aL), (vi aM), (vi aN)] 86)) xb ?_
 intro p2 w2 hn1
 have h := h p2 w2 hn1
 refine q0 (vi 0) (wpL_nil (th_n (wpE_seq (wpE_block (wpE_seq ?_)))))
 refine wpE_join (fun ρ w => ∃ x1 : Bool, Has ρ [(2, (vp (some p1))), (3, (vp (some p2))), (5, (vb x1))] ∧ m_Y_j1 p1 p2 x1 w K) ?_ ?_
 ·rintro ρ w ⟨x1, hH, h⟩
  unfold m_Y_j1 at h
  refine wpE_has hH ?_
  refine wpE_cond (t := x1) (by kernel_rfl) (fun hc1 => ?_) (fun hc1 => ?_)
  ·have h := h.1 hc1
   refine wpE_skip (th_n (wpE_condT' (t := x1) (by kernel_rfl) hc1 (wpE_seq (rg (q0 (vi 50) (wpL_nil (th_n (wpE_ret (bl_r (th_r (rs1 Tryz.results105 (v := (vi 50)) ?_)))))))))))
   exact ⟨50, rfl, h⟩
  ·have h := h.2 hc1
   refine rg (q0 (vp (some (p1.add 1))) ?_)
   obtain ⟨v1, hv6, h⟩ := h
   refine q2 (vb v1) (xl (Tryz.isAgg4 _) hv6) (q0 (vb v1) ?_)
   rcases Bool.eq_false_or_eq_true v1 with hg1 | hg1
   ·have h := h.1 hg1
    refine q1 (vp (some (p2.add 2))) (want1 rfl (yD 16 hg1)) ?_
    obtain ⟨v2, hv4, h⟩ := h
    refine stp (v := (vi v2)) (want1 rfl (yD 16 hg1)) (xl (Tryz.isAgg3 _) hv4) ?_
    refine st_call (want1 rfl (yD 16 hg1)) (xc Tryz.call145) (h.mono ?_)
    rintro e w3 ⟨r1, rfl, h⟩
    refine ⟨_, rfl, ?_⟩
    refine q1 (vb (!r1)) (want1 rfl (yD 16 hg1)) (q1 (vb (!r1)) (want1 rfl (yD 16 hg1)) ?_)
    rcases Bool.eq_false_or_eq_true (!r1) with hg2 | hg2
    ·have h := h.1 hg2
     refine sk (yD 21 hg2) (sk (yD 21 hg2) (sk (yD 21 hg2) (sk (yD 21 hg2) (sk (yD 21 hg2) (stp (v := (vb true)) (want1 rfl (yD 16 hg1)) (xT hg2) (q2 (vb true) (xT hg1) (q0 (vb true) (wpL_nil (th_n (wpE_condT (by kernel_rfl) (wpE_seq ?_)))))))))))
     refine rg (q0 (vi 50) (wpL_nil (th_n (wpE_ret (bl_r (th_r (rs1 Tryz.results105 (v := (vi 50)) ?_)))))))
     exact ⟨50, rfl, h⟩
    ·have h := h.2 hg2
     refine q1 (vp (some (p2.add 2))) (want1 rfl (yD 21 hg2)) ?_
     obtain ⟨v3, hv3, h⟩ := h
     refine stp (v := (vi v3)) (want1 rfl (yD 21 hg2)) (xl (Tryz.isAgg3 _) hv3) (q1 (vp (some (p2.add 1))) (want1 rfl (yD 21 hg2)) ?_)
     obtain ⟨v4, hv2, h⟩ := h
     refine stp (v := (vi v4)) (want1 rfl (yD 21 hg2)) (xl (Tryz.isAgg3 _) hv2) (q1 (vb (v3 == v4)) (want1 rfl (yD 21 hg2)) (stp (v := (vb (v3 == v4))) (want1 rfl (yD 16 hg1)) (xF hg2) (q2 (vb (v3 == v4)) (xT hg1) (q0 (vb (v3 == v4)) (wpL_nil (th_n ?_))))))
     refine wpE_cond (t := (v3 == v4)) (by kernel_rfl) (fun hc2 => ?_) (fun hc2 => ?_)
     ·have h := h.1 hc2
      refine wpE_seq (rg (q0 (vi 50) (wpL_nil (th_n (wpE_ret (bl_r (th_r (rs1 Tryz.results105 (v := (vi 50)) ?_))))))))
      exact ⟨50, rfl, h⟩
     ·have h := h.2 hc2
      refine wpE_seq (rg (q0 (vp (some (p2.add 4))) ?_))
      obtain ⟨v5, hv1, h⟩ := h
      refine q2 (vs v5) (xl (Tryz.isAgg9 _) hv1) (q0 (vi (v5.size : Int)) (q0 (vb (decide ((v5.size : Int) > 64))) (q0 (vb (decide ((v5.size : Int) > 64))) (wpL_nil (th_n ?_)))))
      refine wpE_cond (t := (decide ((v5.size : Int) > 64))) (by kernel_rfl) (fun hc3 => ?_) (fun hc3 => ?_)
      ·have h := h.1 hc3
       refine wpE_seq (rg (q0 (vi 1) (wpL_nil (th_n (wpE_ret (bl_r (th_r (rs1 Tryz.results105 (v := (vi 1)) ?_))))))))
       exact ⟨1, rfl, h⟩
      ·have h := h.2 hc3
       refine wpE_skip (bl_n (th_n (wpE_seq (rg (q0 (vi 0) (wpL_nil (th_n (wpE_ret (rs1 Tryz.results105 (v := (vi 0)) ?_)))))))))
       exact ⟨0, rfl, h⟩
   ·have h := h.2 hg1
    refine sk (yD 16 hg1) (sk (yD 16 hg1) (sk (yD 16 hg1) (sk (yD 16 hg1) (sk (yD 16 hg1) (sm (sm (sm (sm (sm (sk (yD 16 hg1) (q2 (vb false) (xF hg1) ?_)))))))))))
    refine q0 (vb false) (wpL_nil (th_n (wpE_condF (by kernel_rfl) (wpE_seq (rg (q0 (vp (some (p2.add 4))) ?_))))))
    obtain ⟨v6, hv5, h⟩ := h
    refine q2 (vs v6) (xl (Tryz.isAgg9 _) hv5) (q0 (vi (v6.size : Int)) (q0 (vb (decide ((v6.size : Int) > 64))) (q0 (vb (decide ((v6.size : Int) > 64))) (wpL_nil (th_n ?_)))))
    refine wpE_cond (t := (decide ((v6.size : Int) > 64))) (by kernel_rfl) (fun hc4 => ?_) (fun hc4 => ?_)
    ·have h := h.1 hc4
     refine wpE_seq (rg (q0 (vi 1) (wpL_nil (th_n (wpE_ret (bl_r (th_r (rs1 Tryz.results105 (v := (vi 1)) ?_))))))))
     exact ⟨1, rfl, h⟩
    ·have h := h.2 hc4
     refine wpE_skip (bl_n (th_n (wpE_seq (rg (q0 (vi 0) (wpL_nil (th_n (wpE_ret (rs1 Tryz.results105 (v := (vi 0)) ?_)))))))))
     exact ⟨0, rfl, h⟩
 ·refine rg (q0 (vp (some p1)) ?_)
  obtain ⟨v7, hv8, h⟩ := h
  refine q2 (vb v7) (xl (Tryz.isAgg4 _) hv8) (q0 (vb v7) ?_)
  rcases Bool.eq_false_or_eq_true v7 with hg3 | hg3
  ·have h := h.1 hg3
   refine q1 (vp (some (p2.add 1))) (want1 rfl (yD 8 hg3)) ?_
   obtain ⟨v8, hv7, h⟩ := h
   refine stp (v := (vi v8)) (want1 rfl (yD 8 hg3)) (xl (Tryz.isAgg3 _) hv7) ?_
   refine st_call (want1 rfl (yD 8 hg3)) (xc Tryz.call145) (h.mono ?_)
   rintro e w4 ⟨r2, rfl, h⟩
   refine ⟨_, rfl, ?_⟩
   refine q1 (vb (!r2)) (want1 rfl (yD 8 hg3)) (q2 (vb (!r2)) (xT hg3) (q0 (vb (!r2)) (wpL_nil (th_n ?_))))
   exact ⟨(!r2), hm, h⟩
  ·have h := h.2 hg3
   refine sk (yD 8 hg3) (sk (yD 8 hg3) (sk (yD 8 hg3) (sk (yD 8 hg3) (q2 (vb false) (xF hg3) (q0 (vb false) (wpL_nil (th_n ?_)))))))
   exact ⟨false, hm, h⟩
def m_X2 (p1 : Option Addr) (aH aI : Int) (aJ aK : Int) (aL : ByteArray) (aM aN : Int) (w : World) (K : Int → Bool → WP) : Prop :=
 ∀ (p2 : Addr) (w1 : World), New w (.cells #[(vi aH), (vi aI), (vi aJ), (vu aK), (vs aL), (vi aM), (vi aN)] 86) p2 w1 →
 Br (Option.isNone p1)
  (K 0 false w1)
  (∀ w2, w2 = w1.drew →
  ∃ a1 : Addr, p1 = some a1 ∧
  ∃ v1 : Option Nat, w2.cell? (a1.add 1) = some (.map v1) ∧
  ∃ aA aB : Int, ∃ aC aD : Int, ∃ aE : ByteArray, ∃ aF aG : Int, Row w2 p2 [(vi aA), (vi aB), (vi aC), (vu aD), (vs aE), (vi aF), (vi aG)] ∧
  ∃ v2 : Int, ∃ ok1 : Bool, (Instr.lookup 92 (.map v1) (.agg #[(vi aA), (vi aB), (vi aC), (vu aD), (vs aE), (vi aF), (vi aG)]) true).run Tryz.prog w2 = .ok (.tuple #[(vi v2), (vb ok1)]) w2 ∧
  K v2 ok1 w2)
theorem w_X2 (p1 : Option Addr) (aH aI : Int) (aJ aK : Int) (aL : ByteArray) (aM aN : Int) (w : World) (K : Int → Bool → WP) (h : m_X2 p1 aH aI aJ aK aL aM aN w K) :
  Calls Tryz.prog 129 #[(vp p1), (.agg #[(vi aH), (vi aI), (vi aJ), (vu aK), (vs aL), (vi aM), (vi aN)])] w (fun e w' => ∃ r1 : Int, ∃ r2 : Bool, e = .returned (.tuple #[(vi r1), (vb r2)]) ∧ K r1 r2 w') := by
 unfold m_X2 at h
 refine cw (args := [(vp p1), (.agg #[(vi aH), (vi aI), (vi aJ), (vu aK), (vs aL), (vi aM), (vi aN)])]) Tryz.func129 Tryz.ntmps129 (wpE_seq (rg (sn (O := (.cells #[(vi aH), (vi aI), (vi aJ), (vu aK), (vs aL), (vi aM), (vi aN)] 86)) xb ?_)))
 intro p2 w1 hn1
 have h := h p2 w1 hn1
 refine q0 (vi 0) (q0 (vb false) (wpL_nil (th_n (wpE_seq (wpE_seq (rg (q0 (vp p1) (q2 (vb (Option.isNone p1)) (x_ptreq (by kernel_rfl) rfl Tryz.underlying26) (wpL_nil (th_n ?_))))))))))
 refine wpE_cond (t := (Option.isNone p1)) (by kernel_rfl) (fun hc1 => ?_) (fun hc1 => ?_)
 ·have h := h.1 hc1
  refine wpE_seq (rg (q0 (vi 0) (q0 (vb false) (wpL_nil (th_n (wpE_ret (th_r (res2 (.inl rfl) Tryz.results129 (v := (vi 0)) (by kernel_rfl) (v' := (vb false)) (by kernel_rfl) ?_))))))))
  exact ⟨0, false, rfl, h⟩
 ·have h := h.2 hc1
  refine wpE_skip (th_n (wpE_seq (wpE_drawnQ (by kernel_rfl) (by kernel_rfl) (by kernel_rfl) (by kernel_rfl) ?_)))
  intro w2 hw2
  have h := h w2 hw2
  refine qq 0 (vp p1) Kp0 (qg 1 ?_)
  obtain ⟨a1, hp1, h⟩ := h
  refine sxQ (v := (vp (some a1))) Kp1 (want0 rfl) rfl (x_nilCheck (p := p1) (by kernel_rfl) hp1) (qq 2 (vp (some (a1.add 1))) Kp2 (qg 3 ?_))
  obtain ⟨v1, hv3, h⟩ := h
  refine sxQ (v := (.map v1)) Kp3 (want0 rfl) rfl (xl (Tryz.isAgg92 _) hv3) (qg 4 ?_)
  obtain ⟨aA, aB, aC, aD, aE, aF, aG, hv2, h⟩ := h
  refine sxQ (v := (.agg #[(vi aA), (vi aB), (vi aC), (vu aD), (vs aE), (vi aF), (vi aG)])) Kp4 (want0 rfl) rfl (x_loadA (a := p2) (vs := [(vi aA), (vi aB), (vi aC), (vu aD), (vs aE), (vi aF), (vi aG)]) (by kernel_rfl) (Tryz.isAgg86 _) (Tryz.sizeOf86 _) rfl hv2) (qg 5 ?_)
  obtain ⟨v2, ok1, hv1, h⟩ := h
  refine sxQ (v := (.tuple #[(vi v2), (vb ok1)])) Kp5 (want0 rfl) rfl (x_lookup (by kernel_rfl) (by kernel_rfl) hv1) (qq 6 (.tuple #[(vi v2), (vb ok1)]) Kp6 (qq 7 (vi v2) Kp7 (qq 8 (vb ok1) Kp8 (qq 9 (vi v2) Kp9 (qq 10 (vb ok1) (pickA (S8 (pickS (pickS pickZ)))) (wn (th_n (wpE_seq (rg (q0 (vi v2) (q0 (vb ok1) ?_)))))))))))
  refine q0 (vi v2) (q0 (vb ok1) (wpL_nil (th_n (wpE_ret (res2 (.inl rfl) Tryz.results129 (v := (vi v2)) (by kernel_rfl) (v' := (vb ok1)) (by kernel_rfl) ?_)))))
  exact ⟨v2, ok1, rfl, h⟩
def m_Y2  (w : World) (K : (Array Value) → WP) : Prop :=
 ∀ (p1 : Addr) (w1 : World), New w (.cells #[(vb false), (vb false), (vb false), (vb false), (vi 0), (vb false), (vb false), (vb false), (vb false), (vi 0), (vb false), (vb false), (vb false), (vb false), (vi 0), (vb false), (vb false), (vb false), (vb false), (vi 0), (vb false), (vb false), (vb false), (vb false), (vi 0), (vb false), (vb false), (vb false), (vb false), (vi 0), (vb false), (vb false), (vb false), (vb false), (vi 0), (vb false), (vb false), (vb false), (vb false), (vi 0), (vb false), (vb false), (vb false), (vb false), (vi 0), (vb false), (vb false), (vb false), (vb false), (vi 0)] 196) p1 w1 →
 (∀ j, j < 50 → CanW w1 (p1.add j)) ∧ ∀ w2 : World, w2 = storeRow w1 p1 [(vb false), (vb false), (vb false), (vb false), (vi 0), (vb true), (vb false), (vb false), (vb false), (vi 0), (vb false), (vb false), (vb true), (vb false), (vi 0), (vb false), (vb false), (vb false), (vb true), (vi 0), (vb false), (vb false), (vb false), (vb false), (vi 2), (vb false), (vb false), (vb false), (vb false), (vi 1), (vb true), (vb false), (vb false), (vb false), (vi 0), (vb true), (vb false), (vb false), (vb false), (vi 1), (vb true), (vb true), (vb false), (vb false), (vi 1), (vb true), (vb true), (vb false), (vb false), (vi 1)] →
 ∃ q1 : Array Value, (q1.size = 50 ∧ Row w2 p1 q1.toList) ∧
 K q1 w2
theorem w_Y2  (w : World) (K : (Array Value) → WP) (h : m_Y2  w K) :
  Calls Tryz.prog 137 #[] w (fun e w' => ∃ r1 : Array Value, e = .returned (.agg r1) ∧ K r1 w') := by
 unfold m_Y2 at h
 refine cw (args := []) Tryz.func137 Tryz.ntmps137 (wpE_seq (rg (sn (O := (.cells #[(vb false), (vb false), (vb false), (vb false), (vi 0), (vb false), (vb false), (vb false), (vb false), (vi 0), (vb false), (vb false), (vb false), (vb false), (vi 0), (vb false), (vb false), (vb false), (vb false), (vi 0), (vb false), (vb false), (vb false), (vb false), (vi 0), (vb false), (vb false), (vb false), (vb false), (vi 0), (vb false), (vb false), (vb false), (vb false), (vi 0), (vb false), (vb false), (vb false), (vb false), (vi 0), (vb false), (vb false), (vb false), (vb false), (vi 0), (vb false), (vb false), (vb false), (vb false), (vi 0)] 196)) (x_alloc (Tryz.zeroValue196 _) rfl) ?_)))
 intro p1 w1 hn2
 have h := h p1 w1 hn2
 refine wpL_nil (th_n (wpE_seq (rg (q0 (.agg #[(vb true), (vb false), (vb false), (vb false), (vi 0)]) (q0 (.agg #[(vb false), (vb false), (vb true), (vb false), (vi 0)]) (q0 (.agg #[(vb false), (vb false), (vb false), (vb true), (vi 0)]) (q0 (.agg #[(vb false), (vb false), (vb false), (vb false), (vi 2)]) (q0 (.agg #[(vb false), (vb false), (vb false), (vb false), (vi 1)]) (q0 (.agg #[(vb true), (vb false), (vb false), (vb false), (vi 0)]) (q0 (.agg #[(vb true), (vb false), (vb false), (vb false), (vi 1)]) (q0 (.agg #[(vb true), (vb true), (vb false), (vb false), (vi 1)]) ?_)))))))))))
 refine q0 (.agg #[(vb true), (vb true), (vb false), (vb false), (vi 1)]) (q0 (.agg #[(vb false), (vb false), (vb false), (vb false), (vi 0), (vb true), (vb false), (vb false), (vb false), (vi 0), (vb false), (vb false), (vb true), (vb false), (vi 0), (vb false), (vb false), (vb false), (vb true), (vi 0), (vb false), (vb false), (vb false), (vb false), (vi 2), (vb false), (vb false), (vb false), (vb false), (vi 1), (vb true), (vb false), (vb false), (vb false), (vi 0), (vb true), (vb false), (vb false), (vb false), (vi 1), (vb true), (vb true), (vb false), (vb false), (vi 1), (vb true), (vb true), (vb false), (vb false), (vi 1)]) ?_)
 obtain ⟨hp1, h⟩ := h
 refine st_set (want0 rfl) (x_storeA (a := p1) (vs := [(vb false), (vb false), (vb false), (vb false), (vi 0), (vb true), (vb false), (vb false), (vb false), (vi 0), (vb false), (vb false), (vb true), (vb false), (vi 0), (vb false), (vb false), (vb false), (vb true), (vi 0), (vb false), (vb false), (vb false), (vb false), (vi 2), (vb false), (vb false), (vb false), (vb false), (vi 1), (vb true), (vb false), (vb false), (vb false), (vi 0), (vb true), (vb false), (vb false), (vb false), (vi 1), (vb true), (vb true), (vb false), (vb false), (vi 1), (vb true), (vb true), (vb false), (vb false), (vi 1)]) (by kernel_rfl) (by kernel_rfl) rfl (Tryz.sizeOf196 _) rfl hp1) ?_
 intro w2 hn1
 have h := h w2 hn1
 refine wpL_nil (th_n (wpE_ret ?_))
 obtain ⟨q1, hv1, h⟩ := h
 refine resG (.inl rfl) (vs := [(.agg q1)]) (v := (.agg q1)) Tryz.results137 ⟨(RV.cellAr (A := p1) (vs := q1) (by kernel_rfl) (Tryz.isAgg196 _) (Tryz.sizeOf196 _) hv1), trivial⟩ (by kernel_rfl) ?_
 exact ⟨q1, rfl, h⟩
def m_Z2 (p1 : Option Addr) (t1 : Int) (w : World) (K : Int → WP) : Prop :=
 Calls Tryz.prog 80 #[(vp p1), (vi t1)] w (fun e w1 => ∃ r1 : Bool, e = .returned (vb r1) ∧ 
  Br (!r1)
   (K 0 w1)
   (∃ a1 : Addr, p1 = some a1 ∧
   ∃ v1 : Sl, w1.cell? a1 = some v1.v ∧
   ∃ a2 : Addr, At v1 (q6.wrap (t1 - 1)) 9 a2 ∧
   ∃ v2 : Int, w1.cell? (a2.add 7) = some (vi v2) ∧
   K v2 w1))
theorem w_Z2 (p1 : Option Addr) (t1 : Int) (w : World) (K : Int → WP) (h : m_Z2 p1 t1 w K) :
  Calls Tryz.prog 143 #[(vp p1), (vi t1)] w (fun e w' => ∃ r2 : Int, e = .returned (vi r2) ∧ K r2 w') := by
 unfold m_Z2 at h
 refine cw (args := [(vp p1), (vi t1)]) Tryz.func143 Tryz.ntmps143 (wpE_seq (rg (q0 (vi 0) (wpL_nil (th_n (wpE_seq (wpE_seq (rg (q0 (vp p1) (q0 (vi t1) ?_))))))))))
 refine sc Tryz.call80 (h.mono ?_)
 rintro e w1 ⟨r1, rfl, h⟩
 refine ⟨_, rfl, ?_⟩
 refine q0 (vb (!r1)) (wpL_nil (th_n ?_))
 refine wpE_cond (t := (!r1)) (by kernel_rfl) (fun hc1 => ?_) (fun hc1 => ?_)
 ·have h := h.1 hc1
  refine wpE_seq (rg (q0 (vi 0) (wpL_nil (th_n (wpE_ret (th_r (rs1 Tryz.results143 (v := (vi 0)) ?_)))))))
  exact ⟨0, rfl, h⟩
 ·have h := h.2 hc1
  refine wpE_skip (th_n (wpE_seq (rg (q0 (vp p1) ?_))))
  obtain ⟨a1, hp1, h⟩ := h
  refine q2 (vp (some a1)) (x_nilCheck (p := p1) (by kernel_rfl) hp1) (q0 (vp (some a1)) ?_)
  obtain ⟨v1, hv3, h⟩ := h
  refine q2 v1.v (xl (Tryz.isAgg91 _) hv3) (q0 (vi t1) (q0 (vi (q6.wrap (t1 - 1))) ?_))
  obtain ⟨a2, hv2, h⟩ := h
  refine q2 (vp (some a2)) (xi (Tryz.runUnderlying91 _) (Tryz.sizeOf147 _) hv2) (q0 (vp (some (a2.add 7))) ?_)
  obtain ⟨v2, hv1, h⟩ := h
  refine q2 (vi v2) (xl (Tryz.isAgg3 _) hv1) (q0 (vi v2) (wpL_nil (th_n (wpE_ret (rs1 Tryz.results143 (v := (vi v2)) ?_)))))
  exact ⟨v2, rfl, h⟩
def m_A3 (p1 : Option Addr) (t1 : Int) (w : World) (K : Int → WP) : Prop :=
 Calls Tryz.prog 80 #[(vp p1), (vi t1)] w (fun e w1 => ∃ r1 : Bool, e = .returned (vb r1) ∧ 
  Br (!r1)
   (K 0 w1)
   (∃ a1 : Addr, p1 = some a1 ∧
   ∃ v1 : Sl, w1.cell? a1 = some v1.v ∧
   ∃ a2 : Addr, At v1 (q6.wrap (t1 - 1)) 9 a2 ∧
   ∃ v2 : Int, w1.cell? (a2.add 8) = some (vi v2) ∧
   K v2 w1))
theorem w_A3 (p1 : Option Addr) (t1 : Int) (w : World) (K : Int → WP) (h : m_A3 p1 t1 w K) :
  Calls Tryz.prog 144 #[(vp p1), (vi t1)] w (fun e w' => ∃ r2 : Int, e = .returned (vi r2) ∧ K r2 w') := by
 unfold m_A3 at h
 refine cw (args := [(vp p1), (vi t1)]) Tryz.func144 Tryz.ntmps144 (wpE_seq (rg (q0 (vi 0) (wpL_nil (th_n (wpE_seq (wpE_seq (rg (q0 (vp p1) (q0 (vi t1) ?_))))))))))
 refine sc Tryz.call80 (h.mono ?_)
 rintro e w1 ⟨r1, rfl, h⟩
 refine ⟨_, rfl, ?_⟩
 refine q0 (vb (!r1)) (wpL_nil (th_n ?_))
 refine wpE_cond (t := (!r1)) (by kernel_rfl) (fun hc1 => ?_) (fun hc1 => ?_)
 ·have h := h.1 hc1
  refine wpE_seq (rg (q0 (vi 0) (wpL_nil (th_n (wpE_ret (th_r (rs1 Tryz.results144 (v := (vi 0)) ?_)))))))
  exact ⟨0, rfl, h⟩
 ·have h := h.2 hc1
  refine wpE_skip (th_n (wpE_seq (rg (q0 (vp p1) ?_))))
  obtain ⟨a1, hp1, h⟩ := h
  refine q2 (vp (some a1)) (x_nilCheck (p := p1) (by kernel_rfl) hp1) (q0 (vp (some a1)) ?_)
  obtain ⟨v1, hv3, h⟩ := h
  refine q2 v1.v (xl (Tryz.isAgg91 _) hv3) (q0 (vi t1) (q0 (vi (q6.wrap (t1 - 1))) ?_))
  obtain ⟨a2, hv2, h⟩ := h
  refine q2 (vp (some a2)) (xi (Tryz.runUnderlying91 _) (Tryz.sizeOf147 _) hv2) (q0 (vp (some (a2.add 8))) ?_)
  obtain ⟨v2, hv1, h⟩ := h
  refine q2 (vi v2) (xl (Tryz.isAgg3 _) hv1) (q0 (vi v2) (wpL_nil (th_n (wpE_ret (rs1 Tryz.results144 (v := (vi v2)) ?_)))))
  exact ⟨v2, rfl, h⟩
def m_B3 (n1 : Int) (w : World) (K : Bool → WP) : Prop :=
 Br (decide (n1 ≥ 0))
  (K (decide (n1 < 16)) w)
  (K false w)
theorem w_B3 (n1 : Int) (w : World) (K : Bool → WP) (h : m_B3 n1 w K) :
  Calls Tryz.prog 145 #[(vi n1)] w (fun e w' => ∃ r1 : Bool, e = .returned (vb r1) ∧ K r1 w') := by
 unfold m_B3 at h
 refine cw (args := [(vi n1)]) Tryz.func145 Tryz.ntmps145 (wpE_seq (rg (q0 (vb false) (wpL_nil (th_n (wpE_seq (rg (q0 (vi n1) (q0 (vb (decide (n1 ≥ 0))) (q0 (vb (decide (n1 ≥ 0))) ?_))))))))))
 rcases Bool.eq_false_or_eq_true (decide (n1 ≥ 0)) with hg1 | hg1
 ·have h := h.1 hg1
  refine q1 (vi n1) (want1 rfl (yD 5 hg1)) (q1 (vb (decide (n1 < 16))) (want1 rfl (yD 5 hg1)) (q2 (vb (decide (n1 < 16))) (xT hg1) (q0 (vb (decide (n1 < 16))) (wpL_nil (th_n (wpE_ret (rs1 Tryz.results145 (v := (vb (decide (n1 < 16)))) ?_)))))))
  exact ⟨(decide (n1 < 16)), rfl, h⟩
 ·have h := h.2 hg1
  refine sk (yD 5 hg1) (sk (yD 5 hg1) (q2 (vb false) (xF hg1) (q0 (vb false) (wpL_nil (th_n (wpE_ret (rs1 Tryz.results145 (v := (vb false)) ?_)))))))
  exact ⟨false, rfl, h⟩
end Go.Proofs
end
section
namespace Go.Sp
structure Node where
 kind : Int
 frm : Int
 to : Int
 num : Int
 text : ByteArray
 a : Int
 b : Int
deriving DecidableEq
structure Shape where
 frm : Bool
 to : Bool
 num : Bool
 text : Bool
 kids : Int
deriving DecidableEq
def noShape : Shape := ⟨false, false, false, false, 0⟩
def shapeOf (k : Int) : Shape :=
 if k = 1 then ⟨true, false, false, false, 0⟩ else if k = 2 then ⟨false, false, true, false, 0⟩ else if k = 3 then ⟨false, false, false, true, 0⟩
 else if k = 4 then ⟨false, false, false, false, 2⟩ else if k = 5 then ⟨false, false, false, false, 1⟩ else if k = 6 then ⟨true, false, false, false, 0⟩
 else if k = 7 then ⟨true, false, false, false, 1⟩ else if k = 8 then ⟨true, true, false, false, 1⟩ else if k = 9 then ⟨true, true, false, false, 1⟩ else noShape
def isKind (k : Int) : Bool := decide (1 ≤ k) && decide (k ≤ 9)
def isName (n : Int) : Bool := decide (0 ≤ n) && decide (n < 16)
def plainErr (n : Node) : Int :=
 let s := shapeOf n.kind
 if !isKind n.kind || (!s.frm && n.frm != 0) || (!s.to && n.to != 0) || (!s.num && n.num != 0) || (!s.text && !decide (n.text = ⟨#[]⟩)) then 53 else 0
def fieldsErr (s : Shape) (n : Node) : Int :=
 if (s.frm && !isName n.frm) || (s.to && (!isName n.to || n.to == n.frm)) then 50 else if n.text.size > 64 then 1 else 0
end Go.Sp
end
section
open Go Go.SE
namespace Go.Proofs
attribute [local irreducible] Calls
theorem c_isName (n : Int) (w : World) : Calls Tryz.prog 145 #[.int .i64 n] w (fun e w' => ∃ r, e = .returned (.bool r) ∧ (r = Sp.isName n ∧ w' = w)) := by
 refine w_B3 n w (fun r w' => r = Sp.isName n ∧ w' = w) ?_
 unfold m_B3
 refine ⟨fun h => ⟨?_, rfl⟩, fun h => ⟨?_, rfl⟩⟩
 ·have : 0 ≤ n := by simpa using h
  simp [Sp.isName, this]
 ·have : ¬ 0 ≤ n := by simpa using h
  simp [Sp.isName, this]
theorem c_fields (s1 s2 s3 s4 : Bool) (s5 k f t u : Int) (x : ByteArray) (a b : Int) (w : World) :
  Calls Tryz.prog 105 #[.agg #[.bool s1, .bool s2, .bool s3, .bool s4, .int .i64 s5], .agg #[.int .i64 k, .int .i64 f, .int .i64 t, .int .u64 u, .string x, .int .i64 a, .int .i64 b]] w
   (fun e w' => ∃ r, e = .returned (.int .i64 r) ∧ (r = Sp.fieldsErr ⟨s1, s2, s3, s4, s5⟩ ⟨k, f, t, u, x, a, b⟩ ∧ Pure w w')) := by
 refine w_Y _ _ _ _ _ _ _ _ _ _ _ _ w (fun r w' => r = Sp.fieldsErr ⟨s1, s2, s3, s4, s5⟩ ⟨k, f, t, u, x, a, b⟩ ∧ Pure w w') ?_
 unfold m_Y
 intro p1 w1 h1 p2 w2 h2
 have b1 := (Box.of_new h1).pure (Ext.new h2)
 have b2 := Box.of_new h2
 have E : Pure w w2 := (Ext.new h1).trans (Ext.new h2)
 have J : ∀ c : Bool, c = (s1 && !Sp.isName f) → m_Y_j1 p1 p2 c w2 (fun r w' => r = Sp.fieldsErr ⟨s1, s2, s3, s4, s5⟩ ⟨k, f, t, u, x, a, b⟩ ∧ Pure w w') := by
  intro c hc
  unfold m_Y_j1
  refine ⟨fun h => ⟨?_, E⟩, fun h => ⟨_, b1.cell rfl, fun h' => ⟨_, b2.cell rfl, ?_⟩, fun h' => ⟨_, b2.cell rfl, fun h3 => ⟨?_, E⟩, fun h3 => ⟨?_, E⟩⟩⟩⟩
  ·rw [hc] at h; simp [Sp.fieldsErr, h]
  ·refine (c_isName _ _).mono ?_
   rintro _ _ ⟨r, rfl, rfl, rfl⟩
   rw [hc] at h
   refine ⟨_, rfl, fun h2 => ⟨?_, E⟩, fun h2 => ⟨_, b2.cell rfl, _, b2.cell rfl, fun h3 => ⟨?_, E⟩, fun h3 => ⟨_, b2.cell rfl, fun h4 => ⟨?_, E⟩, fun h4 => ⟨?_, E⟩⟩⟩⟩
   ·simp [Sp.fieldsErr, h', h2]
   ·simp [Sp.fieldsErr, h', h3]
   ·simp only [Sp.fieldsErr, h, h', h3]; simp at h2 h4; simp [h2]; omega
   ·simp only [Sp.fieldsErr, h, h', h3]; simp at h2 h4; simp [h2]; omega
  ·rw [hc] at h; simp only [Sp.fieldsErr, h, h']; simp at h3; simp; omega
  ·rw [hc] at h; simp only [Sp.fieldsErr, h, h']; simp at h3; simp; omega
 refine ⟨_, b1.cell0, fun h => ⟨_, b2.cell rfl, ?_⟩, fun h => J _ (by simp [h])⟩
 refine (c_isName _ _).mono ?_
 rintro _ _ ⟨r, rfl, rfl, rfl⟩
 exact ⟨_, rfl, J _ (by simp [h])⟩
end Go.Proofs
end
section
open Go Go.SE
namespace Go.Proofs
attribute [local irreducible] Calls
def shapesT : Array Value := #[.bool false, .bool false, .bool false, .bool false, .int .i64 0, .bool true, .bool false, .bool false, .bool false, .int .i64 0, .bool false, .bool false, .bool true, .bool false, .int .i64 0, .bool false, .bool false, .bool false, .bool true, .int .i64 0, .bool false, .bool false, .bool false, .bool false, .int .i64 2, .bool false, .bool false, .bool false, .bool false, .int .i64 1, .bool true, .bool false, .bool false, .bool false, .int .i64 0, .bool true, .bool false, .bool false, .bool false, .int .i64 1, .bool true, .bool true, .bool false, .bool false, .int .i64 1, .bool true, .bool true, .bool false, .bool false, .int .i64 1]
theorem c_shapes (w : World) : Calls Tryz.prog 137 #[] w (fun e w' => ∃ r, e = .returned (.agg r) ∧ (r = shapesT ∧ Pure w w')) := by
 refine w_Y2 w (fun r w' => r = shapesT ∧ Pure w w') ?_
 unfold m_Y2
 intro p1 w1 h1
 have E1 : Pure w w1 := Ext.new h1
 have hp := New.own (Ext.refl w) h1
 have b1 := Box.of_newA h1
 clear h1
 refine bx 50 b1 (by kernel_rfl) (by kernel_rfl) (fun w' b E => ?_)
 refine ⟨shapesT, ⟨by kernel_rfl, b.row_eq (by kernel_rfl)⟩, rfl, E1.own hp E⟩
theorem c_shapeOf (k : Int) (w : World) : Calls Tryz.prog 91 #[.int .i64 k] w (fun e w' => ∃ r1 : Bool, ∃ r2 : Bool, ∃ r3 : Bool, ∃ r4 : Bool, ∃ r5 : Int, ∃ r : Bool, e = .returned (.tuple #[.agg #[.bool r1, .bool r2, .bool r3, .bool r4, .int .i64 r5], .bool r]) ∧ (((⟨r1, r2, r3, r4, r5⟩ : Sp.Shape) = Sp.shapeOf k ∧ r = Sp.isKind k) ∧ Pure w w')) := by
 refine w_V2 k w (fun r1 r2 r3 r4 r5 r w' => ((⟨r1, r2, r3, r4, r5⟩ : Sp.Shape) = Sp.shapeOf k ∧ r = Sp.isKind k) ∧ Pure w w') ?_
 unfold m_V2
 intro p1 w1 h1
 have E1 : Pure w w1 := Ext.new h1
 have b1 := Box.of_new h1
 have hp := New.own (Ext.refl w) h1
 refine ⟨fun h => bx 5 b1 rfl rfl (fun w' b E => ⟨_, _, _, _, _, b.row, ⟨?_, ?_⟩, E1.own hp E⟩), fun h => ⟨fun h2 => bx 5 b1 rfl rfl (fun w' b E => ⟨_, _, _, _, _, b.row, ⟨?_, ?_⟩, E1.own hp E⟩), fun h2 => ?_⟩⟩
 ·have : k < 1 := by simpa using h
  simp only [Sp.shapeOf, Sp.noShape]; repeat rw [if_neg (by omega)]
 ·have : k < 1 := by simpa using h
  simp [Sp.isKind]; omega
 ·have : 9 < k := by simpa using h2
  simp only [Sp.shapeOf, Sp.noShape]; repeat rw [if_neg (by omega)]
 ·have : 9 < k := by simpa using h2
  simp [Sp.isKind]; omega
 ·have h3 : ¬ k < 1 := by simpa using h
  have h4 : ¬ 9 < k := by simpa using h2
  refine (c_shapes _).mono ?_
  rintro _ w4 ⟨_, rfl, rfl, E4⟩
  refine ⟨_, rfl, ?_⟩
  have b4 := b1.pure E4
  have E5 : Pure w w4 := E1.trans E4
  have hk : k = 1 ∨ k = 2 ∨ k = 3 ∨ k = 4 ∨ k = 5 ∨ k = 6 ∨ k = 7 ∨ k = 8 ∨ k = 9 := by omega
  rcases hk with rfl | rfl | rfl | rfl | rfl | rfl | rfl | rfl | rfl
  ·exact ⟨true, false, false, false, 0, by kernel_rfl, bx 5 b4 rfl rfl (fun w' b E => ⟨_, _, _, _, _, b.row, ⟨by decide, by decide⟩, E5.own hp E⟩)⟩
  ·exact ⟨false, false, true, false, 0, by kernel_rfl, bx 5 b4 rfl rfl (fun w' b E => ⟨_, _, _, _, _, b.row, ⟨by decide, by decide⟩, E5.own hp E⟩)⟩
  ·exact ⟨false, false, false, true, 0, by kernel_rfl, bx 5 b4 rfl rfl (fun w' b E => ⟨_, _, _, _, _, b.row, ⟨by decide, by decide⟩, E5.own hp E⟩)⟩
  ·exact ⟨false, false, false, false, 2, by kernel_rfl, bx 5 b4 rfl rfl (fun w' b E => ⟨_, _, _, _, _, b.row, ⟨by decide, by decide⟩, E5.own hp E⟩)⟩
  ·exact ⟨false, false, false, false, 1, by kernel_rfl, bx 5 b4 rfl rfl (fun w' b E => ⟨_, _, _, _, _, b.row, ⟨by decide, by decide⟩, E5.own hp E⟩)⟩
  ·exact ⟨true, false, false, false, 0, by kernel_rfl, bx 5 b4 rfl rfl (fun w' b E => ⟨_, _, _, _, _, b.row, ⟨by decide, by decide⟩, E5.own hp E⟩)⟩
  ·exact ⟨true, false, false, false, 1, by kernel_rfl, bx 5 b4 rfl rfl (fun w' b E => ⟨_, _, _, _, _, b.row, ⟨by decide, by decide⟩, E5.own hp E⟩)⟩
  ·exact ⟨true, true, false, false, 1, by kernel_rfl, bx 5 b4 rfl rfl (fun w' b E => ⟨_, _, _, _, _, b.row, ⟨by decide, by decide⟩, E5.own hp E⟩)⟩
  ·exact ⟨true, true, false, false, 1, by kernel_rfl, bx 5 b4 rfl rfl (fun w' b E => ⟨_, _, _, _, _, b.row, ⟨by decide, by decide⟩, E5.own hp E⟩)⟩
theorem c_plain (k f t u : Int) (x : ByteArray) (a b : Int) (w : World) :
  Calls Tryz.prog 104 #[.agg #[.int .i64 k, .int .i64 f, .int .i64 t, .int .u64 u, .string x, .int .i64 a, .int .i64 b]] w
   (fun e w' => ∃ r1 : Bool, ∃ r2 : Bool, ∃ r3 : Bool, ∃ r4 : Bool, ∃ r5 : Int, ∃ r : Int, e = .returned (.tuple #[.agg #[.bool r1, .bool r2, .bool r3, .bool r4, .int .i64 r5], .int .i64 r]) ∧ (((⟨r1, r2, r3, r4, r5⟩ : Sp.Shape) = Sp.shapeOf k ∧ r = Sp.plainErr ⟨k, f, t, u, x, a, b⟩) ∧ Pure w w')) := by
 suffices key : ∀ K : Bool → Bool → Bool → Bool → Int → Int → WP, (∀ r1 r2 r3 r4 r5 r w', ((⟨r1, r2, r3, r4, r5⟩ : Sp.Shape) = Sp.shapeOf k ∧ r = Sp.plainErr ⟨k, f, t, u, x, a, b⟩) ∧ Pure w w' → K r1 r2 r3 r4 r5 r w') → m_F k f t u x a b w K from
  w_F _ _ _ _ _ _ _ w _ (key _ (fun _ _ _ _ _ _ _ h => h))
 intro K hK
 unfold m_F
 intro p1 w1 h1 p2 w2 h2
 have a1 := (Box.of_new h1).pure (Ext.new h2)
 have a2 := Box.of_new h2
 have E2 : Pure w w2 := (Ext.new h1).trans (Ext.new h2)
 have o2 := New.own (Ext.new h1 : Pure w w1) h2
 have n12 : p1.block ≠ p2.block := New.ne h2 (Box.of_new h1).blk
 refine ⟨_, a1.cell0, ?_⟩
 refine (c_shapeOf _ _).mono ?_
 rintro _ w3 ⟨s1, s2, s3, s4, s5, ok, rfl, ⟨hs, hok⟩, E3⟩
 refine ⟨_, _, _, _, _, _, rfl, ?_⟩
 intro p3 w4 h3
 have E4 : Pure w w4 := (E2.trans E3).trans (Ext.new h3)
 have o3 := New.own (E2.trans E3) h3
 have n13 : p1.block ≠ p3.block := New.ne h3 (a1.pure E3).blk
 have n23 : p2.block ≠ p3.block := New.ne h3 (a2.pure E3).blk
 refine bx 5 (Box.of_new h3) rfl rfl (fun w5 b3 E => ?_)
 have b1 := ((a1.pure E3).pure (Ext.new h3)).ext E n13
 have b2 := ((a2.pure E3).pure (Ext.new h3)).ext E n23
 have E5 := E4.own o3 E
 clear E E4 E3 E2 a1 a2 h1 h2 h3
 have fin : ∀ v : Int, v = Sp.plainErr ⟨k, f, t, u, x, a, b⟩ → (∀ j, j < 5 → CanW w5 (p2.add j)) ∧ ∀ w', w' = storeRow w5 p2 [.bool s1, .bool s2, .bool s3, .bool s4, .int .i64 s5] →
   ∃ q1 : Bool, ∃ q2 : Bool, ∃ q3 : Bool, ∃ q4 : Bool, ∃ q5 : Int, Row w' p2 [.bool q1, .bool q2, .bool q3, .bool q4, .int .i64 q5] ∧ K q1 q2 q3 q4 q5 v w' := fun v hv =>
  bx 5 b2 rfl rfl (fun w' b E => ⟨_, _, _, _, _, b.row, hK _ _ _ _ _ _ _ ⟨⟨hs, hv⟩, E5.own o2 E⟩⟩)
 obtain ⟨e1, e2, e3, e4, e5⟩ : s1 = (Sp.shapeOf k).frm ∧ s2 = (Sp.shapeOf k).to ∧ s3 = (Sp.shapeOf k).num ∧ s4 = (Sp.shapeOf k).text ∧ s5 = (Sp.shapeOf k).kids := by rw [← hs]; simp
 have J3 : ∀ c : Bool, c = (!ok || (!s1 && f != 0) || (!s2 && t != 0) || (!s3 && u != 0)) → m_F_j3 p1 p2 p3 c w5 K := by
  intro c hc
  unfold m_F_j3
  refine ⟨fun h => ⟨_, _, _, _, _, b3.row, fin _ ?_⟩, fun h => ⟨_, b3.cell rfl, fun h4 => ⟨_, b1.cell rfl, fun h5 => ⟨_, _, _, _, _, b3.row, fin _ ?_⟩, fun h5 => ⟨_, _, _, _, _, b3.row, fin _ ?_⟩⟩, fun h4 => ⟨_, _, _, _, _, b3.row, fin _ ?_⟩⟩⟩
  ·rw [h] at hc
   simp only [Sp.plainErr, ← e1, ← e2, ← e3, ← e4, ← hok, ← hc]; simp
  ·rw [h] at hc
   simp only [Sp.plainErr, ← e1, ← e2, ← e3, ← e4, ← hok, ← hc]; simp at h4 h5; simp [h4, h5]
  ·rw [h] at hc
   simp only [Sp.plainErr, ← e1, ← e2, ← e3, ← e4, ← hok, ← hc]; simp at h4 h5; simp [h4, h5]
  ·rw [h] at hc
   simp only [Sp.plainErr, ← e1, ← e2, ← e3, ← e4, ← hok, ← hc]; simp at h4; simp [h4]
 have J2 : ∀ c : Bool, c = (!ok || (!s1 && f != 0) || (!s2 && t != 0)) → m_F_j2 p1 p2 p3 c w5 K := by
  intro c hc
  have J4 : ∀ d : Bool, d = (!s3 && u != 0) → m_F_j4 p1 p2 p3 c d w5 K := fun d hd => ⟨fun h => J3 _ (by rw [← hc, h]; rfl), fun h => J3 _ (by rw [← hc, h]; simpa using hd)⟩
  exact ⟨fun h => J3 _ (by rw [← hc, h]; rfl), fun h => ⟨_, b3.cell rfl, fun h4 => ⟨_, b1.cell rfl, J4 _ (by rw [h4]; rfl)⟩, fun h4 => J4 _ (by rw [h4]; rfl)⟩⟩
 have J1 : ∀ c : Bool, c = (!ok || (!s1 && f != 0)) → m_F_j1 p1 p2 p3 c w5 K := by
  intro c hc
  have J5 : ∀ d : Bool, d = (!s2 && t != 0) → m_F_j5 p1 p2 p3 c d w5 K := fun d hd => ⟨fun h => J2 _ (by rw [← hc, h]; rfl), fun h => J2 _ (by rw [← hc, h]; simpa using hd)⟩
  exact ⟨fun h => J2 _ (by rw [← hc, h]; rfl), fun h => ⟨_, b3.cell rfl, fun h4 => ⟨_, b1.cell rfl, J5 _ (by rw [h4]; rfl)⟩, fun h4 => J5 _ (by rw [h4]; rfl)⟩⟩
 have J6 : ∀ d : Bool, d = (!s1 && f != 0) → m_F_j6 p1 p2 ok p3 d w5 K := fun d hd => ⟨fun h => J1 _ (by rw [h]; rfl), fun h => J1 _ (by rw [h]; simpa using hd)⟩
 exact ⟨fun h => J1 _ (by rw [h]; rfl), fun h => ⟨_, b3.cell0, fun h4 => ⟨_, b1.cell rfl, J6 _ (by rw [h4]; rfl)⟩, fun h4 => J6 _ (by rw [h4]; rfl)⟩⟩
end Go.Proofs
end
section
namespace Go.Sp
structure Ent where
 node : Node
 size : Int
 depth : Int
deriving DecidableEq
abbrev Pool := List Ent
def inP (L : Pool) (t : Int) : Bool := decide (1 ≤ t) && decide (t ≤ L.length)
def get (L : Pool) (t : Int) : Option Ent := if inP L t then L[(t - 1).toNat]? else none
def sizeOf (L : Pool) (t : Int) : Int := ((get L t).map (·.size)).getD 0
def depthOf (L : Pool) (t : Int) : Int := ((get L t).map (·.depth)).getD 0
def noNode : Node := ⟨0, 0, 0, 0, ⟨#[]⟩, 0, 0⟩
def nodeOf (L : Pool) (t : Int) : Node := ((get L t).map (·.node)).getD noNode
def kidsOf (n : Node) : List Int := [n.a, n.b].take (shapeOf n.kind).kids.toNat
def check (L : Pool) (n : Node) : Int × Int × Int :=
 let s := shapeOf n.kind
 if plainErr n ≠ 0 then (0, 0, plainErr n)
 else if (decide (s.kids < 1) && n.a != 0) || (decide (s.kids < 2) && n.b != 0) then (0, 0, 53)
 else if fieldsErr s n ≠ 0 then (0, 0, fieldsErr s n)
 else if (kidsOf n).any (fun t => !inP L t) then (0, 0, 51)
 else
  let sz := 1 + ((kidsOf n).map (sizeOf L)).sum
  let d := (kidsOf n).foldl (fun d t => max d (depthOf L t)) 0 + 1
  if sz > 4096 ∨ d > 64 then (0, 0, 52) else (sz, d, 0)
def find (L : Pool) (n : Node) : Option Nat := L.findIdx? (fun e => e.node = n)
def make (L : Pool) (n : Node) : Int × Int × Pool :=
 let c := check L n
 if c.2.2 ≠ 0 then (0, c.2.2, L)
 else match find L n with
  | some i => (i + 1, 0, L)
  | none => if 65536 ≤ L.length then (0, 6, L) else (L.length + 1, 0, L ++ [⟨n, c.1, c.2.1⟩])
structure Ok (L : Pool) : Prop where
 few : L.length ≤ 65536
 nodup : (L.map (·.node)).Nodup
 size : ∀ e ∈ L, 1 ≤ e.size ∧ e.size ≤ 4096
 depth : ∀ e ∈ L, 1 ≤ e.depth ∧ e.depth ≤ 64
theorem inP_iff {L : Pool} {t : Int} : inP L t = true ↔ 1 ≤ t ∧ t ≤ L.length := by simp [inP]
theorem get_some {L : Pool} {t : Int} (h : inP L t = true) : ∃ e, get L t = some e ∧ e ∈ L ∧ ∃ hi : (t - 1).toNat < L.length, L[(t - 1).toNat] = e := by
 obtain ⟨h1, h2⟩ := inP_iff.1 h
 have hi : (t - 1).toNat < L.length := by omega
 exact ⟨L[(t - 1).toNat], by simp [get, h], List.getElem_mem hi, hi, rfl⟩
theorem get_none {L : Pool} {t : Int} (h : inP L t = false) : get L t = none := by simp [get, h]
theorem Ok.sizeOf {L : Pool} (h : Ok L) (t : Int) : 0 ≤ sizeOf L t ∧ sizeOf L t ≤ 4096 := by
 cases ht : inP L t with
 | true => obtain ⟨e, he, hm, _⟩ := get_some ht; have := h.size e hm; simp [Sp.sizeOf, he]; omega
 | false => simp [Sp.sizeOf, get_none ht]
theorem Ok.depthOf {L : Pool} (h : Ok L) (t : Int) : 0 ≤ depthOf L t ∧ depthOf L t ≤ 64 := by
 cases ht : inP L t with
 | true => obtain ⟨e, he, hm, _⟩ := get_some ht; have := h.depth e hm; simp [Sp.depthOf, he]; omega
 | false => simp [Sp.depthOf, get_none ht]
theorem Ok.nil : Ok [] := ⟨by simp, by simp, by simp, by simp⟩
theorem kids_le (k : Int) : (shapeOf k).kids = 0 ∨ (shapeOf k).kids = 1 ∨ (shapeOf k).kids = 2 := by
 unfold shapeOf noShape; repeat' split
 all_goals simp
end Go.Sp
end
section
open Go Go.SE
namespace Go.Proofs
attribute [local irreducible] Calls
def nrow (n : Sp.Node) : List Value := [.int .i64 n.kind, .int .i64 n.frm, .int .i64 n.to, .int .u64 n.num, .string n.text, .int .i64 n.a, .int .i64 n.b]
def erow (e : Sp.Ent) : List Value := nrow e.node ++ [.int .i64 e.size, .int .i64 e.depth]
def nkey (n : Sp.Node) : Value := .agg (nrow n).toArray
def pmap (L : Sp.Pool) : List (Value × Value) := L.zipIdx.map fun p => (nkey p.1.node, .int .i64 (p.2 + 1 : Nat))
structure PoolS (w : World) (p : Addr) (L : Sp.Pool) (s : Sl) (m : Nat) : Prop where
 box : Box w p [s.v, .map (some m)] 94
 rows : Rws w 147 9 s (L.map erow)
 map : CMap w m (pmap L)
 n1 : m ≠ p.block
 n2 : ¬ s.blk p.block
 n3 : ¬ s.blk m
def PoolAt (w : World) (p : Addr) (L : Sp.Pool) (F : NP) : Prop := ∃ s m, PoolS w p L s m ∧ ∀ b, F b ↔ (b = p.block ∨ s.blk b ∨ b = m)
theorem PoolAt.ext {G : NP} {w w' : World} {p : Addr} {L : Sp.Pool} {F : NP} (h : PoolAt w p L F) (hE : Ext G w w') (hd : ∀ b, F b → ¬ G b) : PoolAt w' p L F := by
 obtain ⟨s, m, h, hF⟩ := h
 exact ⟨s, m, ⟨h.box.ext hE (hd _ ((hF _).2 (.inl rfl))), h.rows.ext hE (fun b hb => hd _ ((hF _).2 (.inr (.inl hb)))), h.map.ext hE (hd _ ((hF _).2 (.inr (.inr rfl)))), h.n1, h.n2, h.n3⟩, hF⟩
theorem PoolAt.pure {w w' : World} {p : Addr} {L : Sp.Pool} {F : NP} (h : PoolAt w p L F) (hE : Pure w w') : PoolAt w' p L F := h.ext hE (fun _ _ h => h)
theorem PoolAt.lt {w : World} {p : Addr} {L : Sp.Pool} {F : NP} (h : PoolAt w p L F) {b : Nat} (hb : F b) : b < w.heap.size := by
 obtain ⟨s, m, h, hF⟩ := h
 rcases (hF b).1 hb with rfl | hb | rfl
 ·exact h.box.lt
 ·exact h.rows.lt hb
 ·exact h.map.lt
theorem i64 {n : Int} (h : -9223372036854775808 ≤ n) (h' : n ≤ 9223372036854775807) : IntKind.i64.wrap n = n := IntWalk.i64_in n ⟨h, h'⟩
theorem c_in (p : Addr) (t : Int) (w : World) {L : Sp.Pool} {F : NP} (hP : PoolAt w p L F) : Calls Tryz.prog 80 #[.pointer (some p), .int .i64 t] w (fun e w' => ∃ r, e = .returned (.bool r) ∧ (r = Sp.inP L t ∧ w = w')) := by
 obtain ⟨s, m, h, _⟩ := hP
 refine w_F1 (some p) t w (fun r w' => r = Sp.inP L t ∧ w = w') ?_
 unfold m_F1
 have hl : (s.len : Int) = L.length := by rw [h.rows.len]; simp
 refine Br.t rfl ⟨fun h1 => ⟨p, rfl, s, h.box.cell0, ?_, rfl⟩, fun h1 => ⟨?_, rfl⟩⟩
 ·have : 1 ≤ t := by simpa using h1
  simp [Sp.inP, hl, this]
 ·have : ¬ 1 ≤ t := by simpa using h1
  simp [Sp.inP, this]
theorem PoolS.at {w : World} {p : Addr} {L : Sp.Pool} {s : Sl} {m : Nat} (h : PoolS w p L s m) {t : Int} (ht : Sp.inP L t = true) (hok : Sp.Ok L) : ∃ a e, At s (IntKind.i64.wrap (t - 1)) 9 a ∧ Row w a (erow e) ∧ s.blk a.block ∧ Sp.get L t = some e := by
 obtain ⟨h1, h2⟩ := Sp.inP_iff.1 ht
 obtain ⟨e, hg, _, hi, he⟩ := Sp.get_some ht
 have := hok.few
 rw [i64 (by omega) (by omega)]
 obtain ⟨a, hat, hr, hb⟩ := h.rows.at (i := t - 1) (by omega) (by simpa using hi)
 exact ⟨a, e, hat, (by rw [List.getElem_map, he] at hr; exact hr), hb, hg⟩
theorem c_Size (p : Addr) (t : Int) (w : World) {L : Sp.Pool} {F : NP} (hP : PoolAt w p L F) (hok : Sp.Ok L) : Calls Tryz.prog 143 #[.pointer (some p), .int .i64 t] w (fun e w' => ∃ r, e = .returned (.int .i64 r) ∧ (r = Sp.sizeOf L t ∧ w = w')) := by
 refine w_Z2 (some p) t w (fun r w' => r = Sp.sizeOf L t ∧ w = w') ?_
 unfold m_Z2
 refine (c_in p t w hP).mono ?_
 rintro _ _ ⟨_, rfl, rfl, rfl⟩
 obtain ⟨s, m, h, _⟩ := hP
 refine ⟨_, rfl, fun h1 => ⟨?_, rfl⟩, fun h1 => ?_⟩
 ·simp [Sp.sizeOf, Sp.get_none (show Sp.inP L t = false by simpa using h1)]
 ·obtain ⟨a, e, hat, hr, _, hg⟩ := h.at (show Sp.inP L t = true by simpa using h1) hok
  exact ⟨p, rfl, s, h.box.cell0, a, hat, e.size, hr 7 (by simp [erow, nrow]), by simp [Sp.sizeOf, hg], rfl⟩
theorem c_Depth (p : Addr) (t : Int) (w : World) {L : Sp.Pool} {F : NP} (hP : PoolAt w p L F) (hok : Sp.Ok L) : Calls Tryz.prog 144 #[.pointer (some p), .int .i64 t] w (fun e w' => ∃ r, e = .returned (.int .i64 r) ∧ (r = Sp.depthOf L t ∧ w = w')) := by
 refine w_A3 (some p) t w (fun r w' => r = Sp.depthOf L t ∧ w = w') ?_
 unfold m_A3
 refine (c_in p t w hP).mono ?_
 rintro _ _ ⟨_, rfl, rfl, rfl⟩
 obtain ⟨s, m, h, _⟩ := hP
 refine ⟨_, rfl, fun h1 => ⟨?_, rfl⟩, fun h1 => ?_⟩
 ·simp [Sp.depthOf, Sp.get_none (show Sp.inP L t = false by simpa using h1)]
 ·obtain ⟨a, e, hat, hr, _, hg⟩ := h.at (show Sp.inP L t = true by simpa using h1) hok
  exact ⟨p, rfl, s, h.box.cell0, a, hat, e.depth, hr 8 (by simp [erow, nrow]), by simp [Sp.depthOf, hg], rfl⟩
theorem c_Node (p : Addr) (t : Int) (w : World) {L : Sp.Pool} {F : NP} (hP : PoolAt w p L F) (hok : Sp.Ok L) : Calls Tryz.prog 43 #[.pointer (some p), .int .i64 t] w
  (fun e w' => ∃ k : Int, ∃ f : Int, ∃ t' : Int, ∃ u : Int, ∃ x : ByteArray, ∃ a : Int, ∃ b : Int, ∃ r : Bool, e = .returned (.tuple #[.agg #[.int .i64 k, .int .i64 f, .int .i64 t', .int .u64 u, .string x, .int .i64 a, .int .i64 b], .bool r]) ∧ (((⟨k, f, t', u, x, a, b⟩ : Sp.Node) = Sp.nodeOf L t ∧ r = Sp.inP L t) ∧ Pure w w')) := by
 refine w_Q2 (some p) t w (fun k f t' u x a b r w' => ((⟨k, f, t', u, x, a, b⟩ : Sp.Node) = Sp.nodeOf L t ∧ r = Sp.inP L t) ∧ Pure w w') ?_
 unfold m_Q2
 intro p1 w1 h1
 have E1 : Pure w w1 := Ext.new h1
 have b1 := Box.of_new h1
 have hp := New.own (Ext.refl w) h1
 refine (c_in p t w1 (hP.pure E1)).mono ?_
 rintro _ _ ⟨_, rfl, rfl, rfl⟩
 obtain ⟨s, m, h, _⟩ := hP.pure E1
 refine ⟨_, rfl, fun h1 => bx 7 b1 rfl rfl (fun w' b E => ⟨_, _, _, _, _, _, _, b.row, ⟨?_, ?_⟩, E1.own hp E⟩), fun h1 => ?_⟩
 ·simp [Sp.nodeOf, Sp.get_none (show Sp.inP L t = false by simpa using h1), Sp.noNode]
 ·symm; simpa using h1
 ·have ht : Sp.inP L t = true := by simpa using h1
  obtain ⟨a, e, hat, hr, _, hg⟩ := h.at ht hok
  have hn : Row w1 a (nrow e.node) := fun i hi => by
   have := hr i (by simp [erow]; omega)
   rw [this]; unfold erow; rw [List.getElem?_append_left hi]
  exact ⟨p, rfl, s, h.box.cell0, a, hat, _, _, _, _, _, _, _, hn, bx 7 b1 rfl rfl (fun w' b E => ⟨_, _, _, _, _, _, _, b.row, ⟨by simp [Sp.nodeOf, hg], ht.symm⟩, E1.own hp E⟩)⟩
end Go.Proofs
end
section
namespace Go.Sp
inductive Tree where
 | mk (k f t u : Int) (x : ByteArray) (kids : List Tree)
def Tree.kids : Tree → List Tree | .mk _ _ _ _ _ ks => ks
def Tree.node : Tree → Node | .mk k f t u x _ => ⟨k, f, t, u, x, 0, 0⟩
theorem Tree.ind {P : Tree → Prop} (h : ∀ k f t u x (ks : List Tree), (∀ i (hi : i < ks.length), P ks[i]) → P (.mk k f t u x ks)) (t : Tree) : P t := by
 refine Tree.rec (motive_1 := P) (motive_2 := fun ks => ∀ i (hi : i < ks.length), P ks[i]) ?_ ?_ ?_ t
 ·intro k f t u x ks ih; exact h _ _ _ _ _ _ ih
 ·intro i hi; simp at hi
 ·intro t ks ht hks i hi
  cases i with
  | zero => exact ht
  | succ i => exact hks i (by simpa using hi)
def ownErr (n : Node) (len : Nat) : Int :=
 let e := if plainErr n = 0 then if (len : Int) ≠ (shapeOf n.kind).kids then 53 else 0 else plainErr n
 if e = 0 then fieldsErr (shapeOf n.kind) n else e
mutual
def looks (inside seen : Int) : Tree → Int × Int
 | .mk k f t u x ks => if 4096 ≤ seen then (52, seen) else if 64 ≤ inside then (52, seen) else looksAll (inside + 1) (ownErr ⟨k, f, t, u, x, 0, 0⟩ ks.length) (seen + 1) ks
def looksAll (inside e seen : Int) : List Tree → Int × Int
 | [] => (e, seen)
 | t :: ts => if e = 0 then looksAll inside (looks inside seen t).1 (looks inside seen t).2 ts else (e, seen)
end
mutual
def grow (L : Pool) : Tree → Int × Int × Pool
 | .mk k f t u x ks => growAll ⟨k, f, t, u, x, 0, 0⟩ 0 L ks
def growAll (n : Node) (i : Nat) (L : Pool) : List Tree → Int × Int × Pool
 | [] => make L n
 | t :: ts => if (grow L t).2.1 ≠ 0 then (0, (grow L t).2.1, (grow L t).2.2) else growAll (if i = 0 then { n with a := (grow L t).1 } else { n with b := (grow L t).1 }) (i + 1) (grow L t).2.2 ts
end
def of (L : Pool) (t : Tree) : Int × Int × Pool :=
 if (looks 0 0 t).1 ≠ 0 then (0, (looks 0 0 t).1, L)
 else if (grow L t).2.1 ≠ 0 then (0, (grow L t).2.1, L) else ((grow L t).1, 0, (grow L t).2.2)
theorem make_grows (L : Pool) (n : Node) : ∃ M, (make L n).2.2 = L ++ M := by
 unfold make
 simp only
 by_cases hc : (check L n).2.2 = 0
 ·simp only [hc]
  rw [if_neg (by simp)]
  split
  ·exact ⟨[], by simp⟩
  ·split
   ·exact ⟨[], by simp⟩
   ·exact ⟨_, rfl⟩
 ·rw [if_pos hc]; exact ⟨[], by simp⟩
theorem check_ok {L : Pool} {n : Node} (hok : Ok L) (h : (check L n).2.2 = 0) : 1 ≤ (check L n).1 ∧ (check L n).1 ≤ 4096 ∧ 1 ≤ (check L n).2.1 ∧ (check L n).2.1 ≤ 64 := by
 unfold check at h ⊢
 simp only at h ⊢
 by_cases h1 : plainErr n ≠ 0
 ·rw [if_pos h1] at h; exact absurd h h1
 rw [if_neg h1] at h ⊢
 split at h
 ·simp at h
 rename_i h2; rw [if_neg h2]
 by_cases h3 : fieldsErr (shapeOf n.kind) n ≠ 0
 ·rw [if_pos h3] at h; exact absurd h h3
 rw [if_neg h3] at h ⊢
 split at h
 ·simp at h
 rename_i h4; rw [if_neg h4]
 split at h
 ·simp at h
 rename_i h5; rw [if_neg h5]
 have hs : ∀ l : List Int, 0 ≤ (l.map (sizeOf L)).sum := by
  intro l
  induction l with
  | nil => simp
  | cons y l ih => have := hok.sizeOf y; simp only [List.map_cons, List.sum_cons]; omega
 have hd : ∀ (l : List Int) (d : Int), 0 ≤ d → 0 ≤ l.foldl (fun d t => max d (depthOf L t)) d := by
  intro l
  induction l with
  | nil => intro d h; exact h
  | cons y l ih => intro d h; exact ih (max d (depthOf L y)) (by omega)
 have := hs (kidsOf n)
 have := hd (kidsOf n) 0 (by omega)
 simp only
 omega
theorem make_ok {L : Pool} (hok : Ok L) (n : Node) : Ok (make L n).2.2 := by
 by_cases hc : (check L n).2.2 = 0
 ·have := check_ok hok hc
  unfold make
  simp only [hc]
  rw [if_neg (by simp)]
  split
  ·exact hok
  ·rename_i hf
   split
   ·exact hok
   ·rename_i hl
    refine ⟨by simp; omega, ?_, ?_, ?_⟩
    ·rw [List.map_append, List.nodup_append]
     refine ⟨hok.nodup, by simp, ?_⟩
     intro a ha b hb
     simp only [List.map_cons, List.map_nil, List.mem_singleton] at hb
     subst hb
     obtain ⟨e, he, rfl⟩ := List.mem_map.1 ha
     unfold find at hf
     rw [List.findIdx?_eq_none_iff] at hf
     simpa using hf e he
    ·intro e he
     rcases List.mem_append.1 he with h | h
     ·exact hok.size e h
     ·simp only [List.mem_singleton] at h; subst h; simp; omega
    ·intro e he
     rcases List.mem_append.1 he with h | h
     ·exact hok.depth e h
     ·simp only [List.mem_singleton] at h; subst h; simp; omega
 ·unfold make
  simp only
  rw [if_pos hc]; exact hok
theorem grow_facts (t : Tree) : ∀ L, Ok L → Ok (grow L t).2.2 ∧ ∃ M, (grow L t).2.2 = L ++ M := by
 induction t using Tree.ind with
 | h k f t u x ks ih =>
  have : ∀ (ks : List Tree), (∀ i (hi : i < ks.length), ∀ L, Ok L → Ok (grow L ks[i]).2.2 ∧ ∃ M, (grow L ks[i]).2.2 = L ++ M) → ∀ n i L, Ok L → Ok (growAll n i L ks).2.2 ∧ ∃ M, (growAll n i L ks).2.2 = L ++ M := by
   intro ks
   induction ks with
   | nil => intro _ n i L h; unfold growAll; exact ⟨make_ok h n, make_grows L n⟩
   | cons t ts iht =>
    intro hh n i L h
    have h0 := hh 0 (by simp) L h
    simp only [List.getElem_cons_zero] at h0
    unfold growAll
    split
    ·exact h0
    ·obtain ⟨ho, M, hM⟩ := h0
     have := iht (fun i hi => hh (i + 1) (by simpa using hi)) (if i = 0 then { n with a := (grow L t).1 } else { n with b := (grow L t).1 }) (i + 1) (grow L t).2.2 ho
     refine ⟨this.1, ?_⟩
     obtain ⟨M2, hM2⟩ := this.2
     exact ⟨M ++ M2, by rw [hM2, hM, List.append_assoc]⟩
  intro L h
  unfold grow
  exact this ks ih _ _ L h
end Go.Sp
end
section
namespace Go.Sp
theorem nodeOf_lt {L : Pool} {i : Nat} (hi : i < L.length) : nodeOf L ((i : Int) + 1) = L[i].node := by
 have h : inP L ((i : Int) + 1) = true := inP_iff.2 ⟨by omega, by omega⟩
 have e : ((i : Int) + 1 - 1).toNat = i := by omega
 simp [nodeOf, get, h, e, hi]
theorem inP_at {L : Pool} {t : Int} (h : inP L t = true) : ∃ i : Nat, i < L.length ∧ t = (i : Int) + 1 := by
 have := inP_iff.1 h
 exact ⟨(t - 1).toNat, by omega, by omega⟩
theorem get_at {L : Pool} {i : Nat} (hi : i < L.length) : get L ((i : Int) + 1) = some L[i] := by
 have h : inP L ((i : Int) + 1) = true := inP_iff.2 ⟨by omega, by omega⟩
 have e : ((i : Int) + 1 - 1).toNat = i := by omega
 simp [get, h, e, hi]
structure Wf (L : Pool) : Prop where
 ok : Ok L
 each : ∀ i (hi : i < L.length), check (L.take i) L[i].node = (L[i].size, L[i].depth, 0)
theorem Wf.nil : Wf [] := ⟨Ok.nil, fun i hi => by simp at hi⟩
theorem check_zero {L : Pool} {n : Node} (h : (check L n).2.2 = 0) : plainErr n = 0 ∧ ((shapeOf n.kind).kids < 1 → n.a = 0) ∧ ((shapeOf n.kind).kids < 2 → n.b = 0) ∧ fieldsErr (shapeOf n.kind) n = 0 ∧ (∀ t ∈ kidsOf n, inP L t = true) ∧
  (check L n).1 = 1 + ((kidsOf n).map (sizeOf L)).sum ∧ (check L n).2.1 = (kidsOf n).foldl (fun d t => max d (depthOf L t)) 0 + 1 ∧ (check L n).1 ≤ 4096 ∧ (check L n).2.1 ≤ 64 := by
 unfold check at h ⊢
 simp only at h ⊢
 by_cases h1 : plainErr n ≠ 0
 ·rw [if_pos h1] at h; exact absurd h h1
 rw [if_neg h1] at h ⊢
 split at h
 ·simp at h
 rename_i h2; rw [if_neg h2]
 by_cases h3 : fieldsErr (shapeOf n.kind) n ≠ 0
 ·rw [if_pos h3] at h; exact absurd h h3
 rw [if_neg h3] at h ⊢
 split at h
 ·simp at h
 rename_i h4; rw [if_neg h4]
 split at h
 ·simp at h
 rename_i h5; rw [if_neg h5]
 simp only [Bool.or_eq_true, Bool.and_eq_true, decide_eq_true_eq, bne_iff_ne, ne_eq, not_or, not_and, Classical.not_not] at h2
 refine ⟨by simpa using h1, h2.1, h2.2, by simpa using h3, fun t ht => ?_, rfl, rfl, by simp only; omega, by simp only; omega⟩
 cases hi : inP L t with
 | true => rfl
 | false => exact absurd (List.any_eq_true.2 ⟨t, ht, by simp [hi]⟩) h4
theorem make_pool (L : Pool) (n : Node) : (make L n).2.2 = L ∨ ((check L n).2.2 = 0 ∧ (make L n).2.2 = L ++ [⟨n, (check L n).1, (check L n).2.1⟩]) := by
 by_cases hc : (check L n).2.2 = 0
 ·unfold make
  simp only [hc]
  rw [if_neg (by simp)]
  split
  ·exact .inl rfl
  ·split
   ·exact .inl rfl
   ·exact .inr ⟨trivial, rfl⟩
 ·unfold make; simp only; rw [if_pos hc]; exact .inl rfl
theorem snoc_each {L : Pool} {e : Ent} (h : ∀ i (hi : i < L.length), check (L.take i) L[i].node = (L[i].size, L[i].depth, 0)) (he : check L e.node = (e.size, e.depth, 0)) : ∀ i (hi : i < (L ++ [e]).length), check ((L ++ [e]).take i) (L ++ [e])[i].node = ((L ++ [e])[i].size, (L ++ [e])[i].depth, 0) := by
 intro i hi
 simp only [List.length_append, List.length_cons, List.length_nil] at hi
 by_cases hlt : i < L.length
 ·simp only [List.getElem_append_left hlt]
  rw [List.take_append_of_le_length (by omega)]
  exact h i hlt
 ·have : i = L.length := by omega
  subst this
  simp only [List.getElem_append_right (Nat.le_refl _), Nat.sub_self, List.getElem_cons_zero]
  rw [List.take_left' rfl]
  exact he
theorem make_wf {L : Pool} (h : Wf L) (n : Node) : Wf (make L n).2.2 := by
 have ho := make_ok h.ok n
 rcases make_pool L n with e | ⟨hc, e⟩
 ·rw [e]; exact h
 ·rw [e] at ho ⊢
  exact ⟨ho, snoc_each h.each (by rw [← hc])⟩
theorem grow_wf (t : Tree) : ∀ L, Wf L → Wf (grow L t).2.2 := by
 induction t using Tree.ind with
 | h k f t u x ks ih =>
  have : ∀ (ks : List Tree), (∀ i (hi : i < ks.length), ∀ L, Wf L → Wf (grow L ks[i]).2.2) → ∀ n i L, Wf L → Wf (growAll n i L ks).2.2 := by
   intro ks
   induction ks with
   | nil => intro _ n i L h; unfold growAll; exact make_wf h n
   | cons t ts iht =>
    intro hh n i L h
    have h0 := hh 0 (by simp) L h
    simp only [List.getElem_cons_zero] at h0
    unfold growAll
    split
    ·exact h0
    ·exact iht (fun i hi => hh (i + 1) (by simpa using hi)) _ _ _ h0
  intro L h
  unfold grow
  exact this ks ih _ _ L h
theorem of_wf {L : Pool} (h : Wf L) (t : Tree) : Wf (of L t).2.2 := by
 unfold of
 split
 ·exact h
 ·split
  ·exact h
  ·exact grow_wf t L h
theorem inP_app {L M : Pool} {t : Int} (h : inP L t = true) : inP (L ++ M) t = true := by
 have := inP_iff.1 h
 exact inP_iff.2 ⟨this.1, by rw [List.length_append]; omega⟩
theorem get_app {L M : Pool} {t : Int} (h : inP L t = true) : get (L ++ M) t = get L t := by
 obtain ⟨i, hi, rfl⟩ := inP_at h
 rw [get_at hi, get_at (by rw [List.length_append]; omega), List.getElem_append_left hi]
theorem sizeOf_app {L M : Pool} {t : Int} (h : inP L t = true) : sizeOf (L ++ M) t = sizeOf L t := by unfold sizeOf; rw [get_app h]
theorem depthOf_app {L M : Pool} {t : Int} (h : inP L t = true) : depthOf (L ++ M) t = depthOf L t := by unfold depthOf; rw [get_app h]
theorem Wf.node {L : Pool} (h : Wf L) {t : Int} (ht : inP L t = true) : plainErr (nodeOf L t) = 0 ∧ ((shapeOf (nodeOf L t).kind).kids < 1 → (nodeOf L t).a = 0) ∧ ((shapeOf (nodeOf L t).kind).kids < 2 → (nodeOf L t).b = 0) ∧ fieldsErr (shapeOf (nodeOf L t).kind) (nodeOf L t) = 0 ∧
  (∀ k ∈ kidsOf (nodeOf L t), inP L k = true ∧ k < t) ∧ sizeOf L t = 1 + ((kidsOf (nodeOf L t)).map (sizeOf L)).sum ∧ depthOf L t = (kidsOf (nodeOf L t)).foldl (fun d k => max d (depthOf L k)) 0 + 1 := by
 obtain ⟨i, hi, rfl⟩ := inP_at ht
 have he := h.each i hi
 have hz := check_zero (L := L.take i) (n := L[i].node) (by rw [he])
 rw [nodeOf_lt hi]
 obtain ⟨h1, h2, h3, h4, h5, h6, h7, _, _⟩ := hz
 have hin : ∀ k ∈ kidsOf L[i].node, inP (L.take i) k = true ∧ inP L k = true ∧ k < (i : Int) + 1 := by
  intro k hk
  have hk' := h5 k hk
  have hk2 := inP_iff.1 hk'
  have : L.take i ++ L.drop i = L := List.take_append_drop i L
  refine ⟨hk', by rw [← this]; exact inP_app hk', ?_⟩
  rw [List.length_take] at hk2; omega
 have hsz : ∀ k ∈ kidsOf L[i].node, sizeOf (L.take i) k = sizeOf L k ∧ depthOf (L.take i) k = depthOf L k := by
  intro k hk
  have hk' := (hin k hk).1
  have : L.take i ++ L.drop i = L := List.take_append_drop i L
  exact ⟨by rw [← sizeOf_app (M := L.drop i) hk', this], by rw [← depthOf_app (M := L.drop i) hk', this]⟩
 refine ⟨h1, h2, h3, h4, fun k hk => ⟨(hin k hk).2.1, (hin k hk).2.2⟩, ?_, ?_⟩
 ·have : sizeOf L ((i : Int) + 1) = L[i].size := by simp [sizeOf, get_at hi]
  rw [this]
  rw [he] at h6
  simp only at h6
  rw [h6]
  congr 2
  exact List.map_congr_left (fun k hk => (hsz k hk).1)
 ·have : depthOf L ((i : Int) + 1) = L[i].depth := by simp [depthOf, get_at hi]
  rw [this]
  rw [he] at h7
  simp only at h7
  rw [h7]
  congr 1
  have : ∀ (l : List Int) (d : Int), (∀ k ∈ l, depthOf (L.take i) k = depthOf L k) → l.foldl (fun d t => max d (depthOf (L.take i) t)) d = l.foldl (fun d k => max d (depthOf L k)) d := by
   intro l
   induction l with
   | nil => intro d _; rfl
   | cons a l ih => intro d hh; simp only [List.foldl_cons]; rw [hh a (by simp)]; exact ih _ (fun k hk => hh k (by simp [hk]))
  exact this _ _ (fun k hk => (hsz k hk).2)
theorem Wf.first {L M : Pool} (h : Wf (L ++ M)) : Wf L := by
 refine ⟨⟨by have := h.ok.few; rw [List.length_append] at this; omega, ?_, fun e he => h.ok.size e (by simp [he]), fun e he => h.ok.depth e (by simp [he])⟩, fun i hi => ?_⟩
 ·have := h.ok.nodup; rw [List.map_append] at this; exact (List.nodup_append.1 this).1
 ·have := h.each i (by rw [List.length_append]; omega)
  rw [List.getElem_append_left hi, List.take_append_of_le_length (by omega)] at this
  exact this
end Go.Sp
end
section
namespace Go.Sp
def showsK (k : Int) : Bool := k == 7 || k == 8 || k == 9
def freeK (k : Int) : Bool := k == 1 || k == 2 || k == 3
def keyNode (n : Int) : Node := ⟨6, n, 0, 0, ⟨#[]⟩, 0, 0⟩
def whoOf (n : Node) : Int := if n.kind = 9 then n.to else n.frm
def Arises (L : Pool) (r u t : Int) : Prop :=
 (r = 1 ∧ (nodeOf L u).kind = 4 ∧ (nodeOf L u).a = t) ∨ (r = 2 ∧ (nodeOf L u).kind = 4 ∧ (nodeOf L u).b = t) ∨ (r = 3 ∧ showsK (nodeOf L u).kind = true ∧ (nodeOf L u).a = t)
inductive Seen (L : Pool) (G : List Int) : Int → Prop
 | given {t : Int} : t ∈ G → Seen L G t
 | «from» {r u t : Int} : Seen L G u → Arises L r u t → Seen L G t
inductive Drv (L : Pool) (K : Int → Prop) : Int → Prop
 | seen {t : Int} : K t → Drv L K t
 | free {t : Int} : freeK (nodeOf L t).kind = true → Drv L K t
 | pair {t : Int} : (nodeOf L t).kind = 4 → Drv L K (nodeOf L t).a → Drv L K (nodeOf L t).b → Drv L K t
 | hash {t : Int} : (nodeOf L t).kind = 5 → Drv L K (nodeOf L t).a → Drv L K t
 | sign {t : Int} {i : Nat} : showsK (nodeOf L t).kind = true → Drv L K (nodeOf L t).a → find L (keyNode (whoOf (nodeOf L t))) = some i → K ((i : Int) + 1) → Drv L K t
structure Way where
 t : Int
 rule : Int
 frm : Int
deriving DecidableEq
def wkeys (S : List Way) : List Int := S.map Way.t
def WayOk (L : Pool) (G : List Int) (pre : List Way) (v : Way) : Prop := (v.rule = 0 ∧ v.frm = 0 ∧ v.t ∈ G) ∨ (v.rule ≠ 0 ∧ Arises L v.rule v.frm v.t ∧ v.frm ∈ wkeys pre)
structure WaysOk (L : Pool) (G : List Int) (S : List Way) : Prop where
 nodup : (wkeys S).Nodup
 inp : ∀ t ∈ wkeys S, inP L t = true
 way : ∀ i (h : i < S.length), WayOk L G (S.take i) S[i]
def Shown (L : Pool) (S : List Way) (u : Int) : Prop := ∀ r t, Arises L r u t → t ∈ wkeys S
structure KnowOk (L : Pool) (G : List Int) (S : List Way) : Prop extends WaysOk L G S where
 closed : ∀ u ∈ wkeys S, Shown L S u
 giv : ∀ t ∈ G, t ∈ wkeys S
 gnd : G.Nodup
theorem wkeys_len (S : List Way) : (wkeys S).length = S.length := by simp [wkeys]
theorem WayOk.mono {L : Pool} {G G' : List Int} {pre : List Way} {v : Way} (h : WayOk L G pre v) (hG : ∀ t ∈ G, t ∈ G') : WayOk L G' pre v := by
 rcases h with ⟨a, b, c⟩ | h
 ·exact .inl ⟨a, b, hG _ c⟩
 ·exact .inr h
theorem WaysOk.mono {L : Pool} {G G' : List Int} {S : List Way} (h : WaysOk L G S) (hG : ∀ t ∈ G, t ∈ G') : WaysOk L G' S := ⟨h.nodup, h.inp, fun i hi => (h.way i hi).mono hG⟩
theorem WaysOk.snoc {L : Pool} {G : List Int} {S : List Way} (h : WaysOk L G S) {v : Way} (hn : v.t ∉ wkeys S) (hi : inP L v.t = true) (hv : WayOk L G S v) : WaysOk L G (S ++ [v]) := by
 refine ⟨?_, ?_, fun i hlt => ?_⟩
 ·unfold wkeys at hn ⊢
  rw [List.map_append, List.nodup_append]
  exact ⟨h.nodup, by simp, fun x hx y hy e => by simp at hy; subst hy; exact hn (e ▸ hx)⟩
 ·intro t ht
  unfold wkeys at ht
  rw [List.map_append, List.mem_append] at ht
  rcases ht with ht | ht
  ·exact h.inp t ht
  ·simp at ht; rw [ht]; exact hi
 ·rw [List.length_append] at hlt
  simp only [List.length_cons, List.length_nil] at hlt
  by_cases hl : i < S.length
  ·rw [List.getElem_append_left hl, List.take_append_of_le_length (by omega)]; exact h.way i hl
  ·have : i = S.length := by omega
   subst this
   rw [List.getElem_append_right (Nat.le_refl _), List.take_left]
   simpa using hv
theorem Shown.snoc {L : Pool} {S : List Way} {u : Int} {v : Way} (h : Shown L S u) : Shown L (S ++ [v]) u := fun r t ha => by
 unfold wkeys; rw [List.map_append]; exact List.mem_append_left _ (h r t ha)
theorem wkeys_at {S : List Way} {t : Int} (h : t ∈ wkeys S) : ∃ i, ∃ hi : i < S.length, S[i].t = t ∧ (wkeys S).idxOf t = i := by
 have hlt := List.idxOf_lt_length_iff.2 h
 refine ⟨(wkeys S).idxOf t, by simpa [wkeys] using hlt, ?_, rfl⟩
 have := List.getElem_idxOf hlt
 simp only [wkeys, List.getElem_map] at this ⊢
 exact this
theorem KnowOk.seen_iff {L : Pool} {G : List Int} {S : List Way} (h : KnowOk L G S) (t : Int) : t ∈ wkeys S ↔ Seen L G t := by
 constructor
 ·intro ht
  obtain ⟨i, hi, e, _⟩ := wkeys_at ht
  subst e
  have : ∀ (n i : Nat) (hi : i < S.length), i ≤ n → Seen L G S[i].t := by
   intro n
   induction n with
   | zero =>
    intro i hi h0
    have : i = 0 := by omega
    subst this
    rcases h.way 0 hi with ⟨_, _, hg⟩ | ⟨_, _, hm⟩
    ·exact .given hg
    ·simp [wkeys] at hm
   | succ n ih =>
    intro i hi hn
    rcases h.way i hi with ⟨_, _, hg⟩ | ⟨_, ha, hm⟩
    ·exact .given hg
    ·obtain ⟨j, hj, e, _⟩ := wkeys_at hm
     rw [List.length_take] at hj
     have := ih j (by omega) (by omega)
     rw [List.getElem_take] at e
     rw [e] at this
     exact .from this ha
  exact this i i hi (Nat.le_refl _)
 ·intro hs
  induction hs with
  | given hg => exact h.giv _ hg
  | «from» _ ha ih => exact h.closed _ ih _ _ ha
theorem Seen.mono {L : Pool} {G G' : List Int} (hG : ∀ t ∈ G, t ∈ G') {t : Int} (h : Seen L G t) : Seen L G' t := by
 induction h with
 | given hg => exact .given (hG _ hg)
 | «from» _ ha ih => exact .from ih ha
theorem Drv.mono {L : Pool} {K K' : Int → Prop} (hK : ∀ t, K t → K' t) {t : Int} (h : Drv L K t) : Drv L K' t := by
 induction h with
 | seen h => exact .seen (hK _ h)
 | free h => exact .free h
 | pair h _ _ iha ihb => exact .pair h iha ihb
 | hash h _ ih => exact .hash h ih
 | sign h _ hf hk ih => exact .sign h ih hf (hK _ hk)
structure Step where
 rule : Int
 a : Int
 b : Int
 t : Int
deriving DecidableEq
def ahead (i : Nat) (v : Int) : Bool := decide (0 ≤ v) && decide (v < i)
def tAt (pre : List Step) (v : Int) : Int := (pre[v.toNat]?.map Step.t).getD 0
def arisesB (L : Pool) (r u t : Int) : Bool :=
 if r = 1 then (nodeOf L u).kind == 4 && (nodeOf L u).a == t else if r = 2 then (nodeOf L u).kind == 4 && (nodeOf L u).b == t else showsK (nodeOf L u).kind && (nodeOf L u).a == t
def fol (L : Pool) (G : List Int) (pre : List Step) (s : Step) : Bool :=
 if inP L s.t = false then false
 else if s.rule = 0 then s.a == 0 && s.b == 0 && decide (s.t ∈ G)
 else if s.rule = 1 ∨ s.rule = 2 ∨ s.rule = 3 then ahead pre.length s.a && s.b == 0 && arisesB L s.rule (tAt pre s.a) s.t
 else if s.rule = 4 then s.a == 0 && s.b == 0 && freeK (nodeOf L s.t).kind
 else if s.rule = 5 then
  if (nodeOf L s.t).kind = 4 then ahead pre.length s.a && ahead pre.length s.b && tAt pre s.a == (nodeOf L s.t).a && tAt pre s.b == (nodeOf L s.t).b
  else if (nodeOf L s.t).kind = 5 then ahead pre.length s.a && s.b == 0 && tAt pre s.a == (nodeOf L s.t).a
  else if showsK (nodeOf L s.t).kind = true then ahead pre.length s.a && ahead pre.length s.b && tAt pre s.a == (nodeOf L s.t).a && (nodeOf L (tAt pre s.b)).kind == 6 && (nodeOf L (tAt pre s.b)).frm == whoOf (nodeOf L s.t)
  else false
 else false
def badAt (L : Pool) (G : List Int) (l : List Step) : Nat → Nat → Option Nat
 | 0, _ => none
 | n + 1, i => match l[i]? with
  | none => none
  | some s => if fol L G (l.take i) s = true then badAt L G l n (i + 1) else some i
def check8 (L : Pool) (G : List Int) (l : List Step) (goal : Int) : Int × Int := match badAt L G l l.length 0 with
 | some i => (80, i)
 | none => if l.length = 0 ∨ tAt l ((l.length : Int) - 1) ≠ goal then (81, l.length) else (0, 0)
theorem badAt_none {L : Pool} {G : List Int} {l : List Step} (h : ∀ i (hi : i < l.length), fol L G (l.take i) l[i] = true) : ∀ n i, badAt L G l n i = none
 | 0, _ => rfl
 | n + 1, i => by
  rw [badAt]
  cases hl : l[i]? with
  | none => rfl
  | some s =>
   obtain ⟨hi, e⟩ := List.getElem?_eq_some_iff.1 hl
   have := h i hi
   rw [e] at this
   simp only [this, if_true]
   exact badAt_none h n (i + 1)
end Go.Sp
namespace Go.Sp
theorem nodup_few {α : Type} [DecidableEq α] : ∀ {l m : List α}, l.Nodup → (∀ x ∈ l, x ∈ m) → l.length ≤ m.length
 | [], m, _, _ => by simp
 | x :: l, m, hn, hs => by
  have hx := hs x (by simp)
  rw [List.nodup_cons] at hn
  have := nodup_few (m := m.erase x) hn.2 (fun y hy => (List.mem_erase_of_ne (fun h => hn.1 (by rw [← h]; exact hy))).2 (hs y (List.mem_cons_of_mem _ hy)))
  rw [List.length_erase_of_mem hx] at this
  have := List.length_pos_of_mem hx
  simp only [List.length_cons]; omega
theorem pool_few {L : Pool} {l : List Int} (hn : l.Nodup) (hi : ∀ t ∈ l, inP L t = true) : l.length ≤ L.length := by
 have := nodup_few (m := (List.range L.length).map fun i : Nat => (i : Int) + 1) hn (fun t ht => by
  obtain ⟨i, h1, h2⟩ := inP_at (hi t ht)
  exact List.mem_map.2 ⟨i, List.mem_range.2 h1, h2.symm⟩)
 simpa using this
theorem WaysOk.few {L : Pool} {G : List Int} {S : List Way} (h : WaysOk L G S) : S.length ≤ L.length := by
 have := pool_few h.nodup h.inp
 rwa [wkeys_len] at this
theorem kids4 {L : Pool} (h : Wf L) {t : Int} (ht : inP L t = true) (hk : (nodeOf L t).kind = 4) : (inP L (nodeOf L t).a = true ∧ (nodeOf L t).a < t) ∧ (inP L (nodeOf L t).b = true ∧ (nodeOf L t).b < t) := by
 have := (h.node ht).2.2.2.2.1
 simp only [kidsOf, hk, shapeOf] at this
 exact ⟨this _ (by simp), this _ (by simp)⟩
theorem kids5 {L : Pool} (h : Wf L) {t : Int} (ht : inP L t = true) (hk : (nodeOf L t).kind = 5) : inP L (nodeOf L t).a = true ∧ (nodeOf L t).a < t := by
 have := (h.node ht).2.2.2.2.1
 simp only [kidsOf, hk, shapeOf] at this
 exact this _ (by simp)
theorem kids7 {L : Pool} (h : Wf L) {t : Int} (ht : inP L t = true) (hk : showsK (nodeOf L t).kind = true) : inP L (nodeOf L t).a = true ∧ (nodeOf L t).a < t := by
 have := (h.node ht).2.2.2.2.1
 simp only [showsK, Bool.or_eq_true, beq_iff_eq] at hk
 rcases hk with (hk | hk) | hk <;> simp only [kidsOf, hk, shapeOf] at this <;> exact this _ (by simp)
theorem Arises.inp {L : Pool} (h : Wf L) {r u t : Int} (hu : inP L u = true) (ha : Arises L r u t) : inP L t = true ∧ t < u := by
 rcases ha with ⟨_, hk, rfl⟩ | ⟨_, hk, rfl⟩ | ⟨_, hk, rfl⟩
 ·exact (kids4 h hu hk).1
 ·exact (kids4 h hu hk).2
 ·exact kids7 h hu hk
def addWay (S : List Way) (v : Way) : List Way := if v.t ∈ wkeys S then S else S ++ [v]
theorem wkeys_snoc (S : List Way) (v : Way) : wkeys (S ++ [v]) = wkeys S ++ [v.t] := by simp [wkeys]
theorem addWay_keys (S : List Way) (v : Way) : v.t ∈ wkeys (addWay S v) ∧ ∀ t ∈ wkeys S, t ∈ wkeys (addWay S v) := by
 unfold addWay; split
 ·rename_i h; exact ⟨h, fun _ h => h⟩
 ·rw [wkeys_snoc]; exact ⟨by simp, fun t ht => List.mem_append_left _ ht⟩
theorem addWay_take (S : List Way) (v : Way) : ∃ M, addWay S v = S ++ M := by
 unfold addWay; split
 ·exact ⟨[], by simp⟩
 ·exact ⟨[v], rfl⟩
theorem WaysOk.add {L : Pool} {G : List Int} {S : List Way} (h : WaysOk L G S) {v : Way} (hi : inP L v.t = true) (hv : WayOk L G S v) : WaysOk L G (addWay S v) := by
 unfold addWay; split
 ·exact h
 ·rename_i hn; exact h.snoc hn hi hv
end Go.Sp
end
section
open Go Go.SE
namespace Go.Proofs
attribute [local irreducible] Calls
def wayv (p : Int × Int) : Value := .agg #[.int .i64 p.1, .int .i64 p.2]
def wmap (S : List Sp.Way) : List (Int × (Int × Int)) := S.map fun v => (v.t, (v.rule, v.frm))
theorem wmap_keys (S : List Sp.Way) : (wmap S).map Prod.fst = Sp.wkeys S := by simp [wmap, Sp.wkeys]
theorem wmap_snoc (S : List Sp.Way) (v : Sp.Way) : wmap (S ++ [v]) = wmap S ++ [(v.t, (v.rule, v.frm))] := by simp [wmap]
structure KnowS (w : World) (k p : Addr) (G : List Int) (S : List Sp.Way) (ks : List Int) (sg : Sl) (m : Nat) (sl : Sl) : Prop where
 box : Box w k [.pointer (some p), sg.v, .map (some m), sl.v] 109
 giv : Rws w 30 1 sg (tmr G)
 seen : IMap wayv w m (wmap S)
 list : Rws w 30 1 sl (tmr ks)
 n1 : m ≠ k.block
 n2 : ¬ sg.blk k.block
 n3 : ¬ sl.blk k.block
 n4 : ¬ sg.blk m
 n5 : ¬ sl.blk m
 n6 : ∀ b, sg.blk b → ¬ sl.blk b
def KF (k : Addr) (sg : Sl) (m : Nat) (sl : Sl) (b : Nat) : Prop := b = k.block ∨ sg.blk b ∨ b = m ∨ sl.blk b
def KnowAt (w : World) (k p : Addr) (G : List Int) (S : List Sp.Way) (F : NP) : Prop := ∃ sg m sl, KnowS w k p G S (Sp.wkeys S) sg m sl ∧ ∀ b, F b ↔ KF k sg m sl b
section
variable {w w' : World} {k p : Addr} {G : List Int} {S : List Sp.Way} {ks : List Int} {sg sl : Sl} {m : Nat} {F : NP}
theorem KnowS.ext {X : NP} (h : KnowS w k p G S ks sg m sl) (hE : Ext X w w') (hd : ∀ b, KF k sg m sl b → ¬ X b) : KnowS w' k p G S ks sg m sl :=
 ⟨h.box.ext hE (hd _ (.inl rfl)), h.giv.ext hE (fun b hb => hd _ (.inr (.inl hb))), h.seen.ext hE (hd _ (.inr (.inr (.inl rfl)))), h.list.ext hE (fun b hb => hd _ (.inr (.inr (.inr hb)))), h.n1, h.n2, h.n3, h.n4, h.n5, h.n6⟩
theorem KnowS.pure (h : KnowS w k p G S ks sg m sl) (hE : Pure w w') : KnowS w' k p G S ks sg m sl := h.ext hE (fun _ _ h => h)
theorem KnowS.lt (h : KnowS w k p G S ks sg m sl) {b : Nat} (hb : KF k sg m sl b) : b < w.heap.size := by
 rcases hb with rfl | hb | rfl | hb
 ·exact h.box.lt
 ·exact h.giv.lt hb
 ·exact h.seen.lt
 ·exact h.list.lt hb
theorem KnowAt.ext {X : NP} (h : KnowAt w k p G S F) (hE : Ext X w w') (hd : ∀ b, F b → ¬ X b) : KnowAt w' k p G S F := by
 obtain ⟨sg, m, sl, h, hF⟩ := h
 exact ⟨sg, m, sl, h.ext hE (fun b hb => hd b ((hF b).2 hb)), hF⟩
theorem KnowAt.pure (h : KnowAt w k p G S F) (hE : Pure w w') : KnowAt w' k p G S F := h.ext hE (fun _ _ h => h)
theorem KnowAt.lt (h : KnowAt w k p G S F) {b : Nat} (hb : F b) : b < w.heap.size := by
 obtain ⟨sg, m, sl, h, hF⟩ := h; exact h.lt ((hF b).1 hb)
theorem KnowS.look (h : KnowS w k p G S ks sg m sl) (t : Int) : ∃ r f : Int, (Instr.lookup 107 (.map (some m)) (.int .i64 t) true).run Tryz.prog w = .ok (.tuple #[.agg #[.int .i64 r, .int .i64 f], .bool (decide (t ∈ Sp.wkeys S))]) w ∧ (t ∈ Sp.wkeys S → SE.look (wmap S) t = some (r, f)) := by
 rcases h.seen.get (P := Tryz.prog) (T := 107) Tryz.underlying107 Tryz.underlying30 (Tryz.zeroValue113 _) t true with ⟨h1, h2⟩ | ⟨⟨r, f⟩, h1, h2⟩
 ·have hn : t ∉ Sp.wkeys S := by have := look_none.1 h1; rwa [wmap_keys] at this
  exact ⟨0, 0, by rw [decide_eq_false hn]; exact h2, fun h => absurd h hn⟩
 ·have hy : t ∈ Sp.wkeys S := by
   have := look_mem h1
   rw [← wmap_keys]; exact List.mem_map.2 ⟨_, this, rfl⟩
  exact ⟨r, f, by rw [decide_eq_true hy]; exact h2, fun _ => h1⟩
theorem KnowS.put (h : KnowS w k p G S ks sg m sl) {v : Sp.Way} (hn : v.t ∉ Sp.wkeys S) : ∃ w', (Instr.mapUpdate 107 (.map (some m)) (.int .i64 v.t) (.agg #[.int .i64 v.rule, .int .i64 v.frm])).run Tryz.prog w = .ok () w' ∧ KnowS w' k p G (S ++ [v]) ks sg m sl ∧ Ext (· = m) w w' := by
 obtain ⟨w', h1, h2, h3⟩ := h.seen.put (P := Tryz.prog) (T := 107) (K := 30) Tryz.underlying107 Tryz.underlying30 (k := v.t) (look_none.2 (by rw [wmap_keys]; exact hn)) (v.rule, v.frm)
 exact ⟨w', h1, ⟨h.box.ext h3 (fun e => h.n1 e.symm), h.giv.ext h3 (fun b hb e => h.n4 (e ▸ hb)), by rw [wmap_snoc]; exact h2, h.list.ext h3 (fun b hb e => h.n5 (e ▸ hb)), h.n1, h.n2, h.n3, h.n4, h.n5, h.n6⟩, h3⟩
theorem KnowS.app (h : KnowS w k p G S ks sg m sl) {t : Int} {q : Addr} {w1 : World} (hq : New w (.cells #[.int .i64 t] 30) q w1) (hn : ks.length ≤ 1000000) : ∃ s1 w2, (Builtin.append_ #[52, 52] 52 #[sl.v, (Sl.mk (some q) 1 1).v]).run Tryz.prog w1 = .ok s1.v w2 ∧ Ext sl.blk w1 w2 ∧ Box w2 k [.pointer (some p), sg.v, .map (some m), sl.v] 109 ∧
  KnowS (w2.setCell (k.add 3) s1.v) k p G S (ks ++ [t]) sg m s1 ∧ Ext (KF k sg m sl) w (w2.setCell (k.add 3) s1.v) ∧ ∀ b, KF k sg m s1 b → KF k sg m sl b ∨ w.heap.size ≤ b := by
 have E1 : Pure w w1 := Ext.new hq
 have h1 := h.pure E1
 obtain ⟨s1, w2, hr, hR, hE, hb⟩ := h1.list.append (P := Tryz.prog) (ty := 52) (c := 1) slT_tm (r := [.int .i64 t]) (Box.of_new hq).row rfl rfl (by rw [tmr_len]; omega) (by rw [tmr_len]; simp [maxLen]; omega)
 have hbx := h1.box.ext hE h1.n3
 have hs1 : ∀ b, s1.blk b → sl.blk b ∨ w.heap.size ≤ b := fun b h => (hb b h).imp_right (fun h => by have := E1.size; omega)
 have nk : ¬ s1.blk k.block := fun hh => (hs1 _ hh).elim h.n3 (fun hh => by have := h.box.lt; omega)
 have nm : ¬ s1.blk m := fun hh => (hs1 _ hh).elim h.n5 (fun hh => by have := h.seen.lt; omega)
 have E3 := Ext.setCell (w := w2) (k.add 3) s1.v
 rw [add_block] at E3
 refine ⟨s1, w2, hr, hE, hbx, ⟨hbx.set 3 s1.v, ((h1.giv.ext hE h.n6).ext E3 (fun b hb e => h.n2 (e ▸ hb))), ((h1.seen.ext hE h.n5).ext E3 h.n1), by rw [show tmr (ks ++ [t]) = tmr ks ++ [[.int .i64 t]] by simp [tmr]]; exact hR.ext E3 (fun b hb e => nk (e ▸ hb)), h.n1, h.n2, nk, h.n4, nm, fun b h1 h2 => (hs1 b h2).elim (h.n6 b h1) (fun hh => by have := h.giv.lt h1; omega)⟩, ?_, ?_⟩
 ·exact ((E1.pure (F := KF k sg m sl)).trans (hE.mono (fun b _ hb => .inr (.inr (.inr hb))))).trans (E3.mono (fun b _ hb => .inl hb))
 ·rintro b (hb | hb | hb | hb)
  ·exact .inl (.inl hb)
  ·exact .inl (.inr (.inl hb))
  ·exact .inl (.inr (.inr (.inl hb)))
  ·exact (hs1 b hb).imp_left (fun h => .inr (.inr (.inr h)))
end
theorem c_ded_New (p : Addr) (w0 : World) : Calls Tryz.prog 20 #[.pointer (some p)] w0 (fun e w' => ∃ r : Option Addr, e = .returned (.pointer r) ∧ ∃ k F, r = some k ∧ KnowAt w' k p [] [] F ∧ Pure w0 w' ∧ ∀ b, F b → w0.heap.size ≤ b) := by
 refine w_G2 _ w0 (fun r w' => ∃ k F, r = some k ∧ KnowAt w' k p [] [] F ∧ Pure w0 w' ∧ ∀ b, F b → w0.heap.size ≤ b) ?_
 unfold m_G2
 refine Br.f rfl ?_
 intro p2 w1 h1 p3 w2 h2
 have E1 : Pure w0 w1 := Ext.new h1
 have E2 : Pure w1 w2 := Ext.new h2
 have hnil : ∀ b, ¬ Sl.nil.blk b := fun b hb => by obtain ⟨a, h, _⟩ := hb; cases h
 refine ⟨p3, _, rfl, ⟨Sl.nil, p2.block, Sl.nil, ⟨Box.of_new h2, Rws.nil _ _ _, (IMap.of_new (f := wayv) h1).pure E2, Rws.nil _ _ _, ?_, hnil _, hnil _, hnil _, hnil _, fun b hb => (hnil b hb).elim⟩, fun b => Iff.rfl⟩, E1.trans E2, ?_⟩
 ·have := h1.at_size; have := h2.at_size; have := E1.size; have := (IMap.of_new (f := wayv) h1).lt; omega
 ·rintro b (rfl | hb | rfl | hb)
  ·have := h2.at_size; have := E1.size; omega
  ·exact (hnil b hb).elim
  ·have := h1.at_size; omega
  ·exact (hnil b hb).elim
theorem c_ded_Sees (k p : Addr) (t : Int) (w0 : World) {G : List Int} {S : List Sp.Way} {F : NP} (h : KnowAt w0 k p G S F) :
  Calls Tryz.prog 54 #[.pointer (some k), .int .i64 t] w0 (fun e w' => ∃ r : Bool, e = .returned (.bool r) ∧ (r = decide (t ∈ Sp.wkeys S) ∧ Pure w0 w')) := by
 refine w_J2 _ _ w0 (fun r w' => r = decide (t ∈ Sp.wkeys S) ∧ Pure w0 w') ?_
 unfold m_J2
 obtain ⟨sg, m, sl, h, hF⟩ := h
 obtain ⟨r, f, h1, _⟩ := h.look t
 exact Br.f rfl ⟨k, rfl, _, h.box.cell rfl, r, f, _, h1, fun H1 w2 hs => ⟨rfl, hs.first⟩⟩
theorem c_ded_Given (k p : Addr) (w0 : World) {G : List Int} {S : List Sp.Way} {F : NP} (h : KnowAt w0 k p G S F) (hn : G.length ≤ 1000000) :
  Calls Tryz.prog 55 #[.pointer (some k)] w0 (fun e w' => ∃ r : Sl, e = .returned r.v ∧ RetO w0 30 1 (tmr G) r w') := by
 refine w_K2 _ w0 (fun r w' => RetO w0 30 1 (tmr G) r w') ?_
 unfold m_K2
 obtain ⟨sg, m, sl, h, hF⟩ := h
 refine Br.f rfl ⟨k, rfl, sg, h.box.cell rfl, ?_⟩
 refine (c_slClone sg G w0 h.giv.lst (fun hz => ?_) hn).mono ?_
 ·rcases h.giv.own with ⟨e, _⟩ | ⟨g, cur, ha, _⟩
  ·exact e
  ·rw [ha] at hz; cases hz
 ·rintro _ w1 ⟨r, rfl, hr⟩
  exact ⟨r, rfl, hr⟩
end Go.Proofs
end
section
open Go Go.SE
namespace Go.Proofs
attribute [local irreducible] Calls
section
variable {w w' : World} {k p : Addr} {G : List Int} {S : List Sp.Way} {F : NP}
theorem KnowAt.hst {w0 : World} {H H' : NP} (h : KnowAt w k p G S F) (hs : Hst w0 H w H' w') (hd : ∀ b, F b → ¬ H b) : KnowAt w' k p G S F ∧ ∀ b, F b → ¬ H' b := by
 have hd' := hs.disj (G := F) (fun b hb => ⟨h.lt hb, hd b hb⟩)
 exact ⟨h.ext hs.ext hd', hd'⟩
end
theorem c_ded_sees1 (k p : Addr) (t rule u : Int) (c1 c2 : Addr) (w0 : World) {G : List Int} {S : List Sp.Way} {F : NP} (h : KnowAt w0 k p G S F) (h1 : w0.cell? c1 = some (.pointer (some k))) (h2 : w0.cell? c2 = some (.int .i64 u)) (d1 : ¬ F c1.block) (d2 : ¬ F c2.block) (hn : S.length ≤ 1000000) :
  Calls Tryz.prog 97 #[.int .i64 t, .int .i64 rule, .pointer (some c1), .pointer (some c2)] w0 (fun e w' => e = .returned (.tuple #[]) ∧ ∃ F', KnowAt w' k p G (Sp.addWay S ⟨t, rule, u⟩) F' ∧ Ext F w0 w' ∧ ∀ b, F' b → F b ∨ w0.heap.size ≤ b) := by
 refine w_M2 _ _ _ _ w0 (fun w' => ∃ F', KnowAt w' k p G (Sp.addWay S ⟨t, rule, u⟩) F' ∧ Ext F w0 w' ∧ ∀ b, F' b → F b ∨ w0.heap.size ≤ b) ?_
 unfold m_M2
 have hA := h
 obtain ⟨sg, m, sl, h, hF⟩ := h
 obtain ⟨r, f, hl, _⟩ := h.look t
 refine ⟨_, h1, k, rfl, _, h.box.cell rfl, r, f, _, hl, fun hc => ?_, fun hc => ?_⟩
 ·have hnt : t ∉ Sp.wkeys S := by simpa using hc
  have hadd : Sp.addWay S ⟨t, rule, u⟩ = S ++ [⟨t, rule, u⟩] := if_neg hnt
  rw [hadd]
  intro H1 w2 hs2
  have E2 := hs2.first
  have hh : ∀ {b}, b < w0.heap.size → ¬ H1 b := fun hb hx => by have := hs2.old _ hx; omega
  have E3 : Pure w0 w2.drew := E2.trans (Ext.drew w2)
  have D4 : ∀ w4 : World, Pure w4 w4.drew := fun w4 => Ext.drew w4
  have c1lt := World.block_lt_of_cell? w0 c1 h1
  refine ⟨fun w' => KnowS w' k p G S (Sp.wkeys S) sg m sl ∧ w'.cell? c1 = some (.pointer (some k)) ∧ w'.cell? c2 = some (.int .i64 u), ⟨h.pure E3, E3.cell h1 (fun h => h), E3.cell h2 (fun h => h)⟩, ?_⟩
  rintro _ rfl
  have h3 := h.pure E3
  refine ⟨_, fun w' h => h.2.1, k, rfl, _, fun w' h => h.1.box.cell rfl, _, fun w' h => h.2.2, ?_⟩
  obtain ⟨w4, hr4, h4, E4⟩ := h3.put (v := ⟨t, rule, u⟩) hnt
  refine ⟨w4, hr4, E4.kept (fun b hb e => by subst e; exact hh (h.lt (.inr (.inr (.inl rfl)))) hb), ?_⟩
  have c14 : w4.cell? c1 = some (.pointer (some k)) := E4.cell (E3.cell h1 (fun h => h)) (fun e => d1 ((hF _).2 (.inr (.inr (.inl e)))))
  have h5 := h4.pure (Ext.drew w4)
  refine ⟨fun w' => w'.cell? c1 = some (.pointer (some k)) ∧ Box w' k [.pointer (some p), sg.v, .map (some m), sl.v] 109, ⟨(D4 w4).cell c14 (fun h => h), h5.box⟩, ?_⟩
  rintro _ rfl
  refine ⟨_, fun w' h => h.1, _, fun w' h => h.1, k, rfl, sl, fun w' h => h.2.cell rfl, ?_⟩
  intro q w6 h6
  have E6 : Pure w4.drew w6 := Ext.new h6
  refine ⟨⟨E6.cell ((D4 w4).cell c14 (fun h => h)) (fun h => h), h5.box.pure E6⟩, ?_⟩
  obtain ⟨s1, w7, hr7, X7, b7, k7, E7, f7⟩ := h5.app h6 (by rw [Sp.wkeys_len]; exact hn)
  have c17 : w7.cell? c1 = some (.pointer (some k)) := X7.cell (E6.cell ((D4 w4).cell c14 (fun h => h)) (fun h => h)) (fun hb => d1 ((hF _).2 (.inr (.inr (.inr hb)))))
  refine ⟨s1, w7, hr7, ⟨c17, b7⟩, X7.kept (fun b hb hx => hh (h.lt (.inr (.inr (.inr hx)))) hb), k, rfl, b7.canW (by simp), by rw [add_block]; exact hh h.box.lt, ?_⟩
  rintro _ rfl
  rw [← show Sp.wkeys (S ++ [⟨t, rule, u⟩]) = Sp.wkeys S ++ [t] from Sp.wkeys_snoc S ⟨t, rule, u⟩] at k7
  have e4 : w0.heap.size ≤ w4.drew.heap.size := Nat.le_trans E3.size (Nat.le_trans E4.size (D4 w4).size)
  refine ⟨_, ⟨sg, m, s1, k7, fun b => Iff.rfl⟩, ?_, fun b hb => (f7 b hb).imp (hF b).2 (fun h => by omega)⟩
  refine ((E3.pure (F := F)).trans (E4.mono (fun b _ e => (hF b).2 (.inr (.inr (.inl e)))))).trans (((Ext.drew w4 : Pure w4 w4.drew).pure (F := F)).trans (E7.mono (fun b _ hb => (hF b).2 hb)))
 ·have hnt : t ∈ Sp.wkeys S := by simpa using hc
  have hadd : Sp.addWay S ⟨t, rule, u⟩ = S := if_pos hnt
  rw [hadd]
  intro H1 w2 hs2
  exact ⟨F, hA.pure hs2.first, hs2.first.pure, fun b hb => .inl hb⟩
structure SeesAt (w0 : World) (H : NP) (w : World) (k p p1 : Addr) (L : Sp.Pool) (G : List Int) (S : List Sp.Way) (F F0 FP : NP) : Prop where
 know : KnowAt w k p G S F
 pool : PoolAt w p L FP
 cap : w.cell? p1 = some (.pointer (some k))
 ext : Ext F0 w0 w
 own : ∀ b, F b → F0 b ∨ w0.heap.size ≤ b
 h1 : ∀ b, F b → ¬ H b
 h2 : ∀ b, FP b → ¬ H b
 h3 : ¬ H p1.block
 d1 : ¬ F p1.block
 d2 : ∀ b, F b → ¬ FP b
section
variable {w0 w w' : World} {H H' : NP} {k p p1 : Addr} {L : Sp.Pool} {G : List Int} {S S' : List Sp.Way} {F F' F0 FP : NP}
theorem SeesAt.pure (h : SeesAt w0 H w k p p1 L G S F F0 FP) (E : Pure w w') : SeesAt w0 H w' k p p1 L G S F F0 FP :=
 ⟨h.know.pure E, h.pool.pure E, E.cell h.cap (fun h => h), h.ext.thenPure E, h.own, h.h1, h.h2, h.h3, h.d1, h.d2⟩
theorem SeesAt.hst (h : SeesAt w0 H w k p p1 L G S F F0 FP) (hs : Hst w0 H w H' w') : SeesAt w0 H' w' k p p1 L G S F F0 FP := by
 have x1 := hs.disj (G := F) (fun b hb => ⟨h.know.lt hb, h.h1 b hb⟩)
 have x2 := hs.disj (G := FP) (fun b hb => ⟨h.pool.lt hb, h.h2 b hb⟩)
 have x3 := hs.disj (G := (· = p1.block)) (fun b hb => by subst hb; exact ⟨World.block_lt_of_cell? w p1 h.cap, h.h3⟩) _ rfl
 exact ⟨h.know.ext hs.ext x1, h.pool.ext hs.ext x2, hs.ext.cell h.cap x3, h.ext.trans' hs.ext (fun i hi hb => by have := hs.old i hb; omega), h.own, x1, x2, x3, h.d1, h.d2⟩
theorem SeesAt.fresh (h : SeesAt w0 H w k p p1 L G S F F0 FP) {q : Nat} (E : Ext (· = q) w w') (q1 : ¬ F q) (q2 : ¬ FP q) (q3 : q ≠ p1.block) (q4 : w0.heap.size ≤ q) : SeesAt w0 H w' k p p1 L G S F F0 FP :=
 ⟨h.know.ext E (fun b hb e => q1 (e ▸ hb)), h.pool.ext E (fun b hb e => q2 (e ▸ hb)), E.cell h.cap (fun e => q3 e.symm), h.ext.trans' E (fun i hi e => by subst e; omega), h.own, h.h1, h.h2, h.h3, h.d1, h.d2⟩
theorem SeesAt.step (h : SeesAt w0 H w k p p1 L G S F F0 FP) (hH : ∀ b, H b → b < w.heap.size) (hK : KnowAt w' k p G S' F') (E : Ext F w w') (hF : ∀ b, F' b → F b ∨ w.heap.size ≤ b) : SeesAt w0 H w' k p p1 L G S' F' F0 FP := by
 have hb := h.ext.size
 refine ⟨hK, h.pool.ext E (fun b hb hf => h.d2 b hf hb), E.cell h.cap h.d1, h.ext.trans' E (fun i hi hf => (h.own i hf).elim id (fun hh => by omega)), fun b hb => ?_, fun b hb hh => ?_, h.h2, h.h3, fun hh => ?_, fun b hb hh => ?_⟩
 ·rcases hF b hb with h1 | h1
  ·exact h.own b h1
  ·right; omega
 ·rcases hF b hb with h1 | h1
  ·exact h.h1 b h1 hh
  ·have := hH b hh; omega
 ·rcases hF _ hh with h1 | h1
  ·exact h.d1 h1
  ·have := World.block_lt_of_cell? w p1 h.cap; omega
 ·rcases hF b hb with h1 | h1
  ·exact h.d2 b h1 hh
  ·have := h.pool.lt hh; omega
end
theorem c_ded_sees (k p : Addr) (t rule frm : Int) (w0 : World) {L : Sp.Pool} {G : List Int} {S : List Sp.Way} {F FP : NP} (h : KnowAt w0 k p G S F) (hP : PoolAt w0 p L FP) (hW : Sp.Wf L) (hd : ∀ b, F b → ¬ FP b)
  (hwo : Sp.WaysOk L G S) (hcl : ∀ u ∈ Sp.wkeys S, Sp.Shown L S u) (ht : Sp.inP L t = true) (hv : Sp.WayOk L G S ⟨t, rule, frm⟩) :
  Calls Tryz.prog 59 #[.pointer (some k), .int .i64 t, .agg #[.int .i64 rule, .int .i64 frm]] w0 (fun e w' => e = .returned (.tuple #[]) ∧ ∃ S' F', KnowAt w' k p G S' F' ∧ (Sp.WaysOk L G S' ∧ (∀ u ∈ Sp.wkeys S', Sp.Shown L S' u) ∧ t ∈ Sp.wkeys S' ∧ ∀ u ∈ Sp.wkeys S, u ∈ Sp.wkeys S') ∧ Ext F w0 w' ∧ ∀ b, F' b → F b ∨ w0.heap.size ≤ b) := by
 suffices key : ∀ K : WP, (∀ S' F' w', KnowAt w' k p G S' F' → (Sp.WaysOk L G S' ∧ (∀ u ∈ Sp.wkeys S', Sp.Shown L S' u) ∧ t ∈ Sp.wkeys S' ∧ ∀ u ∈ Sp.wkeys S, u ∈ Sp.wkeys S') → Ext F w0 w' → (∀ b, F' b → F b ∨ w0.heap.size ≤ b) → K w') → m_S (some k) t rule frm w0 K from
  w_S _ _ _ _ w0 _ (key _ (fun S' F' w' a b c d => ⟨S', F', a, b, c, d⟩))
 intro K hK
 unfold m_S
 intro p1 w1 h1 H1 w2 hs2
 have hp1 := h1.at_size
 have E1 : Pure w0 w1 := Ext.new h1
 have nF : ∀ {b}, F b → b < w0.heap.size := fun hb => h.lt hb
 have nP : ∀ {b}, FP b → b < w0.heap.size := fun hb => hP.lt hb
 have A1 : SeesAt w0 None w1 k p p1 L G S F F FP := ⟨h.pure E1, hP.pure E1, (Box.of_new h1).cell0, E1.pure, fun b hb => .inl hb, fun b _ h => h, fun b _ h => h, fun h => h, fun hb => by have := nF hb; omega, hd⟩
 have A2 := A1.hst hs2
 obtain ⟨sg, m, sl, k2, hF2⟩ := A2.know
 obtain ⟨r, f, hl, _⟩ := k2.look t
 refine ⟨_, A2.cap, k, rfl, _, k2.box.cell rfl, r, f, _, hl, fun hc => ?_, fun hc => ?_⟩
 ·intro H2 w4 hs4
  have A4 := A2.hst hs4
  exact hK S F w4 A4.know ⟨hwo, hcl, by simpa using hc, fun _ h => h⟩ A4.ext (fun b hb => .inl hb)
 have hnt : t ∉ Sp.wkeys S := by simpa using hc
 intro H2 w4 hs4
 have A4 := A2.hst hs4
 have k4 : KnowS w4 k p G S (Sp.wkeys S) sg m sl := k2.ext hs4.ext (fun b hb => A4.h1 b ((hF2 b).2 hb))
 have D : ∀ w : World, Pure w w.drew := fun w => Ext.drew w
 refine ⟨fun w' => w'.cell? p1 = some (.pointer (some k)) ∧ Box w' k [.pointer (some p), sg.v, .map (some m), sl.v] 109, ⟨(A4.pure (D w4)).cap, (k4.pure (D w4)).box⟩, ?_⟩
 rintro _ rfl
 have A5 := A4.pure (D w4)
 have k5 := k4.pure (D w4)
 have hs5 : Hst w0 H2 w4.drew H2 w4.drew := hs4.here.again (D w4).keptP
 refine ⟨_, fun w' h => h.1, k, rfl, _, fun w' h => h.2.cell rfl, ?_⟩
 obtain ⟨w6, hr6, k6, E6⟩ := k5.put (v := ⟨t, rule, frm⟩) hnt
 have hm : ¬ H2 m := A5.h1 m ((hF2 m).2 (.inr (.inr (.inl rfl))))
 refine ⟨w6, hr6, E6.kept (fun b hb e => hm (e ▸ hb)), ?_⟩
 have c16 : w6.cell? p1 = some (.pointer (some k)) := E6.cell A5.cap (fun e => A5.d1 ((hF2 _).2 (.inr (.inr (.inl e)))))
 refine ⟨_, c16, k, rfl, sl, k6.box.cell rfl, ?_⟩
 have k7 := k6.pure (D w6)
 have c17 : w6.drew.cell? p1 = some (.pointer (some k)) := (D w6).cell c16 (fun h => h)
 refine ⟨fun w' => w'.cell? p1 = some (.pointer (some k)) ∧ Box w' k [.pointer (some p), sg.v, .map (some m), sl.v] 109, ⟨c17, k7.box⟩, ?_⟩
 rintro _ rfl
 refine ⟨_, fun w' h => h.1, _, fun w' h => h.1, k, rfl, sl, fun w' h => h.2.cell rfl, ?_⟩
 intro q w8 h8
 have E8 : Pure w6.drew w8 := Ext.new h8
 refine ⟨⟨E8.cell c17 (fun h => h), k7.box.pure E8⟩, ?_⟩
 have hSn : S.length ≤ 65536 := by have := hwo.few; have := hW.ok.few; omega
 obtain ⟨s1, w9, hr9, X9, b9, k9, E9, f9⟩ := k7.app h8 (by rw [Sp.wkeys_len]; omega)
 have c19 : w9.cell? p1 = some (.pointer (some k)) := X9.cell (E8.cell c17 (fun h => h)) (fun hb => A5.d1 ((hF2 _).2 (.inr (.inr (.inr hb)))))
 have hH8 : ∀ b, H2 b → b < w4.drew.heap.size := hs5.lt
 refine ⟨s1, w9, hr9, ⟨c19, b9⟩, X9.kept (fun b hb hx => A5.h1 b ((hF2 b).2 (.inr (.inr (.inr hx)))) hb), k, rfl, b9.canW (by simp), by rw [add_block]; exact A5.h1 _ ((hF2 _).2 (.inl rfl)), ?_⟩
 rintro _ rfl
 rw [← show Sp.wkeys (S ++ [⟨t, rule, frm⟩]) = Sp.wkeys S ++ [t] from Sp.wkeys_snoc S ⟨t, rule, frm⟩] at k9
 have E59 : Ext F w4.drew (w9.setCell (k.add 3) s1.v) := (E6.mono (fun b _ e => (hF2 b).2 (.inr (.inr (.inl e))))).trans (((D w6).pure (F := F)).trans (E9.mono (fun b _ hb => (hF2 b).2 hb)))
 have z6 : w4.drew.heap.size ≤ w6.drew.heap.size := Nat.le_trans E6.size (D w6).size
 have A10 : SeesAt w0 H2 (w9.setCell (k.add 3) s1.v) k p p1 L G (S ++ [⟨t, rule, frm⟩]) (KF k sg m s1) F FP := A5.step hH8 ⟨sg, m, s1, k9, fun b => Iff.rfl⟩ E59 (fun b hb => (f9 b hb).imp (hF2 b).2 (fun h => by omega))
 have hw1 : Sp.WaysOk L G (S ++ [⟨t, rule, frm⟩]) := hwo.snoc hnt ht hv
 have hl2 : sl.len = S.length := by rw [k2.list.len, tmr_len, Sp.wkeys_len]
 refine ⟨fun i H w' => ∃ (j : Nat) (Sj : List Sp.Way) (Fj : NP), i = j ∧ j ≤ Sj.length ∧ SeesAt w0 H w' k p p1 L G Sj Fj F FP ∧ Sp.WaysOk L G Sj ∧ (∀ u ∈ Sp.wkeys (Sj.take j), Sp.Shown L Sj u) ∧ t ∈ Sp.wkeys Sj ∧ ∀ u ∈ Sp.wkeys S, u ∈ Sp.wkeys Sj, fun i _ => ((L.length : Int) - i).toNat,
  ⟨S.length, _, _, by rw [hl2], by simp, A10, hw1, fun u hu => by rw [List.take_left] at hu; exact (hcl u hu).snoc, by rw [Sp.wkeys_snoc]; simp, fun u hu => by rw [Sp.wkeys_snoc]; exact List.mem_append_left _ hu⟩, ?_⟩
 rintro _ Hl wl hl ⟨j, Sj, Fj, rfl, hj, A, hwj, hcj, htj, hSj⟩
 unfold m_S_l1
 obtain ⟨tg, mj, tl, kj, hFj⟩ := A.know
 have hlj : tl.len = Sj.length := by rw [kj.list.len, tmr_len, Sp.wkeys_len]
 refine ⟨_, A.cap, k, rfl, tl, kj.box.cell rfl, fun hc => ?_, fun hc => ?_⟩
 ·have hlt := lt_of_dec hlj hc
  obtain ⟨a8, at8, _, c8⟩ := tm_nth kj.list.lst (j := j) (by rw [Sp.wkeys_len]; exact hlt)
  have hu : (Sp.wkeys Sj)[j]'(by rw [Sp.wkeys_len]; exact hlt) = Sj[j].t := by simp [Sp.wkeys]
  rw [hu] at c8
  have hum : Sj[j].t ∈ Sp.wkeys Sj := List.mem_map.2 ⟨_, List.getElem_mem hlt, rfl⟩
  have hui := hwj.inp _ hum
  have hLn : Sj.length ≤ L.length := hwj.few
  have hL6 := hW.ok.few
  have htk : Sp.wkeys (Sj.take (j + 1)) = Sp.wkeys (Sj.take j) ++ [Sj[j].t] := by rw [List.take_succ_eq_append_getElem hlt, Sp.wkeys_snoc]
  generalize Sj[j].t = u at *
  refine ⟨_, A.cap, k, rfl, tl, kj.box.cell rfl, a8, at8, u, c8, ?_⟩
  intro p5 w11 h11
  have hp5 := h11.at_size
  have E11 : Pure wl w11 := Ext.new h11
  have b5 := Box.of_new h11
  have hnh5 : ¬ Hl p5.block := fun hh => by have := hl.lt _ hh; omega
  refine ⟨b5.canW0 (by simp), hnh5, ?_⟩
  rintro _ rfl
  have b12 := b5.set0 (v := .int .i64 u)
  have E12 := Ext.setCell (w := w11) p5 (.int .i64 u)
  have wl0 := A.ext.size
  have n5 : ¬ Fj p5.block := fun hh => by have := A.know.lt hh; omega
  have n5p : ¬ FP p5.block := fun hh => by have := A.pool.lt hh; omega
  have n51 : p5.block ≠ p1.block := fun hh => by have := World.block_lt_of_cell? wl p1 A.cap; omega
  have A12 : SeesAt w0 Hl (w11.setCell p5 (.int .i64 u)) k p p1 L G Sj Fj F FP := (A.pure E11).fresh E12 n5 n5p n51 (by omega)
  have k12 : KnowS (w11.setCell p5 (.int .i64 u)) k p G Sj (Sp.wkeys Sj) tg mj tl := (kj.pure E11).ext E12 (fun b hb e => n5 (e ▸ (hFj b).2 hb))
  have hl12 : Hst w0 Hl (w11.setCell p5 (.int .i64 u)) Hl (w11.setCell p5 (.int .i64 u)) := (hl.again E11.keptP).again (E12.kept (fun b hb e => hnh5 (e ▸ hb)))
  generalize w11.setCell p5 (.int .i64 u) = w12 at *
  clear E11 E12 h11
  refine ⟨fun w' => w'.cell? p1 = some (.pointer (some k)) ∧ Box w' k [.pointer (some p), tg.v, .map (some mj), tl.v] 109 ∧ Box w' p5 [.int .i64 u] 30, ⟨(A12.pure (D w12)).cap, (k12.pure (D w12)).box, b12.pure (D w12)⟩, ?_⟩
  rintro _ rfl
  have A17 := A12.pure (D w12)
  have b17 := b12.pure (D w12)
  have k17 := k12.pure (D w12)
  have hs17 : Hst w0 Hl w12.drew Hl w12.drew := hl12.again (D w12).keptP
  generalize hn : Sp.nodeOf L u = n at *
  have J2 : ∀ (a9 : Addr) (w : World), Hst w0 Hl w Hl w → SeesAt w0 Hl w k p p1 L G Sj Fj F FP → w.cell? p5 = some (.int .i64 u) → Row w a9 (nrow n) → ¬ Fj a9.block → ¬ Hl a9.block →
    m_S_j2 p1 j p5 a9 w0 Hl w (fun y'0 H' w' => (∃ (j : Nat) (Sj : List Sp.Way) (Fj : NP), y'0 = j ∧ j ≤ Sj.length ∧ SeesAt w0 H' w' k p p1 L G Sj Fj F FP ∧ Sp.WaysOk L G Sj ∧ (∀ u ∈ Sp.wkeys (Sj.take j), Sp.Shown L Sj u) ∧ t ∈ Sp.wkeys Sj ∧ ∀ u ∈ Sp.wkeys S, u ∈ Sp.wkeys Sj) ∧ ((L.length : Int) - y'0).toNat < ((L.length : Int) - (j : Int)).toNat) K := by
   intro a9 w hs Aw c5 r9 n9 nh9
   have fin : ∀ (H' : NP) (w' : World) (S' : List Sp.Way) (F' : NP), SeesAt w0 H' w' k p p1 L G S' F' F FP → Sp.WaysOk L G S' → (∃ M, S' = Sj ++ M) → Sp.Shown L S' u →
     ((∃ (j' : Nat) (Sj : List Sp.Way) (Fj : NP), IntKind.i64.wrap ((j : Int) + 1) = j' ∧ j' ≤ Sj.length ∧ SeesAt w0 H' w' k p p1 L G Sj Fj F FP ∧ Sp.WaysOk L G Sj ∧ (∀ u ∈ Sp.wkeys (Sj.take j'), Sp.Shown L Sj u) ∧ t ∈ Sp.wkeys Sj ∧ ∀ u ∈ Sp.wkeys S, u ∈ Sp.wkeys Sj) ∧ ((L.length : Int) - IntKind.i64.wrap ((j : Int) + 1)).toNat < ((L.length : Int) - (j : Int)).toNat) := by
    rintro H' w' S' F' A' hw' ⟨M, rfl⟩ hsh
    have hsub : ∀ x ∈ Sp.wkeys Sj, x ∈ Sp.wkeys (Sj ++ M) := fun x hx => by unfold Sp.wkeys at hx ⊢; rw [List.map_append]; exact List.mem_append_left _ hx
    rw [wrap_succ (n := L.length) (by omega) (by omega)]
    refine ⟨⟨j + 1, _, F', rfl, by rw [List.length_append]; omega, A', hw', fun x hx => ?_, hsub t htj, fun x hx => hsub x (hSj x hx)⟩, lt_dec (by omega)⟩
    rw [List.take_append_of_le_length (by omega), htk, List.mem_append, List.mem_singleton] at hx
    rcases hx with hx | rfl
    ·exact fun r y ha => hsub y (hcj x hx r y ha)
    ·exact hsh
   unfold m_S_j2
   have ck : w.cell? a9 = some (.int .i64 n.kind) := by simpa [Addr.add, nrow] using r9 0 (by simp [nrow])
   have ca : w.cell? (a9.add 5) = some (.int .i64 n.a) := r9 5 (by simp [nrow])
   have cb : w.cell? (a9.add 6) = some (.int .i64 n.b) := r9 6 (by simp [nrow])
   refine ⟨_, ck, fun hk => ?_, fun hk => ?_⟩
   ·have hk4 : n.kind = 4 := by simpa using hk
    have hkids := Sp.kids4 hW hui (by rw [hn]; exact hk4)
    rw [hn] at hkids
    refine ⟨_, ca, ?_⟩
    refine (c_ded_sees1 k p n.a 1 u p1 p5 w Aw.know Aw.cap c5 Aw.d1 (fun hh => n5 hh) (by omega)).mono ?_
    rintro _ w13 ⟨rfl, F1, K1, X1, f1⟩
    have A1 := Aw.step hs.lt K1 X1 f1
    have hs13 := hs.again (X1.kept (fun b hb hf => Aw.h1 b hf hb))
    refine ⟨rfl, X1.kept (fun b hb hf => Aw.h1 b hf hb), n.b, X1.cell cb (by rw [add_block]; exact n9), ?_⟩
    have a1 : Sp.Arises L 1 u n.a := .inl ⟨rfl, by rw [hn]; exact hk4, by rw [hn]⟩
    have a2 : Sp.Arises L 2 u n.b := .inr (.inl ⟨rfl, by rw [hn]; exact hk4, by rw [hn]⟩)
    have hw1 := hwj.add (v := ⟨n.a, 1, u⟩) hkids.1.1 (.inr ⟨by simp, a1, hum⟩)
    have u1 := (Sp.addWay_keys Sj ⟨n.a, 1, u⟩).2 u hum
    have hw2 := hw1.add (v := ⟨n.b, 2, u⟩) hkids.2.1 (.inr ⟨by simp, a2, u1⟩)
    have p5lt := World.block_lt_of_cell? w p5 c5
    have m5 : ¬ F1 p5.block := fun hh => (f1 _ hh).elim n5 (fun hx => by omega)
    refine (c_ded_sees1 k p n.b 2 u p1 p5 w13 A1.know A1.cap (X1.cell c5 n5) A1.d1 m5 (by have := hw1.few; omega)).mono ?_
    rintro _ w14 ⟨rfl, F2, K2, X2, f2⟩
    have A2 := A1.step hs13.lt K2 X2 f2
    refine ⟨rfl, X2.kept (fun b hb hf => A1.h1 b hf hb), ?_⟩
    refine fin Hl w14 _ F2 A2 hw2 ?_ ?_
    ·obtain ⟨M1, e1⟩ := Sp.addWay_take Sj ⟨n.a, 1, u⟩
     obtain ⟨M2, e2⟩ := Sp.addWay_take (Sp.addWay Sj ⟨n.a, 1, u⟩) ⟨n.b, 2, u⟩
     exact ⟨M1 ++ M2, by rw [e2, e1, List.append_assoc]⟩
    ·rintro r y (⟨_, _, h3⟩ | ⟨_, _, h3⟩ | ⟨_, h2, _⟩)
     ·rw [hn] at h3; subst h3
      exact (Sp.addWay_keys _ ⟨n.b, 2, u⟩).2 _ (Sp.addWay_keys Sj ⟨n.a, 1, u⟩).1
     ·rw [hn] at h3; subst h3
      exact (Sp.addWay_keys _ ⟨n.b, 2, u⟩).1
     ·rw [hn, hk4] at h2; cases h2
   ·have hk4 : n.kind ≠ 4 := by simpa using hk
    rintro y1 rfl
    have hy : (cond ((n.kind : Int) == 7) ((n.kind : Int) == 7) (cond ((n.kind : Int) == 8) ((n.kind : Int) == 8) ((n.kind : Int) == 9))) = Sp.showsK n.kind := by
     unfold Sp.showsK; cases h7 : (n.kind == 7) <;> cases h8 : (n.kind == 8) <;> simp
    rw [hy]
    refine ⟨fun hs7 => ?_, fun hs7 => ?_⟩
    ·intro H3 w15 hs15
     have A15 := Aw.hst hs15
     have hkids := Sp.kids7 hW hui (by rw [hn]; exact hs7)
     rw [hn] at hkids
     have r15 := row_hst r9 nh9 hs15
     have ca15 : w15.cell? (a9.add 5) = some (.int .i64 n.a) := r15 5 (by simp)
     have c515 := cell_hst c5 hnh5 hs15
     refine ⟨n.a, ca15, ?_⟩
     refine (c_ded_sees1 k p n.a 3 u p1 p5 w15 A15.know A15.cap c515 A15.d1 n5 (by omega)).mono ?_
     rintro _ w16 ⟨rfl, F1, K1, X1, f1⟩
     have A1 := A15.step hs15.lt K1 X1 f1
     refine ⟨rfl, X1.kept (fun b hb hf => A15.h1 b hf hb), ?_⟩
     have a3 : Sp.Arises L 3 u n.a := .inr (.inr ⟨rfl, by rw [hn]; exact hs7, by rw [hn]⟩)
     refine fin H3 w16 _ F1 A1 (hwj.add (v := ⟨n.a, 3, u⟩) hkids.1 (.inr ⟨by simp, a3, hum⟩)) (Sp.addWay_take Sj ⟨n.a, 3, u⟩) ?_
     rintro r y (⟨_, h2, _⟩ | ⟨_, h2, _⟩ | ⟨_, _, h3⟩)
     ·rw [hn] at h2; exact absurd h2 hk4
     ·rw [hn] at h2; exact absurd h2 hk4
     ·rw [hn] at h3; subst h3
      exact (Sp.addWay_keys Sj ⟨n.a, 3, u⟩).1
    ·intro H3 w15 hs15
     refine fin H3 w15 Sj Fj (Aw.hst hs15) hwj ⟨[], by simp⟩ ?_
     rintro r y (⟨_, h2, _⟩ | ⟨_, h2, _⟩ | ⟨_, h2, _⟩)
     ·rw [hn] at h2; exact absurd h2 hk4
     ·rw [hn] at h2; exact absurd h2 hk4
     ·rw [hn, hs7] at h2; cases h2
  refine ⟨_, fun w' h => h.1, k, rfl, _, fun w' h => h.2.1.cell0, _, fun w' h => h.2.2.cell0, ?_, ?_⟩
  ·refine (c_Node p u w12.drew A17.pool hW.ok).mono ?_
   rintro _ w18 ⟨nk, nf, nt, nu, nx, na, nb, ok, rfl, ⟨hnn, _⟩, E18⟩
   rw [hn] at hnn
   refine ⟨_, _, _, _, _, _, _, _, rfl, ⟨(A17.pure E18).cap, k17.box.pure E18, b17.pure E18⟩, E18.keptP, ?_⟩
   intro p6 w19 h19
   have hp6 := h19.at_size
   have E19 := E18.trans (Ext.new h19)
   have b6 := Box.of_new h19
   have z18 := E18.size
   have z12 : wl.heap.size ≤ w12.drew.heap.size := by have := (b17.lt); omega
   have nh6 : ¬ Hl p6.block := fun hh => by have := hl.lt _ hh; omega
   refine ⟨⟨(A17.pure E19).cap, k17.box.pure E19, b17.pure E19⟩, b6.canWs (n := 7) (by simp), nh6, ?_⟩
   rintro _ rfl
   have E20 := Ext.storeRow w19 p6 [(.int .i64 nk), (.int .i64 nf), (.int .i64 nt), (.int .u64 nu), (.string nx), (.int .i64 na), (.int .i64 nb)]
   have b20 := b6.store (vs := [(.int .i64 nk), (.int .i64 nf), (.int .i64 nt), (.int .u64 nu), (.string nx), (.int .i64 na), (.int .i64 nb)]) rfl
   have A19 := A17.pure E19
   have n6 : ¬ Fj p6.block := fun hh => by have := A17.know.lt hh; omega
   have A20 := A19.fresh E20 n6 (fun hh => by have := A17.pool.lt hh; omega) (fun hh => by have := World.block_lt_of_cell? _ p1 A17.cap; omega) (by have := A17.ext.size; omega)
   have k20 := (k17.box.pure E19).ext E20 (fun e => by have := k17.box.lt; omega)
   have b520 := (b17.pure E19).ext E20 (fun e => by have := b17.lt; omega)
   have hs20 : Hst w0 Hl _ Hl _ := (hs17.again E19.keptP).again (E20.kept (fun b hb e => nh6 (e ▸ hb)))
   exact ⟨⟨A20.cap, k20, b520⟩, J2 p6 _ hs20 A20 b520.cell0 (by rw [← hnn]; exact b20.row) n6 nh6⟩
  ·intro p7 w21 h21
   have hp6 := h21.at_size
   have E21 : Pure w12.drew w21 := Ext.new h21
   have b7 := Box.of_new h21
   refine ⟨⟨(A17.pure E21).cap, k17.box.pure E21, b17.pure E21⟩, ?_⟩
   refine (c_Node p u w21 (A17.pure E21).pool hW.ok).mono ?_
   rintro _ w22 ⟨nk, nf, nt, nu, nx, na, nb, ok, rfl, ⟨hnn, _⟩, E22⟩
   rw [hn] at hnn
   have E19 := E21.trans E22
   have z12 : wl.heap.size ≤ w12.drew.heap.size := by have := (b17.lt); omega
   have nh6 : ¬ Hl p7.block := fun hh => by have := hl.lt _ hh; omega
   have b6 := b7.pure E22
   refine ⟨_, _, _, _, _, _, _, _, rfl, ⟨(A17.pure E19).cap, k17.box.pure E19, b17.pure E19⟩, E22.keptP, b6.canWs (n := 7) (by simp), nh6, ?_⟩
   rintro _ rfl
   have E20 := Ext.storeRow w22 p7 [(.int .i64 nk), (.int .i64 nf), (.int .i64 nt), (.int .u64 nu), (.string nx), (.int .i64 na), (.int .i64 nb)]
   have b20 := b6.store (vs := [(.int .i64 nk), (.int .i64 nf), (.int .i64 nt), (.int .u64 nu), (.string nx), (.int .i64 na), (.int .i64 nb)]) rfl
   have A19 := A17.pure E19
   have n6 : ¬ Fj p7.block := fun hh => by have := A17.know.lt hh; omega
   have A20 := A19.fresh E20 n6 (fun hh => by have := A17.pool.lt hh; omega) (fun hh => by have := World.block_lt_of_cell? _ p1 A17.cap; omega) (by have := A17.ext.size; omega)
   have k20 := (k17.box.pure E19).ext E20 (fun e => by have := k17.box.lt; omega)
   have b520 := (b17.pure E19).ext E20 (fun e => by have := b17.lt; omega)
   have hs20 : Hst w0 Hl _ Hl _ := (hs17.again E19.keptP).again (E20.kept (fun b hb e => nh6 (e ▸ hb)))
   exact ⟨⟨A20.cap, k20, b520⟩, J2 p7 _ hs20 A20 b520.cell0 (by rw [← hnn]; exact b20.row) n6 nh6⟩
 ·have hge := eq_of_dec hlj hj hc
  subst hge
  rw [List.take_length] at hcj
  exact hK Sj Fj wl A.know ⟨hwj, hcj, htj, hSj⟩ A.ext A.own
end Go.Proofs
end
section
open Go Go.SE
namespace Go.Proofs
attribute [local irreducible] Calls
theorem run_cut2 (p : Addr) (k : Int) (w : World) (hk : k = 0 ∨ k = 1 ∨ k = 2) : (Instr.sliceAt 52 (Sl.mk (some p) 2 2).v .none (some (.int .i64 k)) .none).run Tryz.prog w = .ok (Sl.mk (some p) k.toNat 2).v w := by
 rcases hk with rfl | rfl | rfl <;> kernel_rfl
theorem c_check (p : Addr) (k f t u : Int) (x : ByteArray) (a b : Int) (w : World) {L : Sp.Pool} {F : NP} (hP : PoolAt w p L F) (hok : Sp.Ok L) :
  Calls Tryz.prog 102 #[.pointer (some p), .agg #[.int .i64 k, .int .i64 f, .int .i64 t, .int .u64 u, .string x, .int .i64 a, .int .i64 b]] w
   (fun e w' => ∃ r1 : Int, ∃ r2 : Int, ∃ r3 : Int, e = .returned (.tuple #[.int .i64 r1, .int .i64 r2, .int .i64 r3]) ∧ ((r1, r2, r3) = Sp.check L ⟨k, f, t, u, x, a, b⟩ ∧ Pure w w')) := by
 suffices key : ∀ K : Int → Int → Int → WP, (∀ r1 r2 r3 w', (r1, r2, r3) = Sp.check L ⟨k, f, t, u, x, a, b⟩ ∧ Pure w w' → K r1 r2 r3 w') → m_G (some p) k f t u x a b w K from
  w_G _ _ _ _ _ _ _ _ w _ (key _ (fun _ _ _ _ h => h))
 intro K hK
 unfold m_G
 intro p2 w1 h1
 have b1 := Box.of_new h1
 have E1 : Pure w w1 := Ext.new h1
 refine ⟨_, _, _, _, _, _, _, b1.row, ?_⟩
 refine (c_plain _ _ _ _ _ _ _ _).mono ?_
 rintro _ w2 ⟨s1, s2, s3, s4, s5, pe, rfl, ⟨hs, hpe⟩, E2⟩
 refine ⟨_, _, _, _, _, _, rfl, ?_⟩
 intro p3 w3 h3
 have b2 := (b1.pure E2).pure (Ext.new h3)
 have n23 : p2.block ≠ p3.block := New.ne h3 (b1.pure E2).blk
 have E3 : Pure w w3 := (E1.trans E2).trans (Ext.new h3)
 have o3 := New.own (E1.trans E2) h3
 refine bx 5 (Box.of_new h3) rfl rfl (fun w4 b3 E => ?_)
 have b2 := b2.ext E n23
 have E4 : Pure w w4 := E3.own o3 E
 clear E E3 E2 E1 b1 h1 h3
 have hsh : Sp.shapeOf k = ⟨s1, s2, s3, s4, s5⟩ := hs.symm
 have hk5 : s5 = 0 ∨ s5 = 1 ∨ s5 = 2 := by have := Sp.kids_le k; rw [hsh] at this; exact this
 generalize hn : (⟨k, f, t, u, x, a, b⟩ : Sp.Node) = n at *
 have hnk : n.kind = k := by rw [← hn]
 have hna : n.a = a := by rw [← hn]
 have hnb : n.b = b := by rw [← hn]
 have J2 : ∀ e2 w', Pure w4 w' → (e2 ≠ 0 → Sp.check L n = (0, 0, e2)) → (e2 = 0 → pe = 0 ∧ ((decide (s5 < 1) && a != 0) || (decide (s5 < 2) && b != 0)) = false ∧ Sp.fieldsErr ⟨s1, s2, s3, s4, s5⟩ n = 0) → m_G_j2 (some p) p2 p3 e2 w' K := by
  intro e2 w' E' hne heq
  have b2 := b2.pure E'
  have b3 := b3.pure E'
  have E5 := E4.trans E'
  have hP' := hP.pure E5
  unfold m_G_j2
  refine ⟨fun h => hK _ _ _ _ ⟨(hne (by simpa using h)).symm, E5⟩, fun h => ⟨_, b2.cell rfl, _, b2.cell rfl, ?_⟩⟩
  intro p4 w5 h5
  obtain ⟨hp0, hc0, hf0⟩ := heq (by simpa using h)
  have b4 := Box.of_new h5
  have E6 := E5.trans (Ext.new h5)
  have hP6 := hP.pure E6
  refine ⟨_, (b3.pure (Ext.new h5)).cell rfl, _, run_cut2 p4 s5 w5 hk5, ?_⟩
  have hks : Sp.kidsOf n = [a, b].take s5.toNat := by simp [Sp.kidsOf, hnk, hsh, hna, hnb]
  have hlen : (Sp.kidsOf n).length = s5.toNat := by rw [hks]; rcases hk5 with rfl | rfl | rfl <;> rfl
  have hget : ∀ j (hj : j < (Sp.kidsOf n).length), w5.cell? (p4.add (j * 1)) = some (.int .i64 (Sp.kidsOf n)[j]) := by
   intro j hj
   have hj2 : j < s5.toNat := by omega
   have : (Sp.kidsOf n)[j] = [a, b][j]'(by simp; omega) := by simp only [hks, List.getElem_take]
   rw [this, Nat.mul_one]
   refine b4.cell ?_
   have h2 : j = 0 ∨ j = 1 := by omega
   rcases h2 with rfl | rfl <;> rfl
  have hrest : Sp.check L n = if (Sp.kidsOf n).any (fun t => !Sp.inP L t) then (0, 0, 51) else if 1 + ((Sp.kidsOf n).map (Sp.sizeOf L)).sum > 4096 ∨ (Sp.kidsOf n).foldl (fun d t => max d (Sp.depthOf L t)) 0 + 1 > 64 then (0, 0, 52) else (1 + ((Sp.kidsOf n).map (Sp.sizeOf L)).sum, (Sp.kidsOf n).foldl (fun d t => max d (Sp.depthOf L t)) 0 + 1, 0) := by
   unfold Sp.check
   simp only [hnk, hsh, hna, hnb, ← hpe, hp0, hc0, hf0]
   simp
  generalize hkk : Sp.kidsOf n = ks at *
  have hl2 : ks.length ≤ 2 := by omega
  have hsum : ∀ j, 0 ≤ ((ks.take j).map (Sp.sizeOf L)).sum ∧ ((ks.take j).map (Sp.sizeOf L)).sum ≤ 4096 * (ks.take j).length := by
   intro j
   generalize ks.take j = l
   induction l with
   | nil => simp
   | cons y l ih => have := hok.sizeOf y; simp only [List.map_cons, List.sum_cons, List.length_cons]; omega
  have hdep : ∀ (l : List Int) (d : Int), 0 ≤ d → d ≤ 64 → 0 ≤ l.foldl (fun d t => max d (Sp.depthOf L t)) d ∧ l.foldl (fun d t => max d (Sp.depthOf L t)) d ≤ 64 := by
   intro l
   induction l with
   | nil => intro d h1 h2; exact ⟨h1, h2⟩
   | cons y l ih => intro d h1 h2; have := hok.depthOf y; exact ih (max d (Sp.depthOf L y)) (by omega) (by omega)
  refine ⟨fun sz d x w' => ∃ j : Nat, x = j ∧ j ≤ ks.length ∧ sz = 1 + ((ks.take j).map (Sp.sizeOf L)).sum ∧ d = (ks.take j).foldl (fun d t => max d (Sp.depthOf L t)) 0 ∧ (ks.take j).any (fun t => !Sp.inP L t) = false ∧ w5 = w', fun _ _ x _ => (2 - x).toNat, ⟨0, rfl, Nat.zero_le _, by simp, by simp, by simp, rfl⟩, ?_⟩
  rintro sz d _ _ ⟨j, rfl, hj, rfl, rfl, hin, rfl⟩
  unfold m_G_l3
  have hs1 := hsum j
  have hd1 := hdep (ks.take j) 0 (by omega) (by omega)
  have htl : (ks.take j).length ≤ 2 := by rw [List.length_take]; omega
  refine ⟨fun h => ?_, fun h => ?_⟩
  ·have hlt : j < ks.length := by have h := of_decide_eq_true h; simp only at h; omega
   refine ⟨p4.add (j * 1), ⟨by omega, of_decide_eq_true h, p4, rfl, by simp⟩, ks[j], hget j hlt, ?_⟩
   have htk : ks.take (j + 1) = ks.take j ++ [ks[j]] := List.take_succ_eq_append_getElem hlt
   refine (c_in p _ w5 hP6).mono ?_
   rintro _ _ ⟨_, rfl, rfl, rfl⟩
   refine ⟨_, rfl, fun h => ?_, fun h => ?_⟩
   ·refine hK _ _ _ _ ⟨?_, E6⟩
    rw [hrest, if_pos]
    exact List.any_eq_true.2 ⟨ks[j], List.getElem_mem hlt, h⟩
   ·refine (c_Size p _ w5 hP6 hok).mono ?_
    rintro _ _ ⟨_, rfl, rfl, rfl⟩
    refine ⟨_, rfl, ?_⟩
    refine (c_Depth p _ w5 hP6 hok).mono ?_
    rintro _ _ ⟨_, rfl, rfl, rfl⟩
    refine ⟨_, rfl, _, run_max_int2 _ _ _ _ _ _ _, ⟨j + 1, ?_, hlt, ?_, ?_, ?_, rfl⟩, ?_⟩
    ·rw [i64 (by omega) (by omega)]; omega
    ·have := hok.sizeOf ks[j]
     rw [i64 (by omega) (by omega), htk, List.map_append, List.sum_append]; simp only [List.map_cons, List.map_nil, List.sum_cons, List.sum_nil]; omega
    ·rw [htk, List.foldl_append]; simp only [List.foldl_cons, List.foldl_nil]; split <;> omega
    ·rw [htk, List.any_append, hin]; simpa using h
    ·show (2 - IntKind.i64.wrap ((j : Int) + 1)).toNat < (2 - (j : Int)).toNat
     rw [i64 (by omega) (by omega)]; omega
  ·have hge : j = ks.length := by have h := of_decide_eq_false h; simp only at h; omega
   subst hge
   rw [List.take_length] at hs1 hd1 hin ⊢
   have hlt : (ks.length : Int) ≤ 2 := by omega
   refine ⟨fun h => hK _ _ _ _ ⟨?_, E6⟩, fun h => ?_⟩
   ·rw [hrest, hin, if_neg (by simp), if_pos (.inl (by simpa using h))]
   ·rw [i64 (by omega) (by omega)]
    refine ⟨fun h' => hK _ _ _ _ ⟨?_, E6⟩, fun h' => hK _ _ _ _ ⟨?_, E6⟩⟩
    ·rw [hrest, hin, if_neg (by simp), if_pos (.inr (by simpa using h'))]
    ·rw [hrest, hin, if_neg (by simp), if_neg (by simp at h h'; omega)]
 have J1 : ∀ e1, (e1 ≠ 0 → Sp.check L n = (0, 0, e1)) → (e1 = 0 → pe = 0 ∧ ((decide (s5 < 1) && a != 0) || (decide (s5 < 2) && b != 0)) = false) → m_G_j1 (some p) p2 p3 e1 w4 K := by
  intro e1 hne heq
  unfold m_G_j1
  refine ⟨fun h => ⟨_, _, _, _, _, b3.row, _, _, _, _, _, _, _, b2.row, ?_⟩, fun h => J2 _ _ (Ext.refl _) hne (fun e => by rw [e] at h; cases h)⟩
  obtain ⟨hp0, hc0⟩ := heq (by simpa using h)
  refine (c_fields _ _ _ _ _ _ _ _ _ _ _ _ _).mono ?_
  rintro _ w9 ⟨_, rfl, rfl, E9⟩
  rw [hn]
  refine ⟨_, rfl, J2 _ _ E9 (fun hf => ?_) (fun hf => ⟨hp0, hc0, hf⟩)⟩
  unfold Sp.check
  simp only [hnk, hsh, hna, hnb, ← hpe, hp0, hc0]
  simp [hf]
 have J53 : pe = 0 → ((decide (s5 < 1) && a != 0) || (decide (s5 < 2) && b != 0)) = true → m_G_j1 (some p) p2 p3 53 w4 K := fun hp0 hc => J1 53 (fun _ => by
  unfold Sp.check
  simp only [hnk, hsh, hna, hnb, ← hpe, hp0, hc]
  simp) (fun e => by cases e)
 have Jpe : pe ≠ 0 → m_G_j1 (some p) p2 p3 pe w4 K := fun hp => J1 pe (fun _ => by
  unfold Sp.check
  simp only [← hpe]
  rw [if_pos hp]) (fun e => absurd e hp)
 have J5 : ∀ x2 x3, x2 = (decide (s5 < 1) && a != 0) → x3 = (decide (s5 < 2) && b != 0) → m_G_j5 (some p) p2 pe p3 x2 x3 w4 K := by
  intro x2 x3 h2 h3
  unfold m_G_j5
  refine ⟨fun h => ⟨fun hx => J53 (by simpa using h) (by rw [← h2, hx]; rfl), fun hx => ⟨fun hy => J53 (by simpa using h) (by rw [← h2, ← h3, hy]; simp), fun hy => J1 pe (fun e => absurd (by simpa using h) e) (fun e => ⟨e, by rw [← h2, ← h3, hx, hy]; rfl⟩)⟩⟩, fun h => Jpe (by simpa using h)⟩
 have J4 : ∀ x2, x2 = (decide (s5 < 1) && a != 0) → m_G_j4 (some p) p2 pe p3 x2 w4 K := by
  intro x2 h2
  unfold m_G_j4
  refine ⟨fun h => ⟨fun hx => J53 (by simpa using h) (by rw [← h2, hx]; rfl), fun hx => ⟨_, b3.cell rfl, fun h5 => ⟨_, b2.cell rfl, J5 _ _ h2 (by rw [h5]; rfl)⟩, fun h5 => J5 _ _ h2 (by rw [h5]; rfl)⟩⟩, fun h => Jpe (by simpa using h)⟩
 exact ⟨fun h => ⟨_, b3.cell rfl, fun h5 => ⟨_, b2.cell rfl, J4 _ (by rw [h5]; rfl)⟩, fun h5 => J4 _ (by rw [h5]; rfl)⟩, fun h => Jpe (by simpa using h)⟩
end Go.Proofs
end
section
open Go Go.SE
namespace Go.Proofs
attribute [local irreducible] Calls
def IsNodeKey (v : Value) : Prop := ∃ n, v = nkey n
theorem nkey_inj {n n' : Sp.Node} : nkey n = nkey n' ↔ n = n' := by
 constructor
 ·intro h
  cases n; cases n'
  simp [nkey, nrow] at h
  simp [h]
 ·rintro rfl; rfl
theorem sameBits_node (n : Sp.Node) : Instr.sameBits 10000 (nkey n) (nkey n) = true := by
 have h : ∀ d, Instr.sameBits (d + 1) (nkey n) (nkey n) = true := fun d => by
  have e : (n.text == n.text) = true := by rw [beq_toListBytes]; simp
  cases d <;> simp [Instr.sameBits, nkey, nrow, e]
 exact h 9999
theorem keyOK_node : KeyOK Tryz.prog 86 IsNodeKey := by
 refine KeyOK.of_struct Tryz.underlying86 ?_ ?_ ?_
 ·rintro _ ⟨n, rfl⟩ em w; kernel_rfl
 ·rintro _ _ w ⟨n, rfl⟩ ⟨n', rfl⟩
  refine ⟨decide (n = n'), ?_, by simp only [nkey_inj, decide_eq_true_eq]; exact eq_comm⟩
  obtain ⟨k, f, t, u, x, a, b⟩ := n
  obtain ⟨k', f', t', u', x', a', b'⟩ := n'
  simp [Op.equal, Op.maxDepth, go_sem, streq, nkey, nrow]
  repeat' split
  all_goals simp_all
 ·rintro _ ⟨n, rfl⟩; exact sameBits_node n
theorem slT_entry : SlType Tryz.prog 91 147 9 (16 * 5) := by
 refine ⟨Tryz.underlying91, ⟨Tryz.t147, _, by kernel_rfl, (by kernel_rfl : Tryz.t147.zero = some (.agg #[.int .i64 0, .int .i64 0, .int .i64 0, .int .u64 0, .string ⟨#[]⟩, .int .i64 0, .int .i64 0, .int .i64 0, .int .i64 0])), by kernel_rfl, by kernel_rfl, rfl⟩, by omega⟩
theorem pmap_get {L : Sp.Pool} {i : Nat} {n : Sp.Node} {v : Value} (h : (pmap L)[i]? = some (nkey n, v)) : ∃ e, L[i]? = some e ∧ e.node = n ∧ v = .int .i64 (i + 1 : Nat) := by
 simp only [pmap, List.getElem?_map, List.getElem?_zipIdx, Option.map_map, Option.map_eq_some_iff] at h
 obtain ⟨e, he, h⟩ := h
 simp only [Function.comp, Prod.mk.injEq] at h
 exact ⟨e, he, nkey_inj.1 h.1, by rw [← h.2]; simp⟩
theorem pmap_not {L : Sp.Pool} {n : Sp.Node} (h : ∀ q ∈ pmap L, q.1 ≠ nkey n) : ∀ e ∈ L, e.node ≠ n := by
 intro e he hn
 obtain ⟨i, hi, rfl⟩ := List.mem_iff_getElem.1 he
 refine h (nkey L[i].node, .int .i64 (i + 1 : Nat)) ?_ (by rw [hn])
 exact List.mem_map.2 ⟨(L[i], i), by rw [List.mem_zipIdx_iff_getElem?]; simp [hi], rfl⟩
theorem pmap_keys {L : Sp.Pool} : ∀ q ∈ pmap L, IsNodeKey q.1 := by
 intro q hq
 obtain ⟨x, _, rfl⟩ := List.mem_map.1 hq
 exact ⟨_, rfl⟩
theorem pmap_snoc (L : Sp.Pool) (e : Sp.Ent) : pmap (L ++ [e]) = pmap L ++ [(nkey e.node, .int .i64 (L.length + 1 : Nat))] := by
 simp [pmap, List.zipIdx_append]
theorem find_of {L : Sp.Pool} (hok : Sp.Ok L) {i : Nat} {e : Sp.Ent} (h : L[i]? = some e) : Sp.find L e.node = some i := by
 obtain ⟨hi, rfl⟩ := List.getElem?_eq_some_iff.1 h
 unfold Sp.find
 rw [List.findIdx?_eq_some_iff_getElem]
 refine ⟨hi, by simp, fun j hj => ?_⟩
 have hnd := hok.nodup
 simp only [decide_eq_true_eq]
 intro e
 exact List.pairwise_iff_getElem.1 hnd j i (by simp; omega) (by simpa using hi) hj (by simpa using e)
theorem find_none {L : Sp.Pool} {n : Sp.Node} (h : ∀ e ∈ L, e.node ≠ n) : Sp.find L n = none := by
 unfold Sp.find
 rw [List.findIdx?_eq_none_iff]
 intro e he; simpa using h e he
theorem c_Make (p : Addr) (k f t u : Int) (x : ByteArray) (a b : Int) (w : World) {L : Sp.Pool} {F : NP} (hP : PoolAt w p L F) (hok : Sp.Ok L) :
  Calls Tryz.prog 66 #[.pointer (some p), .agg #[.int .i64 k, .int .i64 f, .int .i64 t, .int .u64 u, .string x, .int .i64 a, .int .i64 b]] w
   (fun e w' => ∃ r1 : Int, ∃ r2 : Int, e = .returned (.tuple #[.int .i64 r1, .int .i64 r2]) ∧ ((r1, r2) = ((Sp.make L ⟨k, f, t, u, x, a, b⟩).1, (Sp.make L ⟨k, f, t, u, x, a, b⟩).2.1) ∧ ∃ F', PoolAt w' p (Sp.make L ⟨k, f, t, u, x, a, b⟩).2.2 F' ∧ Ext F w w' ∧ ∀ b, F' b → F b ∨ w.heap.size ≤ b)) := by
 suffices key : ∀ K : Int → Int → WP, (∀ r1 r2 w', ((r1, r2) = ((Sp.make L ⟨k, f, t, u, x, a, b⟩).1, (Sp.make L ⟨k, f, t, u, x, a, b⟩).2.1) ∧ ∃ F', PoolAt w' p (Sp.make L ⟨k, f, t, u, x, a, b⟩).2.2 F' ∧ Ext F w w' ∧ ∀ b, F' b → F b ∨ w.heap.size ≤ b) → K r1 r2 w') → m_Z1 (some p) k f t u x a b w K from
  w_Z1 _ _ _ _ _ _ _ _ w _ (key _ (fun _ _ _ h => h))
 intro K hK
 unfold m_Z1
 intro p2 w1 h1
 have b1 := Box.of_new h1
 have E1 : Pure w w1 := Ext.new h1
 have o2 : ¬ F p2.block := fun h => by have := hP.lt h; have := h1.at_size; omega
 refine Br.f rfl ⟨_, _, _, _, _, _, _, b1.row, ?_⟩
 refine (c_check p k f t u x a b w1 (hP.pure E1) hok).mono ?_
 rintro _ w2 ⟨sz, dp, er, rfl, hck, E2⟩
 refine ⟨_, _, _, rfl, ?_⟩
 generalize hn : (⟨k, f, t, u, x, a, b⟩ : Sp.Node) = n at *
 have E3 : Pure w w2 := E1.trans E2
 have same : ∀ w', Pure w w' → ∃ F', PoolAt w' p L F' ∧ Ext F w w' ∧ ∀ b, F' b → F b ∨ w.heap.size ≤ b := fun w' E => ⟨F, hP.pure E, E.pure, fun _ h => .inl h⟩
 refine ⟨fun h => hK _ _ _ ?_, fun h => ?_⟩
 ·have he : er ≠ 0 := by simpa using h
  have : Sp.make L n = (0, er, L) := by unfold Sp.make; simp [← hck, he]
  rw [this]; exact ⟨rfl, same _ E3⟩
 ·have he : er = 0 := by simpa using h
  subst he
  intro w3 hw3
  have E4 : Pure w w3 := by rw [hw3]; exact E3.trans (Ext.drew w2)
  have b3 := (b1.pure E2).pure (show Pure w2 w3 by rw [hw3]; exact Ext.drew w2)
  clear hw3
  obtain ⟨s, m, hS, hF⟩ := hP.pure E4
  refine ⟨p, rfl, _, hS.box.cell (i := 1) rfl, _, _, _, _, _, _, _, b3.row, ?_⟩
  have hkey : (Value.agg #[.int .i64 k, .int .i64 f, .int .i64 t, .int .u64 u, .string x, .int .i64 a, .int .i64 b]) = nkey n := by rw [← hn]; rfl
  rw [hkey]
  rcases hS.map.lookup (P := Tryz.prog) (T := 92) (E := 30) Tryz.underlying92 keyOK_node pmap_keys ⟨n, rfl⟩ (Tryz.zeroValue30 _) true with ⟨hnot, hrun⟩ | ⟨i, v, hi, hrun⟩
  ·refine ⟨_, _, hrun, Br.f rfl ⟨p, rfl, s, hS.box.cell0, ?_⟩⟩
   have hno := pmap_not hnot
   have hfn := find_none hno
   have hlen : (s.len : Int) = L.length := by rw [hS.rows.len]; simp
   refine ⟨fun h => hK _ _ _ ?_, fun h => ?_⟩
   ·have h2 : 65536 ≤ L.length := by have h := of_decide_eq_true h; omega
    have : Sp.make L n = (0, 6, L) := by unfold Sp.make; simp [← hck, hfn, h2]
    rw [this]; exact ⟨rfl, same _ E4⟩
   ·have h2 : ¬ 65536 ≤ L.length := by have h := of_decide_eq_false h; omega
    have hmk : Sp.make L n = ((L.length : Int) + 1, 0, L ++ [⟨n, sz, dp⟩]) := by unfold Sp.make; simp [← hck, hfn, h2]
    refine ⟨fun w' => w'.cell? p = some s.v ∧ Row w' p2 (nrow n), ⟨?_, ?_⟩, ?_⟩
    ·exact Ext.cell (F := None) (Ext.drew w3) hS.box.cell0 id
    ·rw [← hn]; exact Ext.row (F := None) (Ext.drew w3) b3.row id
    intro w4 hw4
    have E5 : Pure w3 w4 := by rw [hw4]; exact Ext.drew w3
    clear hw4
    have hS4 : PoolS w4 p L s m := by
     exact ⟨hS.box.pure E5, hS.rows.pure E5, hS.map.ext E5 id, hS.n1, hS.n2, hS.n3⟩
    have b4 := b3.pure E5
    refine ⟨p, rfl, s, fun w' h => h.1, k, f, t, u, x, a, b, fun w' h => by have := h.2; rw [← hn] at this; exact this, ?_⟩
    intro p3 w5 h5
    have E6 : Pure w4 w5 := Ext.new h5
    have o3 : w.heap.size ≤ p3.block := New.own (E4.trans E5) h5
    have b5 := Box.of_new h5
    have hrows5 := hS4.rows.pure E6
    have hbox5 := hS4.box.pure E6
    have hmap5 : CMap w5 m (pmap L) := hS4.map.ext E6 id
    have b45 := b4.pure E6
    have hrow : Row w5 p3 (erow ⟨n, sz, dp⟩) := by rw [← hn]; exact b5.row
    refine ⟨⟨hbox5.cell0, by rw [← hn]; exact b45.row⟩, ?_⟩
    obtain ⟨s1, w6, hr6, hrows6, E7, hb6⟩ := hrows5.append (P := Tryz.prog) (ty := 91) slT_entry (c := 1) hrow (by simp [erow, nrow]) (by simp [erow, nrow, oneCell]) (by simp; omega) (by simp [maxLen]; omega)
    have nb : ∀ b, s.blk b → b ≠ p2.block := fun b hb e => o2 (by rw [← e]; exact (hF b).2 (.inr (.inl hb)))
    have hbox6 := hbox5.ext E7 hS.n2
    have hmap6 := hmap5.ext E7 hS.n3
    have b6 := b45.ext E7 (fun h => nb _ h rfl)
    refine ⟨s1, w6, hr6, ⟨hbox6.cell0, by rw [← hn]; exact b6.row⟩, p, rfl, hbox6.canW0 (by simp), ?_⟩
    intro w7 hw7
    have hbox7 : Box w7 p [s1.v, .map (some m)] 94 := by rw [hw7]; exact hbox6.set0
    have E8 : Ext (· = p.block) w6 w7 := by rw [hw7]; exact Ext.setCell p _
    clear hw7
    have hs1p : ¬ s1.blk p.block := fun h => (hb6 _ h).elim hS.n2 (fun h => by have := hbox5.lt; omega)
    have hs1m : ¬ s1.blk m := fun h => (hb6 _ h).elim hS.n3 (fun h => by have := hmap5.lt; omega)
    have hrows7 := hrows6.ext E8 (fun b hb e => hs1p (by rw [← e]; exact hb))
    have hmap7 := hmap6.ext E8 hS.n1
    have b7 := b6.ext E8 (fun e => o2 (by rw [e]; exact (hF _).2 (.inl rfl)))
    have hl1 : (s1.len : Int) = L.length + 1 := by rw [hrows6.len]; simp
    refine ⟨p, rfl, s1, hbox7.cell0, ?_⟩
    refine ⟨fun w' => w'.cell? (p.add 1) = some (.map (some m)) ∧ Row w' p2 (nrow n), ⟨?_, ?_⟩, ?_⟩
    ·exact Ext.cell (F := None) (Ext.drew w7) (hbox7.cell (i := 1) rfl) id
    ·rw [← hn]; exact Ext.row (F := None) (Ext.drew w7) b7.row id
    intro w8 hw8
    have E9 : Pure w7 w8 := by rw [hw8]; exact Ext.drew w7
    clear hw8
    refine ⟨p, rfl, some m, fun w' h => h.1, k, f, t, u, x, a, b, fun w' h => by have := h.2; rw [← hn] at this; exact this, ?_⟩
    rw [hkey, hl1]
    have hmap8 : CMap w8 m (pmap L) := hmap7.ext E9 id
    obtain ⟨w9, hr9, hmap9, E10⟩ := hmap8.insert (P := Tryz.prog) (v := .int .i64 ((L.length : Int) + 1)) Tryz.underlying92 keyOK_node pmap_keys ⟨n, rfl⟩ hnot
    refine ⟨w9, hr9, hK _ _ _ ?_⟩
    rw [hmk]
    have hbox9 := (hbox7.pure E9).ext E10 (fun e => hS.n1 e.symm)
    have hrows9 := (hrows7.pure E9).ext E10 (fun b hb e => hs1m (by rw [← e]; exact hb))
    refine ⟨rfl, fun b => b = p.block ∨ s1.blk b ∨ b = m, ⟨s1, m, ⟨hbox9, ?_, ?_, hS.n1, hs1p, hs1m⟩, fun _ => Iff.rfl⟩, ?_, ?_⟩
    ·simpa using hrows9
    ·rw [pmap_snoc]; simpa using hmap9
    ·have hF' : ∀ b, F b ↔ (b = p.block ∨ s.blk b ∨ b = m) := hF
     have Ea : Ext F w w5 := ((E4.trans E5).trans E6).pure
     have Eb : Ext F w w6 := Ea.trans' E7 (fun i _ h => (hF' i).2 (.inr (.inl h)))
     have Ec : Ext F w w7 := Eb.trans' E8 (fun i _ h => (hF' i).2 (.inl h))
     have Ed : Ext F w w8 := Ec.thenPure E9
     exact Ed.trans' E10 (fun i _ h => (hF' i).2 (.inr (.inr h)))
    ·intro b hb
     rcases hb with rfl | hb | rfl
     ·exact .inl ((hF _).2 (.inl rfl))
     ·rcases hb6 b hb with h | h
      ·exact .inl ((hF _).2 (.inr (.inl h)))
      ·right; have := ((E4.trans E5).trans E6).size; omega
     ·exact .inl ((hF _).2 (.inr (.inr rfl)))
  ·obtain ⟨e, he, hen, rfl⟩ := pmap_get hi
   refine ⟨_, _, hrun, Br.t rfl (hK _ _ _ ?_)⟩
   have hfd := find_of hok he
   rw [hen] at hfd
   have : Sp.make L n = ((i : Int) + 1, 0, L) := by unfold Sp.make; simp [← hck, hfd]
   rw [this]; exact ⟨by simp, same _ E4⟩
end Go.Proofs
end
section
open Go.SE
namespace Go.Sp
def keyOf (L : Pool) (n : Int) : Int × Bool := match find L (keyNode n) with
 | some i => ((i : Int) + 1, true)
 | none => (0, false)
theorem find_node {L : Pool} {n : Node} {i : Nat} (h : find L n = some i) : i < L.length ∧ nodeOf L ((i : Int) + 1) = n := by
 unfold find at h
 rw [List.findIdx?_eq_some_iff_getElem] at h
 obtain ⟨hi, h1, _⟩ := h
 refine ⟨hi, ?_⟩
 rw [nodeOf_lt hi]; simpa using h1
theorem keyOf_ok {L : Pool} {n : Int} (h : (keyOf L n).2 = true) : inP L (keyOf L n).1 = true ∧ nodeOf L (keyOf L n).1 = keyNode n ∧ ∃ i, find L (keyNode n) = some i ∧ (keyOf L n).1 = (i : Int) + 1 := by
 unfold keyOf at h ⊢
 cases hf : find L (keyNode n) with
 | none => rw [hf] at h; cases h
 | some i =>
  obtain ⟨hi, hn⟩ := find_node hf
  exact ⟨inP_iff.2 ⟨by simp only; omega, by simp only; omega⟩, hn, i, rfl, rfl⟩
theorem keyOf_find {L : Pool} {n : Int} {i : Nat} (h : find L (keyNode n) = some i) : keyOf L n = ((i : Int) + 1, true) := by unfold keyOf; rw [h]
theorem Drv.inv {L : Pool} {K : Int → Prop} {t : Int} (h : Drv L K t) : K t ∨ freeK (nodeOf L t).kind = true ∨ ((nodeOf L t).kind = 4 ∧ Drv L K (nodeOf L t).a ∧ Drv L K (nodeOf L t).b) ∨ ((nodeOf L t).kind = 5 ∧ Drv L K (nodeOf L t).a) ∨
  (showsK (nodeOf L t).kind = true ∧ Drv L K (nodeOf L t).a ∧ (keyOf L (whoOf (nodeOf L t))).2 = true ∧ K (keyOf L (whoOf (nodeOf L t))).1) := by
 cases h with
 | seen h => exact .inl h
 | free h => exact .inr (.inl h)
 | pair h a b => exact .inr (.inr (.inl ⟨h, a, b⟩))
 | hash h a => exact .inr (.inr (.inr (.inl ⟨h, a⟩)))
 | sign h a hf hk => rw [keyOf_find hf]; exact .inr (.inr (.inr (.inr ⟨h, a, rfl, hk⟩)))
theorem Drv.signed {L : Pool} {K : Int → Prop} {t : Int} (h : showsK (nodeOf L t).kind = true) (ha : Drv L K (nodeOf L t).a) (hk : (keyOf L (whoOf (nodeOf L t))).2 = true) (hK : K (keyOf L (whoOf (nodeOf L t))).1) : Drv L K t := by
 obtain ⟨_, _, i, hf, e⟩ := keyOf_ok hk
 rw [e] at hK
 exact .sign h ha hf hK
theorem shows_ne {k : Int} (h : showsK k = true) : k ≠ 4 ∧ k ≠ 5 ∧ k ≠ 6 ∧ freeK k = false := by
 simp only [showsK, Bool.or_eq_true, beq_iff_eq] at h
 rcases h with (rfl | rfl) | rfl <;> decide
theorem kind_cases {L : Pool} (h : Wf L) {t : Int} (ht : inP L t = true) : freeK (nodeOf L t).kind = true ∨ (nodeOf L t).kind = 4 ∨ (nodeOf L t).kind = 5 ∨ (nodeOf L t).kind = 6 ∨ showsK (nodeOf L t).kind = true := by
 have h1 := (h.node ht).1
 unfold plainErr at h1
 simp only at h1
 split at h1
 ·cases h1
 ·rename_i hh
  simp only [Bool.or_eq_true, Bool.not_eq_true', not_or] at hh
  have hk : isKind (nodeOf L t).kind = true := by simpa using hh.1.1.1.1
  simp only [isKind, Bool.and_eq_true, decide_eq_true_eq] at hk
  simp only [freeK, showsK, Bool.or_eq_true, beq_iff_eq]
  omega
inductive Sub (L : Pool) : Int → Int → Prop
 | refl (t : Int) : Sub L t t
 | kid {t u k : Int} : Sub L t u → k ∈ kidsOf (nodeOf L u) → Sub L t k
theorem Sub.trans {L : Pool} {a b c : Int} (h : Sub L a b) (k : Sub L b c) : Sub L a c := by
 induction k with
 | refl => exact h
 | kid _ hk ih => exact .kid ih hk
theorem kids_a {n : Node} (h : n.kind = 4 ∨ n.kind = 5 ∨ showsK n.kind = true) : n.a ∈ kidsOf n := by
 simp only [showsK, Bool.or_eq_true, beq_iff_eq] at h
 rcases h with h | h | (h | h) | h <;> simp [kidsOf, h, shapeOf]
theorem kids_b {n : Node} (h : n.kind = 4) : n.b ∈ kidsOf n := by simp [kidsOf, h, shapeOf]
theorem Arises.sub {L : Pool} {r u t : Int} (h : Arises L r u t) : Sub L u t := by
 rcases h with ⟨_, hk, rfl⟩ | ⟨_, hk, rfl⟩ | ⟨_, hk, rfl⟩
 ·exact .kid (.refl u) (kids_a (.inl hk))
 ·exact .kid (.refl u) (kids_b hk)
 ·exact .kid (.refl u) (kids_a (.inr (.inr hk)))
theorem Seen.sub {L : Pool} {G : List Int} {t : Int} (h : Seen L G t) : ∃ g ∈ G, Sub L g t := by
 induction h with
 | given hg => exact ⟨_, hg, .refl _⟩
 | «from» _ ha ih => obtain ⟨g, hg, hs⟩ := ih; exact ⟨g, hg, hs.trans ha.sub⟩
def rank (S : List Way) (t : Int) : Nat := (wkeys S).idxOf t + if t ∈ wkeys S then 0 else t.toNat
theorem rank_seen {S : List Way} {t : Int} (h : t ∈ wkeys S) : rank S t < S.length := by
 have := List.idxOf_lt_length_iff.2 h
 unfold rank; rw [if_pos h]; rw [wkeys_len] at this; omega
theorem rank_un {S : List Way} {t : Int} (h : t ∉ wkeys S) : rank S t = S.length + t.toNat := by
 unfold rank; rw [if_neg h, List.idxOf_eq_length h, wkeys_len]
theorem rank_kid {S : List Way} {t a : Int} (h : t ∉ wkeys S) (h0 : 1 ≤ a) (ha : a < t) : rank S a < rank S t := by
 rw [rank_un h]
 by_cases hm : a ∈ wkeys S
 ·have := rank_seen hm; omega
 ·rw [rank_un hm]; omega
theorem rank_key {S : List Way} {t a : Int} (h : t ∉ wkeys S) (ht : 1 ≤ t) (hm : a ∈ wkeys S) : rank S a < rank S t := by
 rw [rank_un h]; have := rank_seen hm; omega
theorem way_of {L : Pool} {G : List Int} {S : List Way} (h : WaysOk L G S) {t r f : Int} (hl : (t, (r, f)) ∈ S.map fun v => (v.t, (v.rule, v.frm))) : (r = 0 ∧ f = 0 ∧ t ∈ G) ∨ (r ≠ 0 ∧ Arises L r f t ∧ f ∈ wkeys S ∧ rank S f < rank S t) := by
 obtain ⟨v, hv, e⟩ := List.mem_map.1 hl
 obtain ⟨i, hi, rfl⟩ := List.getElem_of_mem hv
 simp only [Prod.mk.injEq] at e
 obtain ⟨rfl, rfl, rfl⟩ := e
 rcases h.way i hi with hw | ⟨h1, h2, h3⟩
 ·exact .inl hw
 ·right
  have hsub : S[i].frm ∈ wkeys S := by
   obtain ⟨y, hy, e⟩ := List.mem_map.1 h3
   exact List.mem_map.2 ⟨y, List.mem_of_mem_take hy, e⟩
  refine ⟨h1, h2, hsub, ?_⟩
  have hti : S[i].t ∈ wkeys S := List.mem_map.2 ⟨_, hv, rfl⟩
  have hidx : (wkeys S).idxOf S[i].t = i := by
   obtain ⟨j, hj, e1, e2⟩ := wkeys_at hti
   rw [e2]
   have h4 : (wkeys S)[j]'(by rw [wkeys_len]; exact hj) = (wkeys S)[i]'(by rw [wkeys_len]; exact hi) := by simp [wkeys, e1]
   exact (List.getElem_inj h.nodup).1 h4
  have hf : (wkeys S).idxOf S[i].frm < i := by
   have e : wkeys S = wkeys (S.take i) ++ wkeys (S.drop i) := by unfold wkeys; rw [← List.map_append, List.take_append_drop]
   rw [e, List.idxOf_append, if_pos h3]
   have := List.idxOf_lt_length_iff.2 h3
   rw [wkeys_len, List.length_take] at this; omega
  unfold rank
  rw [if_pos hsub, if_pos hti, hidx]; omega
theorem arisesB_iff {L : Pool} {r u t : Int} (hr : r = 1 ∨ r = 2 ∨ r = 3) : arisesB L r u t = true ↔ Arises L r u t := by
 unfold arisesB Arises
 rcases hr with rfl | rfl | rfl <;> simp
theorem Arises.rule {L : Pool} {r u t : Int} (h : Arises L r u t) : r = 1 ∨ r = 2 ∨ r = 3 := by
 rcases h with ⟨h, _⟩ | ⟨h, _⟩ | ⟨h, _⟩
 ·exact .inl h
 ·exact .inr (.inl h)
 ·exact .inr (.inr h)
def amap (l : List Step) : List (Int × Int) := l.zipIdx.map fun p => (p.1.t, (p.2 : Int))
theorem amap_keys (l : List Step) : (amap l).map Prod.fst = l.map Step.t := by
 unfold amap; rw [List.map_map]
 show l.zipIdx.map (fun p => p.1.t) = _
 rw [show (fun p : Step × Nat => p.1.t) = Step.t ∘ Prod.fst from rfl, ← List.map_map, List.zipIdx_map_fst]
theorem amap_snoc (l : List Step) (s : Step) : amap (l ++ [s]) = amap l ++ [(s.t, (l.length : Int))] := by simp [amap, List.zipIdx_append]
theorem amap_look {l : List Step} {t v : Int} (h : SE.look (amap l) t = some v) : ∃ i, ∃ hi : i < l.length, v = i ∧ l[i].t = t := by
 have := look_mem h
 obtain ⟨q, hq, e⟩ := List.mem_map.1 this
 obtain ⟨s, i⟩ := q
 rw [List.mem_zipIdx_iff_getElem?] at hq
 obtain ⟨hi, e'⟩ := List.getElem?_eq_some_iff.1 hq
 simp only [Prod.mk.injEq] at e
 exact ⟨i, hi, e.2.symm, by rw [e']; exact e.1⟩
theorem amap_none {l : List Step} {t : Int} : SE.look (amap l) t = none ↔ t ∉ l.map Step.t := by rw [look_none, amap_keys]
structure PrfOk (L : Pool) (G : List Int) (K : Int → Prop) (l : List Step) (B : List Int) : Prop where
 fol : ∀ i (hi : i < l.length), fol L G (l.take i) l[i] = true
 nd : (l.map Step.t).Nodup
 drv : ∀ s ∈ l, Drv L K s.t
 bar : ∀ t ∈ B, ¬ Drv L K t
theorem PrfOk.nil (L : Pool) (G : List Int) (K : Int → Prop) : PrfOk L G K [] [] := ⟨fun i hi => by simp at hi, by simp, by simp, by simp⟩
theorem PrfOk.snoc {L : Pool} {G : List Int} {K : Int → Prop} {l : List Step} {B : List Int} (h : PrfOk L G K l B) {s : Step} (hf : Sp.fol L G l s = true) (hn : s.t ∉ l.map Step.t) (hd : Drv L K s.t) : PrfOk L G K (l ++ [s]) B := by
 refine ⟨fun i hi => ?_, ?_, fun x hx => ?_, h.bar⟩
 ·rw [List.length_append] at hi
  simp only [List.length_cons, List.length_nil] at hi
  by_cases hl : i < l.length
  ·rw [List.getElem_append_left hl, List.take_append_of_le_length (by omega)]; exact h.fol i hl
  ·have : i = l.length := by omega
   subst this
   rw [List.getElem_append_right (Nat.le_refl _), List.take_left]
   simpa using hf
 ·rw [List.map_append, List.nodup_append]
  exact ⟨h.nd, by simp, fun x hx y hy e => by simp at hy; subst hy; exact hn (e ▸ hx)⟩
 ·rcases List.mem_append.1 hx with hx | hx
  ·exact h.drv x hx
  ·simp at hx; subst hx; exact hd
theorem PrfOk.bars {L : Pool} {G : List Int} {K : Int → Prop} {l : List Step} {B : List Int} (h : PrfOk L G K l B) {t : Int} (ht : ¬ Drv L K t) : PrfOk L G K l (B ++ [t]) :=
 ⟨h.fol, h.nd, h.drv, fun x hx => (List.mem_append.1 hx).elim (h.bar x) (fun hx => by simp at hx; subst hx; exact ht)⟩
theorem fol_in {L : Pool} {G : List Int} {pre : List Step} {s : Step} (h : fol L G pre s = true) : inP L s.t = true := by
 unfold fol at h
 split at h
 ·cases h
 ·rename_i hh; simpa using hh
theorem PrfOk.few {L : Pool} {G : List Int} {K : Int → Prop} {l : List Step} {B : List Int} (h : PrfOk L G K l B) : l.length ≤ L.length := by
 have := pool_few h.nd (fun t ht => by
  obtain ⟨s, hs, rfl⟩ := List.mem_map.1 ht
  obtain ⟨i, hi, rfl⟩ := List.getElem_of_mem hs
  exact fol_in (h.fol i hi))
 simpa using this
theorem tAt_of {l : List Step} {i : Nat} (hi : i < l.length) : tAt l (i : Int) = l[i].t := by simp [tAt, hi]
theorem ahead_of {n i : Nat} (h : i < n) : ahead n (i : Int) = true := by simp [ahead]; omega
theorem tAt_app {l M : List Step} {i : Nat} (hi : i < l.length) : tAt (l ++ M) (i : Int) = l[i].t := by
 rw [tAt_of (by rw [List.length_append]; omega), List.getElem_append_left hi]
end Go.Sp
end
section
open Go Go.SE
namespace Go.Sp
def addT (G : List Int) (t : Int) : List Int := if t ∈ G then G else G ++ [t]
def giveT (L : Pool) (G : List Int) (t : Int) : List Int := if inP L t = true then addT G t else G
theorem mem_addT {G : List Int} {t x : Int} : x ∈ addT G t ↔ x ∈ G ∨ x = t := by
 unfold addT; split
 ·rename_i h; exact ⟨.inl, fun h' => h'.elim id (fun e => e ▸ h)⟩
 ·simp
theorem addT_nd {G : List Int} {t : Int} (h : G.Nodup) : (addT G t).Nodup := by
 unfold addT; split
 ·exact h
 ·rename_i hn
  rw [List.nodup_append]; exact ⟨h, by simp, fun x hx y hy e => by simp at hy; subst hy; exact hn (e ▸ hx)⟩
def madeS (L : Pool) (S : List Way) (t : Int) : Int × Int × Bool × Bool :=
 if inP L t = false then (0, 0, false, false)
 else if freeK (nodeOf L t).kind = true then (0, 0, true, true)
 else if (nodeOf L t).kind = 4 then ((nodeOf L t).a, (nodeOf L t).b, false, true)
 else if (nodeOf L t).kind = 5 then ((nodeOf L t).a, 0, false, true)
 else if (nodeOf L t).kind = 6 then (0, 0, false, false)
 else ((nodeOf L t).a, (keyOf L (whoOf (nodeOf L t))).1, false, (keyOf L (whoOf (nodeOf L t))).2 && decide ((keyOf L (whoOf (nodeOf L t))).1 ∈ wkeys S))
end Go.Sp
namespace Go.Proofs
attribute [local irreducible] Calls
theorem c_Has (p : Addr) (n : Sp.Node) (w0 : World) {L : Sp.Pool} {F : NP} (hP : PoolAt w0 p L F) (hok : Sp.Ok L) :
  Calls Tryz.prog 129 #[.pointer (some p), nkey n] w0 (fun e w' => ∃ r : Int, ∃ ok : Bool, e = .returned (.tuple #[.int .i64 r, .bool ok]) ∧ ((match Sp.find L n with | some i => r = (i : Int) + 1 ∧ ok = true | none => r = 0 ∧ ok = false) ∧ Pure w0 w')) := by
 obtain ⟨k, f, t, u, x, a, b⟩ := n
 generalize hn : (⟨k, f, t, u, x, a, b⟩ : Sp.Node) = n
 have hkey : (Value.agg #[.int .i64 k, .int .i64 f, .int .i64 t, .int .u64 u, .string x, .int .i64 a, .int .i64 b]) = nkey n := by rw [← hn]; rfl
 rw [← hkey]
 refine w_X2 _ _ _ _ _ _ _ _ w0 (fun r ok w' => (match Sp.find L n with | some i => r = (i : Int) + 1 ∧ ok = true | none => r = 0 ∧ ok = false) ∧ Pure w0 w') ?_
 unfold m_X2
 intro p2 w1 h1
 have b1 := Box.of_new h1
 have E1 : Pure w0 w1 := Ext.new h1
 refine Br.f rfl ?_
 rintro _ rfl
 have Ed : Pure w1 w1.drew := Ext.drew w1
 have E2 := E1.trans Ed
 obtain ⟨s, m, hS, hF⟩ := hP.pure E2
 refine ⟨p, rfl, _, hS.box.cell (i := 1) rfl, _, _, _, _, _, _, _, (b1.pure Ed).row, ?_⟩
 rw [hkey]
 rcases hS.map.lookup (P := Tryz.prog) (T := 92) (E := 30) Tryz.underlying92 keyOK_node pmap_keys ⟨n, rfl⟩ (Tryz.zeroValue30 _) true with ⟨hnot, hrun⟩ | ⟨i, v, hi, hrun⟩
 ·refine ⟨_, _, hrun, ?_, E2⟩
  rw [find_none (pmap_not hnot)]; exact ⟨rfl, rfl⟩
 ·obtain ⟨e, he, hen, rfl⟩ := pmap_get hi
  refine ⟨_, _, hrun, ?_, E2⟩
  rw [← hen, find_of hok he]; exact ⟨by simp, rfl⟩
abbrev MakePost (p : Addr) (L : Sp.Pool) (F : NP) (w : World) (n : Sp.Node) (e : Ending) (w' : World) : Prop :=
 ∃ r1 : Int, ∃ r2 : Int, e = .returned (.tuple #[.int .i64 r1, .int .i64 r2]) ∧ ((r1, r2) = ((Sp.make L n).1, (Sp.make L n).2.1) ∧ ∃ F', PoolAt w' p (Sp.make L n).2.2 F' ∧ Ext F w w' ∧ ∀ b, F' b → F b ∨ w.heap.size ≤ b)
section
variable (p : Addr) (w0 : World) {L : Sp.Pool} {F : NP} (hP : PoolAt w0 p L F) (hok : Sp.Ok L)
include hP hok
theorem c_Num (n : Int) : Calls Tryz.prog 47 #[.pointer (some p), .int .u64 n] w0 (MakePost p L F w0 ⟨2, 0, 0, n, ⟨#[]⟩, 0, 0⟩) := by
 refine w_R2 _ _ w0 (fun r1 r2 w' => (r1, r2) = ((Sp.make L ⟨2, 0, 0, n, ⟨#[]⟩, 0, 0⟩).1, (Sp.make L ⟨2, 0, 0, n, ⟨#[]⟩, 0, 0⟩).2.1) ∧ ∃ F', PoolAt w' p (Sp.make L ⟨2, 0, 0, n, ⟨#[]⟩, 0, 0⟩).2.2 F' ∧ Ext F w0 w' ∧ ∀ b, F' b → F b ∨ w0.heap.size ≤ b) ?_
 unfold m_R2
 refine (c_Make p _ _ _ _ _ _ _ w0 hP hok).mono ?_
 rintro _ w1 ⟨r1, r2, rfl, h⟩
 exact ⟨r1, r2, rfl, h⟩
theorem c_Name (n : Int) : Calls Tryz.prog 28 #[.pointer (some p), .int .i64 n] w0 (MakePost p L F w0 ⟨1, n, 0, 0, ⟨#[]⟩, 0, 0⟩) := by
 refine w_O2 _ _ w0 (fun r1 r2 w' => (r1, r2) = ((Sp.make L ⟨1, n, 0, 0, ⟨#[]⟩, 0, 0⟩).1, (Sp.make L ⟨1, n, 0, 0, ⟨#[]⟩, 0, 0⟩).2.1) ∧ ∃ F', PoolAt w' p (Sp.make L ⟨1, n, 0, 0, ⟨#[]⟩, 0, 0⟩).2.2 F' ∧ Ext F w0 w' ∧ ∀ b, F' b → F b ∨ w0.heap.size ≤ b) ?_
 unfold m_O2
 refine (c_Make p _ _ _ _ _ _ _ w0 hP hok).mono ?_
 rintro _ w1 ⟨r1, r2, rfl, h⟩
 exact ⟨r1, r2, rfl, h⟩
theorem c_Pair (a b : Int) : Calls Tryz.prog 29 #[.pointer (some p), .int .i64 a, .int .i64 b] w0 (MakePost p L F w0 ⟨4, 0, 0, 0, ⟨#[]⟩, a, b⟩) := by
 refine w_P2 _ _ _ w0 (fun r1 r2 w' => (r1, r2) = ((Sp.make L ⟨4, 0, 0, 0, ⟨#[]⟩, a, b⟩).1, (Sp.make L ⟨4, 0, 0, 0, ⟨#[]⟩, a, b⟩).2.1) ∧ ∃ F', PoolAt w' p (Sp.make L ⟨4, 0, 0, 0, ⟨#[]⟩, a, b⟩).2.2 F' ∧ Ext F w0 w' ∧ ∀ b, F' b → F b ∨ w0.heap.size ≤ b) ?_
 unfold m_P2
 refine (c_Make p _ _ _ _ _ _ _ w0 hP hok).mono ?_
 rintro _ w1 ⟨r1, r2, rfl, h⟩
 exact ⟨r1, r2, rfl, h⟩
theorem c_Sign (n a : Int) : Calls Tryz.prog 48 #[.pointer (some p), .int .i64 n, .int .i64 a] w0 (MakePost p L F w0 ⟨7, n, 0, 0, ⟨#[]⟩, a, 0⟩) := by
 refine w_S2 _ _ _ w0 (fun r1 r2 w' => (r1, r2) = ((Sp.make L ⟨7, n, 0, 0, ⟨#[]⟩, a, 0⟩).1, (Sp.make L ⟨7, n, 0, 0, ⟨#[]⟩, a, 0⟩).2.1) ∧ ∃ F', PoolAt w' p (Sp.make L ⟨7, n, 0, 0, ⟨#[]⟩, a, 0⟩).2.2 F' ∧ Ext F w0 w' ∧ ∀ b, F' b → F b ∨ w0.heap.size ≤ b) ?_
 unfold m_S2
 refine (c_Make p _ _ _ _ _ _ _ w0 hP hok).mono ?_
 rintro _ w1 ⟨r1, r2, rfl, h⟩
 exact ⟨r1, r2, rfl, h⟩
theorem c_Hash (a : Int) : Calls Tryz.prog 49 #[.pointer (some p), .int .i64 a] w0 (MakePost p L F w0 ⟨5, 0, 0, 0, ⟨#[]⟩, a, 0⟩) := by
 refine w_T2 _ _ w0 (fun r1 r2 w' => (r1, r2) = ((Sp.make L ⟨5, 0, 0, 0, ⟨#[]⟩, a, 0⟩).1, (Sp.make L ⟨5, 0, 0, 0, ⟨#[]⟩, a, 0⟩).2.1) ∧ ∃ F', PoolAt w' p (Sp.make L ⟨5, 0, 0, 0, ⟨#[]⟩, a, 0⟩).2.2 F' ∧ Ext F w0 w' ∧ ∀ b, F' b → F b ∨ w0.heap.size ≤ b) ?_
 unfold m_T2
 refine (c_Make p _ _ _ _ _ _ _ w0 hP hok).mono ?_
 rintro _ w1 ⟨r1, r2, rfl, h⟩
 exact ⟨r1, r2, rfl, h⟩
theorem c_Key (n : Int) : Calls Tryz.prog 50 #[.pointer (some p), .int .i64 n] w0 (MakePost p L F w0 ⟨6, n, 0, 0, ⟨#[]⟩, 0, 0⟩) := by
 refine w_U2 _ _ w0 (fun r1 r2 w' => (r1, r2) = ((Sp.make L ⟨6, n, 0, 0, ⟨#[]⟩, 0, 0⟩).1, (Sp.make L ⟨6, n, 0, 0, ⟨#[]⟩, 0, 0⟩).2.1) ∧ ∃ F', PoolAt w' p (Sp.make L ⟨6, n, 0, 0, ⟨#[]⟩, 0, 0⟩).2.2 F' ∧ Ext F w0 w' ∧ ∀ b, F' b → F b ∨ w0.heap.size ≤ b) ?_
 unfold m_U2
 refine (c_Make p _ _ _ _ _ _ _ w0 hP hok).mono ?_
 rintro _ w1 ⟨r1, r2, rfl, h⟩
 exact ⟨r1, r2, rfl, h⟩
end
theorem KnowS.appG {w : World} {k p : Addr} {G : List Int} {S : List Sp.Way} {ks : List Int} {sg sl : Sl} {m : Nat} (h : KnowS w k p G S ks sg m sl) {t : Int} {q : Addr} {w1 : World} (hq : New w (.cells #[.int .i64 t] 30) q w1) (hn : G.length ≤ 1000000) : ∃ s1 w2, (Builtin.append_ #[52, 52] 52 #[sg.v, (Sl.mk (some q) 1 1).v]).run Tryz.prog w1 = .ok s1.v w2 ∧ Ext sg.blk w1 w2 ∧ CanW w2 (k.add 1) ∧
  KnowS (w2.setCell (k.add 1) s1.v) k p (G ++ [t]) S ks s1 m sl ∧ Ext (KF k sg m sl) w (w2.setCell (k.add 1) s1.v) ∧ ∀ b, KF k s1 m sl b → KF k sg m sl b ∨ w.heap.size ≤ b := by
 have E1 : Pure w w1 := Ext.new hq
 have h1 := h.pure E1
 obtain ⟨s1, w2, hr, hR, hE, hb⟩ := h1.giv.append (P := Tryz.prog) (ty := 52) (c := 1) slT_tm (r := [.int .i64 t]) (Box.of_new hq).row rfl rfl (by rw [tmr_len]; omega) (by rw [tmr_len]; simp [maxLen]; omega)
 have hbx := h1.box.ext hE h1.n2
 have hs1 : ∀ b, s1.blk b → sg.blk b ∨ w.heap.size ≤ b := fun b h => (hb b h).imp_right (fun h => by have := E1.size; omega)
 have nk : ¬ s1.blk k.block := fun hh => (hs1 _ hh).elim h.n2 (fun hh => by have := h.box.lt; omega)
 have nm : ¬ s1.blk m := fun hh => (hs1 _ hh).elim h.n4 (fun hh => by have := h.seen.lt; omega)
 have E3 := Ext.setCell (w := w2) (k.add 1) s1.v
 rw [add_block] at E3
 refine ⟨s1, w2, hr, hE, hbx.canW (by simp), ⟨hbx.set 1 s1.v, by rw [show tmr (G ++ [t]) = tmr G ++ [[.int .i64 t]] by simp [tmr]]; exact hR.ext E3 (fun b hb e => nk (e ▸ hb)), ((h1.seen.ext hE h.n4).ext E3 h.n1), ((h1.list.ext hE (fun b h2 h1 => h.n6 b h1 h2)).ext E3 (fun b hb e => h.n3 (e ▸ hb))), h.n1, nk, h.n3, nm, h.n5, fun b h1 h2 => (hs1 b h1).elim (fun h1 => h.n6 b h1 h2) (fun hh => by have := h.list.lt h2; omega)⟩, ?_, ?_⟩
 ·exact ((E1.pure (F := KF k sg m sl)).trans (hE.mono (fun b _ hb => .inr (.inl hb)))).trans (E3.mono (fun b _ hb => .inl hb))
 ·rintro b (hb | hb | hb | hb)
  ·exact .inl (.inl hb)
  ·exact (hs1 b hb).imp_left (fun h => .inr (.inl h))
  ·exact .inl (.inr (.inr (.inl hb)))
  ·exact .inl (.inr (.inr (.inr hb)))
theorem c_ded_Add (k p : Addr) (t : Int) (w0 : World) {L : Sp.Pool} {G : List Int} {S : List Sp.Way} {F FP : NP} (h : KnowAt w0 k p G S F) (hP : PoolAt w0 p L FP) (hW : Sp.Wf L) (hd : ∀ b, F b → ¬ FP b) (hk : Sp.KnowOk L G S) :
  Calls Tryz.prog 23 #[.pointer (some k), .int .i64 t] w0 (fun e w' => ∃ r : Int, e = .returned (.int .i64 r) ∧ (r = (if Sp.inP L t = true then 0 else 51) ∧ ∃ S' F', KnowAt w' k p (Sp.giveT L G t) S' F' ∧ Sp.KnowOk L (Sp.giveT L G t) S' ∧ Ext F w0 w' ∧ ∀ b, F' b → F b ∨ w0.heap.size ≤ b)) := by
 suffices key : ∀ K : Int → WP, (∀ S' F' w', KnowAt w' k p (Sp.giveT L G t) S' F' → Sp.KnowOk L (Sp.giveT L G t) S' → Ext F w0 w' → (∀ b, F' b → F b ∨ w0.heap.size ≤ b) → K (if Sp.inP L t = true then 0 else 51) w') → m_W1 (some k) t w0 K from
  w_W1 _ _ w0 _ (key _ (fun S' F' w' a b c d => ⟨rfl, S', F', a, b, c, d⟩))
 intro K hK
 unfold m_W1
 obtain ⟨sg, m, sl, k0, hF⟩ := h
 refine Br.f rfl ⟨k, rfl, _, k0.box.cell0, ?_⟩
 refine (c_Node p t w0 hP hW.ok).mono ?_
 rintro _ w1 ⟨nk, nf, nt, nu, nx, na, nb, ok, rfl, ⟨_, rfl⟩, E1⟩
 refine ⟨_, _, _, _, _, _, _, _, rfl, E1.keptP, fun hc => ?_, fun hc => ?_⟩
 ·have hin : Sp.inP L t = false := by simpa using hc
  intro H1 w3 hs3
  have E3 : Pure w0 w3 := E1.hst hs3
  have hg : Sp.giveT L G t = G := by unfold Sp.giveT; rw [if_neg (by simp [hin])]
  have := hK S F w3 (by rw [hg]; exact ⟨sg, m, sl, k0.pure E3, hF⟩) (by rw [hg]; exact hk) E3.pure (fun b hb => .inl hb)
  simpa [hin] using this
 have hin : Sp.inP L t = true := by simpa using hc
 have hg : Sp.giveT L G t = Sp.addT G t := by unfold Sp.giveT; rw [if_pos hin]
 rw [hg] at hK
 simp only [hin, if_true] at hK
 refine ⟨k, rfl, ?_⟩
 intro H1 w3 hs3
 have E3 : Pure w0 w3 := E1.hst hs3
 have k3 := k0.pure E3
 have nh : ∀ b, b < w0.heap.size → ¬ H1 b := fun b hb hh => by have := hs3.old b hh; omega
 have hGn : G.length ≤ 65536 := by have := Sp.pool_few hk.gnd (fun t ht => hk.inp t (hk.giv t ht)); have := hW.ok.few; omega
 have fin : ∀ (w : World) (F' : NP), KnowAt w k p (Sp.addT G t) S F' → Ext F w0 w → (∀ b, F' b → F b ∨ w0.heap.size ≤ b) → Hst w0 H1 w H1 w → (∀ b, F' b → ¬ H1 b) → Calls Tryz.prog 59 #[.pointer (some k), .int .i64 t, .agg #[.int .i64 0, .int .i64 0]] w (fun e w8 => e = .returned (.tuple #[]) ∧ Kept H1 w w8 ∧ K 0 w8) := by
  intro w F' hw hE hf hs hh
  have hGs : ∀ x ∈ G, x ∈ Sp.addT G t := fun x hx => Sp.mem_addT.2 (.inl hx)
  have hPw : PoolAt w p L FP := hP.ext hE (fun b hb hfb => hd b hfb hb)
  refine (c_ded_sees k p t 0 0 w hw hPw hW (fun b hb hp => ?_) (hk.toWaysOk.mono hGs) hk.closed hin (.inl ⟨rfl, rfl, Sp.mem_addT.2 (.inr rfl)⟩)).mono ?_
  ·rcases hf b hb with h1 | h1
   ·exact hd b h1 hp
   ·have := hP.lt hp; omega
  ·rintro _ w8 ⟨rfl, S', F2, K2, ⟨q1, q2, q3, q4⟩, X2, f2⟩
   have z := hE.size
   refine ⟨rfl, X2.kept (fun b hb hx => hh b hx hb), hK S' F2 w8 K2 ⟨q1, q2, fun x hx => ?_, Sp.addT_nd hk.gnd⟩ (hE.trans' X2 (fun i hi hx => (hf i hx).elim id (fun h => by omega))) (fun b hb => ?_)⟩
   ·rcases Sp.mem_addT.1 hx with hx | rfl
    ·exact q4 x (hk.giv x hx)
    ·exact q3
   ·rcases f2 b hb with h1 | h1
    ·exact hf b h1
    ·right; omega
 refine ⟨_, k3.box.cell rfl, ?_⟩
 refine (c_slContains sg G t w3 k3.giv.lst (by omega)).mono ?_
 rintro _ w3 ⟨r, rfl, rfl, rfl⟩
 refine ⟨_, rfl, Kept.refl _, fun hc2 => ?_, fun hc2 => ?_⟩
 ·have hnG : t ∉ G := by simpa using hc2
  have hadd : Sp.addT G t = G ++ [t] := if_neg hnG
  refine ⟨k, rfl, _, k3.box.cell rfl, ?_⟩
  intro q w5 h5
  obtain ⟨s1, w6, hr6, X6, cw6, k6, E6, f6⟩ := k3.appG h5 (by omega)
  have hs5 : Hst w0 H1 w5 H1 w5 := hs3.here.again (Ext.new h5 : Pure w3 w5).keptP
  have sgn : ∀ b, sg.blk b → ¬ H1 b := fun b hb => nh b (k0.lt (.inr (.inl hb)))
  have kk : Kept H1 w5 w6 := X6.kept (fun b hb hx => sgn b hx hb)
  refine ⟨s1, w6, hr6, kk, k, rfl, cw6, by rw [add_block]; exact nh _ k0.box.lt, ?_⟩
  rintro _ rfl
  have z3 := E3.size
  have z5 : w3.heap.size ≤ w5.heap.size := (Ext.new h5 : Pure w3 w5).size
  refine fin _ (KF k s1 m sl) (by rw [hadd]; exact ⟨s1, m, sl, k6, fun b => Iff.rfl⟩) ((E3.pure (F := F)).trans (E6.mono (fun b _ hb => (hF b).2 hb))) (fun b hb => (f6 b hb).imp (hF b).2 (fun h => by omega)) ((hs5.again kk).again (Kept.setCell (by rw [add_block]; exact nh _ k0.box.lt))) (fun b hb hh => ?_)
  rcases f6 b hb with h1 | h1
  ·exact nh b (k0.lt h1) hh
  ·have := hs3.lt b hh; omega
 ·have hG : t ∈ G := by simpa using hc2
  have hadd : Sp.addT G t = G := if_pos hG
  exact fin w3 F (by rw [hadd]; exact ⟨sg, m, sl, k3, hF⟩) E3.pure (fun b hb => .inl hb) hs3.here (fun b hb => nh b (k0.lt ((hF b).1 hb)))
theorem c_ded_made (k p : Addr) (t : Int) (w0 : World) {L : Sp.Pool} {G : List Int} {S : List Sp.Way} {F FP : NP} (h : KnowAt w0 k p G S F) (hP : PoolAt w0 p L FP) (hW : Sp.Wf L) :
  Calls Tryz.prog 93 #[.pointer (some k), .int .i64 t] w0 (fun e w' => ∃ r1 : Int, ∃ r2 : Int, ∃ r3 : Bool, ∃ r4 : Bool, e = .returned (.tuple #[.int .i64 r1, .int .i64 r2, .bool r3, .bool r4]) ∧ ((r1, r2, r3, r4) = Sp.madeS L S t ∧ Pure w0 w')) := by
 refine w_C1 _ _ w0 (fun r1 r2 r3 r4 w' => (r1, r2, r3, r4) = Sp.madeS L S t ∧ Pure w0 w') ?_
 unfold m_C1
 obtain ⟨sg, m, sl, k0, hF⟩ := h
 refine ⟨k, rfl, _, k0.box.cell0, ?_⟩
 refine (c_Node p t w0 hP hW.ok).mono ?_
 rintro _ w1 ⟨nk, nf, nt, nu, nx, na, nb, ok, rfl, ⟨hn, rfl⟩, E1⟩
 refine ⟨_, _, _, _, _, _, _, _, rfl, E1.keptP, fun hc => ?_, fun hc => ?_⟩
 ·intro H1 w3 hs3
  have hin : Sp.inP L t = false := by simpa using hc
  exact ⟨by unfold Sp.madeS; rw [if_pos hin], E1.hst hs3⟩
 have hin : Sp.inP L t = true := by simpa using hc
 have hi : ¬ Sp.inP L t = false := by simp [hin]
 rintro y1 rfl
 have hy : (cond ((nk : Int) == 1) ((nk : Int) == 1) (cond ((nk : Int) == 2) ((nk : Int) == 2) ((nk : Int) == 3))) = Sp.freeK nk := by
  unfold Sp.freeK; cases (nk == 1) <;> cases (nk == 2) <;> simp
 rw [hy]
 have hk1 : (Sp.nodeOf L t).kind = nk := by rw [← hn]
 have hfr : (Sp.nodeOf L t).frm = nf := by rw [← hn]
 have hto : (Sp.nodeOf L t).to = nt := by rw [← hn]
 have ha : (Sp.nodeOf L t).a = na := by rw [← hn]
 have hb : (Sp.nodeOf L t).b = nb := by rw [← hn]
 refine ⟨fun h1 => ?_, fun h1 => ⟨fun h4 => ?_, fun h4 => ⟨fun h5 => ?_, fun h5 => ⟨fun h6 => ?_, fun h6 => ?_⟩⟩⟩⟩
 ·intro H2 w7 hs7
  exact ⟨by unfold Sp.madeS; rw [if_neg hi, hk1, if_pos h1], E1.hst hs7⟩
 ·intro H2 w7 hs7
  have h4' : nk = 4 := by simpa using h4
  exact ⟨by unfold Sp.madeS; rw [if_neg hi, hk1, if_neg (by simp [h1]), if_pos h4', ha, hb], E1.hst hs7⟩
 ·intro H2 w7 hs7
  have h4' : ¬ nk = 4 := by simpa using h4
  have h5' : nk = 5 := by simpa using h5
  exact ⟨by unfold Sp.madeS; rw [if_neg hi, hk1, if_neg (by simp [h1]), if_neg h4', if_pos h5', ha], E1.hst hs7⟩
 ·intro H2 w7 hs7
  have h4' : ¬ nk = 4 := by simpa using h4
  have h5' : ¬ nk = 5 := by simpa using h5
  have h6' : nk = 6 := by simpa using h6
  exact ⟨by unfold Sp.madeS; rw [if_neg hi, hk1, if_neg (by simp [h1]), if_neg h4', if_neg h5', if_pos h6'], E1.hst hs7⟩
 ·have h4' : ¬ nk = 4 := by simpa using h4
  have h5' : ¬ nk = 5 := by simpa using h5
  have h6' : ¬ nk = 6 := by simpa using h6
  intro H3 w9 hs9
  have E9 : Pure w0 w9 := E1.hst hs9
  unfold m_C1_j1
  have k9 := k0.pure E9
  have hwho : (cond ((nk : Int) == 9) nt nf) = Sp.whoOf (Sp.nodeOf L t) := by
   unfold Sp.whoOf; rw [hk1, hfr, hto]
   by_cases h9 : nk = 9
   ·subst h9; simp
   ·rw [if_neg h9, show (nk == 9) = false from by simpa using h9]; rfl
  rw [hwho]
  have hm : Sp.madeS L S t = (na, (Sp.keyOf L (Sp.whoOf (Sp.nodeOf L t))).1, false, (Sp.keyOf L (Sp.whoOf (Sp.nodeOf L t))).2 && decide ((Sp.keyOf L (Sp.whoOf (Sp.nodeOf L t))).1 ∈ Sp.wkeys S)) := by
   unfold Sp.madeS; rw [if_neg hi, hk1, if_neg (by simp [h1]), if_neg h4', if_neg h5', if_neg h6', ha]
  refine ⟨k, rfl, _, k9.box.cell0, ?_⟩
  refine (c_Has p (Sp.keyNode (Sp.whoOf (Sp.nodeOf L t))) w9 (hP.pure E9) hW.ok).mono ?_
  rintro _ w10 ⟨r2, r3, rfl, hr, E10⟩
  refine ⟨r2, r3, rfl, E10.keptP, ?_⟩
  have Ed : Pure w10 w10.drew := Ext.drew w10
  refine ⟨fun _ => True, trivial, ?_⟩
  rintro _ rfl
  have E11 := (E9.trans E10).trans Ed
  have hke : Sp.keyOf L (Sp.whoOf (Sp.nodeOf L t)) = (r2, r3) := by
   unfold Sp.keyOf
   cases hf : Sp.find L (Sp.keyNode (Sp.whoOf (Sp.nodeOf L t))) with
   | none => rw [hf] at hr; simp only at hr; rw [hr.1, hr.2]
   | some i => rw [hf] at hr; simp only at hr; rw [hr.1, hr.2]
  rw [hm, hke]
  refine ⟨fun h => ?_, fun h => ?_⟩
  ·subst h
   refine (c_ded_Sees k p r2 w10.drew ⟨sg, m, sl, k0.pure E11, hF⟩).mono ?_
   rintro _ w12 ⟨r4, rfl, rfl, E12⟩
   exact ⟨_, rfl, trivial, E12.keptP, by simp, E11.trans E12⟩
  ·subst h
   exact ⟨by simp, E11⟩
end Go.Proofs
end
section
open Go Go.SE
namespace Go.Sp
def Dep (L : Pool) (S : List Way) (t y : Int) : Prop :=
 (∃ v ∈ S, v.t = t ∧ v.rule ≠ 0 ∧ y = v.frm) ∨ (t ∉ wkeys S ∧ 0 < y ∧ (y = (madeS L S t).1 ∨ y = (madeS L S t).2.1))
inductive Dp (L : Pool) (S : List Way) : Int → Int → Prop
 | refl (t : Int) : Dp L S t t
 | step {t y z : Int} : Dep L S t y → Dp L S y z → Dp L S t z
theorem Dep.made {L : Pool} {S : List Way} {t y a b : Int} {f m : Bool} (h : madeS L S t = (a, b, f, m)) (ht : t ∉ wkeys S) : Dep L S t y ↔ 0 < y ∧ (y = a ∨ y = b) := by
 unfold Dep
 rw [h]
 constructor
 ·rintro (⟨v, hv, rfl, _⟩ | ⟨_, h⟩)
  ·exact absurd (List.mem_map.2 ⟨v, hv, rfl⟩) ht
  ·exact h
 ·exact fun h => .inr ⟨ht, h⟩
theorem Dep.way {L : Pool} {S : List Way} {t y r f : Int} (hn : (wkeys S).Nodup) (hl : SE.look (S.map fun v => (v.t, (v.rule, v.frm))) t = some (r, f)) : Dep L S t y ↔ r ≠ 0 ∧ y = f := by
 have hm := look_mem hl
 obtain ⟨v, hv, e⟩ := List.mem_map.1 hm
 simp only [Prod.mk.injEq] at e
 obtain ⟨rfl, rfl, rfl⟩ := e
 have hk : v.t ∈ wkeys S := List.mem_map.2 ⟨v, hv, rfl⟩
 unfold Dep
 constructor
 ·rintro (⟨u, hu, e, hr, rfl⟩ | ⟨h, _⟩)
  ·have hnd : ((S.map fun v => (v.t, (v.rule, v.frm))).map Prod.fst).Nodup := by rw [List.map_map]; exact hn
   have h2 := look_of_mem hnd (List.mem_map.2 ⟨u, hu, rfl⟩)
   rw [e, hl] at h2
   simp only [Option.some.injEq, Prod.mk.injEq] at h2
   exact ⟨by rw [h2.1]; exact hr, h2.2.symm⟩
  ·exact absurd hk h
 ·rintro ⟨h1, rfl⟩
  exact .inl ⟨v, hv, rfl, h1, rfl⟩
theorem Dp.all {L : Pool} {S : List Way} {M : List Step} (hc : ∀ s ∈ M, ∀ y, Dep L S s.t y → y ∈ M.map Step.t) {t x : Int} (ht : t ∈ M.map Step.t) (h : Dp L S t x) : x ∈ M.map Step.t := by
 induction h with
 | refl => exact ht
 | step hd _ ih =>
  obtain ⟨s, hs, rfl⟩ := List.mem_map.1 ht
  exact ih (hc s hs _ hd)
end Go.Sp
namespace Go.Proofs
attribute [local irreducible] Calls
def strow (s : Sp.Step) : List Value := [.int .i64 s.rule, .int .i64 s.a, .int .i64 s.b, .int .i64 s.t]
theorem slT_step : SlType Tryz.prog 101 157 4 32 := by
 refine ⟨Tryz.underlying101, ⟨Tryz.t157, _, by kernel_rfl, (by kernel_rfl : Tryz.t157.zero = some (.agg #[.int .i64 0, .int .i64 0, .int .i64 0, .int .i64 0])), by kernel_rfl, by kernel_rfl, rfl⟩, by omega⟩
def tru (_ : Unit) : Value := .bool true
def bmap (B : List Int) : List (Int × Unit) := B.map fun t => (t, ())
theorem bmap_keys (B : List Int) : (bmap B).map Prod.fst = B := by
 unfold bmap; rw [List.map_map]; exact List.map_id' B
theorem bmap_snoc (B : List Int) (t : Int) : bmap (B ++ [t]) = bmap B ++ [(t, ())] := by simp [bmap]
def PW (ma mb : Nat) (c5 : Addr) (sl : Sl) (b : Nat) : Prop := b = ma ∨ b = mb ∨ b = c5.block ∨ sl.blk b
def says (f : FuncId) (c1 c2 c3 c4 c5 : Addr) : Value := .func (.func f) #[] #[.pointer (some c1), .pointer (some c2), .pointer (some c3), .pointer (some c4), .pointer (some c5)]
structure PrfAt (w : World) (k : Addr) (c1 c2 c3 c4 c5 : Addr) (ma mb : Nat) (sl : Sl) (l : List Sp.Step) (B : List Int) : Prop where
 a1 : w.cell? c1 = some (.map (some ma))
 a2 : w.cell? c2 = some (.map (some mb))
 a3 : w.cell? c3 = some (.pointer (some k))
 a4 : w.cell? c4 = some (says 92 c1 c2 c3 c4 c5)
 a5 : Box w c5 [sl.v] 101
 am : IMap ikey w ma (Sp.amap l)
 bm : IMap tru w mb (bmap B)
 ls : Rws w 157 4 sl (l.map strow)
 d : ∀ b, PW ma mb c5 sl b → b ≠ c1.block ∧ b ≠ c2.block ∧ b ≠ c3.block ∧ b ≠ c4.block
 n1 : ma ≠ mb
 n2 : ma ≠ c5.block
 n3 : mb ≠ c5.block
 n4 : ¬ sl.blk ma
 n5 : ¬ sl.blk mb
 n6 : ¬ sl.blk c5.block
structure SaysAt (w : World) (k p : Addr) (c1 c2 c3 c4 c5 : Addr) (ma mb : Nat) (L : Sp.Pool) (G : List Int) (S : List Sp.Way) (F FP : NP) (sl : Sl) (l : List Sp.Step) (B : List Int) : Prop where
 prf : PrfAt w k c1 c2 c3 c4 c5 ma mb sl l B
 know : KnowAt w k p G S F
 pool : PoolAt w p L FP
 dF : ∀ b, F b → ¬ PW ma mb c5 sl b
 dP : ∀ b, FP b → ¬ PW ma mb c5 sl b
section
variable {w w' : World} {k p c1 c2 c3 c4 c5 : Addr} {ma mb : Nat} {L : Sp.Pool} {G : List Int} {S : List Sp.Way} {F FP : NP} {sl : Sl} {l : List Sp.Step} {B : List Int}
theorem PrfAt.ext {X : NP} (h : PrfAt w k c1 c2 c3 c4 c5 ma mb sl l B) (hE : Ext X w w') (h1 : ∀ b, PW ma mb c5 sl b → ¬ X b) (x1 : ¬ X c1.block) (x2 : ¬ X c2.block) (x3 : ¬ X c3.block) (x4 : ¬ X c4.block) : PrfAt w' k c1 c2 c3 c4 c5 ma mb sl l B :=
 ⟨hE.cell h.a1 x1, hE.cell h.a2 x2, hE.cell h.a3 x3, hE.cell h.a4 x4, h.a5.ext hE (h1 _ (.inr (.inr (.inl rfl)))), h.am.ext hE (h1 _ (.inl rfl)), h.bm.ext hE (h1 _ (.inr (.inl rfl))), h.ls.ext hE (fun b hb => h1 b (.inr (.inr (.inr hb)))), h.d, h.n1, h.n2, h.n3, h.n4, h.n5, h.n6⟩
theorem PrfAt.lt (h : PrfAt w k c1 c2 c3 c4 c5 ma mb sl l B) {b : Nat} (hb : PW ma mb c5 sl b) : b < w.heap.size := by
 rcases hb with rfl | rfl | rfl | hb
 ·exact h.am.lt
 ·exact h.bm.lt
 ·exact h.a5.lt
 ·exact h.ls.lt hb
theorem SaysAt.ext {X : NP} {n : Nat} (h : SaysAt w k p c1 c2 c3 c4 c5 ma mb L G S F FP sl l B) (hE : Ext X w w') (hn : ∀ b, X b → n ≤ b) (z1 : ∀ b, PW ma mb c5 sl b → b < n ∨ ¬ X b) (zc : c1.block < n ∧ c2.block < n ∧ c3.block < n ∧ c4.block < n) (zF : ∀ b, F b → b < n) (zP : ∀ b, FP b → b < n) : SaysAt w' k p c1 c2 c3 c4 c5 ma mb L G S F FP sl l B := by
 have hx : ∀ b, b < n → ¬ X b := fun b hb hX => by have := hn b hX; omega
 exact ⟨h.prf.ext hE (fun b hb => (z1 b hb).elim (hx b) id) (hx _ zc.1) (hx _ zc.2.1) (hx _ zc.2.2.1) (hx _ zc.2.2.2), h.know.ext hE (fun b hb => hx b (zF b hb)), h.pool.ext hE (fun b hb => hx b (zP b hb)), h.dF, h.dP⟩
theorem SaysAt.pure (h : SaysAt w k p c1 c2 c3 c4 c5 ma mb L G S F FP sl l B) (E : Pure w w') : SaysAt w' k p c1 c2 c3 c4 c5 ma mb L G S F FP sl l B :=
 ⟨h.prf.ext E (fun _ _ h => h) (fun h => h) (fun h => h) (fun h => h) (fun h => h), h.know.pure E, h.pool.pure E, h.dF, h.dP⟩
theorem SaysAt.zc (h : SaysAt w k p c1 c2 c3 c4 c5 ma mb L G S F FP sl l B) : c1.block < w.heap.size ∧ c2.block < w.heap.size ∧ c3.block < w.heap.size ∧ c4.block < w.heap.size :=
 ⟨World.block_lt_of_cell? w _ h.prf.a1, World.block_lt_of_cell? w _ h.prf.a2, World.block_lt_of_cell? w _ h.prf.a3, World.block_lt_of_cell? w _ h.prf.a4⟩
theorem PrfAt.bar (h : PrfAt w k c1 c2 c3 c4 c5 ma mb sl l B) (t : Int) : ∃ w', (Instr.mapUpdate 153 (.map (some mb)) (.int .i64 t) (.bool true)).run Tryz.prog w = .ok () w' ∧ (∃ B', (B' = B ∨ B' = B ++ [t]) ∧ PrfAt w' k c1 c2 c3 c4 c5 ma mb sl l B') ∧ Ext (· = mb) w w' := by
 have hd := h.d mb (.inr (.inl rfl))
 have back : ∀ {w' : World} {B' : List Int}, IMap tru w' mb (bmap B') → Ext (· = mb) w w' → PrfAt w' k c1 c2 c3 c4 c5 ma mb sl l B' := fun hI hE =>
  ⟨hE.cell h.a1 (fun e => hd.1 e.symm), hE.cell h.a2 (fun e => hd.2.1 e.symm), hE.cell h.a3 (fun e => hd.2.2.1 e.symm), hE.cell h.a4 (fun e => hd.2.2.2 e.symm), h.a5.ext hE (fun e => h.n3 e.symm), h.am.ext hE h.n1, hI, h.ls.ext hE (fun b hb e => h.n5 (e ▸ hb)), h.d, h.n1, h.n2, h.n3, h.n4, h.n5, h.n6⟩
 cases hl : SE.look (bmap B) t with
 | none =>
  obtain ⟨w', h1, h2, h3⟩ := h.bm.put (P := Tryz.prog) (T := 153) Tryz.underlying153 Tryz.underlying30 hl ()
  exact ⟨w', h1, ⟨_, .inr rfl, back (by rw [bmap_snoc]; exact h2) h3⟩, h3⟩
 | some v =>
  cases v
  obtain ⟨w', h1, h2, h3⟩ := h.bm.again (P := Tryz.prog) (T := 153) Tryz.underlying153 Tryz.underlying30 hl
  exact ⟨w', h1, ⟨_, .inl rfl, back h2 h3⟩, h3⟩
theorem PrfAt.barred (h : PrfAt w k c1 c2 c3 c4 c5 ma mb sl l B) (t : Int) : (Instr.lookup 153 (.map (some mb)) (.int .i64 t) false).run Tryz.prog w = .ok (.bool (decide (t ∈ B))) w := by
 rcases h.bm.get (P := Tryz.prog) (T := 153) Tryz.underlying153 Tryz.underlying30 (Tryz.zeroValue4 _) t false with ⟨h1, h2⟩ | ⟨v, h1, h2⟩
 ·have hn : t ∉ B := by have := look_none.1 h1; rwa [bmap_keys] at this
  rw [decide_eq_false hn]; exact h2
 ·have hy : t ∈ B := by have := look_mem h1; rw [← bmap_keys B]; exact List.mem_map.2 ⟨_, this, rfl⟩
  rw [decide_eq_true hy]; exact h2
end
structure SaysRet (w0 : World) (k p : Addr) (c1 c2 c3 c4 c5 : Addr) (ma mb : Nat) (L : Sp.Pool) (G : List Int) (S : List Sp.Way) (F FP : NP) (sl : Sl) (l : List Sp.Step) (t r : Int) (ok : Bool) (w' : World) (sl' : Sl) (M : List Sp.Step) (B' : List Int) : Prop where
 st : SaysAt w' k p c1 c2 c3 c4 c5 ma mb L G S F FP sl' (l ++ M) B'
 prf : Sp.PrfOk L G (fun x => x ∈ Sp.wkeys S) (l ++ M) B'
 new : ∀ s ∈ M, Sp.rank S s.t ≤ Sp.rank S t ∧ (Sp.Sub L t s.t ∨ s.t ∈ Sp.wkeys S)
 idx : ok = true → ∃ i, r = ((i : Nat) : Int) ∧ ∃ hi : i < (l ++ M).length, (l ++ M)[i].t = t
 drv : ok = true ↔ Sp.Drv L (fun x => x ∈ Sp.wkeys S) t
 ext : Ext (PW ma mb c5 sl) w0 w'
 own : ∀ b, sl'.blk b → sl.blk b ∨ w0.heap.size ≤ b
 last : ok = true → M = [] ∨ Sp.tAt (l ++ M) (((l ++ M).length : Int) - 1) = t
 dp : ∀ s ∈ M, Sp.Dp L S t s.t
 cl : ∀ s ∈ M, ∀ y, Sp.Dep L S s.t y → y ∈ (l ++ M).map Sp.Step.t
structure SaysCur (w0 : World) (H : NP) (w : World) (k p : Addr) (c1 c2 c3 c4 c5 : Addr) (ma mb : Nat) (L : Sp.Pool) (G : List Int) (S : List Sp.Way) (F FP : NP) (sl : Sl) (l : List Sp.Step) (t : Int) (sl1 : Sl) (M B : _) : Prop where
 st : SaysAt w k p c1 c2 c3 c4 c5 ma mb L G S F FP sl1 (l ++ M) B
 prf : Sp.PrfOk L G (fun x => x ∈ Sp.wkeys S) (l ++ M) B
 new : ∀ s ∈ M, Sp.rank S s.t < Sp.rank S t ∧ (Sp.Sub L t s.t ∨ s.t ∈ Sp.wkeys S)
 ext : Ext (PW ma mb c5 sl) w0 w
 own : ∀ b, sl1.blk b → sl.blk b ∨ w0.heap.size ≤ b
 vis : ∀ b, sl1.blk b → ¬ H b
 hs : Hst w0 H w H w
 dp : ∀ s ∈ M, Sp.Dp L S t s.t
 cl : ∀ s ∈ M, ∀ y, Sp.Dep L S s.t y → y ∈ (l ++ M).map Sp.Step.t
section
variable {w0 w w' : World} {H H' : NP} {k p c1 c2 c3 c4 c5 : Addr} {ma mb : Nat} {L : Sp.Pool} {G : List Int} {S : List Sp.Way} {F FP : NP} {sl sl1 sl2 : Sl} {l M M2 : List Sp.Step} {B0 B B2 : List Int} {t : Int}
theorem PW.old (h : SaysAt w0 k p c1 c2 c3 c4 c5 ma mb L G S F FP sl l B0) (ho : ∀ b, sl1.blk b → sl.blk b ∨ w0.heap.size ≤ b) : ∀ b, PW ma mb c5 sl1 b → b < w0.heap.size → PW ma mb c5 sl b := by
 rintro b (hb | hb | hb | hb) hlt
 ·exact .inl hb
 ·exact .inr (.inl hb)
 ·exact .inr (.inr (.inl hb))
 ·exact (ho b hb).elim (fun h => .inr (.inr (.inr h))) (fun h => by omega)
theorem SaysCur.nh (h : SaysCur w0 H w k p c1 c2 c3 c4 c5 ma mb L G S F FP sl l t sl1 M B) (h0 : SaysAt w0 k p c1 c2 c3 c4 c5 ma mb L G S F FP sl l B0) : ∀ b, PW ma mb c5 sl1 b → ¬ H b := by
 have old : ∀ b, b < w0.heap.size → ¬ H b := fun b hb hh => by have := h.hs.old b hh; omega
 rintro b (rfl | rfl | rfl | hb)
 ·exact old _ (h0.prf.lt (.inl rfl))
 ·exact old _ (h0.prf.lt (.inr (.inl rfl)))
 ·exact old _ (h0.prf.lt (.inr (.inr (.inl rfl))))
 ·exact h.vis b hb
theorem SaysCur.hst (h : SaysCur w0 H w k p c1 c2 c3 c4 c5 ma mb L G S F FP sl l t sl1 M B) (h0 : SaysAt w0 k p c1 c2 c3 c4 c5 ma mb L G S F FP sl l B0) (hs : Hst w0 H w H' w') : SaysCur w0 H' w' k p c1 c2 c3 c4 c5 ma mb L G S F FP sl l t sl1 M B := by
 have dj := hs.disj (G := PW ma mb c5 sl1) (fun b hb => ⟨h.st.prf.lt hb, h.nh h0 b hb⟩)
 exact ⟨h.st.ext hs.ext hs.old (fun b hb => .inr (dj b hb)) h0.zc (fun b hb => h0.know.lt hb) (fun b hb => h0.pool.lt hb), h.prf, h.new, h.ext.hst hs, h.own, fun b hb => dj b (.inr (.inr (.inr hb))), hs.here, h.dp, h.cl⟩
theorem SaysCur.step {u r : Int} {ok : Bool} (h : SaysCur w0 H w k p c1 c2 c3 c4 c5 ma mb L G S F FP sl l t sl1 M B) (h0 : SaysAt w0 k p c1 c2 c3 c4 c5 ma mb L G S F FP sl l B0) (hr : SaysRet w k p c1 c2 c3 c4 c5 ma mb L G S F FP sl1 (l ++ M) u r ok w' sl2 M2 B2) (hu : Sp.rank S u < Sp.rank S t) (hsub : Sp.Sub L t u ∨ u ∈ Sp.wkeys S) (hcl : ∀ x, u ∈ Sp.wkeys S → Sp.rank S x ≤ Sp.rank S u → x ∈ Sp.wkeys S) (hdep : Sp.Dep L S t u) :
  Kept H w w' ∧ SaysCur w0 H w' k p c1 c2 c3 c4 c5 ma mb L G S F FP sl l t sl2 (M ++ M2) B2 := by
 have hk : Kept H w w' := hr.ext.kept (fun b hb hx => h.nh h0 b hx hb)
 refine ⟨hk, by rw [← List.append_assoc]; exact hr.st, by rw [← List.append_assoc]; exact hr.prf, fun s hs => ?_, h.ext.trans' hr.ext (fun i hi hb => PW.old h0 h.own i hb hi), fun b hb => ?_, fun b hb hh => ?_, h.hs.again hk, fun s hs => ?_, fun s hs y hy => ?_⟩
 ·rcases List.mem_append.1 hs with hs | hs
  ·exact h.new s hs
  ·obtain ⟨q1, q2⟩ := hr.new s hs
   refine ⟨by omega, ?_⟩
   rcases q2 with q2 | q2
   ·rcases hsub with h1 | h1
    ·exact .inl (h1.trans q2)
    ·exact .inr (hcl _ h1 q1)
   ·exact .inr q2
 ·rcases hr.own b hb with h1 | h1
  ·exact h.own b h1
  ·right; have := h.ext.size; omega
 ·rcases hr.own b hb with h1 | h1
  ·exact h.vis b h1 hh
  ·have := h.hs.lt b hh; omega
 ·rcases List.mem_append.1 hs with hs | hs
  ·exact h.dp s hs
  ·exact .step hdep (hr.dp s hs)
 ·rw [← List.append_assoc]
  rcases List.mem_append.1 hs with hs | hs
  ·rw [List.map_append]; exact List.mem_append_left _ (h.cl s hs y hy)
  ·exact hr.cl s hs y hy
end
theorem rank_seen_le {S : List Sp.Way} {u x : Int} (hu : u ∈ Sp.wkeys S) (h : Sp.rank S x ≤ Sp.rank S u) : x ∈ Sp.wkeys S := by
 refine Classical.byContradiction fun hx => ?_
 have := Sp.rank_seen hu
 rw [Sp.rank_un hx] at h
 omega
end Go.Proofs
end
