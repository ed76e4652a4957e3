import Derived.Test.YtodiipjdnnnieaaGreatProg
import Derived.KernelRfl
import Derived.Test.YtodiipjdnnnieaaGreatPa3
import Derived.Test.YtodiipjdnnnieaaGreatPa4
import Derived.Test.YtodiipjdnnnieaaGreatPa6
import Derived.Test.YtodiipjdnnnieaaGreatPa5
section
open Go Go.SE
open Go.IntKind renaming i64 → q6
namespace Go.Proofs
set_option maxRecDepth 100000
set_option maxHeartbeats 4000000
attribute [local irreducible] wpL wpX opE wpE Calls
def m_L1_l1 (bB bH:Sl) (i1:Int) (Hl1:NP) (wl1:World) (Kc1:Int→NP→WP) (K:Bool→WP):Prop :=
 Br (decide (i1<(bB.len:Int)))
  (∃C1:WP,C1 wl1.drew∧∀w12,w12=wl1.drew →
  ∃a1:Addr,At bB i1 6 a1 ∧
  ∃aO aP:Int,∃aQ aR:Int,∃aS:ByteArray,∃bI:Sl,(∀w',C1 w'→Row w' a1 [(vi aO),(vi aP),(vi aQ),(vu aR),(vs aS),bI.v]) ∧
  ∃a2:Addr,At bH i1 6 a2 ∧
  ∃bO bP:Int,∃bQ bR:Int,∃bS:ByteArray,∃bT:Sl,(∀w',C1 w'→Row w' a2 [(vi bO),(vi bP),(vi bQ),(vu bR),(vs bS),bT.v]) ∧
  Calls Tryz.prog 47 #[(.agg #[(vi aO),(vi aP),(vi aQ),(vu aR),(vs aS),bI.v]),(.agg #[(vi bO),(vi bP),(vi bQ),(vu bR),(vs bS),bT.v])] w12 (fun e w13=>∃r1:Bool,e=.returned (vb r1)∧C1 w13∧
   Kept Hl1 w12 w13 ∧
   Br (!r1)
    (K false w13)
    (Kc1 (q6.wrap (i1+1)) Hl1 w13)))
  (K true wl1)
def m_L1 (aX aZ:Int) (bC bF:Int) (bK:ByteArray) (bB:Sl) (aY bA:Int) (bD bG:Int) (bL:ByteArray) (bH:Sl) (w0:World) (K:Bool→WP):Prop :=
 ∀y1:Bool,y1=((((((aX != aY) || (aZ != bA)) || (bC != bD)) || (bF != bG)) || (!(decide (bK=bL)))) || (((bB.len:Int):Int) != (bH.len:Int))) →
 Br y1
  (∀(H7:NP) (w7:World),Hst w0 None w0 H7 w7 →
  K false w7)
  (∀(H7:NP) (w7:World),Hst w0 None w0 H7 w7 →
  ∃(I1:Int→NP→WP) (mu1:Int→World→Nat),I1 0 H7 w7 ∧
   ∀(i1:Int) (Hl1:NP) (wl1:World),Hst w0 Hl1 wl1 Hl1 wl1→I1 i1 Hl1 wl1→m_L1_l1 bB bH i1 Hl1 wl1 (fun y'0 H' w'=>I1 y'0 H' w'∧mu1 y'0 w'<mu1 i1 wl1) K)
theorem w_L1 (aX aZ : Int) (bC bF : Int) (bK : ByteArray) (bB : Sl) (aY bA : Int) (bD bG : Int) (bL : ByteArray) (bH : Sl) (w0 : World) (K : Bool → WP) (h : m_L1 aX aZ bC bF bK bB aY bA bD bG bL bH w0 K) :
  Calls Tryz.prog 47 #[(.agg #[(vi aX),(vi aZ),(vi bC),(vu bF),(vs bK),bB.v]),(.agg #[(vi aY),(vi bA),(vi bD),(vu bG),(vs bL),bH.v])] w0 (fun e w'=>∃r2:Bool,e=.returned (vb r2)∧K r2 w'):=by
 unfold m_L1 at h
 refine cw (args:=[(.agg #[(vi aX),(vi aZ),(vi bC),(vu bF),(vs bK),bB.v]),(.agg #[(vi aY),(vi bA),(vi bD),(vu bG),(vs bL),bH.v])]) Tryz.func47 Tryz.ntmps47 ?_
 have hs:=Hst.start w0
 have hb:=HB.nil None w0
 refine eg (sn (O:=(.cells #[(vi aX),(vi aZ),(vi bC),(vu bF),(vs bK),bB.v] 107)) xb ?_)
 intro p1 w1 hn1
 obtain ⟨H1,hs,hb⟩:=hs.alloc hb hn1
 refine sn (O:=(.cells #[(vi aY),(vi bA),(vi bD),(vu bG),(vs bL),bH.v] 107)) xb ?_
 intro p2 w2 hn2
 obtain ⟨H2,hs,hb⟩:=hs.alloc hb hn2
 refine q0 (vb false) (ln (wpE_seq (wpE_seq ?_)))
 refine wpE_via (fun ρ wJ=>∃b5'0 y1:Bool,∃HJ:NP,((((((aX != aY) || (aZ != bA)) || (bC != bD)) || (bF != bG)) || (!(decide (bK=bL))))=b5'0)∧(y1=(b5'0 || (((bB.len:Int):Int) != (bH.len:Int))))∧Hst w0 None w0 HJ wJ∧HB HJ wJ [(p2,[(vi aY),(vi bA),(vi bD),(vu bG),(vs bL),bH.v],107),(p1,[(vi aX),(vi aZ),(vi bC),(vu bF),(vs bK),bB.v],107)]∧Has ρ [(2,(vp (some p1))),(3,(vp (some p2))),(47,(vb y1))]) ?_ ?_
 refine rg (q0 (vp (some p1)) (q2 (vi aX) (xl (Tryz.isAgg3 _) (hb.c0 1 (gS gZ))) (q0 (vp (some p2)) (q2 (vi aY) (xl (Tryz.isAgg3 _) (hb.c0 0 gZ)) (q0 (vb (aX != aY)) (q0 (vb (aX != aY)) ?_))))))
 refine wpL_join 6 (fun ρ wJ=>∃b6'0:Bool,∃HJ:NP,((aX != aY)=b6'0)∧Hst w0 None w0 HJ wJ∧HB HJ wJ [(p2,[(vi aY),(vi bA),(vi bD),(vu bG),(vs bL),bH.v],107),(p1,[(vi aX),(vi aZ),(vi bC),(vu bF),(vs bK),bB.v],107)]∧Has ρ [(2,(vp (some p1))),(3,(vp (some p2))),(17,(vb (b6'0 || (aZ != bA))))]) ?_ ?_
 rintro ρ w8 ⟨b6'0,H8,he0,hs,hb,hH⟩
 subst he0
 refine wpL_has hH ?_
 refine q0 (vb ((aX != aY) || (aZ != bA))) ?_
 refine wpL_join 6 (fun ρ wJ=>∃b7'0:Bool,∃HJ:NP,(((aX != aY) || (aZ != bA))=b7'0)∧Hst w0 None w0 HJ wJ∧HB HJ wJ [(p2,[(vi aY),(vi bA),(vi bD),(vu bG),(vs bL),bH.v],107),(p1,[(vi aX),(vi aZ),(vi bC),(vu bF),(vs bK),bB.v],107)]∧Has ρ [(2,(vp (some p1))),(3,(vp (some p2))),(24,(vb (b7'0 || (bC != bD))))]) ?_ ?_
 rintro ρ w9 ⟨b7'0,H9,he0,hs,hb,hH⟩
 subst he0
 refine wpL_has hH ?_
 refine q0 (vb (((aX != aY) || (aZ != bA)) || (bC != bD))) ?_
 refine wpL_join 6 (fun ρ wJ=>∃b8'0:Bool,∃HJ:NP,((((aX != aY) || (aZ != bA)) || (bC != bD))=b8'0)∧Hst w0 None w0 HJ wJ∧HB HJ wJ [(p2,[(vi aY),(vi bA),(vi bD),(vu bG),(vs bL),bH.v],107),(p1,[(vi aX),(vi aZ),(vi bC),(vu bF),(vs bK),bB.v],107)]∧Has ρ [(2,(vp (some p1))),(3,(vp (some p2))),(31,(vb (b8'0 || (bF != bG))))]) ?_ ?_
 rintro ρ w10 ⟨b8'0,H10,he0,hs,hb,hH⟩
 subst he0
 refine wpL_has hH ?_
 refine q0 (vb ((((aX != aY) || (aZ != bA)) || (bC != bD)) || (bF != bG))) ?_
 refine wpL_join 6 (fun ρ wJ=>∃b9'0:Bool,∃HJ:NP,(((((aX != aY) || (aZ != bA)) || (bC != bD)) || (bF != bG))=b9'0)∧Hst w0 None w0 HJ wJ∧HB HJ wJ [(p2,[(vi aY),(vi bA),(vi bD),(vu bG),(vs bL),bH.v],107),(p1,[(vi aX),(vi aZ),(vi bC),(vu bF),(vs bK),bB.v],107)]∧Has ρ [(2,(vp (some p1))),(3,(vp (some p2))),(38,(vb (b9'0 || (!(decide (bK=bL))))))]) ?_ ?_
 rintro ρ w11 ⟨b9'0,H11,he0,hs,hb,hH⟩
 subst he0
 refine wpL_has hH ?_
 refine q0 (vb (((((aX != aY) || (aZ != bA)) || (bC != bD)) || (bF != bG)) || (!(decide (bK=bL))))) ?_
 rcases Bool.eq_false_or_eq_true (((((aX != aY) || (aZ != bA)) || (bC != bD)) || (bF != bG)) || (!(decide (bK=bL)))) with hg18 | hg18
 refine sk (yD 39 hg18) (sk (yD 39 hg18) (sk (yD 39 hg18) (sk (yD 39 hg18) (sk (yD 39 hg18) (sk (yD 39 hg18) (sk (yD 39 hg18) (q2 (vb true) (xT hg18) (ln ?_))))))))
 exact ⟨true,_,_,hg18,rfl,hs,hb,hm⟩
 refine q1 (vp (some (p1.add 5))) (wy 39 hg18) (stp (v:=bB.v) (wy 39 hg18) (xl (Tryz.isAgg66 _) (hb.c 1 5 (gS gZ))) (q1 (vi (bB.len:Int)) (wy 39 hg18) (q1 (vp (some (p2.add 5))) (wy 39 hg18) (stp (v:=bH.v) (wy 39 hg18) (xl (Tryz.isAgg66 _) (hb.c 0 5 gZ)) (q1 (vi (bH.len:Int)) (wy 39 hg18) (q1 (vb (((bB.len:Int):Int) != (bH.len:Int))) (wy 39 hg18) (q2 (vb (((bB.len:Int):Int) != (bH.len:Int))) (xF hg18) (ln ?_))))))))
 exact ⟨false,_,_,hg18,rfl,hs,hb,hm⟩
 rcases Bool.eq_false_or_eq_true ((((aX != aY) || (aZ != bA)) || (bC != bD)) || (bF != bG)) with hg17 | hg17
 refine sk (yD 32 hg17) (sk (yD 32 hg17) (sk (yD 32 hg17) (sk (yD 32 hg17) (sk (yD 32 hg17) (q2 (vb true) (xT hg17) (wpL_nil ?_))))))
 exact ⟨true,_,hg17,hs,hb,hm⟩
 refine q1 (vp (some (p1.add 4))) (wy 32 hg17) (stp (v:=(vs bK)) (wy 32 hg17) (xl (Tryz.isAgg9 _) (hb.c 1 4 (gS gZ))) (q1 (vp (some (p2.add 4))) (wy 32 hg17) (stp (v:=(vs bL)) (wy 32 hg17) (xl (Tryz.isAgg9 _) (hb.c 0 4 gZ)) (stp (v:=(vb (!(decide (bK=bL))))) (wy 32 hg17) (x_strneq (by kernel_rfl) (by kernel_rfl)) (q2 (vb (!(decide (bK=bL)))) (xF hg17) (wpL_nil ?_))))))
 exact ⟨false,_,hg17,hs,hb,hm⟩
 rcases Bool.eq_false_or_eq_true (((aX != aY) || (aZ != bA)) || (bC != bD)) with hg15 | hg15
 refine sk (yD 25 hg15) (sk (yD 25 hg15) (sk (yD 25 hg15) (sk (yD 25 hg15) (sk (yD 25 hg15) (q2 (vb true) (xT hg15) (wpL_nil ?_))))))
 exact ⟨true,_,hg15,hs,hb,hm⟩
 refine q1 (vp (some (p1.add 3))) (wy 25 hg15) (stp (v:=(vu bF)) (wy 25 hg15) (xl (Tryz.isAgg23 _) (hb.c 1 3 (gS gZ))) (q1 (vp (some (p2.add 3))) (wy 25 hg15) (stp (v:=(vu bG)) (wy 25 hg15) (xl (Tryz.isAgg23 _) (hb.c 0 3 gZ)) (q1 (vb (bF != bG)) (wy 25 hg15) (q2 (vb (bF != bG)) (xF hg15) (wpL_nil ?_))))))
 exact ⟨false,_,hg15,hs,hb,hm⟩
 rcases Bool.eq_false_or_eq_true ((aX != aY) || (aZ != bA)) with hg13 | hg13
 refine sk (yD 18 hg13) (sk (yD 18 hg13) (sk (yD 18 hg13) (sk (yD 18 hg13) (sk (yD 18 hg13) (q2 (vb true) (xT hg13) (wpL_nil ?_))))))
 exact ⟨true,_,hg13,hs,hb,hm⟩
 refine q1 (vp (some (p1.add 2))) (wy 18 hg13) (stp (v:=(vi bC)) (wy 18 hg13) (xl (Tryz.isAgg3 _) (hb.c 1 2 (gS gZ))) (q1 (vp (some (p2.add 2))) (wy 18 hg13) (stp (v:=(vi bD)) (wy 18 hg13) (xl (Tryz.isAgg3 _) (hb.c 0 2 gZ)) (q1 (vb (bC != bD)) (wy 18 hg13) (q2 (vb (bC != bD)) (xF hg13) (wpL_nil ?_))))))
 exact ⟨false,_,hg13,hs,hb,hm⟩
 rcases Bool.eq_false_or_eq_true (aX != aY) with hg11 | hg11
 refine sk (yD 11 hg11) (sk (yD 11 hg11) (sk (yD 11 hg11) (sk (yD 11 hg11) (sk (yD 11 hg11) (q2 (vb true) (xT hg11) (wpL_nil ?_))))))
 exact ⟨true,_,hg11,hs,hb,hm⟩
 refine q1 (vp (some (p1.add 1))) (wy 11 hg11) (stp (v:=(vi aZ)) (wy 11 hg11) (xl (Tryz.isAgg3 _) (hb.c 1 1 (gS gZ))) (q1 (vp (some (p2.add 1))) (wy 11 hg11) (stp (v:=(vi bA)) (wy 11 hg11) (xl (Tryz.isAgg3 _) (hb.c 0 1 gZ)) (q1 (vb (aZ != bA)) (wy 11 hg11) (q2 (vb (aZ != bA)) (xF hg11) (wpL_nil ?_))))))
 exact ⟨false,_,hg11,hs,hb,hm⟩
 rintro ρ w7 ⟨b5'0,y1,H7,he0,hy1,hs,hb,hH⟩
 subst he0
 have h:=h y1 hy1
 refine norm_has hH ?_
 refine th_n ?_
 refine wpE_cond (t:=y1) (by kernel_rfl) (fun hc1=>?_) (fun hc1=>?_)
 have h:=h.1 hc1
 refine eg (q0 (vb false) (ln (er (th_r ?_))))
 have h:=h H7 w7 hs
 have hs:=hs.here
 refine rs1 Tryz.results47 (v:=(vb false)) ?_
 exact ⟨false,rfl,h⟩
 have h:=h.2 hc1
 refine wpE_skip (th_n (wpE_seq (eg (q0 (vi 0) (ln (wpE_block ?_))))))
 have h:=h H7 w7 hs
 have hs:=hs.here
 obtain ⟨I1,mu1,h0,hr⟩:=h
 refine wpE_loop (σ:=Int×NP×World) (fun s ρ w=>w=s.2.2∧Has ρ [(2,(vp (some p1))),(3,(vp (some p2))),(5,(vi s.1))]∧Hst w0 s.2.1 w s.2.1 w∧HB s.2.1 w [(p2,[(vi aY),(vi bA),(vi bD),(vu bG),(vs bL),bH.v],107),(p1,[(vi aX),(vi aZ),(vi bC),(vu bF),(vs bK),bB.v],107)]∧I1 s.1 s.2.1 s.2.2) (fun s=>mu1 s.1 s.2.2) (0,H7,w7) ⟨rfl,hm,hs,hb,h0⟩ ?_
 rintro ⟨i1,Hl1,wl1⟩ ρ w ⟨hw,hH,hs,hb,hI⟩
 obtain rfl:wl1=w:=(show w=wl1 from hw).symm
 have hH:Has ρ [(2,(vp (some p1))),(3,(vp (some p2))),(5,(vi i1))]:=hH
 have hs:Hst w0 Hl1 wl1 Hl1 wl1:=hs
 have hb:HB Hl1 wl1 [(p2,[(vi aY),(vi bA),(vi bD),(vu bG),(vs bL),bH.v],107),(p1,[(vi aX),(vi aZ),(vi bC),(vu bF),(vs bK),bB.v],107)]:=hb
 have h:=hr i1 Hl1 wl1 hs hI
 unfold m_L1_l1 at h
 refine wpE_has hH ?_
 refine wpE_seq (eg (q0 (vi i1) (q0 (vp (some (p1.add 5))) (q2 bB.v (xl (Tryz.isAgg66 _) (hb.c 1 5 (gS gZ))) (q0 (vi (bB.len:Int)) (q0 (vb (decide (i1<(bB.len:Int)))) (ln ?_)))))))
 refine wpE_cond (t:=(decide (i1<(bB.len:Int)))) (by kernel_rfl) (fun hc2=>?_) (fun hc2=>?_)
 have h:=h.1 hc2
 refine wpE_skip (th_n (wpE_seq (wpE_block (wpE_seq ?_))))
 obtain ⟨C1,hC,h⟩:=h
 refine wpE_drawnC (fun x=>C1 x∧HB Hl1 x [(p2,[(vi aY),(vi bA),(vi bD),(vu bG),(vs bL),bH.v],107),(p1,[(vi aX),(vi aZ),(vi bC),(vu bF),(vs bK),bB.v],107)]) [10] [] (by kernel_rfl) (by kernel_rfl) (by kernel_rfl) (by kernel_rfl) ⟨hC,hb.drew⟩ ?_
 intro w12 hw12
 have h:=h w12 hw12
 have hs:Hst w0 Hl1 wl1 Hl1 w12:=by rw [hw12];exact hs.drew
 have hb:HB Hl1 w12 [(p2,[(vi aY),(vi bA),(vi bD),(vu bG),(vs bL),bH.v],107),(p1,[(vi aX),(vi aZ),(vi bC),(vu bF),(vs bK),bB.v],107)]:=by rw [hw12];exact hb.drew
 have hs:=hs.here
 refine qx 0 (vp (some (p1.add 5))) Kp0 (qz 1 bB.v Kp1 (fun w' hw'=>(xl (Tryz.isAgg66 _) (hw'.2.cell 1 5 (gS gZ) (by kernel_rfl)))) (qx 2 (vi i1) Kp2 (qg 3 ?_)))
 obtain ⟨a1,hv4,h⟩:=h
 refine sy (v:=(vp (some a1))) Kp3 (fun _ _=>(xi (Tryz.runUnderlying66 _) (Tryz.sizeOf107 _) hv4)) (qg 4 ?_)
 obtain ⟨aO,aP,aQ,aR,aS,bI,hv3,h⟩:=h
 refine sy (v:=(.agg #[(vi aO),(vi aP),(vi aQ),(vu aR),(vs aS),bI.v])) Kp4 (fun w' hw'=>(xa a1 [(vi aO),(vi aP),(vi aQ),(vu aR),(vs aS),bI.v] (Tryz.isAgg107 _) (Tryz.sizeOf107 _) (hv3 w' hw'.1))) (qx 5 (vp (some (p2.add 5))) Kp5 (qz 6 bH.v Kp6 (fun w' hw'=>(xl (Tryz.isAgg66 _) (hw'.2.cell 0 5 gZ (by kernel_rfl)))) (qx 7 (vi i1) Kp7 (qg 8 ?_))))
 obtain ⟨a2,hv2,h⟩:=h
 refine sy (v:=(vp (some a2))) Kp8 (fun _ _=>(xi (Tryz.runUnderlying66 _) (Tryz.sizeOf107 _) hv2)) (qg 9 ?_)
 obtain ⟨bO,bP,bQ,bR,bS,bT,hv1,h⟩:=h
 refine sy (v:=(.agg #[(vi bO),(vi bP),(vi bQ),(vu bR),(vs bS),bT.v])) Kp9 (fun w' hw'=>(xa a2 [(vi bO),(vi bP),(vi bQ),(vu bR),(vs bS),bT.v] (Tryz.isAgg107 _) (Tryz.sizeOf107 _) (hv1 w' hw'.1))) (lg 10 ?_)
 refine sl_call (pickA (S8 (pickS (pickS pickZ)))) (want0 rfl) (by kernel_rfl) (xc Tryz.call47) (h.mono ?_)
 rintro e w13 ⟨r1,rfl,hC,hk,h⟩
 refine ⟨_,rfl,.inr ⟨hC,hb.kept hk⟩,?_⟩
 obtain ⟨hs,hb⟩:=hk.hh hs hb
 refine qx 11 (vb (!r1)) (pickA (S8 (pickS (pickS (pickS pickZ))))) (wn (th_n ?_))
 refine wpE_cond (t:=(!r1)) (by kernel_rfl) (fun hc3=>?_) (fun hc3=>?_)
 have h:=h.1 hc3
 refine eg (q0 (vb false) (ln (er (bl_r (th_r (th_r (bl_r (th_r (rs1 Tryz.results47 (v:=(vb false)) ?_)))))))))
 exact ⟨false,rfl,h⟩
 have h:=h.2 hc3
 refine wpE_skip (bl_n (th_n (rg (q0 (vi i1) (q0 (vi (q6.wrap (i1+1))) (q0 (vi (q6.wrap (i1+1))) (ln ?_)))))))
 exact ⟨((q6.wrap (i1+1)),Hl1,w13),⟨rfl,hm,hs,hb,h.1⟩,h.2⟩
 have h:=h.2 hc2
 refine wpE_exit (th_x (th_x (bl_eq (th_n (eg (q0 (vb true) (ln (er (rs1 Tryz.results47 (v:=(vb true)) ?_)))))))))
 exact ⟨true,rfl,h⟩
def m_C4 (p1:Option Addr) (t1:Int) (w0:World) (K:Bool→WP):Prop :=
 Br (decide (t1≥1))
  (∃a1:Addr,p1=some a1 ∧
  ∃v1:Sl,w0.cell? a1=some v1.v ∧
  K (decide (t1≤(v1.len:Int))) w0)
  (K false w0)
theorem w_C4 (p1 : Option Addr) (t1 : Int) (w0 : World) (K : Bool → WP) (h : m_C4 p1 t1 w0 K) :
  Calls Tryz.prog 87 #[(vp p1),(vi t1)] w0 (fun e w'=>∃r1:Bool,e=.returned (vb r1)∧K r1 w'):=by
 unfold m_C4 at h
 refine cw (args:=[(vp p1),(vi t1)]) Tryz.func87 Tryz.ntmps87 (eg (q0 (vb false) (ln (eg (q0 (vi t1) (q0 (vb (decide (t1≥1))) (q0 (vb (decide (t1≥1))) ?_)))))))
 rcases Bool.eq_false_or_eq_true (decide (t1≥1)) with hg1 | hg1
 have h:=h.1 hg1
 refine q1 (vi t1) (wy 7 hg1) (q1 (vp p1) (wy 7 hg1) ?_)
 obtain ⟨a1,hp1,h⟩:=h
 refine stp (v:=(vp (some a1))) (wy 7 hg1) (x_nilCheck (p:=p1) (by kernel_rfl) hp1) (q1 (vp (some a1)) (wy 7 hg1) ?_)
 obtain ⟨v1,hv1,h⟩:=h
 refine stp (v:=v1.v) (wy 7 hg1) (xl (Tryz.isAgg41 _) hv1) (q1 (vi (v1.len:Int)) (wy 7 hg1) (q1 (vb (decide (t1≤(v1.len:Int)))) (wy 7 hg1) (q2 (vb (decide (t1≤(v1.len:Int)))) (xT hg1) (q0 (vb (decide (t1≤(v1.len:Int)))) (ln (er (rs1 Tryz.results87 (v:=(vb (decide (t1≤(v1.len:Int))))) ?_)))))))
 exact ⟨(decide (t1≤(v1.len:Int))),rfl,h⟩
 have h:=h.2 hg1
 refine sk (yD 7 hg1) (sk (yD 7 hg1) (sk (yD 7 hg1) (sk (yD 7 hg1) (sk (yD 7 hg1) (sk (yD 7 hg1) (sk (yD 7 hg1) (q2 (vb false) (xF hg1) (q0 (vb false) (ln (er ?_))))))))))
 refine rs1 Tryz.results87 (v:=(vb false)) ?_
 exact ⟨false,rfl,h⟩
def m_D4 (p1:Option Addr) (t1:Int) (w0:World) (K:Int→Int→Int→Int→ByteArray→Int→Int→Bool→WP):Prop :=
 ∀(H1:NP) (w1:World),Hst w0 None w0 H1 w1 →
 Calls Tryz.prog 87 #[(vp p1),(vi t1)] w1 (fun e w2=>∃r1:Bool,e=.returned (vb r1)∧
  Kept H1 w1 w2 ∧
  Br (!r1)
   (∀(w3:World),Hst w0 H1 w2 H1 w3 →
   K 0 0 0 0 ⟨#[]⟩ 0 0 false w3)
   (∃a1:Addr,p1=some a1 ∧
   ∃v1:Sl,w2.cell? a1=some v1.v ∧
   ∃a2:Addr,At v1 (q6.wrap (t1 - 1)) 7 a2 ∧
   ∃aO aP:Int,∃aQ aR:Int,∃aS:ByteArray,∃bM bN:Int,Row w2 a2 [(vi aO),(vi aP),(vi aQ),(vu aR),(vs aS),(vi bM),(vi bN)] ∧
   ∀(w4:World),Hst w0 H1 w2 H1 w4 →
   K aO aP aQ aR aS bM bN true w4))
theorem w_D4 (p1 : Option Addr) (t1 : Int) (w0 : World) (K : Int → Int → Int → Int → ByteArray → Int → Int → Bool → WP) (h : m_D4 p1 t1 w0 K) :
  Calls Tryz.prog 104 #[(vp p1),(vi t1)] w0 (fun e w'=>∃aN aT:Int,∃aU aV:Int,∃aW:ByteArray,∃bJ bE:Int,∃r2:Bool,e=.returned (.tuple #[(.agg #[(vi aN),(vi aT),(vi aU),(vu aV),(vs aW),(vi bJ),(vi bE)]),(vb r2)])∧K aN aT aU aV aW bJ bE r2 w'):=by
 unfold m_D4 at h
 refine cw (args:=[(vp p1),(vi t1)]) Tryz.func104 Tryz.ntmps104 ?_
 have hs:=Hst.start w0
 have hb:=HB.nil None w0
 refine eg (sn (O:=(.cells #[(vi 0),(vi 0),(vi 0),(vu 0),(vs ⟨#[]⟩),(vi 0),(vi 0)] 176)) (x_alloc (Tryz.zeroValue176 _) rfl) ?_)
 intro p2 w1 hn1
 obtain ⟨H1,hs,hb⟩:=hs.alloc hb hn1
 refine q0 (vb false) (ln (wpE_seq (eg (q0 (vp p1) (q0 (vi t1) ?_)))))
 have h:=h H1 w1 hs
 have hs:=hs.here
 refine sc Tryz.call87 (h.mono ?_)
 rintro e w2 ⟨r1,rfl,hk,h⟩
 refine ⟨_,rfl,?_⟩
 obtain ⟨hs,hb⟩:=hk.hh hs hb
 refine q0 (vb (!r1)) (ln ?_)
 refine wpE_cond (t:=(!r1)) (by kernel_rfl) (fun hc1=>?_) (fun hc1=>?_)
 have h:=h.1 hc1
 refine eg (q0 (.agg #[(vi 0),(vi 0),(vi 0),(vu 0),(vs ⟨#[]⟩),(vi 0),(vi 0)]) (st_set (want0 rfl) (xo p2 [(vi 0),(vi 0),(vi 0),(vu 0),(vs ⟨#[]⟩),(vi 0),(vi 0)] (Tryz.sizeOf176 _) (hb.k0 0 7 gZ)) ?_))
 intro w3 hn2
 obtain ⟨hs,hb⟩:=hb.s0 (l':=[(p2,[(vi 0),(vi 0),(vi 0),(vu 0),(vs ⟨#[]⟩),(vi 0),(vi 0)],176)]) 0 [(vi 0),(vi 0),(vi 0),(vu 0),(vs ⟨#[]⟩),(vi 0),(vi 0)] hs hn2 gZ
 refine q0 (vb false) (ln (er (th_r ?_)))
 have h:=h w3 hs
 have hs:=hs.here
 refine resG (.inl rfl) (vs:=[(.agg #[(vi 0),(vi 0),(vi 0),(vu 0),(vs ⟨#[]⟩),(vi 0),(vi 0)]),(vb false)]) (v:=(.tuple #[(.agg #[(vi 0),(vi 0),(vi 0),(vu 0),(vs ⟨#[]⟩),(vi 0),(vi 0)]),(vb false)])) Tryz.results104 ⟨(rva (Tryz.isAgg176 _) (Tryz.sizeOf176 _) (hb.r0 0 7 gZ)),(rvT (by kernel_rfl)),trivial⟩ (by kernel_rfl) ?_
 exact ⟨0,0,0,0,⟨#[]⟩,0,0,false,rfl,h⟩
 have h:=h.2 hc1
 refine wpE_skip (th_n (eg (q0 (vp p1) ?_)))
 obtain ⟨a1,hp1,h⟩:=h
 refine q2 (vp (some a1)) (x_nilCheck (p:=p1) (by kernel_rfl) hp1) (q0 (vp (some a1)) ?_)
 obtain ⟨v1,hv3,h⟩:=h
 refine q2 v1.v (xl (Tryz.isAgg41 _) hv3) (q0 (vi t1) (q0 (vi (q6.wrap (t1 - 1))) ?_))
 obtain ⟨a2,hv2,h⟩:=h
 refine q2 (vp (some a2)) (xi (Tryz.runUnderlying41 _) (Tryz.sizeOf176 _) hv2) ?_
 obtain ⟨aO,aP,aQ,aR,aS,bM,bN,hv1,h⟩:=h
 refine q2 (.agg #[(vi aO),(vi aP),(vi aQ),(vu aR),(vs aS),(vi bM),(vi bN)]) (xa a2 [(vi aO),(vi aP),(vi aQ),(vu aR),(vs aS),(vi bM),(vi bN)] (Tryz.isAgg176 _) (Tryz.sizeOf176 _) hv1) (st_set (want0 rfl) (xo p2 [(vi aO),(vi aP),(vi aQ),(vu aR),(vs aS),(vi bM),(vi bN)] (Tryz.sizeOf176 _) (hb.k0 0 7 gZ)) ?_)
 intro w4 hn3
 obtain ⟨hs,hb⟩:=hb.s0 (l':=[(p2,[(vi aO),(vi aP),(vi aQ),(vu aR),(vs aS),(vi bM),(vi bN)],176)]) 0 [(vi aO),(vi aP),(vi aQ),(vu aR),(vs aS),(vi bM),(vi bN)] hs hn3 gZ
 refine q0 (vb true) (ln (er ?_))
 have h:=h w4 hs
 have hs:=hs.here
 refine resG (.inl rfl) (vs:=[(.agg #[(vi aO),(vi aP),(vi aQ),(vu aR),(vs aS),(vi bM),(vi bN)]),(vb true)]) (v:=(.tuple #[(.agg #[(vi aO),(vi aP),(vi aQ),(vu aR),(vs aS),(vi bM),(vi bN)]),(vb true)])) Tryz.results104 ⟨(rva (Tryz.isAgg176 _) (Tryz.sizeOf176 _) (hb.r0 0 7 gZ)),(rvT (by kernel_rfl)),trivial⟩ (by kernel_rfl) ?_
 exact ⟨aO,aP,aQ,aR,aS,bM,bN,true,rfl,h⟩
def s_C (kind1:Int):Int :=
 (cond (kind1 == 4) 2 (cond (cond (kind1 == 5) (kind1 == 5) (cond (kind1 == 7) (kind1 == 7) (cond (kind1 == 8) (kind1 == 8) (kind1 == 9)))) 1 0))
theorem pw_C (kind1 : Int) (w0 : World) :
  Calls Tryz.prog 105 #[(vi kind1)] w0 (fun e w'=>∃b'0 b'1:Bool,((kind1 == 4)=b'0∧(cond (kind1 == 5) (kind1 == 5) (cond (kind1 == 7) (kind1 == 7) (cond (kind1 == 8) (kind1 == 8) (kind1 == 9))))=b'1)∧(e=.returned (vi (cond b'0 2 (cond b'1 1 0))))∧Pure w0 w'):=by
 refine cw (args:=[(vi kind1)]) Tryz.func105 Tryz.ntmps105 (eg (q0 (vi 0) (ln (wpE_seq (eg (q0 (vi kind1) (ln ?_)))))))
 refine wpE_block (eg (q0 (vb (kind1 == 4)) (q0 (vb (kind1 == 4)) (ln ?_))))
 refine wpE_cond (t:=(kind1 == 4)) (by kernel_rfl) (fun hc1=>?_) (fun hc1=>?_)
 refine eg (q0 (vi 2) (ln (er (bl_r (th_r (rs1 Tryz.results105 (v:=(vi 2)) ?_))))))
 exact ⟨true,_,⟨hc1,rfl⟩,by kernel_rfl,Ext.refl _⟩
 refine wpE_seq (eg (q0 (vb (kind1 == 5)) (q0 (vb (kind1 == 5)) (ln ?_))))
 refine wpE_via (fun ρ wJ=>∃b1'0 b1'1 b1'2:Bool,((kind1 == 5)=b1'0)∧((kind1 == 7)=b1'1)∧((kind1 == 8)=b1'2)∧w0=wJ∧Has ρ [(6,(vb (cond b1'0 (kind1 == 5) (cond b1'1 (kind1 == 7) (cond b1'2 (kind1 == 8) (kind1 == 9))))))]) ?_ ?_
 refine wpE_cond (t:=(kind1 == 5)) (by kernel_rfl) (fun hc5=>?_) (fun hc5=>?_)
 refine wpE_skip (th_n ?_)
 exact ⟨true,_,_,hc5,rfl,rfl,rfl,hm⟩
 refine eg (q0 (vb (kind1 == 7)) (q0 (vb (kind1 == 7)) (ln ?_)))
 refine wpE_cond (t:=(kind1 == 7)) (by kernel_rfl) (fun hc6=>?_) (fun hc6=>?_)
 refine wpE_skip (th_n ?_)
 exact ⟨false,true,_,hc5,hc6,rfl,rfl,hm⟩
 refine eg (q0 (vb (kind1 == 8)) (q0 (vb (kind1 == 8)) (ln ?_)))
 refine wpE_cond (t:=(kind1 == 8)) (by kernel_rfl) (fun hc7=>?_) (fun hc7=>?_)
 refine wpE_skip (th_n ?_)
 exact ⟨false,false,true,hc5,hc6,hc7,rfl,hm⟩
 refine rg (q0 (vb (kind1 == 9)) (q0 (vb (kind1 == 9)) (ln ?_)))
 exact ⟨false,false,false,hc5,hc6,hc7,rfl,hm⟩
 rintro ρ w1 ⟨b1'0,b1'1,b1'2,he0,he1,he2,hw,hH⟩
 subst he0
 subst he1
 subst he2
 subst hw
 refine norm_has hH ?_
 refine th_n ?_
 refine wpE_cond (t:=(cond (kind1 == 5) (kind1 == 5) (cond (kind1 == 7) (kind1 == 7) (cond (kind1 == 8) (kind1 == 8) (kind1 == 9))))) (by kernel_rfl) (fun hc8=>?_) (fun hc8=>?_)
 refine eg (q0 (vi 1) (ln (er (bl_r (th_r (rs1 Tryz.results105 (v:=(vi 1)) ?_))))))
 exact ⟨false,true,⟨hc1,hc8⟩,by kernel_rfl,Ext.refl _⟩
 refine wpE_skip (bl_n (th_n (eg (q0 (vi 0) (ln (er (rs1 Tryz.results105 (v:=(vi 0)) ?_)))))))
 exact ⟨false,false,⟨hc1,hc8⟩,by kernel_rfl,Ext.refl _⟩
theorem p_C (kind1:Int) (w0:World):Calls Tryz.prog 105 #[(.int .i64 kind1)] w0 (fun e w'=>e=.returned (.int .i64 (s_C kind1))∧Pure w0 w'):=by
 refine (pw_C kind1 w0).mono ?_
 rintro e w' ⟨b'0,b'1,⟨e0,e1⟩,h,E⟩
 subst e0
 subst e1
 exact ⟨h,E⟩
def m_Z_j1 (p1:Option Addr) (aN bE:Int) (aE aI:Int) (aJ aK:Int) (aL:ByteArray) (aH:Sl) (w0:World) (H:NP) (w:World) (K:Int→Int→Int→Int→ByteArray→Sl→WP):Prop :=
 Br (((s_C aN):Int) == 2)
  (∀(w9:World),Hst w0 H w H w9 →
  ∃C1:WP,C1 w9.drew∧∀w10,w10=w9.drew →
  Calls Tryz.prog 49 #[(vp p1),(vi bE)] w10 (fun e w11=>∃bU bV:Int,∃bW bX:Int,∃bY:ByteArray,∃bZ:Sl,e=.returned (.agg #[(vi bU),(vi bV),(vi bW),(vu bX),(vs bY),bZ.v])∧C1 w11∧
   Kept H w10 w11 ∧
   ∀(p5:Addr) (w12:World),New w11 (.cells #[(vi bU),(vi bV),(vi bW),(vu bX),(vs bY),bZ.v] 107) p5 w12→C1 w12 ∧
   ∃s1:Sl,∃w13:World,(Builtin.append_ #[66,66] 66 #[aH.v,(Sl.mk (some p5) 1 1).v]).run Tryz.prog w12=.ok s1.v w13∧C1 w13 ∧
   Kept H w12 w13 ∧
   ∀(w15:World),Hst w0 H w13 H w15 →
   K aE aI aJ aK aL s1 w15))
  (∀(w16:World),Hst w0 H w H w16 →
  K aE aI aJ aK aL aH w16)
def m_Z (p1:Option Addr) (t1:Int) (w0:World) (K:Int→Int→Int→Int→ByteArray→Sl→WP):Prop :=
 ∀(H1:NP) (w1:World),Hst w0 None w0 H1 w1 →
 Calls Tryz.prog 104 #[(vp p1),(vi t1)] w1 (fun e w2=>∃aN aT:Int,∃aU aV:Int,∃aW:ByteArray,∃bJ bE:Int,∃r1:Bool,e=.returned (.tuple #[(.agg #[(vi aN),(vi aT),(vi aU),(vu aV),(vs aW),(vi bJ),(vi bE)]),(vb r1)])∧
  Kept H1 w1 w2 ∧
  Br (!r1)
   (∀(H2:NP) (w5:World),Hst w0 H1 w2 H2 w5 →
   K 0 0 0 0 ⟨#[]⟩ Sl.nil w5)
   (Br (decide ((s_C aN)≥1))
    (∀(H3:NP) (w8:World),Hst w0 H1 w2 H3 w8 →
    ∃C2:WP,C2 w8.drew∧∀w17,w17=w8.drew →
    Calls Tryz.prog 49 #[(vp p1),(vi bJ)] w17 (fun e w18=>∃cA cB:Int,∃cC cD:Int,∃cE:ByteArray,∃cF:Sl,e=.returned (.agg #[(vi cA),(vi cB),(vi cC),(vu cD),(vs cE),cF.v])∧C2 w18∧
     Kept H3 w17 w18 ∧
     ∀(p6:Addr) (w19:World),New w18 (.cells #[(vi cA),(vi cB),(vi cC),(vu cD),(vs cE),cF.v] 107) p6 w19→C2 w19 ∧
     ∃s2:Sl,∃w20:World,(Builtin.append_ #[66,66] 66 #[Sl.nil.v,(Sl.mk (some p6) 1 1).v]).run Tryz.prog w19=.ok s2.v w20∧C2 w20 ∧
     Kept H3 w19 w20 ∧
     ∀(w21:World),Hst w0 H3 w20 H3 w21 →
     m_Z_j1 p1 aN bE aN aT aU aV aW s2 w0 H3 w21 K))
    (∀(H3:NP) (w8:World),Hst w0 H1 w2 H3 w8 →
    m_Z_j1 p1 aN bE aN aT aU aV aW Sl.nil w0 H3 w8 K)))
theorem w_Z (p1 : Option Addr) (t1 : Int) (w0 : World) (K : Int → Int → Int → Int → ByteArray → Sl → WP) (h : m_Z p1 t1 w0 K) :
  Calls Tryz.prog 49 #[(vp p1),(vi t1)] w0 (fun e w'=>∃cG cH:Int,∃cI cJ:Int,∃cK:ByteArray,∃cL:Sl,e=.returned (.agg #[(vi cG),(vi cH),(vi cI),(vu cJ),(vs cK),cL.v])∧K cG cH cI cJ cK cL w'):=by
 unfold m_Z at h
 refine cw (args:=[(vp p1),(vi t1)]) Tryz.func49 Tryz.ntmps49 ?_
 have hs:=Hst.start w0
 have hb:=HB.nil None w0
 refine eg (sn (O:=(.cells #[(vi 0),(vi 0),(vi 0),(vu 0),(vs ⟨#[]⟩),Sl.nil.v] 107)) (x_alloc (Tryz.zeroValue107 _) rfl) ?_)
 intro p2 w1 hn1
 obtain ⟨H1,hs,hb⟩:=hs.alloc hb hn1
 refine ln (eg (q0 (vp p1) (q0 (vi t1) ?_)))
 have h:=h H1 w1 hs
 have hs:=hs.here
 refine sc Tryz.call104 (h.mono ?_)
 rintro e w2 ⟨aN,aT,aU,aV,aW,bJ,bE,r1,rfl,hk,h⟩
 refine ⟨_,rfl,?_⟩
 obtain ⟨hs,hb⟩:=hk.hh hs hb
 refine q0 (.tuple #[(.agg #[(vi aN),(vi aT),(vi aU),(vu aV),(vs aW),(vi bJ),(vi bE)]),(vb r1)]) (q0 (.agg #[(vi aN),(vi aT),(vi aU),(vu aV),(vs aW),(vi bJ),(vi bE)]) (q0 (vb r1) (sn (O:=(.cells #[(vi 0),(vi 0),(vi 0),(vu 0),(vs ⟨#[]⟩),(vi 0),(vi 0)] 176)) (x_alloc (Tryz.zeroValue176 _) rfl) ?_)))
 intro p3 w3 hn2
 obtain ⟨H2,hs,hb⟩:=hs.alloc hb hn2
 refine st_set (want0 rfl) (xo p3 [(vi aN),(vi aT),(vi aU),(vu aV),(vs aW),(vi bJ),(vi bE)] (Tryz.sizeOf176 _) (hb.k0 0 7 gZ)) ?_
 intro w4 hn3
 obtain ⟨hs,hb⟩:=hb.s0 (l':=[(p3,[(vi aN),(vi aT),(vi aU),(vu aV),(vs aW),(vi bJ),(vi bE)],176),(p2,[(vi 0),(vi 0),(vi 0),(vu 0),(vs ⟨#[]⟩),Sl.nil.v],107)]) 0 [(vi aN),(vi aT),(vi aU),(vu aV),(vs aW),(vi bJ),(vi bE)] hs hn3 gZ
 refine q0 (vb r1) (ln (wpE_seq (eg (q0 (vb r1) (q0 (vb (!r1)) (ln ?_))))))
 refine wpE_cond (t:=(!r1)) (by kernel_rfl) (fun hc1=>?_) (fun hc1=>?_)
 have h:=h.1 hc1
 refine eg (q0 (.agg #[(vi 0),(vi 0),(vi 0),(vu 0),(vs ⟨#[]⟩),Sl.nil.v]) (st_set (want0 rfl) (xo p2 [(vi 0),(vi 0),(vi 0),(vu 0),(vs ⟨#[]⟩),Sl.nil.v] (Tryz.sizeOf107 _) (hb.k0 1 6 (gS gZ))) ?_))
 intro w5 hn4
 obtain ⟨hs,hb⟩:=hb.s0 (l':=[(p3,[(vi aN),(vi aT),(vi aU),(vu aV),(vs aW),(vi bJ),(vi bE)],176),(p2,[(vi 0),(vi 0),(vi 0),(vu 0),(vs ⟨#[]⟩),Sl.nil.v],107)]) 1 [(vi 0),(vi 0),(vi 0),(vu 0),(vs ⟨#[]⟩),Sl.nil.v] hs hn4 (gS gZ)
 refine ln (er (th_r ?_))
 have h:=h H2 w5 hs
 have hs:=hs.here
 refine resG (.inl rfl) (vs:=[(.agg #[(vi 0),(vi 0),(vi 0),(vu 0),(vs ⟨#[]⟩),Sl.nil.v])]) (v:=(.agg #[(vi 0),(vi 0),(vi 0),(vu 0),(vs ⟨#[]⟩),Sl.nil.v])) Tryz.results49 ⟨(rva (Tryz.isAgg107 _) (Tryz.sizeOf107 _) (hb.r0 1 6 (gS gZ))),trivial⟩ (by kernel_rfl) ?_
 exact ⟨0,0,0,0,⟨#[]⟩,Sl.nil,rfl,h⟩
 have h:=h.2 hc1
 refine wpE_skip (th_n (eg (q0 (vp (some p3)) (q2 (vi aN) (xl (Tryz.isAgg3 _) (hb.c0 0 gZ)) (q0 (vp (some (p3.add 1))) (q2 (vi aT) (xl (Tryz.isAgg3 _) (hb.c 0 1 gZ)) (q0 (vp (some (p3.add 2))) (q2 (vi aU) (xl (Tryz.isAgg3 _) (hb.c 0 2 gZ)) (q0 (vp (some (p3.add 3))) (q2 (vu aV) (xl (Tryz.isAgg23 _) (hb.c 0 3 gZ)) ?_))))))))))
 refine q0 (vp (some (p3.add 4))) (q2 (vs aW) (xl (Tryz.isAgg9 _) (hb.c 0 4 gZ)) (q0 (.agg #[(vi aN),(vi aT),(vi aU),(vu aV),(vs aW),Sl.nil.v]) (sn (O:=(.cells #[(vi 0),(vi 0),(vi 0),(vu 0),(vs ⟨#[]⟩),Sl.nil.v] 107)) (x_alloc (Tryz.zeroValue107 _) rfl) ?_)))
 intro p4 w6 hn5
 obtain ⟨H3,hs,hb⟩:=hs.alloc hb hn5
 refine st_set (want0 rfl) (xo p4 [(vi aN),(vi aT),(vi aU),(vu aV),(vs aW),Sl.nil.v] (Tryz.sizeOf107 _) (hb.k0 0 6 gZ)) ?_
 intro w7 hn6
 obtain ⟨hs,hb⟩:=hb.s0 (l':=[(p4,[(vi aN),(vi aT),(vi aU),(vu aV),(vs aW),Sl.nil.v],107),(p3,[(vi aN),(vi aT),(vi aU),(vu aV),(vs aW),(vi bJ),(vi bE)],176),(p2,[(vi 0),(vi 0),(vi 0),(vu 0),(vs ⟨#[]⟩),Sl.nil.v],107)]) 0 [(vi aN),(vi aT),(vi aU),(vu aV),(vs aW),Sl.nil.v] hs hn6 gZ
 refine ln (wpE_seq (eg (q0 (vp (some p3)) (q2 (vi aN) (xl (Tryz.isAgg3 _) (hb.c0 1 (gS gZ))) ?_))))
 refine sc Tryz.call105 ((p_C aN w7).mono ?_)
 rintro e w8 ⟨he,hE⟩
 refine ⟨(vi (s_C aN)),he.trans (by kernel_rfl),?_⟩
 have hs:=hs.pure hE
 have hb:=hb.pure hE
 refine q0 (vb (decide ((s_C aN)≥1))) (ln ?_)
 refine wpE_joinT (fun ρ w=>∃aE aI:Int,∃aJ aK:Int,∃aL:ByteArray,∃aH:Sl,∃H:NP,Has ρ [(0,(vp p1)),(4,(vp (some p2))),(5,(vp (some p3))),(7,(vp (some p4)))]∧Hst w0 H w H w∧HB H w [(p4,[(vi aE),(vi aI),(vi aJ),(vu aK),(vs aL),aH.v],107),(p3,[(vi aN),(vi aT),(vi aU),(vu aV),(vs aW),(vi bJ),(vi bE)],176),(p2,[(vi 0),(vi 0),(vi 0),(vu 0),(vs ⟨#[]⟩),Sl.nil.v],107)]∧m_Z_j1 p1 aN bE aE aI aJ aK aL aH w0 H w K) ?_ ?_
 rintro ρ w ⟨aE,aI,aJ,aK,aL,aH,H,hH,hs,hb,h⟩
 unfold m_Z_j1 at h
 refine wpE_has hH ?_
 refine wpE_seq (eg (q0 (vp (some p3)) (q2 (vi aN) (xl (Tryz.isAgg3 _) (hb.c0 1 (gS gZ))) ?_)))
 refine sc Tryz.call105 ((p_C aN w).mono ?_)
 rintro e w9 ⟨he,hE⟩
 refine ⟨(vi (s_C aN)),he.trans (by kernel_rfl),?_⟩
 have hs:=hs.pure hE
 have hb:=hb.pure hE
 refine q0 (vb (((s_C aN):Int) == 2)) (ln ?_)
 refine wpE_cond (t:=(((s_C aN):Int) == 2)) (by kernel_rfl) (fun hc2=>?_) (fun hc2=>?_)
 have h:=h.1 hc2
 have h:=h w9 hs
 have hs:=hs.here
 obtain ⟨C1,hC,h⟩:=h
 refine wpE_drawnC (fun x=>C1 x∧HB H x [(p4,[(vi aE),(vi aI),(vi aJ),(vu aK),(vs aL),aH.v],107),(p3,[(vi aN),(vi aT),(vi aU),(vu aV),(vs aW),(vi bJ),(vi bE)],176),(p2,[(vi 0),(vi 0),(vi 0),(vu 0),(vs ⟨#[]⟩),Sl.nil.v],107)]) [5,6,7,9] [9] (by kernel_rfl) (by kernel_rfl) (by kernel_rfl) (by kernel_rfl) ⟨hC,hb.drew⟩ ?_
 intro w10 hw10
 have h:=h w10 hw10
 have hs:Hst w0 H w9 H w10:=by rw [hw10];exact hs.drew
 have hb:HB H w10 [(p4,[(vi aE),(vi aI),(vi aJ),(vu aK),(vs aL),aH.v],107),(p3,[(vi aN),(vi aT),(vi aU),(vu aV),(vs aW),(vi bJ),(vi bE)],176),(p2,[(vi 0),(vi 0),(vi 0),(vu 0),(vs ⟨#[]⟩),Sl.nil.v],107)]:=by rw [hw10];exact hb.drew
 have hs:=hs.here
 refine qx 0 (vp (some (p4.add 5))) Kp0 (qz 1 aH.v Kp1 (fun w' hw'=>(xl (Tryz.isAgg66 _) (hw'.2.cell 0 5 gZ (by kernel_rfl)))) (qx 2 (vp p1) Kp2 (qx 3 (vp (some (p3.add 6))) Kp3 (qz 4 (vi bE) Kp4 (fun w' hw'=>(xl (Tryz.isAgg78 _) (hw'.2.cell 1 6 (gS gZ) (by kernel_rfl)))) (lg 5 ?_)))))
 refine sl_call Kp5 (want0 rfl) (by kernel_rfl) (xc Tryz.call49) (h.mono ?_)
 rintro e w11 ⟨bU,bV,bW,bX,bY,bZ,rfl,hC,hk,h⟩
 refine ⟨_,rfl,.inr ⟨hC,hb.kept hk⟩,?_⟩
 obtain ⟨hs,hb⟩:=hk.hh hs hb
 refine lg 6 (sl_new (O:=(.cells #[(vi bU),(vi bV),(vi bW),(vu bX),(vs bY),bZ.v] 107)) (fun p=>(Sl.mk (some p) 1 1).v) Kp6 (want0 rfl) (by kernel_rfl) (x_buildSlice (vs:=#[(0,(.agg #[(vi bU),(vi bV),(vi bW),(vu bX),(vs bY),bZ.v]))]) (by kernel_rfl) (by kernel_rfl)) ?_)
 intro p5 w12 hn9
 have h:=h p5 w12 hn9
 refine ⟨.inr ⟨h.1,hb.kept (Ext.new (F:=None) hn9).keptP⟩,?_⟩
 have h:=h.2
 have hs:=hs.again (Ext.new (F:=None) hn9).keptP
 have hb:=hb.kept (Ext.new (F:=None) hn9).keptP
 refine lg 7 ?_
 obtain ⟨s1,w13,hv1,hC,hk,h⟩:=h
 refine sl (v:=s1.v) Kp7 (want0 rfl) (by kernel_rfl) (x_builtin (args:=#[aH.v,(Sl.mk (some p5) 1 1).v]) (by kernel_rfl) (fun _=>rfl) hv1) (.inr ⟨hC,hb.kept hk⟩) ?_
 obtain ⟨hs,hb⟩:=hk.hh hs hb
 refine qx 8 (vp (some (p4.add 5))) Kp8 (lg 9 (sl_t Kp9 (xs (v:=s1.v) (Tryz.sizeOf66 _) (hb.canW 0 5 gZ (by kernel_rfl))) ?_))
 intro w14 hn7
 have hsb:Hst w0 H w13 H w14∧HB H w14 [(p4,[(vi aE),(vi aI),(vi aJ),(vu aK),(vs aL),s1.v],107),(p3,[(vi aN),(vi aT),(vi aU),(vu aV),(vs aW),(vi bJ),(vi bE)],176),(p2,[(vi 0),(vi 0),(vi 0),(vu 0),(vs ⟨#[]⟩),Sl.nil.v],107)]:=by
  rw [hn7]
  exact hb.set (i:=0) 5 (v:=s1.v) hs gZ (by kernel_rfl)
 obtain ⟨hs,hb⟩:=hsb
 refine ⟨.inl (by kernel_rfl),?_⟩
 refine wn (th_n (eg (q2 (.agg #[(vi aE),(vi aI),(vi aJ),(vu aK),(vs aL),s1.v]) (xa p4 [(vi aE),(vi aI),(vi aJ),(vu aK),(vs aL),s1.v] (Tryz.isAgg107 _) (Tryz.sizeOf107 _) (hb.r0 0 6 gZ)) (st_set (want0 rfl) (xo p2 [(vi aE),(vi aI),(vi aJ),(vu aK),(vs aL),s1.v] (Tryz.sizeOf107 _) (hb.k0 2 6 (gS (gS gZ)))) ?_))))
 intro w15 hn8
 obtain ⟨hs,hb⟩:=hb.s0 (l':=[(p4,[(vi aE),(vi aI),(vi aJ),(vu aK),(vs aL),s1.v],107),(p3,[(vi aN),(vi aT),(vi aU),(vu aV),(vs aW),(vi bJ),(vi bE)],176),(p2,[(vi aE),(vi aI),(vi aJ),(vu aK),(vs aL),s1.v],107)]) 2 [(vi aE),(vi aI),(vi aJ),(vu aK),(vs aL),s1.v] hs hn8 (gS (gS gZ))
 refine ln (er ?_)
 have h:=h w15 hs
 have hs:=hs.here
 refine resG (.inl rfl) (vs:=[(.agg #[(vi aE),(vi aI),(vi aJ),(vu aK),(vs aL),s1.v])]) (v:=(.agg #[(vi aE),(vi aI),(vi aJ),(vu aK),(vs aL),s1.v])) Tryz.results49 ⟨(rva (Tryz.isAgg107 _) (Tryz.sizeOf107 _) (hb.r0 2 6 (gS (gS gZ)))),trivial⟩ (by kernel_rfl) ?_
 exact ⟨aE,aI,aJ,aK,aL,s1,rfl,h⟩
 have h:=h.2 hc2
 refine wpE_skip (th_n (eg (q2 (.agg #[(vi aE),(vi aI),(vi aJ),(vu aK),(vs aL),aH.v]) (xa p4 [(vi aE),(vi aI),(vi aJ),(vu aK),(vs aL),aH.v] (Tryz.isAgg107 _) (Tryz.sizeOf107 _) (hb.r0 0 6 gZ)) (st_set (want0 rfl) (xo p2 [(vi aE),(vi aI),(vi aJ),(vu aK),(vs aL),aH.v] (Tryz.sizeOf107 _) (hb.k0 2 6 (gS (gS gZ)))) ?_))))
 intro w16 hn10
 obtain ⟨hs,hb⟩:=hb.s0 (l':=[(p4,[(vi aE),(vi aI),(vi aJ),(vu aK),(vs aL),aH.v],107),(p3,[(vi aN),(vi aT),(vi aU),(vu aV),(vs aW),(vi bJ),(vi bE)],176),(p2,[(vi aE),(vi aI),(vi aJ),(vu aK),(vs aL),aH.v],107)]) 2 [(vi aE),(vi aI),(vi aJ),(vu aK),(vs aL),aH.v] hs hn10 (gS (gS gZ))
 refine ln (er ?_)
 have h:=h w16 hs
 have hs:=hs.here
 refine resG (.inl rfl) (vs:=[(.agg #[(vi aE),(vi aI),(vi aJ),(vu aK),(vs aL),aH.v])]) (v:=(.agg #[(vi aE),(vi aI),(vi aJ),(vu aK),(vs aL),aH.v])) Tryz.results49 ⟨(rva (Tryz.isAgg107 _) (Tryz.sizeOf107 _) (hb.r0 2 6 (gS (gS gZ)))),trivial⟩ (by kernel_rfl) ?_
 exact ⟨aE,aI,aJ,aK,aL,aH,rfl,h⟩
 refine wpE_cond (t:=(decide ((s_C aN)≥1))) (by kernel_rfl) (fun hc3=>?_) (fun hc3=>?_)
 have h:=h.1 hc3
 have h:=h H3 w8 hs
 have hs:=hs.here
 obtain ⟨C2,hC,h⟩:=h
 refine wpE_drawnC (fun x=>C2 x∧HB H3 x [(p4,[(vi aN),(vi aT),(vi aU),(vu aV),(vs aW),Sl.nil.v],107),(p3,[(vi aN),(vi aT),(vi aU),(vu aV),(vs aW),(vi bJ),(vi bE)],176),(p2,[(vi 0),(vi 0),(vi 0),(vu 0),(vs ⟨#[]⟩),Sl.nil.v],107)]) [5,6,7,9] [9] (by kernel_rfl) (by kernel_rfl) (by kernel_rfl) (by kernel_rfl) ⟨hC,hb.drew⟩ ?_
 intro w17 hw17
 have h:=h w17 hw17
 have hs:Hst w0 H3 w8 H3 w17:=by rw [hw17];exact hs.drew
 have hb:HB H3 w17 [(p4,[(vi aN),(vi aT),(vi aU),(vu aV),(vs aW),Sl.nil.v],107),(p3,[(vi aN),(vi aT),(vi aU),(vu aV),(vs aW),(vi bJ),(vi bE)],176),(p2,[(vi 0),(vi 0),(vi 0),(vu 0),(vs ⟨#[]⟩),Sl.nil.v],107)]:=by rw [hw17];exact hb.drew
 have hs:=hs.here
 refine qx 0 (vp (some (p4.add 5))) Kp0 (qz 1 Sl.nil.v Kp1 (fun w' hw'=>(xl (Tryz.isAgg66 _) (hw'.2.cell 0 5 gZ (by kernel_rfl)))) (qx 2 (vp p1) Kp2 (qx 3 (vp (some (p3.add 5))) Kp3 (qz 4 (vi bJ) Kp4 (fun w' hw'=>(xl (Tryz.isAgg78 _) (hw'.2.cell 1 5 (gS gZ) (by kernel_rfl)))) (lg 5 ?_)))))
 refine sl_call Kp5 (want0 rfl) (by kernel_rfl) (xc Tryz.call49) (h.mono ?_)
 rintro e w18 ⟨cA,cB,cC,cD,cE,cF,rfl,hC,hk,h⟩
 refine ⟨_,rfl,.inr ⟨hC,hb.kept hk⟩,?_⟩
 obtain ⟨hs,hb⟩:=hk.hh hs hb
 refine lg 6 (sl_new (O:=(.cells #[(vi cA),(vi cB),(vi cC),(vu cD),(vs cE),cF.v] 107)) (fun p=>(Sl.mk (some p) 1 1).v) Kp6 (want0 rfl) (by kernel_rfl) (x_buildSlice (vs:=#[(0,(.agg #[(vi cA),(vi cB),(vi cC),(vu cD),(vs cE),cF.v]))]) (by kernel_rfl) (by kernel_rfl)) ?_)
 intro p6 w19 hn12
 have h:=h p6 w19 hn12
 refine ⟨.inr ⟨h.1,hb.kept (Ext.new (F:=None) hn12).keptP⟩,?_⟩
 have h:=h.2
 have hs:=hs.again (Ext.new (F:=None) hn12).keptP
 have hb:=hb.kept (Ext.new (F:=None) hn12).keptP
 refine lg 7 ?_
 obtain ⟨s2,w20,hv2,hC,hk,h⟩:=h
 refine sl (v:=s2.v) Kp7 (want0 rfl) (by kernel_rfl) (x_builtin (args:=#[Sl.nil.v,(Sl.mk (some p6) 1 1).v]) (by kernel_rfl) (fun _=>rfl) hv2) (.inr ⟨hC,hb.kept hk⟩) ?_
 obtain ⟨hs,hb⟩:=hk.hh hs hb
 refine qx 8 (vp (some (p4.add 5))) Kp8 (lg 9 (sl_t Kp9 (xs (v:=s2.v) (Tryz.sizeOf66 _) (hb.canW 0 5 gZ (by kernel_rfl))) ?_))
 intro w21 hn11
 have hsb:Hst w0 H3 w20 H3 w21∧HB H3 w21 [(p4,[(vi aN),(vi aT),(vi aU),(vu aV),(vs aW),s2.v],107),(p3,[(vi aN),(vi aT),(vi aU),(vu aV),(vs aW),(vi bJ),(vi bE)],176),(p2,[(vi 0),(vi 0),(vi 0),(vu 0),(vs ⟨#[]⟩),Sl.nil.v],107)]:=by
  rw [hn11]
  exact hb.set (i:=0) 5 (v:=s2.v) hs gZ (by kernel_rfl)
 obtain ⟨hs,hb⟩:=hsb
 refine ⟨.inl (by kernel_rfl),?_⟩
 refine wn ?_
 have h:=h w21 hs
 have hs:=hs.here
 refine th_n ?_
 exact ⟨aN,aT,aU,aV,aW,s2,H3,hm,hs,hb,h⟩
 have h:=h.2 hc3
 refine wpE_skip ?_
 have h:=h H3 w8 hs
 have hs:=hs.here
 refine th_n ?_
 exact ⟨aN,aT,aU,aV,aW,Sl.nil,H3,hm,hs,hb,h⟩
def m_E4  (w0:World) (K:(Option Addr)→WP):Prop :=
 ∀(p1:Addr) (w1:World),New w0 (.cells #[Sl.nil.v,Sl.nil.v,Sl.nil.v] 44) p1 w1 →
 K (some p1) w1
theorem w_E4  (w0 : World) (K : (Option Addr) → WP) (h : m_E4  w0 K) :
  Calls Tryz.prog 63 #[] w0 (fun e w'=>∃r1:Option Addr,e=.returned (vp r1)∧K r1 w'):=by
 unfold m_E4 at h
 refine cw (args:=[]) Tryz.func63 Tryz.ntmps63 (eg (q0 (vp none) (ln (eg (q0 (.agg #[Sl.nil.v,Sl.nil.v,Sl.nil.v]) (sn (O:=(.cells #[Sl.nil.v,Sl.nil.v,Sl.nil.v] 44)) xb ?_))))))
 intro p1 w1 hn1
 have h:=h p1 w1 hn1
 refine q0 (vp (some p1)) (ln (er (rs1 Tryz.results63 (v:=(vp (some p1))) ?_)))
 exact ⟨(some p1),rfl,h⟩
def m_M1_l1 (aH:Sl) (most1 n1 i1:Int) (w0:World) (Hl1:NP) (wl1:World) (Kc1:Int→Int→NP→WP) (K:Int→WP):Prop :=
 Br ((decide (i1<(aH.len:Int))) && (decide (n1≤most1)))
  (∃a1:Addr,At aH i1 6 a1 ∧
  ∀(H2:NP) (w2:World),Hst w0 Hl1 wl1 H2 w2 →
  ∃aO aP:Int,∃aQ aR:Int,∃aS:ByteArray,∃bI:Sl,Row w2 a1 [(vi aO),(vi aP),(vi aQ),(vu aR),(vs aS),bI.v] ∧
  Calls Tryz.prog 75 #[(.agg #[(vi aO),(vi aP),(vi aQ),(vu aR),(vs aS),bI.v]),(vi (q6.wrap (most1 - n1)))] w2 (fun e w3=>∃r1:Int,e=.returned (vi r1)∧
   Kept H2 w2 w3 ∧
   Kc1 (q6.wrap (n1+r1)) (q6.wrap (i1+1)) H2 w3))
  (∀(H2:NP) (w2:World),Hst w0 Hl1 wl1 H2 w2 →
  K n1 w2)
def m_M1 (aE aI:Int) (aJ aK:Int) (aL:ByteArray) (aH:Sl) (most1:Int) (w0:World) (K:Int→WP):Prop :=
 ∀(H1:NP) (w1:World),Hst w0 None w0 H1 w1 →
 ∃(I1:Int→Int→NP→WP) (mu1:Int→Int→World→Nat),I1 1 0 H1 w1 ∧
  ∀(n1 i1:Int) (Hl1:NP) (wl1:World),Hst w0 Hl1 wl1 Hl1 wl1→I1 n1 i1 Hl1 wl1→m_M1_l1 aH most1 n1 i1 w0 Hl1 wl1 (fun y'0 y'1 H' w'=>I1 y'0 y'1 H' w'∧mu1 y'0 y'1 w'<mu1 n1 i1 wl1) K
theorem w_M1 (aE aI : Int) (aJ aK : Int) (aL : ByteArray) (aH : Sl) (most1 : Int) (w0 : World) (K : Int → WP) (h : m_M1 aE aI aJ aK aL aH most1 w0 K) :
  Calls Tryz.prog 75 #[(.agg #[(vi aE),(vi aI),(vi aJ),(vu aK),(vs aL),aH.v]),(vi most1)] w0 (fun e w'=>∃r2:Int,e=.returned (vi r2)∧K r2 w'):=by
 unfold m_M1 at h
 refine cw (args:=[(.agg #[(vi aE),(vi aI),(vi aJ),(vu aK),(vs aL),aH.v]),(vi most1)]) Tryz.func75 Tryz.ntmps75 ?_
 have hs:=Hst.start w0
 have hb:=HB.nil None w0
 refine eg (sn (O:=(.cells #[(vi aE),(vi aI),(vi aJ),(vu aK),(vs aL),aH.v] 107)) xb ?_)
 intro p1 w1 hn1
 obtain ⟨H1,hs,hb⟩:=hs.alloc hb hn1
 refine q0 (vi 0) (ln (eg (q0 (vi 1) (ln (wpE_seq (eg (q0 (vi 0) ?_)))))))
 refine ln (wpE_block ?_)
 have h:=h H1 w1 hs
 have hs:=hs.here
 obtain ⟨I1,mu1,h0,hr⟩:=h
 refine wpE_loop (σ:=Int×Int×NP×World) (fun s ρ w=>w=s.2.2.2∧Has ρ [(1,(vi most1)),(2,(vp (some p1))),(5,(vi s.1)),(6,(vi s.2.1))]∧Hst w0 s.2.2.1 w s.2.2.1 w∧HB s.2.2.1 w [(p1,[(vi aE),(vi aI),(vi aJ),(vu aK),(vs aL),aH.v],107)]∧I1 s.1 s.2.1 s.2.2.1 s.2.2.2) (fun s=>mu1 s.1 s.2.1 s.2.2.2) (1,0,H1,w1) ⟨rfl,hm,hs,hb,h0⟩ ?_
 rintro ⟨n1,i1,Hl1,wl1⟩ ρ w ⟨hw,hH,hs,hb,hI⟩
 obtain rfl:wl1=w:=(show w=wl1 from hw).symm
 have hH:Has ρ [(1,(vi most1)),(2,(vp (some p1))),(5,(vi n1)),(6,(vi i1))]:=hH
 have hs:Hst w0 Hl1 wl1 Hl1 wl1:=hs
 have hb:HB Hl1 wl1 [(p1,[(vi aE),(vi aI),(vi aJ),(vu aK),(vs aL),aH.v],107)]:=hb
 have h:=hr n1 i1 Hl1 wl1 hs hI
 unfold m_M1_l1 at h
 refine wpE_has hH ?_
 refine wpE_seq (wpE_seq ?_)
 refine wpE_via (fun ρ wJ=>∃b1'0:Bool,∃HJ:NP,((decide (i1<(aH.len:Int)))=b1'0)∧Hst w0 Hl1 wl1 HJ wJ∧HB HJ wJ [(p1,[(vi aE),(vi aI),(vi aJ),(vu aK),(vs aL),aH.v],107)]∧Has ρ [(1,(vi most1)),(2,(vp (some p1))),(5,(vi n1)),(6,(vi i1)),(16,(vb (b1'0 && (decide (n1≤most1)))))]) ?_ ?_
 refine rg (q0 (vi i1) (q0 (vp (some (p1.add 5))) (q2 aH.v (xl (Tryz.isAgg66 _) (hb.c 0 5 gZ)) (q0 (vi (aH.len:Int)) (q0 (vb (decide (i1<(aH.len:Int)))) (q0 (vb (decide (i1<(aH.len:Int)))) ?_))))))
 rcases Bool.eq_false_or_eq_true (decide (i1<(aH.len:Int))) with hg2 | hg2
 refine q1 (vi n1) (wy 12 hg2) (q1 (vi most1) (wy 12 hg2) (q1 (vb (decide (n1≤most1))) (wy 12 hg2) (q2 (vb (decide (n1≤most1))) (xT hg2) (ln ?_))))
 exact ⟨true,_,hg2,hs,hb,hm⟩
 refine sk (yD 12 hg2) (sk (yD 12 hg2) (sk (yD 12 hg2) (q2 (vb false) (xF hg2) (ln ?_))))
 exact ⟨false,_,hg2,hs,hb,hm⟩
 rintro ρ w2 ⟨b1'0,H2,he0,hs,hb,hH⟩
 subst he0
 refine norm_has hH ?_
 refine th_n ?_
 refine wpE_cond (t:=((decide (i1<(aH.len:Int))) && (decide (n1≤most1)))) (by kernel_rfl) (fun hc1=>?_) (fun hc1=>?_)
 have h:=h.1 hc1
 refine wpE_skip (th_n (wpE_seq (wpE_block (rg (q0 (vi n1) (q0 (vp (some (p1.add 5))) (q2 aH.v (xl (Tryz.isAgg66 _) (hb.c 0 5 gZ)) (q0 (vi i1) ?_))))))))
 obtain ⟨a1,hv2,h⟩:=h
 refine q2 (vp (some a1)) (xi (Tryz.runUnderlying66 _) (Tryz.sizeOf107 _) hv2) ?_
 have h:=h H2 w2 hs
 have hs:=hs.here
 obtain ⟨aO,aP,aQ,aR,aS,bI,hv1,h⟩:=h
 refine q2 (.agg #[(vi aO),(vi aP),(vi aQ),(vu aR),(vs aS),bI.v]) (xa a1 [(vi aO),(vi aP),(vi aQ),(vu aR),(vs aS),bI.v] (Tryz.isAgg107 _) (Tryz.sizeOf107 _) hv1) (q0 (vi most1) (q0 (vi n1) (q0 (vi (q6.wrap (most1 - n1))) ?_)))
 refine sc Tryz.call75 (h.mono ?_)
 rintro e w3 ⟨r1,rfl,hk,h⟩
 refine ⟨_,rfl,?_⟩
 obtain ⟨hs,hb⟩:=hk.hh hs hb
 refine q0 (vi (q6.wrap (n1+r1))) (q0 (vi (q6.wrap (n1+r1))) (wpL_nil (bl_n (th_n (rg (q0 (vi i1) (q0 (vi (q6.wrap (i1+1))) (q0 (vi (q6.wrap (i1+1))) (ln ?_)))))))))
 exact ⟨((q6.wrap (n1+r1)),(q6.wrap (i1+1)),H2,w3),⟨rfl,hm,hs,hb,h.1⟩,h.2⟩
 have h:=h.2 hc1
 refine wpE_exit (th_x (th_x (bl_eq (th_n (eg (q0 (vi n1) (q0 (vi n1) (ln (er ?_)))))))))
 have h:=h H2 w2 hs
 have hs:=hs.here
 refine rs1 Tryz.results75 (v:=(vi n1)) ?_
 exact ⟨n1,rfl,h⟩
def s_C1 (aE aI:Int) (aJ aK:Int) (aL:ByteArray) (aH:Sl):Int×Int×Int×Int×ByteArray×Int×Int :=
 (aE,aI,aJ,aK,aL,0,0)
theorem pw_C1 (aE aI : Int) (aJ aK : Int) (aL : ByteArray) (aH : Sl) (w0 : World) :
  Calls Tryz.prog 204 #[(.agg #[(vi aE),(vi aI),(vi aJ),(vu aK),(vs aL),aH.v])] w0 (fun e w'=>(e=.returned (.agg #[(vi aE),(vi aI),(vi aJ),(vu aK),(vs aL),(vi 0),(vi 0)]))∧Pure w0 w'):=by
 refine cw (args:=[(.agg #[(vi aE),(vi aI),(vi aJ),(vu aK),(vs aL),aH.v])]) Tryz.func204 Tryz.ntmps204 ?_
 have hs:=Hst.start w0
 have hb:=HB.nil None w0
 refine eg (sn (O:=(.cells #[(vi aE),(vi aI),(vi aJ),(vu aK),(vs aL),aH.v] 107)) xb ?_)
 intro p1 w1 hn1
 obtain ⟨H1,hs,hb⟩:=hs.alloc hb hn1
 refine sn (O:=(.cells #[(vi 0),(vi 0),(vi 0),(vu 0),(vs ⟨#[]⟩),(vi 0),(vi 0)] 176)) (x_alloc (Tryz.zeroValue176 _) rfl) ?_
 intro p2 w2 hn2
 obtain ⟨H2,hs,hb⟩:=hs.alloc hb hn2
 refine ln (eg (q0 (vp (some p1)) (q2 (vi aE) (xl (Tryz.isAgg3 _) (hb.c0 1 (gS gZ))) (q0 (vp (some (p1.add 1))) (q2 (vi aI) (xl (Tryz.isAgg3 _) (hb.c 1 1 (gS gZ))) (q0 (vp (some (p1.add 2))) (q2 (vi aJ) (xl (Tryz.isAgg3 _) (hb.c 1 2 (gS gZ))) (q0 (vp (some (p1.add 3))) (q2 (vu aK) (xl (Tryz.isAgg23 _) (hb.c 1 3 (gS gZ))) ?_)))))))))
 refine q0 (vp (some (p1.add 4))) (q2 (vs aL) (xl (Tryz.isAgg9 _) (hb.c 1 4 (gS gZ))) (q0 (.agg #[(vi aE),(vi aI),(vi aJ),(vu aK),(vs aL),(vi 0),(vi 0)]) (st_set (want0 rfl) (xo p2 [(vi aE),(vi aI),(vi aJ),(vu aK),(vs aL),(vi 0),(vi 0)] (Tryz.sizeOf176 _) (hb.k0 0 7 gZ)) ?_)))
 intro w3 hn3
 obtain ⟨hs,hb⟩:=hb.s0 (l':=[(p2,[(vi aE),(vi aI),(vi aJ),(vu aK),(vs aL),(vi 0),(vi 0)],176),(p1,[(vi aE),(vi aI),(vi aJ),(vu aK),(vs aL),aH.v],107)]) 0 [(vi aE),(vi aI),(vi aJ),(vu aK),(vs aL),(vi 0),(vi 0)] hs hn3 gZ
 refine ln (er (resG (.inl rfl) (vs:=[(.agg #[(vi aE),(vi aI),(vi aJ),(vu aK),(vs aL),(vi 0),(vi 0)])]) (v:=(.agg #[(vi aE),(vi aI),(vi aJ),(vu aK),(vs aL),(vi 0),(vi 0)])) Tryz.results204 ⟨(rva (Tryz.isAgg176 _) (Tryz.sizeOf176 _) (hb.r0 0 7 gZ)),trivial⟩ (by kernel_rfl) ?_))
 exact ⟨by kernel_rfl,(Ext.refl (F:=None) _).hst hs⟩
theorem p_C1 (aE aI:Int) (aJ aK:Int) (aL:ByteArray) (aH:Sl) (w0:World):Calls Tryz.prog 204 #[(.agg #[(.int .i64 aE),(.int .i64 aI),(.int .i64 aJ),(.int .u64 aK),(.string aL),aH.v])] w0 (fun e w'=>e=.returned (.agg #[(.int .i64 (s_C1 aE aI aJ aK aL aH).1),(.int .i64 (s_C1 aE aI aJ aK aL aH).2.1),(.int .i64 (s_C1 aE aI aJ aK aL aH).2.2.1),(.int .u64 (s_C1 aE aI aJ aK aL aH).2.2.2.1),(.string (s_C1 aE aI aJ aK aL aH).2.2.2.2.1),(.int .i64 (s_C1 aE aI aJ aK aL aH).2.2.2.2.2.1),(.int .i64 (s_C1 aE aI aJ aK aL aH).2.2.2.2.2.2)])∧Pure w0 w'):=pw_C1 aE aI aJ aK aL aH w0
def s_Z1 (kind1:Int):Bool :=
 ((kind1 == 8) || (kind1 == 9))
theorem pw_Z1 (kind1 : Int) (w0 : World) :
  Calls Tryz.prog 225 #[(vi kind1)] w0 (fun e w'=>(e=.returned (vb ((kind1 == 8) || (kind1 == 9))))∧Pure w0 w'):=by
 refine cw (args:=[(vi kind1)]) Tryz.func225 Tryz.ntmps225 (eg (q0 (vb false) (ln (wpE_seq ?_))))
 refine wpE_via (fun ρ wJ=>w0=wJ∧Has ρ [(2,(vb ((kind1 == 8) || (kind1 == 9))))]) ?_ ?_
 refine rg (q0 (vi kind1) (q0 (vb (kind1 == 8)) (q0 (vb (kind1 == 8)) ?_)))
 refine wpL_join 3 (fun ρ wJ=>∃b3'0:Bool,((kind1 == 8)=b3'0)∧w0=wJ∧Has ρ [(8,(vb (b3'0 || (kind1 == 9))))]) ?_ ?_
 rintro ρ w3 ⟨b3'0,he0,hw,hH⟩
 subst he0
 subst hw
 refine wpL_has hH ?_
 refine q0 (vb ((kind1 == 8) || (kind1 == 9))) (ln ?_)
 exact ⟨rfl,hm⟩
 rcases Bool.eq_false_or_eq_true (kind1 == 8) with hg4 | hg4
 refine sk (yD 5 hg4) (sk (yD 5 hg4) (q2 (vb true) (xT hg4) (wpL_nil ?_)))
 exact ⟨true,hg4,rfl,hm⟩
 refine q1 (vi kind1) (wy 5 hg4) (q1 (vb (kind1 == 9)) (wy 5 hg4) (q2 (vb (kind1 == 9)) (xF hg4) (wpL_nil ?_)))
 exact ⟨false,hg4,rfl,hm⟩
 rintro ρ w2 ⟨hw,hH⟩
 subst hw
 refine norm_has hH ?_
 refine th_n (er (rs1 Tryz.results225 (v:=(vb ((kind1 == 8) || (kind1 == 9)))) ?_))
 exact ⟨by kernel_rfl,Ext.refl _⟩
theorem p_Z1 (kind1:Int) (w0:World):Calls Tryz.prog 225 #[(.int .i64 kind1)] w0 (fun e w'=>e=.returned (.bool (s_Z1 kind1))∧Pure w0 w'):=pw_Z1 kind1 w0
def s_D (kind1:Int):Bool :=
 ((((kind1 == 1) || (kind1 == 6)) || (kind1 == 7)) || ((kind1 == 8) || (kind1 == 9)))
theorem pw_D (kind1 : Int) (w0 : World) :
  Calls Tryz.prog 223 #[(vi kind1)] w0 (fun e w'=>(e=.returned (vb ((((kind1 == 1) || (kind1 == 6)) || (kind1 == 7)) || ((kind1 == 8) || (kind1 == 9)))))∧Pure w0 w'):=by
 refine cw (args:=[(vi kind1)]) Tryz.func223 Tryz.ntmps223 ?_
 have hs:=Hst.start w0
 have hb:=HB.nil None w0
 refine eg (q0 (vb false) (ln (wpE_seq ?_)))
 refine wpE_via (fun ρ wJ=>∃HJ:NP,Hst w0 None w0 HJ wJ∧HB HJ wJ []∧Has ρ [(2,(vb ((((kind1 == 1) || (kind1 == 6)) || (kind1 == 7)) || ((kind1 == 8) || (kind1 == 9)))))]) ?_ ?_
 refine rg (q0 (vi kind1) (q0 (vb (kind1 == 1)) (q0 (vb (kind1 == 1)) ?_)))
 refine wpL_join 3 (fun ρ wJ=>∃b5'0:Bool,∃HJ:NP,((kind1 == 1)=b5'0)∧Hst w0 None w0 HJ wJ∧HB HJ wJ []∧Has ρ [(0,(vi kind1)),(8,(vb (b5'0 || (kind1 == 6))))]) ?_ ?_
 rintro ρ w7 ⟨b5'0,H5,he0,hs,hb,hH⟩
 subst he0
 refine wpL_has hH ?_
 refine q0 (vb ((kind1 == 1) || (kind1 == 6))) ?_
 refine wpL_join 3 (fun ρ wJ=>∃b6'0:Bool,∃HJ:NP,(((kind1 == 1) || (kind1 == 6))=b6'0)∧Hst w0 None w0 HJ wJ∧HB HJ wJ []∧Has ρ [(0,(vi kind1)),(12,(vb (b6'0 || (kind1 == 7))))]) ?_ ?_
 rintro ρ w8 ⟨b6'0,H6,he0,hs,hb,hH⟩
 subst he0
 refine wpL_has hH ?_
 refine q0 (vb (((kind1 == 1) || (kind1 == 6)) || (kind1 == 7))) ?_
 refine wpL_join 3 (fun ρ wJ=>∃b7'0:Bool,∃HJ:NP,((((kind1 == 1) || (kind1 == 6)) || (kind1 == 7))=b7'0)∧Hst w0 None w0 HJ wJ∧HB HJ wJ []∧Has ρ [(16,(vb (b7'0 || ((kind1 == 8) || (kind1 == 9)))))]) ?_ ?_
 rintro ρ w10 ⟨b7'0,H7,he0,hs,hb,hH⟩
 subst he0
 refine wpL_has hH ?_
 refine q0 (vb ((((kind1 == 1) || (kind1 == 6)) || (kind1 == 7)) || ((kind1 == 8) || (kind1 == 9)))) (ln ?_)
 exact ⟨_,hs,hb,hm⟩
 rcases Bool.eq_false_or_eq_true (((kind1 == 1) || (kind1 == 6)) || (kind1 == 7)) with hg12 | hg12
 refine sk (yD 13 hg12) (sk (yD 13 hg12) (q2 (vb true) (xT hg12) (wpL_nil ?_)))
 exact ⟨true,_,hg12,hs,hb,hm⟩
 refine q1 (vi kind1) (wy 13 hg12) ?_
 refine st_call (wy 13 hg12) (xc Tryz.call225) ((p_Z1 kind1 w8).mono ?_)
 rintro e w11 ⟨he,hE⟩
 refine ⟨(vb ((kind1 == 8) || (kind1 == 9))),he.trans (by kernel_rfl),?_⟩
 have hs:=hs.pure hE
 have hb:=hb.pure hE
 refine q2 (vb ((kind1 == 8) || (kind1 == 9))) (xF hg12) (wpL_nil ?_)
 exact ⟨false,_,hg12,hs,hb,hm⟩
 rcases Bool.eq_false_or_eq_true ((kind1 == 1) || (kind1 == 6)) with hg10 | hg10
 refine sk (yD 9 hg10) (sk (yD 9 hg10) (q2 (vb true) (xT hg10) (wpL_nil ?_)))
 exact ⟨true,_,hg10,hs,hb,hm⟩
 refine q1 (vi kind1) (wy 9 hg10) (q1 (vb (kind1 == 7)) (wy 9 hg10) (q2 (vb (kind1 == 7)) (xF hg10) (wpL_nil ?_)))
 exact ⟨false,_,hg10,hs,hb,hm⟩
 rcases Bool.eq_false_or_eq_true (kind1 == 1) with hg8 | hg8
 refine sk (yD 5 hg8) (sk (yD 5 hg8) (q2 (vb true) (xT hg8) (wpL_nil ?_)))
 exact ⟨true,_,hg8,hs,hb,hm⟩
 refine q1 (vi kind1) (wy 5 hg8) (q1 (vb (kind1 == 6)) (wy 5 hg8) (q2 (vb (kind1 == 6)) (xF hg8) (wpL_nil ?_)))
 exact ⟨false,_,hg8,hs,hb,hm⟩
 rintro ρ w6 ⟨H4,hs,hb,hH⟩
 refine norm_has hH ?_
 refine th_n (er (rs1 Tryz.results223 (v:=(vb ((((kind1 == 1) || (kind1 == 6)) || (kind1 == 7)) || ((kind1 == 8) || (kind1 == 9))))) ?_))
 exact ⟨by kernel_rfl,(Ext.refl (F:=None) _).hst hs⟩
theorem p_D (kind1:Int) (w0:World):Calls Tryz.prog 223 #[(.int .i64 kind1)] w0 (fun e w'=>e=.returned (.bool (s_D kind1))∧Pure w0 w'):=pw_D kind1 w0
def s_D1 (aA aB:Int) (aC aF:Int) (aD:ByteArray) (aG aM:Int):Bool :=
 (!((decide (aA<1)) || (decide (aA>9))) && (((((((s_D aA) || (aB == 0)) && (((aA == 8) || (aA == 9)) || (aC == 0))) && ((aA == 2) || (aF == 0))) && ((aA == 3) || (decide (aD=⟨#[]⟩)))) && ((decide ((s_C aA)≥1)) || (aG == 0))) && ((((s_C aA):Int) == 2) || (aM == 0))))
theorem pw_D1 (aA aB : Int) (aC aF : Int) (aD : ByteArray) (aG aM : Int) (w0 : World) :
  Calls Tryz.prog 222 #[(.agg #[(vi aA),(vi aB),(vi aC),(vu aF),(vs aD),(vi aG),(vi aM)])] w0 (fun e w'=>∃b'0:Bool,(((decide (aA<1)) || (decide (aA>9)))=b'0)∧(e=.returned (vb (!b'0 && (((((((s_D aA) || (aB == 0)) && (((aA == 8) || (aA == 9)) || (aC == 0))) && ((aA == 2) || (aF == 0))) && ((aA == 3) || (decide (aD=⟨#[]⟩)))) && ((decide ((s_C aA)≥1)) || (aG == 0))) && ((((s_C aA):Int) == 2) || (aM == 0))))))∧Pure w0 w'):=by
 refine cw (args:=[(.agg #[(vi aA),(vi aB),(vi aC),(vu aF),(vs aD),(vi aG),(vi aM)])]) Tryz.func222 Tryz.ntmps222 ?_
 have hs:=Hst.start w0
 have hb:=HB.nil None w0
 refine eg (sn (O:=(.cells #[(vi aA),(vi aB),(vi aC),(vu aF),(vs aD),(vi aG),(vi aM)] 176)) xb ?_)
 intro p1 w1 hn1
 obtain ⟨H1,hs,hb⟩:=hs.alloc hb hn1
 refine q0 (vb false) (ln (wpE_seq (wpE_seq ?_)))
 refine wpE_via (fun ρ wJ=>∃b1'0:Bool,∃HJ:NP,((decide (aA<1))=b1'0)∧Hst w0 None w0 HJ wJ∧HB HJ wJ [(p1,[(vi aA),(vi aB),(vi aC),(vu aF),(vs aD),(vi aG),(vi aM)],176)]∧Has ρ [(1,(vp (some p1))),(10,(vb (b1'0 || (decide (aA>9)))))]) ?_ ?_
 refine rg (q0 (vp (some p1)) (q2 (vi aA) (xl (Tryz.isAgg3 _) (hb.c0 0 gZ)) (q0 (vb (decide (aA<1))) (q0 (vb (decide (aA<1))) ?_))))
 rcases Bool.eq_false_or_eq_true (decide (aA<1)) with hg2 | hg2
 refine sk (yD 6 hg2) (sk (yD 6 hg2) (sk (yD 6 hg2) (q2 (vb true) (xT hg2) (ln ?_))))
 exact ⟨true,_,hg2,hs,hb,hm⟩
 refine q1 (vp (some p1)) (wy 6 hg2) (stp (v:=(vi aA)) (wy 6 hg2) (xl (Tryz.isAgg3 _) (hb.c0 0 gZ)) (q1 (vb (decide (aA>9))) (wy 6 hg2) (q2 (vb (decide (aA>9))) (xF hg2) (ln ?_))))
 exact ⟨false,_,hg2,hs,hb,hm⟩
 rintro ρ w2 ⟨b1'0,H2,he0,hs,hb,hH⟩
 subst he0
 refine norm_has hH ?_
 refine th_n ?_
 refine wpE_cond (t:=((decide (aA<1)) || (decide (aA>9)))) (by kernel_rfl) (fun hc1=>?_) (fun hc1=>?_)
 refine eg (q0 (vb false) (ln (er (th_r (rs1 Tryz.results222 (v:=(vb false)) ?_)))))
 exact ⟨true,hc1,by kernel_rfl,(Ext.refl (F:=None) _).hst hs⟩
 refine wpE_skip (th_n (wpE_seq ?_))
 refine wpE_via (fun ρ wJ=>∃HJ:NP,Hst w0 None w0 HJ wJ∧HB HJ wJ [(p1,[(vi aA),(vi aB),(vi aC),(vu aF),(vs aD),(vi aG),(vi aM)],176)]∧Has ρ [(2,(vb (((((((s_D aA) || (aB == 0)) && (((aA == 8) || (aA == 9)) || (aC == 0))) && ((aA == 2) || (aF == 0))) && ((aA == 3) || (decide (aD=⟨#[]⟩)))) && ((decide ((s_C aA)≥1)) || (aG == 0))) && ((((s_C aA):Int) == 2) || (aM == 0)))))]) ?_ ?_
 refine rg (q0 (vp (some p1)) (q2 (vi aA) (xl (Tryz.isAgg3 _) (hb.c0 0 gZ)) ?_))
 refine sc Tryz.call223 ((p_D aA w2).mono ?_)
 rintro e w27 ⟨he,hE⟩
 refine ⟨(vb (s_D aA)),he.trans (by kernel_rfl),?_⟩
 have hs:=hs.pure hE
 have hb:=hb.pure hE
 refine q0 (vb (s_D aA)) ?_
 refine wpL_join 4 (fun ρ wJ=>∃b19'0:Bool,∃HJ:NP,((s_D aA)=b19'0)∧Hst w0 None w0 HJ wJ∧HB HJ wJ [(p1,[(vi aA),(vi aB),(vi aC),(vu aF),(vs aD),(vi aG),(vi aM)],176)]∧Has ρ [(1,(vp (some p1))),(18,(vb (b19'0 || (aB == 0))))]) ?_ ?_
 rintro ρ w28 ⟨b19'0,H20,he0,hs,hb,hH⟩
 subst he0
 refine wpL_has hH ?_
 refine q0 (vb ((s_D aA) || (aB == 0))) ?_
 refine wpL_join 9 (fun ρ wJ=>∃b21'0:Bool,∃HJ:NP,(((s_D aA) || (aB == 0))=b21'0)∧Hst w0 None w0 HJ wJ∧HB HJ wJ [(p1,[(vi aA),(vi aB),(vi aC),(vu aF),(vs aD),(vi aG),(vi aM)],176)]∧Has ρ [(1,(vp (some p1))),(28,(vb (b21'0 && (((aA == 8) || (aA == 9)) || (aC == 0)))))]) ?_ ?_
 rintro ρ w31 ⟨b21'0,H22,he0,hs,hb,hH⟩
 subst he0
 refine wpL_has hH ?_
 refine q0 (vb (((s_D aA) || (aB == 0)) && (((aA == 8) || (aA == 9)) || (aC == 0)))) ?_
 refine wpL_join 9 (fun ρ wJ=>∃b24'0:Bool,∃HJ:NP,((((s_D aA) || (aB == 0)) && (((aA == 8) || (aA == 9)) || (aC == 0)))=b24'0)∧Hst w0 None w0 HJ wJ∧HB HJ wJ [(p1,[(vi aA),(vi aB),(vi aC),(vu aF),(vs aD),(vi aG),(vi aM)],176)]∧Has ρ [(1,(vp (some p1))),(38,(vb (b24'0 && ((aA == 2) || (aF == 0)))))]) ?_ ?_
 rintro ρ w35 ⟨b24'0,H25,he0,hs,hb,hH⟩
 subst he0
 refine wpL_has hH ?_
 refine q0 (vb ((((s_D aA) || (aB == 0)) && (((aA == 8) || (aA == 9)) || (aC == 0))) && ((aA == 2) || (aF == 0)))) ?_
 refine wpL_join 9 (fun ρ wJ=>∃b27'0:Bool,∃HJ:NP,(((((s_D aA) || (aB == 0)) && (((aA == 8) || (aA == 9)) || (aC == 0))) && ((aA == 2) || (aF == 0)))=b27'0)∧Hst w0 None w0 HJ wJ∧HB HJ wJ [(p1,[(vi aA),(vi aB),(vi aC),(vu aF),(vs aD),(vi aG),(vi aM)],176)]∧Has ρ [(1,(vp (some p1))),(48,(vb (b27'0 && ((aA == 3) || (decide (aD=⟨#[]⟩))))))]) ?_ ?_
 rintro ρ w38 ⟨b27'0,H28,he0,hs,hb,hH⟩
 subst he0
 refine wpL_has hH ?_
 refine q0 (vb (((((s_D aA) || (aB == 0)) && (((aA == 8) || (aA == 9)) || (aC == 0))) && ((aA == 2) || (aF == 0))) && ((aA == 3) || (decide (aD=⟨#[]⟩))))) ?_
 refine wpL_join 10 (fun ρ wJ=>∃b30'0:Bool,∃HJ:NP,((((((s_D aA) || (aB == 0)) && (((aA == 8) || (aA == 9)) || (aC == 0))) && ((aA == 2) || (aF == 0))) && ((aA == 3) || (decide (aD=⟨#[]⟩))))=b30'0)∧Hst w0 None w0 HJ wJ∧HB HJ wJ [(p1,[(vi aA),(vi aB),(vi aC),(vu aF),(vs aD),(vi aG),(vi aM)],176)]∧Has ρ [(1,(vp (some p1))),(59,(vb (b30'0 && ((decide ((s_C aA)≥1)) || (aG == 0)))))]) ?_ ?_
 rintro ρ w42 ⟨b30'0,H31,he0,hs,hb,hH⟩
 subst he0
 refine wpL_has hH ?_
 refine q0 (vb ((((((s_D aA) || (aB == 0)) && (((aA == 8) || (aA == 9)) || (aC == 0))) && ((aA == 2) || (aF == 0))) && ((aA == 3) || (decide (aD=⟨#[]⟩)))) && ((decide ((s_C aA)≥1)) || (aG == 0)))) ?_
 refine wpL_join 10 (fun ρ wJ=>∃b33'0:Bool,∃HJ:NP,(((((((s_D aA) || (aB == 0)) && (((aA == 8) || (aA == 9)) || (aC == 0))) && ((aA == 2) || (aF == 0))) && ((aA == 3) || (decide (aD=⟨#[]⟩)))) && ((decide ((s_C aA)≥1)) || (aG == 0)))=b33'0)∧Hst w0 None w0 HJ wJ∧HB HJ wJ [(p1,[(vi aA),(vi aB),(vi aC),(vu aF),(vs aD),(vi aG),(vi aM)],176)]∧Has ρ [(70,(vb (b33'0 && ((((s_C aA):Int) == 2) || (aM == 0)))))]) ?_ ?_
 rintro ρ w47 ⟨b33'0,H34,he0,hs,hb,hH⟩
 subst he0
 refine wpL_has hH ?_
 refine q0 (vb (((((((s_D aA) || (aB == 0)) && (((aA == 8) || (aA == 9)) || (aC == 0))) && ((aA == 2) || (aF == 0))) && ((aA == 3) || (decide (aD=⟨#[]⟩)))) && ((decide ((s_C aA)≥1)) || (aG == 0))) && ((((s_C aA):Int) == 2) || (aM == 0)))) (ln ?_)
 exact ⟨_,hs,hb,hm⟩
 rcases Bool.eq_false_or_eq_true ((((((s_D aA) || (aB == 0)) && (((aA == 8) || (aA == 9)) || (aC == 0))) && ((aA == 2) || (aF == 0))) && ((aA == 3) || (decide (aD=⟨#[]⟩)))) && ((decide ((s_C aA)≥1)) || (aG == 0))) with hg64 | hg64
 refine q1 (vp (some p1)) (wy 60 hg64) (stp (v:=(vi aA)) (wy 60 hg64) (xl (Tryz.isAgg3 _) (hb.c0 0 gZ)) ?_)
 refine st_call (wy 60 hg64) (xc Tryz.call105) ((p_C aA w42).mono ?_)
 rintro e w48 ⟨he,hE⟩
 refine ⟨(vi (s_C aA)),he.trans (by kernel_rfl),?_⟩
 have hs:=hs.pure hE
 have hb:=hb.pure hE
 refine q1 (vb (((s_C aA):Int) == 2)) (wy 60 hg64) (q1 (vb (((s_C aA):Int) == 2)) (wy 60 hg64) ?_)
 refine wpL_join 4 (fun ρ wJ=>∃b34'0:Bool,∃HJ:NP,((((s_C aA):Int) == 2)=b34'0)∧Hst w0 None w0 HJ wJ∧HB HJ wJ [(p1,[(vi aA),(vi aB),(vi aC),(vu aF),(vs aD),(vi aG),(vi aM)],176)]∧Has ρ [(60,(vb ((((((s_D aA) || (aB == 0)) && (((aA == 8) || (aA == 9)) || (aC == 0))) && ((aA == 2) || (aF == 0))) && ((aA == 3) || (decide (aD=⟨#[]⟩)))) && ((decide ((s_C aA)≥1)) || (aG == 0))))),(69,(vb (b34'0 || (aM == 0))))]) ?_ ?_
 rintro ρ w49 ⟨b34'0,H35,he0,hs,hb,hH⟩
 subst he0
 refine wpL_has hH ?_
 refine q2 (vb ((((s_C aA):Int) == 2) || (aM == 0))) (xT hg64) (wpL_nil ?_)
 exact ⟨true,_,hg64,hs,hb,hm⟩
 rcases Bool.eq_false_or_eq_true (((s_C aA):Int) == 2) with hg66 | hg66
 refine sk (yD 65 hg66) (sk (yD 65 hg66) (sk (yD 65 hg66) (stp (v:=(vb true)) (wy 60 hg64) (xT hg66) (wpL_nil ?_))))
 exact ⟨true,_,hg66,hs,hb,hm⟩
 refine q1 (vp (some (p1.add 6))) (wy 65 hg66) (stp (v:=(vi aM)) (wy 65 hg66) (xl (Tryz.isAgg78 _) (hb.c 0 6 gZ)) (q1 (vb (aM == 0)) (wy 65 hg66) (stp (v:=(vb (aM == 0))) (wy 60 hg64) (xF hg66) (wpL_nil ?_))))
 exact ⟨false,_,hg66,hs,hb,hm⟩
 refine sk (yD 60 hg64) (sk (yD 60 hg64) (sk (yD 60 hg64) (sk (yD 60 hg64) (sk (yD 60 hg64) (sm (sm (sm (sk (yD 60 hg64) (q2 (vb false) (xF hg64) (wpL_nil ?_))))))))))
 exact ⟨false,_,hg64,hs,hb,hm⟩
 rcases Bool.eq_false_or_eq_true (((((s_D aA) || (aB == 0)) && (((aA == 8) || (aA == 9)) || (aC == 0))) && ((aA == 2) || (aF == 0))) && ((aA == 3) || (decide (aD=⟨#[]⟩)))) with hg58 | hg58
 refine q1 (vp (some p1)) (wy 49 hg58) (stp (v:=(vi aA)) (wy 49 hg58) (xl (Tryz.isAgg3 _) (hb.c0 0 gZ)) ?_)
 refine st_call (wy 49 hg58) (xc Tryz.call105) ((p_C aA w38).mono ?_)
 rintro e w43 ⟨he,hE⟩
 refine ⟨(vi (s_C aA)),he.trans (by kernel_rfl),?_⟩
 have hs:=hs.pure hE
 have hb:=hb.pure hE
 refine q1 (vb (decide ((s_C aA)≥1))) (wy 49 hg58) (q1 (vb (decide ((s_C aA)≥1))) (wy 49 hg58) ?_)
 refine wpL_join 4 (fun ρ wJ=>∃b31'0:Bool,∃HJ:NP,((decide ((s_C aA)≥1))=b31'0)∧Hst w0 None w0 HJ wJ∧HB HJ wJ [(p1,[(vi aA),(vi aB),(vi aC),(vu aF),(vs aD),(vi aG),(vi aM)],176)]∧Has ρ [(1,(vp (some p1))),(49,(vb (((((s_D aA) || (aB == 0)) && (((aA == 8) || (aA == 9)) || (aC == 0))) && ((aA == 2) || (aF == 0))) && ((aA == 3) || (decide (aD=⟨#[]⟩)))))),(58,(vb (b31'0 || (aG == 0))))]) ?_ ?_
 rintro ρ w44 ⟨b31'0,H32,he0,hs,hb,hH⟩
 subst he0
 refine wpL_has hH ?_
 refine q2 (vb ((decide ((s_C aA)≥1)) || (aG == 0))) (xT hg58) (wpL_nil ?_)
 exact ⟨true,_,hg58,hs,hb,hm⟩
 rcases Bool.eq_false_or_eq_true (decide ((s_C aA)≥1)) with hg60 | hg60
 refine sk (yD 54 hg60) (sk (yD 54 hg60) (sk (yD 54 hg60) (stp (v:=(vb true)) (wy 49 hg58) (xT hg60) (wpL_nil ?_))))
 exact ⟨true,_,hg60,hs,hb,hm⟩
 refine q1 (vp (some (p1.add 5))) (wy 54 hg60) (stp (v:=(vi aG)) (wy 54 hg60) (xl (Tryz.isAgg78 _) (hb.c 0 5 gZ)) (q1 (vb (aG == 0)) (wy 54 hg60) (stp (v:=(vb (aG == 0))) (wy 49 hg58) (xF hg60) (wpL_nil ?_))))
 exact ⟨false,_,hg60,hs,hb,hm⟩
 refine sk (yD 49 hg58) (sk (yD 49 hg58) (sk (yD 49 hg58) (sk (yD 49 hg58) (sk (yD 49 hg58) (sm (sm (sm (sk (yD 49 hg58) (q2 (vb false) (xF hg58) (wpL_nil ?_))))))))))
 exact ⟨false,_,hg58,hs,hb,hm⟩
 rcases Bool.eq_false_or_eq_true ((((s_D aA) || (aB == 0)) && (((aA == 8) || (aA == 9)) || (aC == 0))) && ((aA == 2) || (aF == 0))) with hg52 | hg52
 refine q1 (vp (some p1)) (wy 39 hg52) (stp (v:=(vi aA)) (wy 39 hg52) (xl (Tryz.isAgg3 _) (hb.c0 0 gZ)) (q1 (vb (aA == 3)) (wy 39 hg52) (q1 (vb (aA == 3)) (wy 39 hg52) ?_)))
 refine wpL_join 4 (fun ρ wJ=>∃b28'0:Bool,∃HJ:NP,((aA == 3)=b28'0)∧Hst w0 None w0 HJ wJ∧HB HJ wJ [(p1,[(vi aA),(vi aB),(vi aC),(vu aF),(vs aD),(vi aG),(vi aM)],176)]∧Has ρ [(1,(vp (some p1))),(39,(vb ((((s_D aA) || (aB == 0)) && (((aA == 8) || (aA == 9)) || (aC == 0))) && ((aA == 2) || (aF == 0))))),(47,(vb (b28'0 || (decide (aD=⟨#[]⟩)))))]) ?_ ?_
 rintro ρ w39 ⟨b28'0,H29,he0,hs,hb,hH⟩
 subst he0
 refine wpL_has hH ?_
 refine q2 (vb ((aA == 3) || (decide (aD=⟨#[]⟩)))) (xT hg52) (wpL_nil ?_)
 exact ⟨true,_,hg52,hs,hb,hm⟩
 rcases Bool.eq_false_or_eq_true (aA == 3) with hg54 | hg54
 refine sk (yD 43 hg54) (sk (yD 43 hg54) (sk (yD 43 hg54) (stp (v:=(vb true)) (wy 39 hg52) (xT hg54) (wpL_nil ?_))))
 exact ⟨true,_,hg54,hs,hb,hm⟩
 refine q1 (vp (some (p1.add 4))) (wy 43 hg54) (stp (v:=(vs aD)) (wy 43 hg54) (xl (Tryz.isAgg9 _) (hb.c 0 4 gZ)) (stp (v:=(vb (decide (aD=⟨#[]⟩)))) (wy 43 hg54) (x_streq (by kernel_rfl) (by kernel_rfl)) (stp (v:=(vb (decide (aD=⟨#[]⟩)))) (wy 39 hg52) (xF hg54) (wpL_nil ?_))))
 exact ⟨false,_,hg54,hs,hb,hm⟩
 refine sk (yD 39 hg52) (sk (yD 39 hg52) (sk (yD 39 hg52) (sk (yD 39 hg52) (sm (sm (sm (sk (yD 39 hg52) (q2 (vb false) (xF hg52) (wpL_nil ?_)))))))))
 exact ⟨false,_,hg52,hs,hb,hm⟩
 rcases Bool.eq_false_or_eq_true (((s_D aA) || (aB == 0)) && (((aA == 8) || (aA == 9)) || (aC == 0))) with hg46 | hg46
 refine q1 (vp (some p1)) (wy 29 hg46) (stp (v:=(vi aA)) (wy 29 hg46) (xl (Tryz.isAgg3 _) (hb.c0 0 gZ)) (q1 (vb (aA == 2)) (wy 29 hg46) (q1 (vb (aA == 2)) (wy 29 hg46) ?_)))
 refine wpL_join 4 (fun ρ wJ=>∃b25'0:Bool,∃HJ:NP,((aA == 2)=b25'0)∧Hst w0 None w0 HJ wJ∧HB HJ wJ [(p1,[(vi aA),(vi aB),(vi aC),(vu aF),(vs aD),(vi aG),(vi aM)],176)]∧Has ρ [(1,(vp (some p1))),(29,(vb (((s_D aA) || (aB == 0)) && (((aA == 8) || (aA == 9)) || (aC == 0))))),(37,(vb (b25'0 || (aF == 0))))]) ?_ ?_
 rintro ρ w36 ⟨b25'0,H26,he0,hs,hb,hH⟩
 subst he0
 refine wpL_has hH ?_
 refine q2 (vb ((aA == 2) || (aF == 0))) (xT hg46) (wpL_nil ?_)
 exact ⟨true,_,hg46,hs,hb,hm⟩
 rcases Bool.eq_false_or_eq_true (aA == 2) with hg48 | hg48
 refine sk (yD 33 hg48) (sk (yD 33 hg48) (sk (yD 33 hg48) (stp (v:=(vb true)) (wy 29 hg46) (xT hg48) (wpL_nil ?_))))
 exact ⟨true,_,hg48,hs,hb,hm⟩
 refine q1 (vp (some (p1.add 3))) (wy 33 hg48) (stp (v:=(vu aF)) (wy 33 hg48) (xl (Tryz.isAgg23 _) (hb.c 0 3 gZ)) (q1 (vb (aF == 0)) (wy 33 hg48) (stp (v:=(vb (aF == 0))) (wy 29 hg46) (xF hg48) (wpL_nil ?_))))
 exact ⟨false,_,hg48,hs,hb,hm⟩
 refine sk (yD 29 hg46) (sk (yD 29 hg46) (sk (yD 29 hg46) (sk (yD 29 hg46) (sm (sm (sm (sk (yD 29 hg46) (q2 (vb false) (xF hg46) (wpL_nil ?_)))))))))
 exact ⟨false,_,hg46,hs,hb,hm⟩
 rcases Bool.eq_false_or_eq_true ((s_D aA) || (aB == 0)) with hg40 | hg40
 refine q1 (vp (some p1)) (wy 19 hg40) (stp (v:=(vi aA)) (wy 19 hg40) (xl (Tryz.isAgg3 _) (hb.c0 0 gZ)) ?_)
 refine st_call (wy 19 hg40) (xc Tryz.call225) ((p_Z1 aA w28).mono ?_)
 rintro e w32 ⟨he,hE⟩
 refine ⟨(vb ((aA == 8) || (aA == 9))),he.trans (by kernel_rfl),?_⟩
 have hs:=hs.pure hE
 have hb:=hb.pure hE
 refine q1 (vb ((aA == 8) || (aA == 9))) (wy 19 hg40) ?_
 refine wpL_join 4 (fun ρ wJ=>∃b22'0:Bool,∃HJ:NP,(((aA == 8) || (aA == 9))=b22'0)∧Hst w0 None w0 HJ wJ∧HB HJ wJ [(p1,[(vi aA),(vi aB),(vi aC),(vu aF),(vs aD),(vi aG),(vi aM)],176)]∧Has ρ [(1,(vp (some p1))),(19,(vb ((s_D aA) || (aB == 0)))),(27,(vb (b22'0 || (aC == 0))))]) ?_ ?_
 rintro ρ w33 ⟨b22'0,H23,he0,hs,hb,hH⟩
 subst he0
 refine wpL_has hH ?_
 refine q2 (vb (((aA == 8) || (aA == 9)) || (aC == 0))) (xT hg40) (wpL_nil ?_)
 exact ⟨true,_,hg40,hs,hb,hm⟩
 rcases Bool.eq_false_or_eq_true ((aA == 8) || (aA == 9)) with hg42 | hg42
 refine sk (yD 23 hg42) (sk (yD 23 hg42) (sk (yD 23 hg42) (stp (v:=(vb true)) (wy 19 hg40) (xT hg42) (wpL_nil ?_))))
 exact ⟨true,_,hg42,hs,hb,hm⟩
 refine q1 (vp (some (p1.add 2))) (wy 23 hg42) (stp (v:=(vi aC)) (wy 23 hg42) (xl (Tryz.isAgg3 _) (hb.c 0 2 gZ)) (q1 (vb (aC == 0)) (wy 23 hg42) (stp (v:=(vb (aC == 0))) (wy 19 hg40) (xF hg42) (wpL_nil ?_))))
 exact ⟨false,_,hg42,hs,hb,hm⟩
 refine sk (yD 19 hg40) (sk (yD 19 hg40) (sk (yD 19 hg40) (sk (yD 19 hg40) (sm (sm (sm (sk (yD 19 hg40) (q2 (vb false) (xF hg40) (wpL_nil ?_)))))))))
 exact ⟨false,_,hg40,hs,hb,hm⟩
 rcases Bool.eq_false_or_eq_true (s_D aA) with hg36 | hg36
 refine sk (yD 14 hg36) (sk (yD 14 hg36) (sk (yD 14 hg36) (q2 (vb true) (xT hg36) (wpL_nil ?_))))
 exact ⟨true,_,hg36,hs,hb,hm⟩
 refine q1 (vp (some (p1.add 1))) (wy 14 hg36) (stp (v:=(vi aB)) (wy 14 hg36) (xl (Tryz.isAgg3 _) (hb.c 0 1 gZ)) (q1 (vb (aB == 0)) (wy 14 hg36) (q2 (vb (aB == 0)) (xF hg36) (wpL_nil ?_))))
 exact ⟨false,_,hg36,hs,hb,hm⟩
 rintro ρ w26 ⟨H19,hs,hb,hH⟩
 refine norm_has hH ?_
 refine th_n (er (rs1 Tryz.results222 (v:=(vb (((((((s_D aA) || (aB == 0)) && (((aA == 8) || (aA == 9)) || (aC == 0))) && ((aA == 2) || (aF == 0))) && ((aA == 3) || (decide (aD=⟨#[]⟩)))) && ((decide ((s_C aA)≥1)) || (aG == 0))) && ((((s_C aA):Int) == 2) || (aM == 0))))) ?_))
 exact ⟨false,hc1,by kernel_rfl,(Ext.refl (F:=None) _).hst hs⟩
theorem p_D1 (aA aB:Int) (aC aF:Int) (aD:ByteArray) (aG aM:Int) (w0:World):Calls Tryz.prog 222 #[(.agg #[(.int .i64 aA),(.int .i64 aB),(.int .i64 aC),(.int .u64 aF),(.string aD),(.int .i64 aG),(.int .i64 aM)])] w0 (fun e w'=>e=.returned (.bool (s_D1 aA aB aC aF aD aG aM))∧Pure w0 w'):=by
 refine (pw_D1 aA aB aC aF aD aG aM w0).mono ?_
 rintro e w' ⟨b'0,e0,h,E⟩
 subst e0
 exact ⟨h,E⟩
def s_L2 (n1:Int):Bool :=
 ((decide (n1≥0)) && (decide (n1<16)))
theorem pw_L2 (n1 : Int) (w0 : World) :
  Calls Tryz.prog 224 #[(vi n1)] w0 (fun e w'=>(e=.returned (vb ((decide (n1≥0)) && (decide (n1<16)))))∧Pure w0 w'):=by
 refine cw (args:=[(vi n1)]) Tryz.func224 Tryz.ntmps224 (eg (q0 (vb false) (ln (wpE_seq ?_))))
 refine wpE_via (fun ρ wJ=>w0=wJ∧Has ρ [(2,(vb ((decide (n1≥0)) && (decide (n1<16)))))]) ?_ ?_
 refine rg (q0 (vi n1) (q0 (vb (decide (n1≥0))) (q0 (vb (decide (n1≥0))) ?_)))
 refine wpL_join 3 (fun ρ wJ=>∃b3'0:Bool,((decide (n1≥0))=b3'0)∧w0=wJ∧Has ρ [(8,(vb (b3'0 && (decide (n1<16)))))]) ?_ ?_
 rintro ρ w3 ⟨b3'0,he0,hw,hH⟩
 subst he0
 subst hw
 refine wpL_has hH ?_
 refine q0 (vb ((decide (n1≥0)) && (decide (n1<16)))) (ln ?_)
 exact ⟨rfl,hm⟩
 rcases Bool.eq_false_or_eq_true (decide (n1≥0)) with hg4 | hg4
 refine q1 (vi n1) (wy 5 hg4) (q1 (vb (decide (n1<16))) (wy 5 hg4) (q2 (vb (decide (n1<16))) (xT hg4) (wpL_nil ?_)))
 exact ⟨true,hg4,rfl,hm⟩
 refine sk (yD 5 hg4) (sk (yD 5 hg4) (q2 (vb false) (xF hg4) (wpL_nil ?_)))
 exact ⟨false,hg4,rfl,hm⟩
 rintro ρ w2 ⟨hw,hH⟩
 subst hw
 refine norm_has hH ?_
 refine th_n (er (rs1 Tryz.results224 (v:=(vb ((decide (n1≥0)) && (decide (n1<16))))) ?_))
 exact ⟨by kernel_rfl,Ext.refl _⟩
theorem p_L2 (n1:Int) (w0:World):Calls Tryz.prog 224 #[(.int .i64 n1)] w0 (fun e w'=>e=.returned (.bool (s_L2 n1))∧Pure w0 w'):=pw_L2 n1 w0
def s_H (aA aB:Int) (aC aF:Int) (aD:ByteArray) (aG aM:Int):Int :=
 (cond (!(s_D1 aA aB aC aF aD aG aM)) 53 (cond (((s_D aA) && (!((decide (aB≥0)) && (decide (aB<16))))) || (((aA == 8) || (aA == 9)) && ((!((decide (aC≥0)) && (decide (aC<16)))) || (aB == aC)))) 50 (cond (decide ((aD.size:Int)>64)) 1 0)))
theorem pw_H (aA aB : Int) (aC aF : Int) (aD : ByteArray) (aG aM : Int) (w0 : World) :
  Calls Tryz.prog 176 #[(.agg #[(vi aA),(vi aB),(vi aC),(vu aF),(vs aD),(vi aG),(vi aM)])] w0 (fun e w'=>∃b'0 b'1 b'2:Bool,((!(s_D1 aA aB aC aF aD aG aM))=b'0∧(((s_D aA) && (!((decide (aB≥0)) && (decide (aB<16))))) || (((aA == 8) || (aA == 9)) && ((!((decide (aC≥0)) && (decide (aC<16)))) || (aB == aC))))=b'1∧(decide ((aD.size:Int)>64))=b'2)∧(e=.returned (vi (cond b'0 53 (cond b'1 50 (cond b'2 1 0)))))∧Pure w0 w'):=by
 refine cw (args:=[(.agg #[(vi aA),(vi aB),(vi aC),(vu aF),(vs aD),(vi aG),(vi aM)])]) Tryz.func176 Tryz.ntmps176 ?_
 have hs:=Hst.start w0
 have hb:=HB.nil None w0
 refine eg (sn (O:=(.cells #[(vi aA),(vi aB),(vi aC),(vu aF),(vs aD),(vi aG),(vi aM)] 176)) xb ?_)
 intro p1 w1 hn1
 obtain ⟨H1,hs,hb⟩:=hs.alloc hb hn1
 refine q0 (vi 0) (ln (wpE_seq (eg (q2 (.agg #[(vi aA),(vi aB),(vi aC),(vu aF),(vs aD),(vi aG),(vi aM)]) (xa p1 [(vi aA),(vi aB),(vi aC),(vu aF),(vs aD),(vi aG),(vi aM)] (Tryz.isAgg176 _) (Tryz.sizeOf176 _) (hb.r0 0 7 gZ)) ?_))))
 refine sc Tryz.call222 ((p_D1 aA aB aC aF aD aG aM w1).mono ?_)
 rintro e w2 ⟨he,hE⟩
 refine ⟨(vb (s_D1 aA aB aC aF aD aG aM)),he.trans (by kernel_rfl),?_⟩
 have hs:=hs.pure hE
 have hb:=hb.pure hE
 refine q0 (vb (!(s_D1 aA aB aC aF aD aG aM))) (ln ?_)
 refine wpE_cond (t:=(!(s_D1 aA aB aC aF aD aG aM))) (by kernel_rfl) (fun hc1=>?_) (fun hc1=>?_)
 refine eg (q0 (vi 53) (ln (er (th_r (rs1 Tryz.results176 (v:=(vi 53)) ?_)))))
 exact ⟨true,_,_,⟨hc1,rfl,rfl⟩,by kernel_rfl,(Ext.refl (F:=None) _).hst hs⟩
 refine wpE_skip (th_n (wpE_seq (wpE_seq ?_)))
 refine wpE_via (fun ρ wJ=>∃b5'0:Bool,∃HJ:NP,(((s_D aA) && (!((decide (aB≥0)) && (decide (aB<16)))))=b5'0)∧Hst w0 None w0 HJ wJ∧HB HJ wJ [(p1,[(vi aA),(vi aB),(vi aC),(vu aF),(vs aD),(vi aG),(vi aM)],176)]∧Has ρ [(1,(vp (some p1))),(32,(vb (b5'0 || (((aA == 8) || (aA == 9)) && ((!((decide (aC≥0)) && (decide (aC<16)))) || (aB == aC))))))]) ?_ ?_
 refine rg (q0 (vp (some p1)) (q2 (vi aA) (xl (Tryz.isAgg3 _) (hb.c0 0 gZ)) ?_))
 refine sc Tryz.call223 ((p_D aA w2).mono ?_)
 rintro e w14 ⟨he,hE⟩
 refine ⟨(vb (s_D aA)),he.trans (by kernel_rfl),?_⟩
 have hs:=hs.pure hE
 have hb:=hb.pure hE
 refine q0 (vb (s_D aA)) ?_
 refine wpL_join 5 (fun ρ wJ=>∃b6'0:Bool,∃HJ:NP,((s_D aA)=b6'0)∧Hst w0 None w0 HJ wJ∧HB HJ wJ [(p1,[(vi aA),(vi aB),(vi aC),(vu aF),(vs aD),(vi aG),(vi aM)],176)]∧Has ρ [(1,(vp (some p1))),(14,(vb (b6'0 && (!((decide (aB≥0)) && (decide (aB<16)))))))]) ?_ ?_
 rintro ρ w16 ⟨b6'0,H7,he0,hs,hb,hH⟩
 subst he0
 refine wpL_has hH ?_
 refine q0 (vb ((s_D aA) && (!((decide (aB≥0)) && (decide (aB<16)))))) ?_
 rcases Bool.eq_false_or_eq_true ((s_D aA) && (!((decide (aB≥0)) && (decide (aB<16))))) with hg12 | hg12
 refine sk (yD 15 hg12) (sk (yD 15 hg12) (sk (yD 15 hg12) (sk (yD 15 hg12) (sm (sm (sm (sm (sm (sm (sm (sm ?_)))))))))))
 refine sm (sm (sm (sk (yD 15 hg12) (q2 (vb true) (xT hg12) (ln ?_)))))
 exact ⟨true,_,hg12,hs,hb,hm⟩
 refine q1 (vp (some p1)) (wy 15 hg12) (stp (v:=(vi aA)) (wy 15 hg12) (xl (Tryz.isAgg3 _) (hb.c0 0 gZ)) ?_)
 refine st_call (wy 15 hg12) (xc Tryz.call225) ((p_Z1 aA w16).mono ?_)
 rintro e w18 ⟨he,hE⟩
 refine ⟨(vb ((aA == 8) || (aA == 9))),he.trans (by kernel_rfl),?_⟩
 have hs:=hs.pure hE
 have hb:=hb.pure hE
 refine q1 (vb ((aA == 8) || (aA == 9))) (wy 15 hg12) ?_
 refine wpL_join 12 (fun ρ wJ=>∃b8'0:Bool,∃HJ:NP,(((aA == 8) || (aA == 9))=b8'0)∧Hst w0 None w0 HJ wJ∧HB HJ wJ [(p1,[(vi aA),(vi aB),(vi aC),(vu aF),(vs aD),(vi aG),(vi aM)],176)]∧Has ρ [(1,(vp (some p1))),(15,(vb ((s_D aA) && (!((decide (aB≥0)) && (decide (aB<16))))))),(31,(vb (b8'0 && ((!((decide (aC≥0)) && (decide (aC<16)))) || (aB == aC)))))]) ?_ ?_
 rintro ρ w21 ⟨b8'0,H9,he0,hs,hb,hH⟩
 subst he0
 refine wpL_has hH ?_
 refine q2 (vb (((aA == 8) || (aA == 9)) && ((!((decide (aC≥0)) && (decide (aC<16)))) || (aB == aC)))) (xF hg12) (ln ?_)
 exact ⟨false,_,hg12,hs,hb,hm⟩
 rcases Bool.eq_false_or_eq_true ((aA == 8) || (aA == 9)) with hg16 | hg16
 refine q1 (vp (some (p1.add 2))) (wy 19 hg16) (stp (v:=(vi aC)) (wy 19 hg16) (xl (Tryz.isAgg3 _) (hb.c 0 2 gZ)) ?_)
 refine st_call (wy 19 hg16) (xc Tryz.call224) ((p_L2 aC w18).mono ?_)
 rintro e w22 ⟨he,hE⟩
 refine ⟨(vb ((decide (aC≥0)) && (decide (aC<16)))),he.trans (by kernel_rfl),?_⟩
 have hs:=hs.pure hE
 have hb:=hb.pure hE
 refine q1 (vb (!((decide (aC≥0)) && (decide (aC<16))))) (wy 19 hg16) (q1 (vb (!((decide (aC≥0)) && (decide (aC<16))))) (wy 19 hg16) ?_)
 refine wpL_join 6 (fun ρ wJ=>∃b9'0:Bool,∃HJ:NP,((!((decide (aC≥0)) && (decide (aC<16))))=b9'0)∧Hst w0 None w0 HJ wJ∧HB HJ wJ [(p1,[(vi aA),(vi aB),(vi aC),(vu aF),(vs aD),(vi aG),(vi aM)],176)]∧Has ρ [(1,(vp (some p1))),(15,(vb ((s_D aA) && (!((decide (aB≥0)) && (decide (aB<16))))))),(19,(vb ((aA == 8) || (aA == 9)))),(30,(vb (b9'0 || (aB == aC))))]) ?_ ?_
 rintro ρ w23 ⟨b9'0,H10,he0,hs,hb,hH⟩
 subst he0
 refine wpL_has hH ?_
 refine stp (v:=(vb ((!((decide (aC≥0)) && (decide (aC<16)))) || (aB == aC)))) (wy 15 hg12) (xT hg16) (wpL_nil ?_)
 exact ⟨true,_,hg16,hs,hb,hm⟩
 rcases Bool.eq_false_or_eq_true (!((decide (aC≥0)) && (decide (aC<16)))) with hg18 | hg18
 refine sk (yD 24 hg18) (sk (yD 24 hg18) (sk (yD 24 hg18) (sk (yD 24 hg18) (sk (yD 24 hg18) (stp (v:=(vb true)) (wy 19 hg16) (xT hg18) (wpL_nil ?_))))))
 exact ⟨true,_,hg18,hs,hb,hm⟩
 refine q1 (vp (some (p1.add 1))) (wy 24 hg18) (stp (v:=(vi aB)) (wy 24 hg18) (xl (Tryz.isAgg3 _) (hb.c 0 1 gZ)) (q1 (vp (some (p1.add 2))) (wy 24 hg18) (stp (v:=(vi aC)) (wy 24 hg18) (xl (Tryz.isAgg3 _) (hb.c 0 2 gZ)) (q1 (vb (aB == aC)) (wy 24 hg18) (stp (v:=(vb (aB == aC))) (wy 19 hg16) (xF hg18) (wpL_nil ?_))))))
 exact ⟨false,_,hg18,hs,hb,hm⟩
 refine sk (yD 19 hg16) (sk (yD 19 hg16) (sk (yD 19 hg16) (sk (yD 19 hg16) (sk (yD 19 hg16) (sm (sm (sm (sm (sm (sk (yD 19 hg16) (stp (v:=(vb false)) (wy 15 hg12) (xF hg16) ?_)))))))))))
 refine wpL_nil ?_
 exact ⟨false,_,hg16,hs,hb,hm⟩
 rcases Bool.eq_false_or_eq_true (s_D aA) with hg11 | hg11
 refine q1 (vp (some (p1.add 1))) (wy 9 hg11) (stp (v:=(vi aB)) (wy 9 hg11) (xl (Tryz.isAgg3 _) (hb.c 0 1 gZ)) ?_)
 refine st_call (wy 9 hg11) (xc Tryz.call224) ((p_L2 aB w14).mono ?_)
 rintro e w17 ⟨he,hE⟩
 refine ⟨(vb ((decide (aB≥0)) && (decide (aB<16)))),he.trans (by kernel_rfl),?_⟩
 have hs:=hs.pure hE
 have hb:=hb.pure hE
 refine q1 (vb (!((decide (aB≥0)) && (decide (aB<16))))) (wy 9 hg11) (q2 (vb (!((decide (aB≥0)) && (decide (aB<16))))) (xT hg11) (wpL_nil ?_))
 exact ⟨true,_,hg11,hs,hb,hm⟩
 refine sk (yD 9 hg11) (sk (yD 9 hg11) (sk (yD 9 hg11) (sk (yD 9 hg11) (q2 (vb false) (xF hg11) (wpL_nil ?_)))))
 exact ⟨false,_,hg11,hs,hb,hm⟩
 rintro ρ w13 ⟨b5'0,H6,he0,hs,hb,hH⟩
 subst he0
 refine norm_has hH ?_
 refine th_n ?_
 refine wpE_cond (t:=(((s_D aA) && (!((decide (aB≥0)) && (decide (aB<16))))) || (((aA == 8) || (aA == 9)) && ((!((decide (aC≥0)) && (decide (aC<16)))) || (aB == aC))))) (by kernel_rfl) (fun hc2=>?_) (fun hc2=>?_)
 refine eg (q0 (vi 50) (ln (er (th_r (rs1 Tryz.results176 (v:=(vi 50)) ?_)))))
 exact ⟨false,true,_,⟨hc1,hc2,rfl⟩,by kernel_rfl,(Ext.refl (F:=None) _).hst hs⟩
 refine wpE_skip (th_n (wpE_seq (eg (q0 (vp (some (p1.add 4))) (q2 (vs aD) (xl (Tryz.isAgg9 _) (hb.c 0 4 gZ)) (q0 (vi (aD.size:Int)) (q0 (vb (decide ((aD.size:Int)>64))) (ln ?_))))))))
 refine wpE_cond (t:=(decide ((aD.size:Int)>64))) (by kernel_rfl) (fun hc3=>?_) (fun hc3=>?_)
 refine eg (q0 (vi 1) (ln (er (th_r (rs1 Tryz.results176 (v:=(vi 1)) ?_)))))
 exact ⟨false,false,true,⟨hc1,hc2,hc3⟩,by kernel_rfl,(Ext.refl (F:=None) _).hst hs⟩
 refine wpE_skip (th_n (eg (q0 (vi 0) (ln (er (rs1 Tryz.results176 (v:=(vi 0)) ?_))))))
 exact ⟨false,false,false,⟨hc1,hc2,hc3⟩,by kernel_rfl,(Ext.refl (F:=None) _).hst hs⟩
theorem p_H (aA aB:Int) (aC aF:Int) (aD:ByteArray) (aG aM:Int) (w0:World):Calls Tryz.prog 176 #[(.agg #[(.int .i64 aA),(.int .i64 aB),(.int .i64 aC),(.int .u64 aF),(.string aD),(.int .i64 aG),(.int .i64 aM)])] w0 (fun e w'=>e=.returned (.int .i64 (s_H aA aB aC aF aD aG aM))∧Pure w0 w'):=by
 refine (pw_H aA aB aC aF aD aG aM w0).mono ?_
 rintro e w' ⟨b'0,b'1,b'2,⟨e0,e1,e2⟩,h,E⟩
 subst e0
 subst e1
 subst e2
 exact ⟨h,E⟩
def m_T_l2 (aH:Sl) (deep1:Int) (seen1:Option Addr) (e1 i1:Int) (w0:World) (Hl1:NP) (wl1:World) (Kc2:Int→Int→NP→WP) (K:Int→WP):Prop :=
 Br ((e1 == 0) && (decide (i1<(aH.len:Int))))
  (∃a3:Addr,At aH i1 6 a3 ∧
  ∀(H4:NP) (w11:World),Hst w0 Hl1 wl1 H4 w11 →
  ∃aO aP:Int,∃aQ aR:Int,∃aS:ByteArray,∃bI:Sl,Row w11 a3 [(vi aO),(vi aP),(vi aQ),(vu aR),(vs aS),bI.v] ∧
  Calls Tryz.prog 203 #[(.agg #[(vi aO),(vi aP),(vi aQ),(vu aR),(vs aS),bI.v]),(vi (q6.wrap (deep1+1))),(vp seen1)] w11 (fun e w12=>∃r1:Int,e=.returned (vi r1)∧
   Kept H4 w11 w12 ∧
   Kc2 r1 (q6.wrap (i1+1)) H4 w12))
  (∀(H4:NP) (w11:World),Hst w0 Hl1 wl1 H4 w11 →
  K e1 w11)
def m_T_j1 (aE aI:Int) (aJ aK:Int) (aL:ByteArray) (aH:Sl) (deep1:Int) (seen1:Option Addr) (x1:Bool) (w0:World) (H:NP) (w:World) (K:Int→WP):Prop :=
 Br x1
  (K 52 w)
  (∃a1:Addr,seen1=some a1 ∧
  ∃v1:Int,w.cell? a1=some (vi v1) ∧
  ∃a2:Addr,seen1=some a2 ∧
  CanW w a2∧¬ H a2.block∧∀w2:World,w2=w.setCell a2 (vi (q6.wrap (v1+1))) →
  ∀y1:Bool,y1=((((s_H aE aI aJ aK aL 0 0):Int) != 53) && (((aH.len:Int):Int) != (s_C aE))) →
  ∀(H3:NP) (w10:World),Hst w0 H w2 H3 w10 →
  ∃(I1:Int→Int→NP→WP) (mu1:Int→Int→World→Nat),I1 (cond y1 53 (s_H aE aI aJ aK aL 0 0)) 0 H3 w10 ∧
   ∀(e1 i1:Int) (Hl1:NP) (wl1:World),Hst w0 Hl1 wl1 Hl1 wl1→I1 e1 i1 Hl1 wl1→m_T_l2 aH deep1 seen1 e1 i1 w0 Hl1 wl1 (fun y'0 y'1 H' w'=>I1 y'0 y'1 H' w'∧mu1 y'0 y'1 w'<mu1 e1 i1 wl1) K)
def m_T (aE aI:Int) (aJ aK:Int) (aL:ByteArray) (aH:Sl) (deep1:Int) (seen1:Option Addr) (w0:World) (K:Int→WP):Prop :=
 ∃a4:Addr,seen1=some a4 ∧
 ∀(H1:NP) (w1:World),Hst w0 None w0 H1 w1 →
 ∃v2:Int,w1.cell? a4=some (vi v2) ∧
 ∀(H5:NP) (w13:World),Hst w0 H1 w1 H5 w13 →
 m_T_j1 aE aI aJ aK aL aH deep1 seen1 ((decide (v2≥4096)) || (decide (deep1≥64))) w0 H5 w13 K
theorem w_T (aE aI : Int) (aJ aK : Int) (aL : ByteArray) (aH : Sl) (deep1 : Int) (seen1 : Option Addr) (w0 : World) (K : Int → WP) (h : m_T aE aI aJ aK aL aH deep1 seen1 w0 K) :
  Calls Tryz.prog 203 #[(.agg #[(vi aE),(vi aI),(vi aJ),(vu aK),(vs aL),aH.v]),(vi deep1),(vp seen1)] w0 (fun e w'=>∃r2:Int,e=.returned (vi r2)∧K r2 w'):=by
 unfold m_T at h
 refine cw (args:=[(.agg #[(vi aE),(vi aI),(vi aJ),(vu aK),(vs aL),aH.v]),(vi deep1),(vp seen1)]) Tryz.func203 Tryz.ntmps203 ?_
 have hs:=Hst.start w0
 have hb:=HB.nil None w0
 refine eg (sn (O:=(.cells #[(vi aE),(vi aI),(vi aJ),(vu aK),(vs aL),aH.v] 107)) xb ?_)
 intro p1 w1 hn1
 obtain ⟨H1,hs,hb⟩:=hs.alloc hb hn1
 refine q0 (vi 0) (ln (wpE_seq (wpE_seq ?_)))
 refine wpE_joinT (fun ρ w=>∃x1:Bool,∃H:NP,Has ρ [(1,(vi deep1)),(2,(vp seen1)),(3,(vp (some p1))),(16,(vb x1))]∧Hst w0 H w H w∧HB H w [(p1,[(vi aE),(vi aI),(vi aJ),(vu aK),(vs aL),aH.v],107)]∧m_T_j1 aE aI aJ aK aL aH deep1 seen1 x1 w0 H w K) ?_ ?_
 rintro ρ w ⟨x1,H,hH,hs,hb,h⟩
 unfold m_T_j1 at h
 refine wpE_has hH ?_
 refine wpE_cond (t:=x1) (by kernel_rfl) (fun hc1=>?_) (fun hc1=>?_)
 have h:=h.1 hc1
 refine eg (q0 (vi 52) (ln (er (th_r (rs1 Tryz.results203 (v:=(vi 52)) ?_)))))
 exact ⟨52,rfl,h⟩
 have h:=h.2 hc1
 refine wpE_skip (th_n (eg (q0 (vp seen1) (q0 (vp seen1) ?_))))
 obtain ⟨a1,hp1,h⟩:=h
 refine q2 (vp (some a1)) (x_nilCheck (p:=seen1) (by kernel_rfl) hp1) ?_
 obtain ⟨v1,hv3,h⟩:=h
 refine q2 (vi v1) (xl (Tryz.isAgg3 _) hv3) (q0 (vi (q6.wrap (v1+1))) ?_)
 obtain ⟨a2,hp2,h⟩:=h
 refine q2 (vp (some a2)) (x_nilCheck (p:=seen1) (by kernel_rfl) hp2) ?_
 obtain ⟨hp3,hnh,h⟩:=h
 refine st_set (want0 rfl) (x_store (a:=a2) (v:=(vi (q6.wrap (v1+1)))) (by kernel_rfl) (by kernel_rfl) rfl (Tryz.sizeOf3 _) hp3) ?_
 intro w2 hn2
 have h:=h w2 hn2
 have hk:=Kept.sc hnh hn2
 obtain ⟨hs,hb⟩:=hk.hh hs hb
 refine ln (eg (q2 (.agg #[(vi aE),(vi aI),(vi aJ),(vu aK),(vs aL),aH.v]) (xa p1 [(vi aE),(vi aI),(vi aJ),(vu aK),(vs aL),aH.v] (Tryz.isAgg107 _) (Tryz.sizeOf107 _) (hb.r0 0 6 gZ)) ?_))
 refine sc Tryz.call204 ((p_C1 aE aI aJ aK aL aH w2).mono ?_)
 rintro e w3 ⟨he,hE⟩
 refine ⟨(.agg #[(vi aE),(vi aI),(vi aJ),(vu aK),(vs aL),(vi 0),(vi 0)]),he.trans (by kernel_rfl),?_⟩
 have hs:=hs.pure hE
 have hb:=hb.pure hE
 refine sc Tryz.call176 ((p_H aE aI aJ aK aL 0 0 w3).mono ?_)
 rintro e w4 ⟨he,hE⟩
 refine ⟨(vi (s_H aE aI aJ aK aL 0 0)),he.trans (by kernel_rfl),?_⟩
 have hs:=hs.pure hE
 have hb:=hb.pure hE
 refine q0 (vi (s_H aE aI aJ aK aL 0 0)) (ln (wpE_seq (wpE_seq ?_)))
 refine wpE_via (fun ρ wJ=>∃b1'0 y1:Bool,∃HJ:NP,((((s_H aE aI aJ aK aL 0 0):Int) != 53)=b1'0)∧(y1=(b1'0 && (((aH.len:Int):Int) != (s_C aE))))∧Hst w0 H w2 HJ wJ∧HB HJ wJ [(p1,[(vi aE),(vi aI),(vi aJ),(vu aK),(vs aL),aH.v],107)]∧Has ρ [(1,(vi deep1)),(2,(vp seen1)),(3,(vp (some p1))),(7,(vi (s_H aE aI aJ aK aL 0 0))),(36,(vb y1))]) ?_ ?_
 refine wpE_drawnC (fun x=>∃H',Hst w0 H w2 H' x∧HB H' x [(p1,[(vi aE),(vi aI),(vi aJ),(vu aK),(vs aL),aH.v],107)]) [8] [] (by kernel_rfl) (by kernel_rfl) (by kernel_rfl) (by kernel_rfl) ⟨_,hs.drew,hb.drew⟩ ?_
 intro w8 hw8
 have hs:Hst w0 H w2 H w8:=by rw [hw8];exact hs.drew
 have hb:HB H w8 [(p1,[(vi aE),(vi aI),(vi aJ),(vu aK),(vs aL),aH.v],107)]:=by rw [hw8];exact hb.drew
 refine qx 0 (vi (s_H aE aI aJ aK aL 0 0)) Kp0 (qx 1 (vb (((s_H aE aI aJ aK aL 0 0):Int) != 53)) Kp1 (qx 2 (vb (((s_H aE aI aJ aK aL 0 0):Int) != 53)) Kp2 (qg 3 ?_)))
 rcases Bool.eq_false_or_eq_true (((s_H aE aI aJ aK aL 0 0):Int) != 53) with hg2 | hg2
 refine sz (v:=(vp (some (p1.add 5)))) Kp3 (wy 28 hg2) (fun _ _=>(by kernel_rfl)) (qg 4 (sz (v:=aH.v) Kp4 (wy 28 hg2) (fun w' hw'=>(by obtain ⟨H',hs',hb'⟩:=hw';exact (xl (Tryz.isAgg66 _) (hb'.cell 0 5 gZ (by kernel_rfl))))) (qw 5 (vi (aH.len:Int)) Kp5 (wy 28 hg2) (qw 6 (vp (some p1)) Kp6 (wy 28 hg2) (qg 7 (sz (v:=(vi aE)) Kp7 (wy 28 hg2) (fun w' hw'=>(by obtain ⟨H',hs',hb'⟩:=hw';exact (xl (Tryz.isAgg3 _) (hb'.cell0 0 gZ (by kernel_rfl))))) (lg 8 ?_)))))))
 refine sl_call Kp8 (wy 28 hg2) (by kernel_rfl) (xc Tryz.call105) ((p_C aE w8).mono ?_)
 rintro e w9 ⟨he,hE⟩
 have hs:=hs.pure hE
 have hb:=hb.pure hE
 refine ⟨(vi (s_C aE)),he.trans (by kernel_rfl),.inr ⟨_,hs,hb⟩,?_⟩
 refine qw 9 (vb (((aH.len:Int):Int) != (s_C aE))) Kp9 (wy 28 hg2) (qz 10 (vb (((aH.len:Int):Int) != (s_C aE))) (pickA (S8 (pickS (pickS pickZ)))) (fun _ _=>(xT hg2)) (wn (th_n ?_)))
 exact ⟨true,_,_,hg2,rfl,hs,hb,hm⟩
 refine sx_not Kp3 (unwant rfl (yD 28 hg2) rfl) (qn 4 Kp4 (unwant rfl (yD 28 hg2) rfl) (qn 5 Kp5 (unwant rfl (yD 28 hg2) rfl) (qn 6 Kp6 (unwant rfl (yD 28 hg2) rfl) (qn 7 Kp7 (unwant rfl (yD 28 hg2) rfl) (lg 8 (sx_not Kp8 (unwant rfl (yD 28 hg2) rfl) (qn 9 Kp9 (unwant rfl (yD 28 hg2) rfl) (qz 10 (vb false) (pickA (S8 (pickS (pickS pickZ)))) (fun _ _=>(xF hg2)) (wn (th_n ?_))))))))))
 exact ⟨false,_,_,hg2,rfl,hs,hb,hm⟩
 rintro ρ w7 ⟨b1'0,y1,H2,he0,hy1,hs,hb,hH⟩
 subst he0
 have h:=h y1 hy1
 refine norm_has hH ?_
 refine th_n ?_
 refine wpE_via (fun ρ wJ=>∃b2'0:Bool,∃HJ:NP,(y1=b2'0)∧Hst w0 H w2 HJ wJ∧HB HJ wJ [(p1,[(vi aE),(vi aI),(vi aJ),(vu aK),(vs aL),aH.v],107)]∧Has ρ [(1,(vi deep1)),(2,(vp seen1)),(3,(vp (some p1))),(7,(vi (cond b2'0 53 (s_H aE aI aJ aK aL 0 0))))]) ?_ ?_
 refine wpE_cond (t:=y1) (by kernel_rfl) (fun hc3=>?_) (fun hc3=>?_)
 refine rg (q0 (vi 53) (ln ?_))
 exact ⟨true,_,hc3,hs,hb,hm⟩
 refine wpE_skip (th_n ?_)
 exact ⟨false,_,hc3,hs,hb,hm⟩
 rintro ρ w10 ⟨b2'0,H3,he0,hs,hb,hH⟩
 subst he0
 refine norm_has hH ?_
 refine th_n (wpE_seq (eg (q0 (vi 0) (ln (wpE_block ?_)))))
 have h:=h H3 w10 hs
 have hs:=hs.here
 obtain ⟨I1,mu1,h0,hr⟩:=h
 refine wpE_loop (σ:=Int×Int×NP×World) (fun s ρ w=>w=s.2.2.2∧Has ρ [(1,(vi deep1)),(2,(vp seen1)),(3,(vp (some p1))),(7,(vi s.1)),(8,(vi s.2.1))]∧Hst w0 s.2.2.1 w s.2.2.1 w∧HB s.2.2.1 w [(p1,[(vi aE),(vi aI),(vi aJ),(vu aK),(vs aL),aH.v],107)]∧I1 s.1 s.2.1 s.2.2.1 s.2.2.2) (fun s=>mu1 s.1 s.2.1 s.2.2.2) ((cond y1 53 (s_H aE aI aJ aK aL 0 0)),0,H3,w10) ⟨rfl,hm,hs,hb,h0⟩ ?_
 rintro ⟨e1,i1,Hl1,wl1⟩ ρ w ⟨hw,hH,hs,hb,hI⟩
 obtain rfl:wl1=w:=(show w=wl1 from hw).symm
 have hH:Has ρ [(1,(vi deep1)),(2,(vp seen1)),(3,(vp (some p1))),(7,(vi e1)),(8,(vi i1))]:=hH
 have hs:Hst w0 Hl1 wl1 Hl1 wl1:=hs
 have hb:HB Hl1 wl1 [(p1,[(vi aE),(vi aI),(vi aJ),(vu aK),(vs aL),aH.v],107)]:=hb
 have h:=hr e1 i1 Hl1 wl1 hs hI
 unfold m_T_l2 at h
 refine wpE_has hH ?_
 refine wpE_seq (wpE_seq ?_)
 refine wpE_via (fun ρ wJ=>∃b3'0:Bool,∃HJ:NP,((e1 == 0)=b3'0)∧Hst w0 Hl1 wl1 HJ wJ∧HB HJ wJ [(p1,[(vi aE),(vi aI),(vi aJ),(vu aK),(vs aL),aH.v],107)]∧Has ρ [(1,(vi deep1)),(2,(vp seen1)),(3,(vp (some p1))),(7,(vi e1)),(8,(vi i1)),(45,(vb (b3'0 && (decide (i1<(aH.len:Int))))))]) ?_ ?_
 refine rg (q0 (vi e1) (q0 (vb (e1 == 0)) (q0 (vb (e1 == 0)) ?_)))
 rcases Bool.eq_false_or_eq_true (e1 == 0) with hg4 | hg4
 refine q1 (vi i1) (wy 39 hg4) (q1 (vp (some (p1.add 5))) (wy 39 hg4) (stp (v:=aH.v) (wy 39 hg4) (xl (Tryz.isAgg66 _) (hb.c 0 5 gZ)) (q1 (vi (aH.len:Int)) (wy 39 hg4) (q1 (vb (decide (i1<(aH.len:Int)))) (wy 39 hg4) (q2 (vb (decide (i1<(aH.len:Int)))) (xT hg4) (ln ?_))))))
 exact ⟨true,_,hg4,hs,hb,hm⟩
 refine sk (yD 39 hg4) (sk (yD 39 hg4) (sk (yD 39 hg4) (sk (yD 39 hg4) (sk (yD 39 hg4) (q2 (vb false) (xF hg4) (ln ?_))))))
 exact ⟨false,_,hg4,hs,hb,hm⟩
 rintro ρ w11 ⟨b3'0,H4,he0,hs,hb,hH⟩
 subst he0
 refine norm_has hH ?_
 refine th_n ?_
 refine wpE_cond (t:=((e1 == 0) && (decide (i1<(aH.len:Int))))) (by kernel_rfl) (fun hc4=>?_) (fun hc4=>?_)
 have h:=h.1 hc4
 refine wpE_skip (th_n (wpE_seq (wpE_block (rg (q0 (vp (some (p1.add 5))) (q2 aH.v (xl (Tryz.isAgg66 _) (hb.c 0 5 gZ)) (q0 (vi i1) ?_)))))))
 obtain ⟨a3,hv2,h⟩:=h
 refine q2 (vp (some a3)) (xi (Tryz.runUnderlying66 _) (Tryz.sizeOf107 _) hv2) ?_
 have h:=h H4 w11 hs
 have hs:=hs.here
 obtain ⟨aO,aP,aQ,aR,aS,bI,hv1,h⟩:=h
 refine q2 (.agg #[(vi aO),(vi aP),(vi aQ),(vu aR),(vs aS),bI.v]) (xa a3 [(vi aO),(vi aP),(vi aQ),(vu aR),(vs aS),bI.v] (Tryz.isAgg107 _) (Tryz.sizeOf107 _) hv1) (q0 (vi deep1) (q0 (vi (q6.wrap (deep1+1))) (q0 (vp seen1) ?_)))
 refine sc Tryz.call203 (h.mono ?_)
 rintro e w12 ⟨r1,rfl,hk,h⟩
 refine ⟨_,rfl,?_⟩
 obtain ⟨hs,hb⟩:=hk.hh hs hb
 refine q0 (vi r1) (wpL_nil (bl_n (th_n (rg (q0 (vi i1) (q0 (vi (q6.wrap (i1+1))) (q0 (vi (q6.wrap (i1+1))) (ln ?_))))))))
 exact ⟨(r1,(q6.wrap (i1+1)),H4,w12),⟨rfl,hm,hs,hb,h.1⟩,h.2⟩
 have h:=h.2 hc4
 refine wpE_exit (th_x (th_x (bl_eq (th_n (eg (q0 (vi e1) (q0 (vi e1) (ln (er ?_)))))))))
 have h:=h H4 w11 hs
 have hs:=hs.here
 refine rs1 Tryz.results203 (v:=(vi e1)) ?_
 exact ⟨e1,rfl,h⟩
 refine rg (q0 (vp seen1) ?_)
 obtain ⟨a4,hp4,h⟩:=h
 refine q2 (vp (some a4)) (x_nilCheck (p:=seen1) (by kernel_rfl) hp4) ?_
 have h:=h H1 w1 hs
 have hs:=hs.here
 obtain ⟨v2,hv4,h⟩:=h
 refine q2 (vi v2) (xl (Tryz.isAgg3 _) hv4) (q0 (vb (decide (v2≥4096))) (q0 (vb (decide (v2≥4096))) ?_))
 refine wpL_join 3 (fun ρ wJ=>∃b4'0:Bool,∃HJ:NP,((decide (v2≥4096))=b4'0)∧Hst w0 H1 w1 HJ wJ∧HB HJ wJ [(p1,[(vi aE),(vi aI),(vi aJ),(vu aK),(vs aL),aH.v],107)]∧Has ρ [(1,(vi deep1)),(2,(vp seen1)),(3,(vp (some p1))),(16,(vb (b4'0 || (decide (deep1≥64)))))]) ?_ ?_
 rintro ρ w13 ⟨b4'0,H5,he0,hs,hb,hH⟩
 subst he0
 refine wpL_has hH ?_
 refine wpL_nil ?_
 have h:=h H5 w13 hs
 have hs:=hs.here
 refine th_n ?_
 exact ⟨((decide (v2≥4096)) || (decide (deep1≥64))),H5,hm,hs,hb,h⟩
 rcases Bool.eq_false_or_eq_true (decide (v2≥4096)) with hg6 | hg6
 refine sk (yD 13 hg6) (sk (yD 13 hg6) (q2 (vb true) (xT hg6) (wpL_nil ?_)))
 exact ⟨true,_,hg6,hs,hb,hm⟩
 refine q1 (vi deep1) (wy 13 hg6) (q1 (vb (decide (deep1≥64))) (wy 13 hg6) (q2 (vb (decide (deep1≥64))) (xF hg6) (wpL_nil ?_)))
 exact ⟨false,_,hg6,hs,hb,hm⟩
def m_F4 (aE aI:Int) (aJ aK:Int) (aL:ByteArray) (aH:Sl) (w0:World) (K:Int→WP):Prop :=
 ∀(H1:NP) (w1:World),Hst w0 None w0 H1 w1 →
 ∀(p2:Addr) (w2:World),New w1 (.cells #[(vi 0)] 3) p2 w2 →
 CanW w2 p2∧¬ H1 p2.block∧∀w3:World,w3=w2.setCell p2 (vi 0) →
 Calls Tryz.prog 203 #[(.agg #[(vi aE),(vi aI),(vi aJ),(vu aK),(vs aL),aH.v]),(vi 0),(vp (some p2))] w3 (fun e w4=>∃r1:Int,e=.returned (vi r1)∧
  Kept H1 w3 w4 ∧
  K r1 w4)
theorem w_F4 (aE aI : Int) (aJ aK : Int) (aL : ByteArray) (aH : Sl) (w0 : World) (K : Int → WP) (h : m_F4 aE aI aJ aK aL aH w0 K) :
  Calls Tryz.prog 147 #[(.agg #[(vi aE),(vi aI),(vi aJ),(vu aK),(vs aL),aH.v])] w0 (fun e w'=>∃r2:Int,e=.returned (vi r2)∧K r2 w'):=by
 unfold m_F4 at h
 refine cw (args:=[(.agg #[(vi aE),(vi aI),(vi aJ),(vu aK),(vs aL),aH.v])]) Tryz.func147 Tryz.ntmps147 ?_
 have hs:=Hst.start w0
 have hb:=HB.nil None w0
 refine eg (sn (O:=(.cells #[(vi aE),(vi aI),(vi aJ),(vu aK),(vs aL),aH.v] 107)) xb ?_)
 intro p1 w1 hn1
 obtain ⟨H1,hs,hb⟩:=hs.alloc hb hn1
 refine q0 (vi 0) (ln (eg ?_))
 have h:=h H1 w1 hs
 have hs:=hs.here
 refine sn (O:=(.cells #[(vi 0)] 3)) (x_alloc (Tryz.zeroValue3 _) rfl) ?_
 intro p2 w2 hn3
 have h:=h p2 w2 hn3
 have hs:=hs.again (Ext.new (F:=None) hn3).keptP
 have hb:=hb.kept (Ext.new (F:=None) hn3).keptP
 obtain ⟨hp1,hnh,h⟩:=h
 refine st_set (want0 rfl) (x_store (a:=p2) (v:=(vi 0)) (by kernel_rfl) (by kernel_rfl) rfl (Tryz.sizeOf3 _) hp1) ?_
 intro w3 hn2
 have h:=h w3 hn2
 have hk:=Kept.sc hnh hn2
 obtain ⟨hs,hb⟩:=hk.hh hs hb
 refine ln (eg (q2 (.agg #[(vi aE),(vi aI),(vi aJ),(vu aK),(vs aL),aH.v]) (xa p1 [(vi aE),(vi aI),(vi aJ),(vu aK),(vs aL),aH.v] (Tryz.isAgg107 _) (Tryz.sizeOf107 _) (hb.r0 0 6 gZ)) ?_))
 refine sc Tryz.call203 (h.mono ?_)
 rintro e w4 ⟨r1,rfl,hk,h⟩
 refine ⟨_,rfl,?_⟩
 obtain ⟨hs,hb⟩:=hk.hh hs hb
 refine q0 (vi r1) (ln (er (rs1 Tryz.results147 (v:=(vi r1)) ?_)))
 exact ⟨r1,rfl,h⟩
def m_G4 (p1:Option Addr) (t1:Int) (w0:World) (K:Int→WP):Prop :=
 Calls Tryz.prog 87 #[(vp p1),(vi t1)] w0 (fun e w1=>∃r1:Bool,e=.returned (vb r1)∧
  Br (!r1)
   (K 0 w1)
   (∃a1:Addr,p1=some a1 ∧
   ∃v1:Sl,w1.cell? (a1.add 1)=some v1.v ∧
   ∃a2:Addr,At v1 (q6.wrap (t1 - 1)) 1 a2 ∧
   ∃v2:Int,w1.cell? a2=some (vi v2) ∧
   K v2 w1))
theorem w_G4 (p1 : Option Addr) (t1 : Int) (w0 : World) (K : Int → WP) (h : m_G4 p1 t1 w0 K) :
  Calls Tryz.prog 97 #[(vp p1),(vi t1)] w0 (fun e w'=>∃r2:Int,e=.returned (vi r2)∧K r2 w'):=by
 unfold m_G4 at h
 refine cw (args:=[(vp p1),(vi t1)]) Tryz.func97 Tryz.ntmps97 (eg (q0 (vi 0) (ln (wpE_seq (eg (q0 (vp p1) (q0 (vi t1) ?_)))))))
 refine sc Tryz.call87 (h.mono ?_)
 rintro e w1 ⟨r1,rfl,h⟩
 refine ⟨_,rfl,?_⟩
 refine q0 (vb (!r1)) (ln ?_)
 refine wpE_cond (t:=(!r1)) (by kernel_rfl) (fun hc1=>?_) (fun hc1=>?_)
 have h:=h.1 hc1
 refine eg (q0 (vi 0) (ln (er (th_r (rs1 Tryz.results97 (v:=(vi 0)) ?_)))))
 exact ⟨0,rfl,h⟩
 have h:=h.2 hc1
 refine wpE_skip (th_n (eg (q0 (vp p1) ?_)))
 obtain ⟨a1,hp1,h⟩:=h
 refine q2 (vp (some a1)) (x_nilCheck (p:=p1) (by kernel_rfl) hp1) (q0 (vp (some (a1.add 1))) ?_)
 obtain ⟨v1,hv3,h⟩:=h
 refine q2 v1.v (xl (Tryz.isAgg42 _) hv3) (q0 (vi t1) (q0 (vi (q6.wrap (t1 - 1))) ?_))
 obtain ⟨a2,hv2,h⟩:=h
 refine q2 (vp (some a2)) (xi (Tryz.runUnderlying42 _) (Tryz.sizeOf3 _) hv2) ?_
 obtain ⟨v2,hv1,h⟩:=h
 refine q2 (vi v2) (xl (Tryz.isAgg3 _) hv1) (q0 (vi v2) (ln (er (rs1 Tryz.results97 (v:=(vi v2)) ?_))))
 exact ⟨v2,rfl,h⟩
def m_H4 (p1:Option Addr) (t1:Int) (w0:World) (K:Int→WP):Prop :=
 Calls Tryz.prog 87 #[(vp p1),(vi t1)] w0 (fun e w1=>∃r1:Bool,e=.returned (vb r1)∧
  Br (!r1)
   (K 0 w1)
   (∃a1:Addr,p1=some a1 ∧
   ∃v1:Sl,w1.cell? (a1.add 2)=some v1.v ∧
   ∃a2:Addr,At v1 (q6.wrap (t1 - 1)) 1 a2 ∧
   ∃v2:Int,w1.cell? a2=some (vi v2) ∧
   K v2 w1))
theorem w_H4 (p1 : Option Addr) (t1 : Int) (w0 : World) (K : Int → WP) (h : m_H4 p1 t1 w0 K) :
  Calls Tryz.prog 177 #[(vp p1),(vi t1)] w0 (fun e w'=>∃r2:Int,e=.returned (vi r2)∧K r2 w'):=by
 unfold m_H4 at h
 refine cw (args:=[(vp p1),(vi t1)]) Tryz.func177 Tryz.ntmps177 (eg (q0 (vi 0) (ln (wpE_seq (eg (q0 (vp p1) (q0 (vi t1) ?_)))))))
 refine sc Tryz.call87 (h.mono ?_)
 rintro e w1 ⟨r1,rfl,h⟩
 refine ⟨_,rfl,?_⟩
 refine q0 (vb (!r1)) (ln ?_)
 refine wpE_cond (t:=(!r1)) (by kernel_rfl) (fun hc1=>?_) (fun hc1=>?_)
 have h:=h.1 hc1
 refine eg (q0 (vi 0) (ln (er (th_r (rs1 Tryz.results177 (v:=(vi 0)) ?_)))))
 exact ⟨0,rfl,h⟩
 have h:=h.2 hc1
 refine wpE_skip (th_n (eg (q0 (vp p1) ?_)))
 obtain ⟨a1,hp1,h⟩:=h
 refine q2 (vp (some a1)) (x_nilCheck (p:=p1) (by kernel_rfl) hp1) (q0 (vp (some (a1.add 2))) ?_)
 obtain ⟨v1,hv3,h⟩:=h
 refine q2 v1.v (xl (Tryz.isAgg42 _) hv3) (q0 (vi t1) (q0 (vi (q6.wrap (t1 - 1))) ?_))
 obtain ⟨a2,hv2,h⟩:=h
 refine q2 (vp (some a2)) (xi (Tryz.runUnderlying42 _) (Tryz.sizeOf3 _) hv2) ?_
 obtain ⟨v2,hv1,h⟩:=h
 refine q2 (vi v2) (xl (Tryz.isAgg3 _) hv1) (q0 (vi v2) (ln (er (rs1 Tryz.results177 (v:=(vi v2)) ?_))))
 exact ⟨v2,rfl,h⟩
theorem eqt_ref05_Pool_Has_eql_176 (a0 a1:Int) (a2 a3:Int) (a4:ByteArray) (a5 a6:Int) (b0 b1:Int) (b2 b3:Int) (b4:ByteArray) (b5 b6:Int) (w:World):(Go.binOp .eql 176 (.agg #[(.int .i64 a0),(.int .i64 a1),(.int .i64 a2),(.int .u64 a3),(.string a4),(.int .i64 a5),(.int .i64 a6)]) (.agg #[(.int .i64 b0),(.int .i64 b1),(.int .i64 b2),(.int .u64 b3),(.string b4),(.int .i64 b5),(.int .i64 b6)])).run Tryz.prog w=.ok (.bool ((a0 == b0) && ((a1 == b1) && ((a2 == b2) && ((a3 == b3) && ((decide (a4=b4)) && ((a5 == b5) && (a6 == b6)))))))) w:=by
 simp [Go.binOp,Op.equal,Op.maxDepth,go_sem,streq,bne]
 repeat' split
 all_goals simp_all
def m_N1_l1 (p1:Option Addr) (aA aB:Int) (aC aF:Int) (aD:ByteArray) (aG aM i1:Int) (w0:World) (Hl1:NP) (wl1:World) (Kc1:Int→NP→WP) (K:Int→Bool→WP):Prop :=
 ∃a1:Addr,p1=some a1 ∧
 ∃v1:Sl,wl1.cell? a1=some v1.v ∧
 Br (decide (i1<(v1.len:Int)))
  (∃a2:Addr,p1=some a2 ∧
  ∀(w2:World),Hst w0 Hl1 wl1 Hl1 w2 →
  ∃v2:Sl,w2.cell? a2=some v2.v ∧
  ∃a3:Addr,At v2 i1 7 a3 ∧
  ∃aO aP:Int,∃aQ aR:Int,∃aS:ByteArray,∃bM bN:Int,Row w2 a3 [(vi aO),(vi aP),(vi aQ),(vu aR),(vs aS),(vi bM),(vi bN)] ∧
  Br ((aO == aA) && ((aP == aB) && ((aQ == aC) && ((aR == aF) && ((decide (aS=aD)) && ((bM == aG) && (bN == aM)))))))
   (K (q6.wrap (i1+1)) true w2)
   (Kc1 (q6.wrap (i1+1)) Hl1 w2))
  (K 0 false wl1)
def m_N1 (p1:Option Addr) (aA aB:Int) (aC aF:Int) (aD:ByteArray) (aG aM:Int) (w0:World) (K:Int→Bool→WP):Prop :=
 ∀(H1:NP) (w1:World),Hst w0 None w0 H1 w1 →
 ∃(I1:Int→NP→WP) (mu1:Int→World→Nat),I1 0 H1 w1 ∧
  ∀(i1:Int) (Hl1:NP) (wl1:World),Hst w0 Hl1 wl1 Hl1 wl1→I1 i1 Hl1 wl1→m_N1_l1 p1 aA aB aC aF aD aG aM i1 w0 Hl1 wl1 (fun y'0 H' w'=>I1 y'0 H' w'∧mu1 y'0 w'<mu1 i1 wl1) K
theorem w_N1 (p1 : Option Addr) (aA aB : Int) (aC aF : Int) (aD : ByteArray) (aG aM : Int) (w0 : World) (K : Int → Bool → WP) (h : m_N1 p1 aA aB aC aF aD aG aM w0 K) :
  Calls Tryz.prog 178 #[(vp p1),(.agg #[(vi aA),(vi aB),(vi aC),(vu aF),(vs aD),(vi aG),(vi aM)])] w0 (fun e w'=>∃r1:Int,∃r2:Bool,e=.returned (.tuple #[(vi r1),(vb r2)])∧K r1 r2 w'):=by
 unfold m_N1 at h
 refine cw (args:=[(vp p1),(.agg #[(vi aA),(vi aB),(vi aC),(vu aF),(vs aD),(vi aG),(vi aM)])]) Tryz.func178 Tryz.ntmps178 ?_
 have hs:=Hst.start w0
 have hb:=HB.nil None w0
 refine eg (sn (O:=(.cells #[(vi aA),(vi aB),(vi aC),(vu aF),(vs aD),(vi aG),(vi aM)] 176)) xb ?_)
 intro p2 w1 hn1
 obtain ⟨H1,hs,hb⟩:=hs.alloc hb hn1
 refine q0 (vi 0) (q0 (vb false) (ln (wpE_seq (eg (q0 (vi 0) (ln (wpE_block ?_)))))))
 have h:=h H1 w1 hs
 have hs:=hs.here
 obtain ⟨I1,mu1,h0,hr⟩:=h
 refine wpE_loop (σ:=Int×NP×World) (fun s ρ w=>w=s.2.2∧Has ρ [(0,(vp p1)),(3,(vp (some p2))),(6,(vi s.1))]∧Hst w0 s.2.1 w s.2.1 w∧HB s.2.1 w [(p2,[(vi aA),(vi aB),(vi aC),(vu aF),(vs aD),(vi aG),(vi aM)],176)]∧I1 s.1 s.2.1 s.2.2) (fun s=>mu1 s.1 s.2.2) (0,H1,w1) ⟨rfl,hm,hs,hb,h0⟩ ?_
 rintro ⟨i1,Hl1,wl1⟩ ρ w ⟨hw,hH,hs,hb,hI⟩
 obtain rfl:wl1=w:=(show w=wl1 from hw).symm
 have hH:Has ρ [(0,(vp p1)),(3,(vp (some p2))),(6,(vi i1))]:=hH
 have hs:Hst w0 Hl1 wl1 Hl1 wl1:=hs
 have hb:HB Hl1 wl1 [(p2,[(vi aA),(vi aB),(vi aC),(vu aF),(vs aD),(vi aG),(vi aM)],176)]:=hb
 have h:=hr i1 Hl1 wl1 hs hI
 unfold m_N1_l1 at h
 refine wpE_has hH ?_
 refine wpE_seq (eg (q0 (vi i1) (q0 (vp p1) ?_)))
 obtain ⟨a1,hp1,h⟩:=h
 refine q2 (vp (some a1)) (x_nilCheck (p:=p1) (by kernel_rfl) hp1) (q0 (vp (some a1)) ?_)
 obtain ⟨v1,hv4,h⟩:=h
 refine q2 v1.v (xl (Tryz.isAgg41 _) hv4) (q0 (vi (v1.len:Int)) (q0 (vb (decide (i1<(v1.len:Int)))) (ln ?_)))
 refine wpE_cond (t:=(decide (i1<(v1.len:Int)))) (by kernel_rfl) (fun hc1=>?_) (fun hc1=>?_)
 have h:=h.1 hc1
 refine wpE_skip (th_n (wpE_seq (wpE_block (wpE_seq (wpE_drawnQ (by kernel_rfl) (by kernel_rfl) (by kernel_rfl) (by kernel_rfl) ?_)))))
 intro w2 hw2
 have hs:Hst w0 Hl1 wl1 Hl1 w2:=by rw [hw2];exact hs.drew
 have hb:HB Hl1 w2 [(p2,[(vi aA),(vi aB),(vi aC),(vu aF),(vs aD),(vi aG),(vi aM)],176)]:=by rw [hw2];exact hb.drew
 refine qq 0 (vp p1) Kp0 (qg 1 ?_)
 obtain ⟨a2,hp2,h⟩:=h
 refine sxQ (v:=(vp (some a2))) Kp1 (want0 rfl) rfl (x_nilCheck (p:=p1) (by kernel_rfl) hp2) (qq 2 (vp (some a2)) Kp2 (qg 3 ?_))
 have h:=h w2 hs
 have hs:=hs.here
 obtain ⟨v2,hv3,h⟩:=h
 refine sxQ (v:=v2.v) Kp3 (want0 rfl) rfl (xl (Tryz.isAgg41 _) hv3) (qq 4 (vi i1) Kp4 (qg 5 ?_))
 obtain ⟨a3,hv2,h⟩:=h
 refine sxQ (v:=(vp (some a3))) Kp5 (want0 rfl) rfl (xi (Tryz.runUnderlying41 _) (Tryz.sizeOf176 _) hv2) (qg 6 ?_)
 obtain ⟨aO,aP,aQ,aR,aS,bM,bN,hv1,h⟩:=h
 refine sxQ (v:=(.agg #[(vi aO),(vi aP),(vi aQ),(vu aR),(vs aS),(vi bM),(vi bN)])) Kp6 (want0 rfl) rfl (xa a3 [(vi aO),(vi aP),(vi aQ),(vu aR),(vs aS),(vi bM),(vi bN)] (Tryz.isAgg176 _) (Tryz.sizeOf176 _) hv1) (qr 7 (.agg #[(vi aA),(vi aB),(vi aC),(vu aF),(vs aD),(vi aG),(vi aM)]) Kp7 (xa p2 [(vi aA),(vi aB),(vi aC),(vu aF),(vs aD),(vi aG),(vi aM)] (Tryz.isAgg176 _) (Tryz.sizeOf176 _) (hb.r0 0 7 gZ)) (qr 8 (vb ((aO == aA) && ((aP == aB) && ((aQ == aC) && ((aR == aF) && ((decide (aS=aD)) && ((bM == aG) && (bN == aM)))))))) Kp8 (x_aggeq (by kernel_rfl) (by kernel_rfl) (by kernel_rfl) (eqt_ref05_Pool_Has_eql_176 aO aP aQ aR aS bM bN aA aB aC aF aD aG aM _)) (wn (th_n ?_))))
 refine wpE_cond (t:=((aO == aA) && ((aP == aB) && ((aQ == aC) && ((aR == aF) && ((decide (aS=aD)) && ((bM == aG) && (bN == aM)))))))) (by kernel_rfl) (fun hc2=>?_) (fun hc2=>?_)
 have h:=h.1 hc2
 refine eg (q0 (vi i1) (q0 (vi (q6.wrap (i1+1))) (q0 (vi (q6.wrap (i1+1))) (q0 (vb true) (ln (er (bl_r (th_r (th_r ?_)))))))))
 refine bl_r (th_r (res2 (.inl rfl) Tryz.results178 (v:=(vi (q6.wrap (i1+1)))) (by kernel_rfl) (v':=(vb true)) (by kernel_rfl) ?_))
 exact ⟨(q6.wrap (i1+1)),true,rfl,h⟩
 have h:=h.2 hc2
 refine wpE_skip (bl_n (th_n (rg (q0 (vi i1) (q0 (vi (q6.wrap (i1+1))) (q0 (vi (q6.wrap (i1+1))) (ln ?_)))))))
 exact ⟨((q6.wrap (i1+1)),Hl1,w2),⟨rfl,hm,hs,hb,h.1⟩,h.2⟩
 have h:=h.2 hc1
 refine wpE_exit (th_x (th_x (bl_eq (th_n (eg (q0 (vi 0) (q0 (vb false) (ln (er ?_)))))))))
 refine res2 (.inl rfl) Tryz.results178 (v:=(vi 0)) (by kernel_rfl) (v':=(vb false)) (by kernel_rfl) ?_
 exact ⟨0,false,rfl,h⟩
def m_O_j1 (p1:Option Addr) (aA aB:Int) (aC aF:Int) (aD:ByteArray) (aG aM:Int) (x1:Bool) (w0:World) (H:NP) (w:World) (K:Int→Int→WP):Prop :=
 Br x1
  (K 0 51 w)
  (∃C1:WP,C1 w.drew∧∀w4,w4=w.drew →
  Calls Tryz.prog 97 #[(vp p1),(vi aG)] w4 (fun e w5=>∃r1:Int,e=.returned (vi r1)∧C1 w5∧
   Kept H w4 w5 ∧
   Calls Tryz.prog 97 #[(vp p1),(vi aM)] w5 (fun e w6=>∃r2:Int,e=.returned (vi r2)∧C1 w6∧
    Kept H w5 w6 ∧
    ∃C2:WP,C2 w6.drew∧∀w7,w7=w6.drew →
    Calls Tryz.prog 177 #[(vp p1),(vi aG)] w7 (fun e w8=>∃r3:Int,e=.returned (vi r3)∧C2 w8∧
     Kept H w7 w8 ∧
     Calls Tryz.prog 177 #[(vp p1),(vi aM)] w8 (fun e w9=>∃r4:Int,e=.returned (vi r4)∧C2 w9∧
      Kept H w8 w9 ∧
      ∃z1:Int,(∀w',C2 w'→(Builtin.max_ #[3,3] 3 #[(vi r3),(vi r4)]).run Tryz.prog w'=.ok (vi z1) w') ∧
      ∀y1:Bool,y1=((decide ((q6.wrap ((q6.wrap (1+r1))+r2))>4096)) || (decide ((q6.wrap (1+z1))>64))) →
      Br y1
       (∀(H2:NP) (w10:World),Hst w0 H w9 H2 w10 →
       K 0 52 w10)
       (∀(H2:NP) (w10:World),Hst w0 H w9 H2 w10 →
       Calls Tryz.prog 178 #[(vp p1),(.agg #[(vi aA),(vi aB),(vi aC),(vu aF),(vs aD),(vi aG),(vi aM)])] w10 (fun e w11=>∃r5:Int,∃r6:Bool,e=.returned (.tuple #[(vi r5),(vb r6)])∧
        Kept H2 w10 w11 ∧
        Br r6
         (K r5 0 w11)
         (∃a1:Addr,p1=some a1 ∧
         ∃v1:Sl,w11.cell? a1=some v1.v ∧
         Br (decide ((v1.len:Int)≥65536))
          (K 0 6 w11)
          (∃C3:WP,C3 w11.drew∧∀w12,w12=w11.drew →
          ∃a2:Addr,p1=some a2 ∧
          ∃v2:Sl,(∀w',C3 w'→w'.cell? a2=some v2.v) ∧
          ∀(p3:Addr) (w13:World),New w12 (.cells #[(vi aA),(vi aB),(vi aC),(vu aF),(vs aD),(vi aG),(vi aM)] 176) p3 w13→C3 w13 ∧
          ∃s1:Sl,∃w14:World,(Builtin.append_ #[41,41] 41 #[v2.v,(Sl.mk (some p3) 1 1).v]).run Tryz.prog w13=.ok s1.v w14∧C3 w14 ∧
          Kept H2 w13 w14 ∧
          ∃a3:Addr,p1=some a3 ∧
          CanW w14 a3∧¬ H2 a3.block∧∀w15:World,w15=w14.setCell a3 s1.v →
          ∃a4:Addr,p1=some a4 ∧
          ∃v3:Sl,w15.cell? (a4.add 1)=some v3.v ∧
          ∀(p4:Addr) (w16:World),New w15 (.cells #[(vi (q6.wrap ((q6.wrap (1+r1))+r2)))] 3) p4 w16 →
          ∃s2:Sl,∃w17:World,(Builtin.append_ #[42,42] 42 #[v3.v,(Sl.mk (some p4) 1 1).v]).run Tryz.prog w16=.ok s2.v w17 ∧
          Kept H2 w16 w17 ∧
          ∃a5:Addr,p1=some a5 ∧
          CanW w17 (a5.add 1)∧¬ H2 (a5.add 1).block∧∀w18:World,w18=w17.setCell (a5.add 1) s2.v →
          ∃a6:Addr,p1=some a6 ∧
          ∃v4:Sl,w18.cell? (a6.add 2)=some v4.v ∧
          ∀(p5:Addr) (w19:World),New w18 (.cells #[(vi (q6.wrap (1+z1)))] 3) p5 w19 →
          ∃s3:Sl,∃w20:World,(Builtin.append_ #[42,42] 42 #[v4.v,(Sl.mk (some p5) 1 1).v]).run Tryz.prog w19=.ok s3.v w20 ∧
          Kept H2 w19 w20 ∧
          ∃a7:Addr,p1=some a7 ∧
          CanW w20 (a7.add 2)∧¬ H2 (a7.add 2).block∧∀w21:World,w21=w20.setCell (a7.add 2) s3.v →
          ∃a8:Addr,p1=some a8 ∧
          ∃v5:Sl,w21.cell? a8=some v5.v ∧
          K (v5.len:Int) 0 w21)))))))))
def m_O_j2 (p1:Option Addr) (aA aB:Int) (aC aF:Int) (aD:ByteArray) (aG aM:Int) (x2:Bool) (w0:World) (H:NP) (w:World) (K:Int→Int→WP):Prop :=
 Br x2
  (m_O_j1 p1 aA aB aC aF aD aG aM true w0 H w K)
  (Br (((s_C aA):Int) == 2)
   (Calls Tryz.prog 87 #[(vp p1),(vi aM)] w (fun e w22=>∃r7:Bool,e=.returned (vb r7)∧
    Kept H w w22 ∧
    m_O_j1 p1 aA aB aC aF aD aG aM (!r7) w0 H w22 K))
   (m_O_j1 p1 aA aB aC aF aD aG aM false w0 H w K))
def m_O (p1:Option Addr) (aA aB:Int) (aC aF:Int) (aD:ByteArray) (aG aM:Int) (w0:World) (K:Int→Int→WP):Prop :=
 Br (((s_H aA aB aC aF aD aG aM):Int) != 0)
  (∀(H1:NP) (w2:World),Hst w0 None w0 H1 w2 →
  K 0 (s_H aA aB aC aF aD aG aM) w2)
  (Br (decide ((s_C aA)≥1))
   (∀(H1:NP) (w3:World),Hst w0 None w0 H1 w3 →
   Calls Tryz.prog 87 #[(vp p1),(vi aG)] w3 (fun e w23=>∃r8:Bool,e=.returned (vb r8)∧
    Kept H1 w3 w23 ∧
    m_O_j2 p1 aA aB aC aF aD aG aM (!r8) w0 H1 w23 K))
   (∀(H1:NP) (w3:World),Hst w0 None w0 H1 w3 →
   m_O_j2 p1 aA aB aC aF aD aG aM false w0 H1 w3 K))
theorem w_O (p1 : Option Addr) (aA aB : Int) (aC aF : Int) (aD : ByteArray) (aG aM : Int) (w0 : World) (K : Int → Int → WP) (h : m_O p1 aA aB aC aF aD aG aM w0 K) :
  Calls Tryz.prog 113 #[(vp p1),(.agg #[(vi aA),(vi aB),(vi aC),(vu aF),(vs aD),(vi aG),(vi aM)])] w0 (fun e w'=>∃r9 r10:Int,e=.returned (.tuple #[(vi r9),(vi r10)])∧K r9 r10 w'):=by
 unfold m_O at h
 refine cw (args:=[(vp p1),(.agg #[(vi aA),(vi aB),(vi aC),(vu aF),(vs aD),(vi aG),(vi aM)])]) Tryz.func113 Tryz.ntmps113 ?_
 have hs:=Hst.start w0
 have hb:=HB.nil None w0
 refine eg (sn (O:=(.cells #[(vi aA),(vi aB),(vi aC),(vu aF),(vs aD),(vi aG),(vi aM)] 176)) xb ?_)
 intro p2 w1 hn1
 obtain ⟨H1,hs,hb⟩:=hs.alloc hb hn1
 refine q0 (vi 0) (q0 (vi 0) (ln (eg (q2 (.agg #[(vi aA),(vi aB),(vi aC),(vu aF),(vs aD),(vi aG),(vi aM)]) (xa p2 [(vi aA),(vi aB),(vi aC),(vu aF),(vs aD),(vi aG),(vi aM)] (Tryz.isAgg176 _) (Tryz.sizeOf176 _) (hb.r0 0 7 gZ)) ?_))))
 refine sc Tryz.call176 ((p_H aA aB aC aF aD aG aM w1).mono ?_)
 rintro e w2 ⟨he,hE⟩
 refine ⟨(vi (s_H aA aB aC aF aD aG aM)),he.trans (by kernel_rfl),?_⟩
 have hs:=hs.pure hE
 have hb:=hb.pure hE
 refine q0 (vi (s_H aA aB aC aF aD aG aM)) (ln (wpE_seq (eg (q0 (vi (s_H aA aB aC aF aD aG aM)) (q0 (vb (((s_H aA aB aC aF aD aG aM):Int) != 0)) (ln ?_))))))
 refine wpE_cond (t:=(((s_H aA aB aC aF aD aG aM):Int) != 0)) (by kernel_rfl) (fun hc1=>?_) (fun hc1=>?_)
 have h:=h.1 hc1
 refine eg (q0 (vi (s_H aA aB aC aF aD aG aM)) (q0 (vi 0) (q0 (vi (s_H aA aB aC aF aD aG aM)) (ln (er (th_r ?_))))))
 have h:=h H1 w2 hs
 have hs:=hs.here
 refine res2 (.inl rfl) Tryz.results113 (v:=(vi 0)) (by kernel_rfl) (v':=(vi (s_H aA aB aC aF aD aG aM))) (by kernel_rfl) ?_
 exact ⟨0,(s_H aA aB aC aF aD aG aM),rfl,h⟩
 have h:=h.2 hc1
 refine wpE_skip (th_n (eg (q0 (vp (some p2)) (q2 (vi aA) (xl (Tryz.isAgg3 _) (hb.c0 0 gZ)) ?_))))
 refine sc Tryz.call105 ((p_C aA w2).mono ?_)
 rintro e w3 ⟨he,hE⟩
 refine ⟨(vi (s_C aA)),he.trans (by kernel_rfl),?_⟩
 have hs:=hs.pure hE
 have hb:=hb.pure hE
 refine q0 (vi (s_C aA)) (ln (wpE_seq (wpE_seq ?_)))
 refine wpE_joinT (fun ρ w=>∃x1:Bool,∃H:NP,Has ρ [(0,(vp p1)),(3,(vp (some p2))),(39,(vb x1))]∧Hst w0 H w H w∧HB H w [(p2,[(vi aA),(vi aB),(vi aC),(vu aF),(vs aD),(vi aG),(vi aM)],176)]∧m_O_j1 p1 aA aB aC aF aD aG aM x1 w0 H w K) ?_ ?_
 rintro ρ w ⟨x1,H,hH,hs,hb,h⟩
 unfold m_O_j1 at h
 refine wpE_has hH ?_
 refine wpE_cond (t:=x1) (by kernel_rfl) (fun hc2=>?_) (fun hc2=>?_)
 have h:=h.1 hc2
 refine eg (q0 (vi 0) (q0 (vi 51) (ln (er (th_r (res2 (.inl rfl) Tryz.results113 (v:=(vi 0)) (by kernel_rfl) (v':=(vi 51)) (by kernel_rfl) ?_))))))
 exact ⟨0,51,rfl,h⟩
 have h:=h.2 hc2
 refine wpE_skip (th_n (wpE_seq ?_))
 obtain ⟨C1,hC,h⟩:=h
 refine wpE_drawnC (fun x=>C1 x∧HB H x [(p2,[(vi aA),(vi aB),(vi aC),(vu aF),(vs aD),(vi aG),(vi aM)],176)]) [3,8] [] (by kernel_rfl) (by kernel_rfl) (by kernel_rfl) (by kernel_rfl) ⟨hC,hb.drew⟩ ?_
 intro w4 hw4
 have h:=h w4 hw4
 have hs:Hst w0 H w H w4:=by rw [hw4];exact hs.drew
 have hb:HB H w4 [(p2,[(vi aA),(vi aB),(vi aC),(vu aF),(vs aD),(vi aG),(vi aM)],176)]:=by rw [hw4];exact hb.drew
 have hs:=hs.here
 refine qx 0 (vp p1) Kp0 (qx 1 (vp (some (p2.add 5))) Kp1 (qz 2 (vi aG) Kp2 (fun w' hw'=>(xl (Tryz.isAgg78 _) (hw'.2.cell 0 5 gZ (by kernel_rfl)))) (qx 5 (vp p1) Kp5 (qx 6 (vp (some (p2.add 6))) Kp6 (qz 7 (vi aM) Kp7 (fun w' hw'=>(xl (Tryz.isAgg78 _) (hw'.2.cell 0 6 gZ (by kernel_rfl)))) (lg 3 ?_))))))
 refine sl_call Kp3 (want0 rfl) (by kernel_rfl) (xc Tryz.call97) (h.mono ?_)
 rintro e w5 ⟨r1,rfl,hC,hk,h⟩
 refine ⟨_,rfl,.inr ⟨hC,hb.kept hk⟩,?_⟩
 obtain ⟨hs,hb⟩:=hk.hh hs hb
 refine qx 4 (vi (q6.wrap (1+r1))) Kp4 (lg 8 ?_)
 refine sl_call Kp8 (want0 rfl) (by kernel_rfl) (xc Tryz.call97) (h.mono ?_)
 rintro e w6 ⟨r2,rfl,hC,hk,h⟩
 refine ⟨_,rfl,.inr ⟨hC,hb.kept hk⟩,?_⟩
 obtain ⟨hs,hb⟩:=hk.hh hs hb
 refine qx 9 (vi (q6.wrap ((q6.wrap (1+r1))+r2))) Kp9 (qx 10 (vi (q6.wrap ((q6.wrap (1+r1))+r2))) (pickA (S8 (pickS (pickS pickZ)))) (wn (th_n (wpE_seq ?_))))
 obtain ⟨C2,hC,h⟩:=h
 refine wpE_drawnC (fun x=>C2 x∧HB H x [(p2,[(vi aA),(vi aB),(vi aC),(vu aF),(vs aD),(vi aG),(vi aM)],176)]) [3,7] [] (by kernel_rfl) (by kernel_rfl) (by kernel_rfl) (by kernel_rfl) ⟨hC,hb.drew⟩ ?_
 intro w7 hw7
 have h:=h w7 hw7
 have hs:Hst w0 H w6 H w7:=by rw [hw7];exact hs.drew
 have hb:HB H w7 [(p2,[(vi aA),(vi aB),(vi aC),(vu aF),(vs aD),(vi aG),(vi aM)],176)]:=by rw [hw7];exact hb.drew
 have hs:=hs.here
 refine qx 0 (vp p1) Kp0 (qx 1 (vp (some (p2.add 5))) Kp1 (qz 2 (vi aG) Kp2 (fun w' hw'=>(xl (Tryz.isAgg78 _) (hw'.2.cell 0 5 gZ (by kernel_rfl)))) (qx 4 (vp p1) Kp4 (qx 5 (vp (some (p2.add 6))) Kp5 (qz 6 (vi aM) Kp6 (fun w' hw'=>(xl (Tryz.isAgg78 _) (hw'.2.cell 0 6 gZ (by kernel_rfl)))) (lg 3 ?_))))))
 refine sl_call Kp3 (want0 rfl) (by kernel_rfl) (xc Tryz.call177) (h.mono ?_)
 rintro e w8 ⟨r3,rfl,hC,hk,h⟩
 refine ⟨_,rfl,.inr ⟨hC,hb.kept hk⟩,?_⟩
 obtain ⟨hs,hb⟩:=hk.hh hs hb
 refine lg 7 ?_
 refine sl_call Kp7 (want0 rfl) (by kernel_rfl) (xc Tryz.call177) (h.mono ?_)
 rintro e w9 ⟨r4,rfl,hC,hk,h⟩
 refine ⟨_,rfl,.inr ⟨hC,hb.kept hk⟩,?_⟩
 obtain ⟨hs,hb⟩:=hk.hh hs hb
 refine qg 8 ?_
 obtain ⟨z1,hv9,h⟩:=h
 refine sy (v:=(vi z1)) Kp8 (fun w' hw'=>(x_builtin (args:=#[(vi r3),(vi r4)]) (by kernel_rfl) (fun _=>rfl) (hv9 w' hw'.1))) (qx 9 (vi (q6.wrap (1+z1))) Kp9 (qx 10 (vi (q6.wrap (1+z1))) (pickA (S8 (pickS (pickS pickZ)))) (wn (th_n (wpE_seq (wpE_seq ?_))))))
 refine wpE_via (fun ρ wJ=>∃b1'0 y1:Bool,∃HJ:NP,((decide ((q6.wrap ((q6.wrap (1+r1))+r2))>4096))=b1'0)∧(y1=(b1'0 || (decide ((q6.wrap (1+z1))>64))))∧Hst w0 H w9 HJ wJ∧HB HJ wJ [(p2,[(vi aA),(vi aB),(vi aC),(vu aF),(vs aD),(vi aG),(vi aM)],176)]∧Has ρ [(0,(vp p1)),(3,(vp (some p2))),(8,(vi (q6.wrap ((q6.wrap (1+r1))+r2)))),(9,(vi (q6.wrap (1+z1)))),(65,(vb y1))]) ?_ ?_
 refine rg (q0 (vi (q6.wrap ((q6.wrap (1+r1))+r2))) (q0 (vb (decide ((q6.wrap ((q6.wrap (1+r1))+r2))>4096))) (q0 (vb (decide ((q6.wrap ((q6.wrap (1+r1))+r2))>4096))) ?_)))
 rcases Bool.eq_false_or_eq_true (decide ((q6.wrap ((q6.wrap (1+r1))+r2))>4096)) with hg2 | hg2
 refine sk (yD 62 hg2) (sk (yD 62 hg2) (q2 (vb true) (xT hg2) (ln ?_)))
 exact ⟨true,_,_,hg2,rfl,hs,hb,hm⟩
 refine q1 (vi (q6.wrap (1+z1))) (wy 62 hg2) (q1 (vb (decide ((q6.wrap (1+z1))>64))) (wy 62 hg2) (q2 (vb (decide ((q6.wrap (1+z1))>64))) (xF hg2) (ln ?_)))
 exact ⟨false,_,_,hg2,rfl,hs,hb,hm⟩
 rintro ρ w10 ⟨b1'0,y1,H2,he0,hy1,hs,hb,hH⟩
 subst he0
 have h:=h y1 hy1
 refine norm_has hH ?_
 refine th_n ?_
 refine wpE_cond (t:=y1) (by kernel_rfl) (fun hc3=>?_) (fun hc3=>?_)
 have h:=h.1 hc3
 refine eg (q0 (vi 0) (q0 (vi 52) (ln (er (th_r ?_)))))
 have h:=h H2 w10 hs
 have hs:=hs.here
 refine res2 (.inl rfl) Tryz.results113 (v:=(vi 0)) (by kernel_rfl) (v':=(vi 52)) (by kernel_rfl) ?_
 exact ⟨0,52,rfl,h⟩
 have h:=h.2 hc3
 refine wpE_skip (th_n (eg (q0 (vp p1) (q2 (.agg #[(vi aA),(vi aB),(vi aC),(vu aF),(vs aD),(vi aG),(vi aM)]) (xa p2 [(vi aA),(vi aB),(vi aC),(vu aF),(vs aD),(vi aG),(vi aM)] (Tryz.isAgg176 _) (Tryz.sizeOf176 _) (hb.r0 0 7 gZ)) ?_))))
 have h:=h H2 w10 hs
 have hs:=hs.here
 refine sc Tryz.call178 (h.mono ?_)
 rintro e w11 ⟨r5,r6,rfl,hk,h⟩
 refine ⟨_,rfl,?_⟩
 obtain ⟨hs,hb⟩:=hk.hh hs hb
 refine q0 (.tuple #[(vi r5),(vb r6)]) (q0 (vi r5) (q0 (vb r6) (q0 (vi r5) (q0 (vb r6) (ln (wpE_seq (eg (q0 (vb r6) (wpL_nil ?_)))))))))
 refine th_n ?_
 refine wpE_cond (t:=r6) (by kernel_rfl) (fun hc4=>?_) (fun hc4=>?_)
 have h:=h.1 hc4
 refine eg (q0 (vi r5) (q0 (vi r5) (q0 (vi 0) (ln (er (th_r (res2 (.inl rfl) Tryz.results113 (v:=(vi r5)) (by kernel_rfl) (v':=(vi 0)) (by kernel_rfl) ?_)))))))
 exact ⟨r5,0,rfl,h⟩
 have h:=h.2 hc4
 refine wpE_skip (th_n (wpE_seq (eg (q0 (vp p1) ?_))))
 obtain ⟨a1,hp1,h⟩:=h
 refine q2 (vp (some a1)) (x_nilCheck (p:=p1) (by kernel_rfl) hp1) (q0 (vp (some a1)) ?_)
 obtain ⟨v1,hv8,h⟩:=h
 refine q2 v1.v (xl (Tryz.isAgg41 _) hv8) (q0 (vi (v1.len:Int)) (q0 (vb (decide ((v1.len:Int)≥65536))) (ln ?_)))
 refine wpE_cond (t:=(decide ((v1.len:Int)≥65536))) (by kernel_rfl) (fun hc5=>?_) (fun hc5=>?_)
 have h:=h.1 hc5
 refine eg (q0 (vi 0) (q0 (vi 6) (ln (er (th_r (res2 (.inl rfl) Tryz.results113 (v:=(vi 0)) (by kernel_rfl) (v':=(vi 6)) (by kernel_rfl) ?_))))))
 exact ⟨0,6,rfl,h⟩
 have h:=h.2 hc5
 refine wpE_skip (th_n (wpE_seq ?_))
 obtain ⟨C3,hC,h⟩:=h
 refine wpE_drawnC (fun x=>C3 x∧HB H2 x [(p2,[(vi aA),(vi aB),(vi aC),(vu aF),(vs aD),(vi aG),(vi aM)],176)]) [6,7,10] [10] (by kernel_rfl) (by kernel_rfl) (by kernel_rfl) (by kernel_rfl) ⟨hC,hb.drew⟩ ?_
 intro w12 hw12
 have h:=h w12 hw12
 have hs:Hst w0 H2 w11 H2 w12:=by rw [hw12];exact hs.drew
 have hb:HB H2 w12 [(p2,[(vi aA),(vi aB),(vi aC),(vu aF),(vs aD),(vi aG),(vi aM)],176)]:=by rw [hw12];exact hb.drew
 have hs:=hs.here
 refine qx 0 (vp p1) Kp0 (qx 1 (vp p1) Kp1 (qg 2 ?_))
 obtain ⟨a2,hp2,h⟩:=h
 refine sy (v:=(vp (some a2))) Kp2 (fun _ _=>(x_nilCheck (p:=p1) (by kernel_rfl) hp2)) (qx 3 (vp (some a2)) Kp3 (qg 4 ?_))
 obtain ⟨v2,hv7,h⟩:=h
 refine sy (v:=v2.v) Kp4 (fun w' hw'=>(xl (Tryz.isAgg41 _) (hv7 w' hw'.1))) (qz 5 (.agg #[(vi aA),(vi aB),(vi aC),(vu aF),(vs aD),(vi aG),(vi aM)]) Kp5 (fun w' hw'=>(xa p2 [(vi aA),(vi aB),(vi aC),(vu aF),(vs aD),(vi aG),(vi aM)] (Tryz.isAgg176 _) (Tryz.sizeOf176 _) (hw'.2.r0 0 7 gZ))) (lg 6 (sl_new (O:=(.cells #[(vi aA),(vi aB),(vi aC),(vu aF),(vs aD),(vi aG),(vi aM)] 176)) (fun p=>(Sl.mk (some p) 1 1).v) Kp6 (want0 rfl) (by kernel_rfl) (x_buildSlice (vs:=#[(0,(.agg #[(vi aA),(vi aB),(vi aC),(vu aF),(vs aD),(vi aG),(vi aM)]))]) (by kernel_rfl) (by kernel_rfl)) ?_)))
 intro p3 w13 hn7
 have h:=h p3 w13 hn7
 refine ⟨.inr ⟨h.1,hb.kept (Ext.new (F:=None) hn7).keptP⟩,?_⟩
 have h:=h.2
 have hs:=hs.again (Ext.new (F:=None) hn7).keptP
 have hb:=hb.kept (Ext.new (F:=None) hn7).keptP
 refine lg 7 ?_
 obtain ⟨s1,w14,hv6,hC,hk,h⟩:=h
 refine sl (v:=s1.v) Kp7 (want0 rfl) (by kernel_rfl) (x_builtin (args:=#[v2.v,(Sl.mk (some p3) 1 1).v]) (by kernel_rfl) (fun _=>rfl) hv6) (.inr ⟨hC,hb.kept hk⟩) ?_
 obtain ⟨hs,hb⟩:=hk.hh hs hb
 refine qg 8 ?_
 obtain ⟨a3,hp3,h⟩:=h
 refine sy (v:=(vp (some a3))) Kp8 (fun _ _=>(x_nilCheck (p:=p1) (by kernel_rfl) hp3)) (qx 9 (vp (some a3)) Kp9 (lg 10 ?_))
 obtain ⟨hp4,hnh,h⟩:=h
 refine sl_t (pickA (S8 (pickS (pickS pickZ)))) (xs (v:=s1.v) (Tryz.sizeOf41 _) hp4) ?_
 intro w15 hn2
 have h:=h w15 hn2
 refine ⟨.inl (by kernel_rfl),?_⟩
 have hk:=Kept.sc hnh hn2
 obtain ⟨hs,hb⟩:=hk.hh hs hb
 refine wn (th_n (eg (q0 (vp p1) (q0 (vp p1) ?_))))
 obtain ⟨a4,hp5,h⟩:=h
 refine q2 (vp (some a4)) (x_nilCheck (p:=p1) (by kernel_rfl) hp5) (q0 (vp (some (a4.add 1))) ?_)
 obtain ⟨v3,hv5,h⟩:=h
 refine q2 v3.v (xl (Tryz.isAgg42 _) hv5) (q0 (vi (q6.wrap ((q6.wrap (1+r1))+r2))) (st_new (O:=(.cells #[(vi (q6.wrap ((q6.wrap (1+r1))+r2)))] 3)) (fun p=>(Sl.mk (some p) 1 1).v) (want0 rfl) (x_buildSlice (vs:=#[(0,(vi (q6.wrap ((q6.wrap (1+r1))+r2))))]) (by kernel_rfl) (by kernel_rfl)) ?_))
 intro p4 w16 hn6
 have h:=h p4 w16 hn6
 have hs:=hs.again (Ext.new (F:=None) hn6).keptP
 have hb:=hb.kept (Ext.new (F:=None) hn6).keptP
 obtain ⟨s2,w17,hv4,hk,h⟩:=h
 refine st (v:=s2.v) (want0 rfl) (x_builtin (args:=#[v3.v,(Sl.mk (some p4) 1 1).v]) (by kernel_rfl) (fun _=>rfl) hv4) ?_
 obtain ⟨hs,hb⟩:=hk.hh hs hb
 obtain ⟨a5,hp6,h⟩:=h
 refine q2 (vp (some a5)) (x_nilCheck (p:=p1) (by kernel_rfl) hp6) (q0 (vp (some (a5.add 1))) ?_)
 obtain ⟨hp7,hnh,h⟩:=h
 refine st_set (want0 rfl) (x_store (a:=(a5.add 1)) (v:=s2.v) (by kernel_rfl) (by kernel_rfl) rfl (Tryz.sizeOf42 _) hp7) ?_
 intro w18 hn3
 have h:=h w18 hn3
 have hk:=Kept.sc hnh hn3
 obtain ⟨hs,hb⟩:=hk.hh hs hb
 refine ln (eg (q0 (vp p1) (q0 (vp p1) ?_)))
 obtain ⟨a6,hp8,h⟩:=h
 refine q2 (vp (some a6)) (x_nilCheck (p:=p1) (by kernel_rfl) hp8) (q0 (vp (some (a6.add 2))) ?_)
 obtain ⟨v4,hv3,h⟩:=h
 refine q2 v4.v (xl (Tryz.isAgg42 _) hv3) (q0 (vi (q6.wrap (1+z1))) (st_new (O:=(.cells #[(vi (q6.wrap (1+z1)))] 3)) (fun p=>(Sl.mk (some p) 1 1).v) (want0 rfl) (x_buildSlice (vs:=#[(0,(vi (q6.wrap (1+z1))))]) (by kernel_rfl) (by kernel_rfl)) ?_))
 intro p5 w19 hn5
 have h:=h p5 w19 hn5
 have hs:=hs.again (Ext.new (F:=None) hn5).keptP
 have hb:=hb.kept (Ext.new (F:=None) hn5).keptP
 obtain ⟨s3,w20,hv2,hk,h⟩:=h
 refine st (v:=s3.v) (want0 rfl) (x_builtin (args:=#[v4.v,(Sl.mk (some p5) 1 1).v]) (by kernel_rfl) (fun _=>rfl) hv2) ?_
 obtain ⟨hs,hb⟩:=hk.hh hs hb
 obtain ⟨a7,hp9,h⟩:=h
 refine q2 (vp (some a7)) (x_nilCheck (p:=p1) (by kernel_rfl) hp9) (q0 (vp (some (a7.add 2))) ?_)
 obtain ⟨hp10,hnh,h⟩:=h
 refine st_set (want0 rfl) (x_store (a:=(a7.add 2)) (v:=s3.v) (by kernel_rfl) (by kernel_rfl) rfl (Tryz.sizeOf42 _) hp10) ?_
 intro w21 hn4
 have h:=h w21 hn4
 have hk:=Kept.sc hnh hn4
 obtain ⟨hs,hb⟩:=hk.hh hs hb
 refine ln (eg (q0 (vp p1) ?_))
 obtain ⟨a8,hp11,h⟩:=h
 refine q2 (vp (some a8)) (x_nilCheck (p:=p1) (by kernel_rfl) hp11) (q0 (vp (some a8)) ?_)
 obtain ⟨v5,hv1,h⟩:=h
 refine q2 v5.v (xl (Tryz.isAgg41 _) hv1) (q0 (vi (v5.len:Int)) (q0 (vi (v5.len:Int)) (q0 (vi 0) (ln (er (res2 (.inl rfl) Tryz.results113 (v:=(vi (v5.len:Int))) (by kernel_rfl) (v':=(vi 0)) (by kernel_rfl) ?_))))))
 exact ⟨(v5.len:Int),0,rfl,h⟩
 refine rg (q0 (vi (s_C aA)) (q0 (vb (decide ((s_C aA)≥1))) (q0 (vb (decide ((s_C aA)≥1))) ?_)))
 refine wpL_join 6 (fun ρ w=>∃x2:Bool,∃H:NP,Has ρ [(0,(vp p1)),(3,(vp (some p2))),(7,(vi (s_C aA))),(28,(vb x2))]∧Hst w0 H w H w∧HB H w [(p2,[(vi aA),(vi aB),(vi aC),(vu aF),(vs aD),(vi aG),(vi aM)],176)]∧m_O_j2 p1 aA aB aC aF aD aG aM x2 w0 H w K) ?_ ?_
 rintro ρ w ⟨x2,H,hH,hs,hb,h⟩
 unfold m_O_j2 at h
 refine wpL_has hH ?_
 refine q0 (vb x2) ?_
 rcases Bool.eq_false_or_eq_true x2 with hg3 | hg3
 have h:=h.1 hg3
 refine sk (yD 29 hg3) (sk (yD 29 hg3) (sk (yD 29 hg3) (sm (sm (sm (sm (sm (sk (yD 29 hg3) (q2 (vb true) (xT hg3) (ln ?_))))))))))
 exact ⟨true,H,hm,hs,hb,h⟩
 have h:=h.2 hg3
 refine q1 (vi (s_C aA)) (wy 29 hg3) (q1 (vb (((s_C aA):Int) == 2)) (wy 29 hg3) (q1 (vb (((s_C aA):Int) == 2)) (wy 29 hg3) ?_))
 rcases Bool.eq_false_or_eq_true (((s_C aA):Int) == 2) with hg4 | hg4
 have h:=h.1 hg4
 refine q1 (vp p1) (wy 32 hg4) (q1 (vp (some (p2.add 6))) (wy 32 hg4) (stp (v:=(vi aM)) (wy 32 hg4) (xl (Tryz.isAgg78 _) (hb.c 0 6 gZ)) ?_))
 refine st_call (wy 32 hg4) (xc Tryz.call87) (h.mono ?_)
 rintro e w22 ⟨r7,rfl,hk,h⟩
 refine ⟨_,rfl,?_⟩
 obtain ⟨hs,hb⟩:=hk.hh hs hb
 refine q1 (vb (!r7)) (wy 32 hg4) (stp (v:=(vb (!r7))) (wy 29 hg3) (xT hg4) (q2 (vb (!r7)) (xF hg3) (ln ?_)))
 exact ⟨(!r7),H,hm,hs,hb,h⟩
 have h:=h.2 hg4
 refine sk (yD 32 hg4) (sk (yD 32 hg4) (sk (yD 32 hg4) (sk (yD 32 hg4) (sk (yD 32 hg4) (stp (v:=(vb false)) (wy 29 hg3) (xF hg4) (q2 (vb false) (xF hg3) (ln ?_)))))))
 exact ⟨false,H,hm,hs,hb,h⟩
 rcases Bool.eq_false_or_eq_true (decide ((s_C aA)≥1)) with hg5 | hg5
 have h:=h.1 hg5
 refine q1 (vp p1) (wy 22 hg5) (q1 (vp (some (p2.add 5))) (wy 22 hg5) (stp (v:=(vi aG)) (wy 22 hg5) (xl (Tryz.isAgg78 _) (hb.c 0 5 gZ)) ?_))
 have h:=h H1 w3 hs
 have hs:=hs.here
 refine st_call (wy 22 hg5) (xc Tryz.call87) (h.mono ?_)
 rintro e w23 ⟨r8,rfl,hk,h⟩
 refine ⟨_,rfl,?_⟩
 obtain ⟨hs,hb⟩:=hk.hh hs hb
 refine q1 (vb (!r8)) (wy 22 hg5) (q2 (vb (!r8)) (xT hg5) (wpL_nil ?_))
 exact ⟨(!r8),H1,hm,hs,hb,h⟩
 have h:=h.2 hg5
 refine sk (yD 22 hg5) (sk (yD 22 hg5) (sk (yD 22 hg5) (sk (yD 22 hg5) (sk (yD 22 hg5) (q2 (vb false) (xF hg5) (wpL_nil ?_))))))
 have h:=h H1 w3 hs
 have hs:=hs.here
 exact ⟨false,H1,hm,hs,hb,h⟩
def m_O1_l1 (p1:Option Addr) (aH:Sl) (i1 aA:Int) (aB aC aF:Int) (aD:ByteArray) (aG aM:Int) (w0:World) (Hl1:NP) (wl1:World) (Kc1:Int→Int→Int→Int→Int→ByteArray→Int→Int→NP→WP) (K:Int→Int→WP):Prop :=
 Br (decide (i1<(aH.len:Int)))
  (∃a1:Addr,At aH i1 6 a1 ∧
  ∃aO aP:Int,∃aQ aR:Int,∃aS:ByteArray,∃bI:Sl,Row wl1 a1 [(vi aO),(vi aP),(vi aQ),(vu aR),(vs aS),bI.v] ∧
  Calls Tryz.prog 148 #[(vp p1),(.agg #[(vi aO),(vi aP),(vi aQ),(vu aR),(vs aS),bI.v])] wl1 (fun e w5=>∃r1 r2:Int,e=.returned (.tuple #[(vi r1),(vi r2)])∧
   Kept Hl1 wl1 w5 ∧
   Br (r2 != 0)
    (K 0 r2 w5)
    (∀(H3:NP) (w8:World),Hst w0 Hl1 w5 H3 w8 →
    Kc1 (q6.wrap (i1+1)) aA aB aC aF aD (cond (i1 == 0) r1 aG) (cond (i1 == 0) aM r1) H3 w8)))
  (Calls Tryz.prog 113 #[(vp p1),(.agg #[(vi aA),(vi aB),(vi aC),(vu aF),(vs aD),(vi aG),(vi aM)])] wl1 (fun e w11=>∃r3 r4:Int,e=.returned (.tuple #[(vi r3),(vi r4)])∧
   Kept Hl1 wl1 w11 ∧
   K r3 r4 w11))
def m_O1 (p1:Option Addr) (aE aI:Int) (aJ aK:Int) (aL:ByteArray) (aH:Sl) (w0:World) (K:Int→Int→WP):Prop :=
 ∀(H2:NP) (w4:World),Hst w0 None w0 H2 w4 →
 ∃(I1:Int→Int→Int→Int→Int→ByteArray→Int→Int→NP→WP) (mu1:Int→Int→Int→Int→Int→ByteArray→Int→Int→World→Nat),I1 0 aE aI aJ aK aL 0 0 H2 w4 ∧
  ∀(i1 aA:Int) (aB aC aF:Int) (aD:ByteArray) (aG aM:Int) (Hl1:NP) (wl1:World),Hst w0 Hl1 wl1 Hl1 wl1→I1 i1 aA aB aC aF aD aG aM Hl1 wl1→m_O1_l1 p1 aH i1 aA aB aC aF aD aG aM w0 Hl1 wl1 (fun y'0 y'1 y'2 y'3 y'4 y'5 y'6 y'7 H' w'=>I1 y'0 y'1 y'2 y'3 y'4 y'5 y'6 y'7 H' w'∧mu1 y'0 y'1 y'2 y'3 y'4 y'5 y'6 y'7 w'<mu1 i1 aA aB aC aF aD aG aM wl1) K
theorem w_O1 (p1 : Option Addr) (aE aI : Int) (aJ aK : Int) (aL : ByteArray) (aH : Sl) (w0 : World) (K : Int → Int → WP) (h : m_O1 p1 aE aI aJ aK aL aH w0 K) :
  Calls Tryz.prog 148 #[(vp p1),(.agg #[(vi aE),(vi aI),(vi aJ),(vu aK),(vs aL),aH.v])] w0 (fun e w'=>∃r5 r6:Int,e=.returned (.tuple #[(vi r5),(vi r6)])∧K r5 r6 w'):=by
 unfold m_O1 at h
 refine cw (args:=[(vp p1),(.agg #[(vi aE),(vi aI),(vi aJ),(vu aK),(vs aL),aH.v])]) Tryz.func148 Tryz.ntmps148 ?_
 have hs:=Hst.start w0
 have hb:=HB.nil None w0
 refine eg (sn (O:=(.cells #[(vi aE),(vi aI),(vi aJ),(vu aK),(vs aL),aH.v] 107)) xb ?_)
 intro p2 w1 hn1
 obtain ⟨H1,hs,hb⟩:=hs.alloc hb hn1
 refine q0 (vi 0) (q0 (vi 0) (ln (eg (q2 (.agg #[(vi aE),(vi aI),(vi aJ),(vu aK),(vs aL),aH.v]) (xa p2 [(vi aE),(vi aI),(vi aJ),(vu aK),(vs aL),aH.v] (Tryz.isAgg107 _) (Tryz.sizeOf107 _) (hb.r0 0 6 gZ)) ?_))))
 refine sc Tryz.call204 ((p_C1 aE aI aJ aK aL aH w1).mono ?_)
 rintro e w2 ⟨he,hE⟩
 refine ⟨(.agg #[(vi aE),(vi aI),(vi aJ),(vu aK),(vs aL),(vi 0),(vi 0)]),he.trans (by kernel_rfl),?_⟩
 have hs:=hs.pure hE
 have hb:=hb.pure hE
 refine sn (O:=(.cells #[(vi 0),(vi 0),(vi 0),(vu 0),(vs ⟨#[]⟩),(vi 0),(vi 0)] 176)) (x_alloc (Tryz.zeroValue176 _) rfl) ?_
 intro p3 w3 hn2
 obtain ⟨H2,hs,hb⟩:=hs.alloc hb hn2
 refine st_set (want0 rfl) (xo p3 [(vi aE),(vi aI),(vi aJ),(vu aK),(vs aL),(vi 0),(vi 0)] (Tryz.sizeOf176 _) (hb.k0 0 7 gZ)) ?_
 intro w4 hn3
 obtain ⟨hs,hb⟩:=hb.s0 (l':=[(p3,[(vi aE),(vi aI),(vi aJ),(vu aK),(vs aL),(vi 0),(vi 0)],176),(p2,[(vi aE),(vi aI),(vi aJ),(vu aK),(vs aL),aH.v],107)]) 0 [(vi aE),(vi aI),(vi aJ),(vu aK),(vs aL),(vi 0),(vi 0)] hs hn3 gZ
 refine ln (wpE_seq (eg (q0 (vi 0) (ln (wpE_block ?_)))))
 have h:=h H2 w4 hs
 have hs:=hs.here
 obtain ⟨I1,mu1,h0,hr⟩:=h
 refine wpE_loop (σ:=Int×Int×Int×Int×Int×ByteArray×Int×Int×NP×World) (fun s ρ w=>w=s.2.2.2.2.2.2.2.2.2∧Has ρ [(0,(vp p1)),(3,(vp (some p2))),(6,(vp (some p3))),(7,(vi s.1))]∧Hst w0 s.2.2.2.2.2.2.2.2.1 w s.2.2.2.2.2.2.2.2.1 w∧HB s.2.2.2.2.2.2.2.2.1 w [(p3,[(vi s.2.1),(vi s.2.2.1),(vi s.2.2.2.1),(vu s.2.2.2.2.1),(vs s.2.2.2.2.2.1),(vi s.2.2.2.2.2.2.1),(vi s.2.2.2.2.2.2.2.1)],176),(p2,[(vi aE),(vi aI),(vi aJ),(vu aK),(vs aL),aH.v],107)]∧I1 s.1 s.2.1 s.2.2.1 s.2.2.2.1 s.2.2.2.2.1 s.2.2.2.2.2.1 s.2.2.2.2.2.2.1 s.2.2.2.2.2.2.2.1 s.2.2.2.2.2.2.2.2.1 s.2.2.2.2.2.2.2.2.2) (fun s=>mu1 s.1 s.2.1 s.2.2.1 s.2.2.2.1 s.2.2.2.2.1 s.2.2.2.2.2.1 s.2.2.2.2.2.2.1 s.2.2.2.2.2.2.2.1 s.2.2.2.2.2.2.2.2.2) (0,aE,aI,aJ,aK,aL,0,0,H2,w4) ⟨rfl,hm,hs,hb,h0⟩ ?_
 rintro ⟨i1,aA,aB,aC,aF,aD,aG,aM,Hl1,wl1⟩ ρ w ⟨hw,hH,hs,hb,hI⟩
 obtain rfl:wl1=w:=(show w=wl1 from hw).symm
 have hH:Has ρ [(0,(vp p1)),(3,(vp (some p2))),(6,(vp (some p3))),(7,(vi i1))]:=hH
 have hs:Hst w0 Hl1 wl1 Hl1 wl1:=hs
 have hb:HB Hl1 wl1 [(p3,[(vi aA),(vi aB),(vi aC),(vu aF),(vs aD),(vi aG),(vi aM)],176),(p2,[(vi aE),(vi aI),(vi aJ),(vu aK),(vs aL),aH.v],107)]:=hb
 have h:=hr i1 aA aB aC aF aD aG aM Hl1 wl1 hs hI
 unfold m_O1_l1 at h
 refine wpE_has hH ?_
 refine wpE_seq (eg (q0 (vi i1) (q0 (vp (some (p2.add 5))) (q2 aH.v (xl (Tryz.isAgg66 _) (hb.c 1 5 (gS gZ))) (q0 (vi (aH.len:Int)) (q0 (vb (decide (i1<(aH.len:Int)))) (ln ?_)))))))
 refine wpE_cond (t:=(decide (i1<(aH.len:Int)))) (by kernel_rfl) (fun hc1=>?_) (fun hc1=>?_)
 have h:=h.1 hc1
 refine wpE_skip (th_n (wpE_seq (wpE_block (eg (q0 (vp p1) (q0 (vp (some (p2.add 5))) (q2 aH.v (xl (Tryz.isAgg66 _) (hb.c 1 5 (gS gZ))) (q0 (vi i1) ?_))))))))
 obtain ⟨a1,hv2,h⟩:=h
 refine q2 (vp (some a1)) (xi (Tryz.runUnderlying66 _) (Tryz.sizeOf107 _) hv2) ?_
 obtain ⟨aO,aP,aQ,aR,aS,bI,hv1,h⟩:=h
 refine q2 (.agg #[(vi aO),(vi aP),(vi aQ),(vu aR),(vs aS),bI.v]) (xa a1 [(vi aO),(vi aP),(vi aQ),(vu aR),(vs aS),bI.v] (Tryz.isAgg107 _) (Tryz.sizeOf107 _) hv1) ?_
 refine sc Tryz.call148 (h.mono ?_)
 rintro e w5 ⟨r1,r2,rfl,hk,h⟩
 refine ⟨_,rfl,?_⟩
 obtain ⟨hs,hb⟩:=hk.hh hs hb
 refine q0 (.tuple #[(vi r1),(vi r2)]) (q0 (vi r1) (q0 (vi r2) (q0 (vi r1) (q0 (vi r2) (ln (wpE_seq (eg (q0 (vi r2) (q0 (vb (r2 != 0)) ?_)))))))))
 refine ln ?_
 refine wpE_cond (t:=(r2 != 0)) (by kernel_rfl) (fun hc2=>?_) (fun hc2=>?_)
 have h:=h.1 hc2
 refine eg (q0 (vi r2) (q0 (vi 0) (q0 (vi r2) (ln (er (th_r (bl_r (th_r (th_r ?_)))))))))
 refine bl_r (th_r (res2 (.inl rfl) Tryz.results148 (v:=(vi 0)) (by kernel_rfl) (v':=(vi r2)) (by kernel_rfl) ?_))
 exact ⟨0,r2,rfl,h⟩
 have h:=h.2 hc2
 refine wpE_skip (th_n (eg (q0 (vi i1) (q0 (vb (i1 == 0)) (ln ?_)))))
 refine wpE_via (fun ρ wJ=>∃b1'0:Bool,∃HJ:NP,((i1 == 0)=b1'0)∧Hst w0 Hl1 w5 HJ wJ∧HB HJ wJ [(p3,[(vi aA),(vi aB),(vi aC),(vu aF),(vs aD),(vi (cond b1'0 r1 aG)),(vi (cond b1'0 aM r1))],176),(p2,[(vi aE),(vi aI),(vi aJ),(vu aK),(vs aL),aH.v],107)]∧Has ρ [(0,(vp p1)),(3,(vp (some p2))),(6,(vp (some p3))),(7,(vi i1))]) ?_ ?_
 refine wpE_cond (t:=(i1 == 0)) (by kernel_rfl) (fun hc4=>?_) (fun hc4=>?_)
 refine rg (q0 (vi r1) (q0 (vp (some (p3.add 5))) (st_set (want0 rfl) (x_store (a:=(p3.add 5)) (v:=(vi r1)) (by kernel_rfl) (by kernel_rfl) rfl (Tryz.sizeOf78 _) (hb.canW 0 5 gZ (by kernel_rfl))) ?_)))
 intro w9 hn6
 have hsb:Hst w0 Hl1 w5 Hl1 w9∧HB Hl1 w9 [(p3,[(vi aA),(vi aB),(vi aC),(vu aF),(vs aD),(vi r1),(vi aM)],176),(p2,[(vi aE),(vi aI),(vi aJ),(vu aK),(vs aL),aH.v],107)]:=by
  rw [hn6]
  exact hb.set (i:=0) 5 (v:=(vi r1)) hs gZ (by kernel_rfl)
 obtain ⟨hs,hb⟩:=hsb
 refine ln ?_
 exact ⟨true,_,hc4,hs,hb,hm⟩
 refine rg (q0 (vi r1) (q0 (vp (some (p3.add 6))) (st_set (want0 rfl) (x_store (a:=(p3.add 6)) (v:=(vi r1)) (by kernel_rfl) (by kernel_rfl) rfl (Tryz.sizeOf78 _) (hb.canW 0 6 gZ (by kernel_rfl))) ?_)))
 intro w10 hn7
 have hsb:Hst w0 Hl1 w5 Hl1 w10∧HB Hl1 w10 [(p3,[(vi aA),(vi aB),(vi aC),(vu aF),(vs aD),(vi aG),(vi r1)],176),(p2,[(vi aE),(vi aI),(vi aJ),(vu aK),(vs aL),aH.v],107)]:=by
  rw [hn7]
  exact hb.set (i:=0) 6 (v:=(vi r1)) hs gZ (by kernel_rfl)
 obtain ⟨hs,hb⟩:=hsb
 refine ln ?_
 exact ⟨false,_,hc4,hs,hb,hm⟩
 rintro ρ w8 ⟨b1'0,H3,he0,hs,hb,hH⟩
 subst he0
 refine norm_has hH ?_
 refine bl_n (th_n (rg (q0 (vi i1) (q0 (vi (q6.wrap (i1+1))) (q0 (vi (q6.wrap (i1+1))) (wpL_nil ?_))))))
 have h:=h H3 w8 hs
 have hs:=hs.here
 refine th_n ?_
 exact ⟨((q6.wrap (i1+1)),aA,aB,aC,aF,aD,(cond (i1 == 0) r1 aG),(cond (i1 == 0) aM r1),H3,w8),⟨rfl,hm,hs,hb,h.1⟩,h.2⟩
 have h:=h.2 hc1
 refine wpE_exit (th_x (th_x (bl_eq (th_n (eg (q0 (vp p1) (q2 (.agg #[(vi aA),(vi aB),(vi aC),(vu aF),(vs aD),(vi aG),(vi aM)]) (xa p3 [(vi aA),(vi aB),(vi aC),(vu aF),(vs aD),(vi aG),(vi aM)] (Tryz.isAgg176 _) (Tryz.sizeOf176 _) (hb.r0 0 7 gZ)) ?_)))))))
 refine sc Tryz.call113 (h.mono ?_)
 rintro e w11 ⟨r3,r4,rfl,hk,h⟩
 refine ⟨_,rfl,?_⟩
 obtain ⟨hs,hb⟩:=hk.hh hs hb
 refine q0 (vi r3) (q0 (vi r4) (q0 (vi r3) (q0 (vi r4) (ln (er (res2 (.inl rfl) Tryz.results148 (v:=(vi r3)) (by kernel_rfl) (v':=(vi r4)) (by kernel_rfl) ?_))))))
 exact ⟨r3,r4,rfl,h⟩
def m_M2 (p1:Option Addr) (n1:Int) (w0:World) (K:WP):Prop :=
 ∃a1:Addr,p1=some a1 ∧
 ∃v1:Sl,w0.cell? a1=some v1.v ∧
 ∃s1:Sl,(Instr.sliceAt 41 v1.v none (some (vi n1)) none).run Tryz.prog w0=.ok s1.v w0 ∧
 ∃a2:Addr,p1=some a2 ∧
 CanW w0 a2∧∀w1:World,w1=w0.setCell a2 s1.v →
 ∃a3:Addr,p1=some a3 ∧
 ∃v2:Sl,w1.cell? (a3.add 1)=some v2.v ∧
 ∃s2:Sl,(Instr.sliceAt 42 v2.v none (some (vi n1)) none).run Tryz.prog w1=.ok s2.v w1 ∧
 ∃a4:Addr,p1=some a4 ∧
 CanW w1 (a4.add 1)∧∀w2:World,w2=w1.setCell (a4.add 1) s2.v →
 ∃a5:Addr,p1=some a5 ∧
 ∃v3:Sl,w2.cell? (a5.add 2)=some v3.v ∧
 ∃s3:Sl,(Instr.sliceAt 42 v3.v none (some (vi n1)) none).run Tryz.prog w2=.ok s3.v w2 ∧
 ∃a6:Addr,p1=some a6 ∧
 CanW w2 (a6.add 2)∧∀w3:World,w3=w2.setCell (a6.add 2) s3.v →
 K w3
theorem w_M2 (p1 : Option Addr) (n1 : Int) (w0 : World) (K : WP) (h : m_M2 p1 n1 w0 K) :
  Calls Tryz.prog 149 #[(vp p1),(vi n1)] w0 (fun e w'=>e=.returned (.tuple #[])∧K  w'):=by
 unfold m_M2 at h
 refine cw (args:=[(vp p1),(vi n1)]) Tryz.func149 Tryz.ntmps149 (eg (q0 (vp p1) (q0 (vp p1) ?_)))
 obtain ⟨a1,hp1,h⟩:=h
 refine q2 (vp (some a1)) (x_nilCheck (p:=p1) (by kernel_rfl) hp1) (q0 (vp (some a1)) ?_)
 obtain ⟨v1,hv6,h⟩:=h
 refine q2 v1.v (xl (Tryz.isAgg41 _) hv6) (q0 (vi n1) ?_)
 obtain ⟨s1,hv5,h⟩:=h
 refine q2 s1.v (x_slice (by kernel_rfl) (by kernel_rfl) (by kernel_rfl) (by kernel_rfl) hv5) ?_
 obtain ⟨a2,hp2,h⟩:=h
 refine q2 (vp (some a2)) (x_nilCheck (p:=p1) (by kernel_rfl) hp2) (q0 (vp (some a2)) ?_)
 obtain ⟨hp3,h⟩:=h
 refine st_set (want0 rfl) (x_store (a:=a2) (v:=s1.v) (by kernel_rfl) (by kernel_rfl) rfl (Tryz.sizeOf41 _) hp3) ?_
 intro w1 hn1
 have h:=h w1 hn1
 refine ln (eg (q0 (vp p1) (q0 (vp p1) ?_)))
 obtain ⟨a3,hp4,h⟩:=h
 refine q2 (vp (some a3)) (x_nilCheck (p:=p1) (by kernel_rfl) hp4) (q0 (vp (some (a3.add 1))) ?_)
 obtain ⟨v2,hv4,h⟩:=h
 refine q2 v2.v (xl (Tryz.isAgg42 _) hv4) (q0 (vi n1) ?_)
 obtain ⟨s2,hv3,h⟩:=h
 refine q2 s2.v (x_slice (by kernel_rfl) (by kernel_rfl) (by kernel_rfl) (by kernel_rfl) hv3) ?_
 obtain ⟨a4,hp5,h⟩:=h
 refine q2 (vp (some a4)) (x_nilCheck (p:=p1) (by kernel_rfl) hp5) (q0 (vp (some (a4.add 1))) ?_)
 obtain ⟨hp6,h⟩:=h
 refine st_set (want0 rfl) (x_store (a:=(a4.add 1)) (v:=s2.v) (by kernel_rfl) (by kernel_rfl) rfl (Tryz.sizeOf42 _) hp6) ?_
 intro w2 hn2
 have h:=h w2 hn2
 refine ln (rg (q0 (vp p1) (q0 (vp p1) ?_)))
 obtain ⟨a5,hp7,h⟩:=h
 refine q2 (vp (some a5)) (x_nilCheck (p:=p1) (by kernel_rfl) hp7) (q0 (vp (some (a5.add 2))) ?_)
 obtain ⟨v3,hv2,h⟩:=h
 refine q2 v3.v (xl (Tryz.isAgg42 _) hv2) (q0 (vi n1) ?_)
 obtain ⟨s3,hv1,h⟩:=h
 refine q2 s3.v (x_slice (by kernel_rfl) (by kernel_rfl) (by kernel_rfl) (by kernel_rfl) hv1) ?_
 obtain ⟨a6,hp8,h⟩:=h
 refine q2 (vp (some a6)) (x_nilCheck (p:=p1) (by kernel_rfl) hp8) (q0 (vp (some (a6.add 2))) ?_)
 obtain ⟨hp9,h⟩:=h
 refine st_set (want0 rfl) (x_store (a:=(a6.add 2)) (v:=s3.v) (by kernel_rfl) (by kernel_rfl) rfl (Tryz.sizeOf42 _) hp9) ?_
 intro w3 hn3
 have h:=h w3 hn3
 refine wpL_nil (res0 (.inr rfl) Tryz.results149 ?_)
 exact ⟨rfl,h⟩
def m_N2 (p1:Option Addr) (aE aI:Int) (aJ aK:Int) (aL:ByteArray) (aH:Sl) (w0:World) (K:Int→Int→WP):Prop :=
 ∀(H1:NP) (w1:World),Hst w0 None w0 H1 w1 →
 Calls Tryz.prog 147 #[(.agg #[(vi aE),(vi aI),(vi aJ),(vu aK),(vs aL),aH.v])] w1 (fun e w2=>∃r1:Int,e=.returned (vi r1)∧
  Kept H1 w1 w2 ∧
  Br (r1 != 0)
   (K 0 r1 w2)
   (∃a1:Addr,p1=some a1 ∧
   ∃v1:Sl,w2.cell? a1=some v1.v ∧
   Calls Tryz.prog 148 #[(vp p1),(.agg #[(vi aE),(vi aI),(vi aJ),(vu aK),(vs aL),aH.v])] w2 (fun e w3=>∃r2 r3:Int,e=.returned (.tuple #[(vi r2),(vi r3)])∧
    Kept H1 w2 w3 ∧
    Br (r3 != 0)
     (Calls Tryz.prog 149 #[(vp p1),(vi (v1.len:Int))] w3 (fun e w4=>e=.returned (.tuple #[])∧
      Kept H1 w3 w4 ∧
      K r2 r3 w4))
     (K r2 r3 w3))))
theorem w_N2 (p1 : Option Addr) (aE aI : Int) (aJ aK : Int) (aL : ByteArray) (aH : Sl) (w0 : World) (K : Int → Int → WP) (h : m_N2 p1 aE aI aJ aK aL aH w0 K) :
  Calls Tryz.prog 78 #[(vp p1),(.agg #[(vi aE),(vi aI),(vi aJ),(vu aK),(vs aL),aH.v])] w0 (fun e w'=>∃r4 r5:Int,e=.returned (.tuple #[(vi r4),(vi r5)])∧K r4 r5 w'):=by
 unfold m_N2 at h
 refine cw (args:=[(vp p1),(.agg #[(vi aE),(vi aI),(vi aJ),(vu aK),(vs aL),aH.v])]) Tryz.func78 Tryz.ntmps78 ?_
 have hs:=Hst.start w0
 have hb:=HB.nil None w0
 refine eg (sn (O:=(.cells #[(vi aE),(vi aI),(vi aJ),(vu aK),(vs aL),aH.v] 107)) xb ?_)
 intro p2 w1 hn1
 obtain ⟨H1,hs,hb⟩:=hs.alloc hb hn1
 refine q0 (vi 0) (q0 (vi 0) (ln (eg (q2 (.agg #[(vi aE),(vi aI),(vi aJ),(vu aK),(vs aL),aH.v]) (xa p2 [(vi aE),(vi aI),(vi aJ),(vu aK),(vs aL),aH.v] (Tryz.isAgg107 _) (Tryz.sizeOf107 _) (hb.r0 0 6 gZ)) ?_))))
 have h:=h H1 w1 hs
 have hs:=hs.here
 refine sc Tryz.call147 (h.mono ?_)
 rintro e w2 ⟨r1,rfl,hk,h⟩
 refine ⟨_,rfl,?_⟩
 obtain ⟨hs,hb⟩:=hk.hh hs hb
 refine q0 (vi r1) (ln (wpE_seq (eg (q0 (vi r1) (q0 (vb (r1 != 0)) (ln ?_))))))
 refine wpE_cond (t:=(r1 != 0)) (by kernel_rfl) (fun hc1=>?_) (fun hc1=>?_)
 have h:=h.1 hc1
 refine eg (q0 (vi r1) (q0 (vi 0) (q0 (vi r1) (ln (er (th_r (res2 (.inl rfl) Tryz.results78 (v:=(vi 0)) (by kernel_rfl) (v':=(vi r1)) (by kernel_rfl) ?_)))))))
 exact ⟨0,r1,rfl,h⟩
 have h:=h.2 hc1
 refine wpE_skip (th_n (eg (q0 (vp p1) ?_)))
 obtain ⟨a1,hp1,h⟩:=h
 refine q2 (vp (some a1)) (x_nilCheck (p:=p1) (by kernel_rfl) hp1) (q0 (vp (some a1)) ?_)
 obtain ⟨v1,hv1,h⟩:=h
 refine q2 v1.v (xl (Tryz.isAgg41 _) hv1) (q0 (vi (v1.len:Int)) (q0 (vi (v1.len:Int)) (ln (eg (q0 (vp p1) (q2 (.agg #[(vi aE),(vi aI),(vi aJ),(vu aK),(vs aL),aH.v]) (xa p2 [(vi aE),(vi aI),(vi aJ),(vu aK),(vs aL),aH.v] (Tryz.isAgg107 _) (Tryz.sizeOf107 _) (hb.r0 0 6 gZ)) ?_))))))
 refine sc Tryz.call148 (h.mono ?_)
 rintro e w3 ⟨r2,r3,rfl,hk,h⟩
 refine ⟨_,rfl,?_⟩
 obtain ⟨hs,hb⟩:=hk.hh hs hb
 refine q0 (.tuple #[(vi r2),(vi r3)]) (q0 (vi r2) (q0 (vi r3) (q0 (vi r2) (q0 (vi r3) (ln (wpE_seq (eg (q0 (vi r3) (q0 (vb (r3 != 0)) ?_)))))))))
 refine ln ?_
 refine wpE_cond (t:=(r3 != 0)) (by kernel_rfl) (fun hc2=>?_) (fun hc2=>?_)
 have h:=h.1 hc2
 refine rg (q0 (vp p1) (q0 (vi (v1.len:Int)) ?_))
 refine sc Tryz.call149 (h.mono ?_)
 rintro e w4 ⟨rfl,hk,h⟩
 refine ⟨_,rfl,?_⟩
 obtain ⟨hs,hb⟩:=hk.hh hs hb
 refine ln (eg (q0 (vi r2) (q0 (vi r3) (q0 (vi r2) (q0 (vi r3) (ln (er (res2 (.inl rfl) Tryz.results78 (v:=(vi r2)) (by kernel_rfl) (v':=(vi r3)) (by kernel_rfl) ?_))))))))
 exact ⟨r2,r3,rfl,h⟩
 have h:=h.2 hc2
 refine wpE_skip (th_n (eg (q0 (vi r2) (q0 (vi r3) (q0 (vi r2) (q0 (vi r3) (ln (er (res2 (.inl rfl) Tryz.results78 (v:=(vi r2)) (by kernel_rfl) (v':=(vi r3)) (by kernel_rfl) ?_)))))))))
 exact ⟨r2,r3,rfl,h⟩
end Go.Proofs
end
section
open Go Go.SE
namespace Go.Proofs
attribute [local irreducible] Calls
theorem kind_cases (k:Int):(k=1∨k=2∨k=3∨k=4∨k=5∨k=6∨k=7∨k=8∨k=9)∨(Sp.shapeOf k=Sp.noShape∧Sp.isKind k=false∧∀m:Int,1≤m→m≤9→(k == m)=false):=by
 by_cases h:k=1∨k=2∨k=3∨k=4∨k=5∨k=6∨k=7∨k=8∨k=9
 ·exact .inl h
 ·right
  refine ⟨?_,?_,fun m h1 h2=>?_⟩
  ·unfold Sp.shapeOf;repeat rw [if_neg (by omega)]
  ·unfold Sp.isKind;apply Bool.eq_false_iff.2;intro h3;simp at h3;omega
  ·rw [beq_eq_false_iff_ne];omega
theorem ref05_kids (k:Int):s_C k=(Sp.shapeOf k).kids:=by
 rcases kind_cases k with h | ⟨h,_,hm⟩
 ·rcases h with rfl | rfl | rfl | rfl | rfl | rfl | rfl | rfl | rfl <;> decide
 ·rw [h];unfold s_C;simp [hm,Sp.noShape]
theorem ref05_named (k:Int):s_D k=(Sp.shapeOf k).frm:=by
 rcases kind_cases k with h | ⟨h,_,hm⟩
 ·rcases h with rfl | rfl | rfl | rfl | rfl | rfl | rfl | rfl | rfl <;> decide
 ·rw [h];unfold s_D;simp [hm,Sp.noShape]
theorem shape_two (k:Int):((k == 8) || (k == 9))=(Sp.shapeOf k).to:=by
 rcases kind_cases k with h | ⟨h,_,hm⟩
 ·rcases h with rfl | rfl | rfl | rfl | rfl | rfl | rfl | rfl | rfl <;> decide
 ·rw [h];simp [hm,Sp.noShape]
theorem shape_num (k:Int):(k == 2)=(Sp.shapeOf k).num:=by
 rcases kind_cases k with h | ⟨h,_,hm⟩
 ·rcases h with rfl | rfl | rfl | rfl | rfl | rfl | rfl | rfl | rfl <;> decide
 ·rw [h];simp [hm,Sp.noShape]
theorem shape_text (k:Int):(k == 3)=(Sp.shapeOf k).text:=by
 rcases kind_cases k with h | ⟨h,_,hm⟩
 ·rcases h with rfl | rfl | rfl | rfl | rfl | rfl | rfl | rfl | rfl <;> decide
 ·rw [h];simp [hm,Sp.noShape]
theorem shape_kind (k:Int):(!(decide (k<1) || decide (k>9)))=Sp.isKind k:=by
 unfold Sp.isKind
 by_cases h1:k<1 <;> by_cases h2:k>9 <;> simp [h1,h2] <;> omega
theorem ite53 (q:Bool):decide ((if q=true then (53:Int) else 0)=0)=!q:=by cases q <;> rfl
def Sp.nodeErr (n:Sp.Node):Int :=
 if Sp.plainErr n≠0 then 53 else if (decide ((Sp.shapeOf n.kind).kids<1) && n.a != 0) || (decide ((Sp.shapeOf n.kind).kids<2) && n.b != 0) then 53 else Sp.fieldsErr (Sp.shapeOf n.kind) n
theorem ref05_plain (n:Sp.Node):s_D1 n.kind n.frm n.to n.num n.text n.a n.b=(decide (Sp.plainErr n=0) && !((decide ((Sp.shapeOf n.kind).kids<1) && n.a != 0) || (decide ((Sp.shapeOf n.kind).kids<2) && n.b != 0))):=by
 obtain ⟨k,f,t,u,x,a,b⟩:=n
 unfold s_D1 Sp.plainErr
 simp only [ref05_kids,ref05_named,shape_two k,shape_num k,shape_text k,shape_kind]
 have hk:=Sp.kids_le k
 generalize Sp.shapeOf k=s at *
 obtain ⟨s1,s2,s3,s4,s5⟩:=s
 generalize Sp.isKind k=i
 have e1:decide (s5≥1)=!decide (s5<1):=by by_cases h:s5<1 <;> simp [h] <;> omega
 have e2:(s5 == 2)=!decide (s5<2):=by
  by_cases h:s5<2
  ·simp [h];omega
  ·simp [h];simp at hk;omega
 simp only [e1,e2,bne,ite53]
 generalize (f == 0)=c1;generalize (t == 0)=c2;generalize (u == 0)=c3;generalize decide (x=⟨#[]⟩)=c4;generalize (a == 0)=c5;generalize (b == 0)=c6;generalize decide (s5<1)=c7;generalize decide (s5<2)=c8
 cases i <;> cases s1 <;> cases s2 <;> cases s3 <;> cases s4 <;> cases c1 <;> cases c2 <;> cases c3 <;> cases c4 <;> simp
theorem ref05_shape (n:Sp.Node):s_H n.kind n.frm n.to n.num n.text n.a n.b=Sp.nodeErr n:=by
 unfold s_H Sp.nodeErr
 rw [ref05_plain,ref05_named,shape_two]
 by_cases h1:Sp.plainErr n=0
 ·by_cases h2:((decide ((Sp.shapeOf n.kind).kids<1) && n.a != 0) || (decide ((Sp.shapeOf n.kind).kids<2) && n.b != 0))=true
  ·rw [h2];simp [h1]
  ·have h2:((decide ((Sp.shapeOf n.kind).kids<1) && n.a != 0) || (decide ((Sp.shapeOf n.kind).kids<2) && n.b != 0))=false:=by simpa using h2
   rw [h2]
   simp only [h1,ne_eq,not_true_eq_false,if_false,Bool.false_eq_true,decide_true,Bool.not_false,Bool.and_true,Bool.not_true,cond_false]
   unfold Sp.fieldsErr Sp.isName
   have e1:(decide (n.frm≥0) && decide (n.frm<16))=(decide (0≤n.frm) && decide (n.frm<16)):=rfl
   have e2:(decide (n.to≥0) && decide (n.to<16))=(decide (0≤n.to) && decide (n.to<16)):=rfl
   have e3:(n.frm == n.to)=(n.to == n.frm):=by rw [Bool.eq_iff_iff];simp only [beq_iff_eq];exact eq_comm
   rw [e1,e2,e3]
   have e4:decide (((n.text.size:Int))>64)=decide (n.text.size>64):=decide_eq_decide.2 (by omega)
   rw [e4]
   generalize ((Sp.shapeOf n.kind).frm && !(decide (0≤n.frm) && decide (n.frm<16)) || (Sp.shapeOf n.kind).to && (!(decide (0≤n.to) && decide (n.to<16)) || n.to == n.frm))=c
   cases c
   ·by_cases h:n.text.size>64 <;> simp [h]
   ·rfl
 ·simp [h1]
end Go.Proofs
end
section
open Go Go.SE
namespace Go.Proofs
attribute [local irreducible] Calls
theorem slT_node:SlType Tryz.prog 41 176 7 64:=by
 refine ⟨Tryz.underlying41,⟨Tryz.t176,_,by kernel_rfl,(by kernel_rfl:Tryz.t176.zero=some (.agg #[.int .i64 0,.int .i64 0,.int .i64 0,.int .u64 0,.string ⟨#[]⟩,.int .i64 0,.int .i64 0])),by kernel_rfl,by kernel_rfl,rfl⟩,by omega⟩
theorem slT_int:SlType Tryz.prog 42 3 1 8:=by
 refine ⟨Tryz.underlying42,⟨Tryz.t3,_,by kernel_rfl,(by kernel_rfl:Tryz.t3.zero=some (.int .i64 0)),by kernel_rfl,by kernel_rfl,rfl⟩,by omega⟩
def rnode (e:Sp.Ent):List Value:=nrow e.node
def rsize (e:Sp.Ent):List Value:=[.int .i64 e.size]
def rdepth (e:Sp.Ent):List Value:=[.int .i64 e.depth]
structure PoolRS (w:World) (p:Addr) (L:Sp.Pool) (s1 s2 s3:Sl):Prop where
 box:Box w p [s1.v,s2.v,s3.v] 44
 r1:Rws w 176 7 s1 (L.map rnode)
 r2:Rws w 3 1 s2 (L.map rsize)
 r3:Rws w 3 1 s3 (L.map rdepth)
 n1:¬ s1.blk p.block
 n2:¬ s2.blk p.block
 n3:¬ s3.blk p.block
 d12:∀b,s1.blk b→¬ s2.blk b
 d13:∀b,s1.blk b→¬ s3.blk b
 d23:∀b,s2.blk b→¬ s3.blk b
def PoolR (w:World) (p:Addr) (L:Sp.Pool) (F:NP):Prop:=∃s1 s2 s3,PoolRS w p L s1 s2 s3∧∀b,F b↔(b=p.block∨s1.blk b∨s2.blk b∨s3.blk b)
theorem PoolR.ext {G:NP} {w w':World} {p:Addr} {L:Sp.Pool} {F:NP} (h:PoolR w p L F) (hE:Ext G w w') (hd:∀b,F b→¬ G b):PoolR w' p L F:=by
 obtain ⟨s1,s2,s3,h,hF⟩:=h
 exact ⟨s1,s2,s3,⟨h.box.ext hE (hd _ ((hF _).2 (.inl rfl))),h.r1.ext hE (fun b hb=>hd _ ((hF _).2 (.inr (.inl hb)))),h.r2.ext hE (fun b hb=>hd _ ((hF _).2 (.inr (.inr (.inl hb))))),h.r3.ext hE (fun b hb=>hd _ ((hF _).2 (.inr (.inr (.inr hb))))),h.n1,h.n2,h.n3,h.d12,h.d13,h.d23⟩,hF⟩
theorem PoolR.pure {w w':World} {p:Addr} {L:Sp.Pool} {F:NP} (h:PoolR w p L F) (hE:Pure w w'):PoolR w' p L F:=h.ext hE (fun _ _ h=>h)
theorem PoolR.lt {w:World} {p:Addr} {L:Sp.Pool} {F:NP} (h:PoolR w p L F) {b:Nat} (hb:F b):b<w.heap.size:=by
 obtain ⟨s1,s2,s3,h,hF⟩:=h
 rcases (hF b).1 hb with rfl | hb | hb | hb
 ·exact h.box.lt
 ·exact h.r1.lt hb
 ·exact h.r2.lt hb
 ·exact h.r3.lt hb
theorem c_ref05_New (w0:World):Calls Tryz.prog 63 #[] w0 (fun e w'=>∃r:Option Addr,e=.returned (.pointer r)∧∃p F,r=some p∧PoolR w' p [] F∧Pure w0 w'∧∀b,F b→w0.heap.size≤b):=by
 refine w_E4 w0 (fun r w'=>∃p F,r=some p∧PoolR w' p [] F∧Pure w0 w'∧∀b,F b→w0.heap.size≤b) ?_
 unfold m_E4
 have hnil:∀b,¬ Sl.nil.blk b:=fun b hb=>by obtain ⟨a,h,_⟩:=hb;cases h
 intro p w1 h1
 have b1:=Box.of_new h1
 have E1:Pure w0 w1:=Ext.new h1
 first
  | exact ⟨p,(·=p.block),rfl,⟨Sl.nil,Sl.nil,Sl.nil,⟨b1,Rws.nil _ _ _,Rws.nil _ _ _,Rws.nil _ _ _,hnil _,hnil _,hnil _,fun b h=>(hnil b h).elim,fun b h=>(hnil b h).elim,fun b h=>(hnil b h).elim⟩,fun b=>by simp [hnil]⟩,E1,fun b hb=>by subst hb;exact New.own (Ext.refl w0) h1⟩
  | skip
theorem c_ref05_In (p:Addr) (t:Int) (w0:World) {L:Sp.Pool} {F:NP} (hP:PoolR w0 p L F):Calls Tryz.prog 87 #[.pointer (some p),.int .i64 t] w0 (fun e w'=>∃r:Bool,e=.returned (.bool r)∧(r=Sp.inP L t∧w'=w0)):=by
 refine w_C4 _ _ w0 (fun r w'=>r=Sp.inP L t∧w'=w0) ?_
 unfold m_C4
 obtain ⟨s1,s2,s3,h,hF⟩:=hP
 have hl:s1.len=L.length:=by rw [h.r1.len];simp
 refine ⟨fun hc=>⟨p,rfl,s1,h.box.cell0,?_,rfl⟩,fun hc=>⟨?_,rfl⟩⟩
 ·have:=of_decide_eq_true hc
  rw [hl];simp [Sp.inP,this]
 ·have:=of_decide_eq_false hc
  simp [Sp.inP];omega
theorem PoolRS.at1 {w : World} {p : Addr} {L : Sp.Pool} {s1 s2 s3 : Sl} (h : PoolRS w p L s1 s2 s3) {t : Int} (ht : Sp.inP L t = true) (hok : Sp.Ok L) : ∃ e, Sp.get L t = some e ∧
  (∃a,At s1 (IntKind.i64.wrap (t - 1)) 7 a∧Row w a (rnode e))∧(∃a,At s2 (IntKind.i64.wrap (t - 1)) 1 a∧Row w a (rsize e))∧(∃a,At s3 (IntKind.i64.wrap (t - 1)) 1 a∧Row w a (rdepth e)):=by
 obtain ⟨e,he,_,hi,hLe⟩:=Sp.get_some ht
 have hin:=Sp.inP_iff.1 ht
 have hf:=hok.few
 have hw:IntKind.i64.wrap (t - 1)=((t - 1).toNat:Int):=by rw [i64 (by omega) (by omega)];omega
 obtain ⟨a1,h1,g1⟩:=h.r1.nth (j:=(t - 1).toNat) hi
 obtain ⟨a2,h2,g2⟩:=h.r2.nth (j:=(t - 1).toNat) hi
 obtain ⟨a3,h3,g3⟩:=h.r3.nth (j:=(t - 1).toNat) hi
 rw [hLe] at g1 g2 g3
 rw [hw]
 exact ⟨e,he,⟨a1,h1,g1⟩,⟨a2,h2,g2⟩,⟨a3,h3,g3⟩⟩
theorem c_ref05_Size (p:Addr) (t:Int) (w0:World) {L:Sp.Pool} {F:NP} (hP:PoolR w0 p L F) (hok:Sp.Ok L):Calls Tryz.prog 97 #[.pointer (some p),.int .i64 t] w0 (fun e w'=>∃r:Int,e=.returned (.int .i64 r)∧(r=Sp.sizeOf L t∧w'=w0)):=by
 refine w_G4 _ _ w0 (fun r w'=>r=Sp.sizeOf L t∧w'=w0) ?_
 unfold m_G4
 refine (c_ref05_In p t w0 hP).mono ?_
 rintro _ _ ⟨_,rfl,rfl,rfl⟩
 refine ⟨_,rfl,fun h=>⟨?_,rfl⟩,fun h=>?_⟩
 ·have h:Sp.inP L t=false:=by simpa using h
  simp [Sp.sizeOf,Sp.get_none h]
 ·have h:Sp.inP L t=true:=by simpa using h
  obtain ⟨s1,s2,s3,hS,hF⟩:=hP
  obtain ⟨e,he,_,⟨a,hat,hr⟩,_⟩:=hS.at1 h hok
  exact ⟨p,rfl,s2,hS.box.cell rfl,a,hat,_,row_cell hr,by simp [Sp.sizeOf,he],rfl⟩
theorem c_ref05_Depth (p:Addr) (t:Int) (w0:World) {L:Sp.Pool} {F:NP} (hP:PoolR w0 p L F) (hok:Sp.Ok L):Calls Tryz.prog 177 #[.pointer (some p),.int .i64 t] w0 (fun e w'=>∃r:Int,e=.returned (.int .i64 r)∧(r=Sp.depthOf L t∧w'=w0)):=by
 refine w_H4 _ _ w0 (fun r w'=>r=Sp.depthOf L t∧w'=w0) ?_
 unfold m_H4
 refine (c_ref05_In p t w0 hP).mono ?_
 rintro _ _ ⟨_,rfl,rfl,rfl⟩
 refine ⟨_,rfl,fun h=>⟨?_,rfl⟩,fun h=>?_⟩
 ·have h:Sp.inP L t=false:=by simpa using h
  simp [Sp.depthOf,Sp.get_none h]
 ·have h:Sp.inP L t=true:=by simpa using h
  obtain ⟨s1,s2,s3,hS,hF⟩:=hP
  obtain ⟨e,he,_,_,⟨a,hat,hr⟩⟩:=hS.at1 h hok
  exact ⟨p,rfl,s3,hS.box.cell rfl,a,hat,_,row_cell hr,by simp [Sp.depthOf,he],rfl⟩
theorem c_ref05_Node (p : Addr) (t : Int) (w0 : World) {L : Sp.Pool} {F : NP} (hP : PoolR w0 p L F) (hok : Sp.Ok L) : Calls Tryz.prog 104 #[.pointer (some p), .int .i64 t] w0
  (fun e w'=>∃k f t' u:Int,∃x:ByteArray,∃a b:Int,∃r:Bool,e=.returned (.tuple #[.agg #[.int .i64 k,.int .i64 f,.int .i64 t',.int .u64 u,.string x,.int .i64 a,.int .i64 b],.bool r])∧(((⟨k,f,t',u,x,a,b⟩:Sp.Node)=Sp.nodeOf L t∧r=Sp.inP L t)∧Pure w0 w')):=by
 refine w_D4 _ _ w0 (fun k f t' u x a b r w'=>((⟨k,f,t',u,x,a,b⟩:Sp.Node)=Sp.nodeOf L t∧r=Sp.inP L t)∧Pure w0 w') ?_
 unfold m_D4
 intro H1 w1 hs1
 have hP1:=hP.pure hs1.first
 refine (c_ref05_In p t w1 hP1).mono ?_
 rintro _ _ ⟨_,rfl,rfl,rfl⟩
 refine ⟨_,rfl,Kept.refl _,fun h=>?_,fun h=>?_⟩
 ·intro w3 hs3
  have h:Sp.inP L t=false:=by simpa using h
  exact ⟨⟨by simp [Sp.nodeOf,Sp.get_none h,Sp.noNode],h.symm⟩,hs1.first.hst hs3⟩
 ·have h:Sp.inP L t=true:=by simpa using h
  obtain ⟨s1,s2,s3,hS,hF⟩:=hP1
  obtain ⟨e,he,⟨a,hat,hr⟩,_,_⟩:=hS.at1 h hok
  refine ⟨p,rfl,s1,hS.box.cell0,a,hat,_,_,_,_,_,_,_,hr,?_⟩
  intro w4 hs4
  exact ⟨⟨by simp [Sp.nodeOf,he],h.symm⟩,hs1.first.hst hs4⟩
theorem node_eqB (m n:Sp.Node):((m.kind == n.kind) && ((m.frm == n.frm) && ((m.to == n.to) && ((m.num == n.num) && ((decide (m.text=n.text)) && ((m.a == n.a) && (m.b == n.b)))))))=decide (m=n):=by
 obtain ⟨k,f,t,u,x,a,b⟩:=m;obtain ⟨k',f',t',u',x',a',b'⟩:=n
 rw [Bool.eq_iff_iff];simp
theorem c_ref05_Has (p : Addr) (n : Sp.Node) (w0 : World) {L : Sp.Pool} {F : NP} (hP : PoolR w0 p L F) (hok : Sp.Ok L) : Calls Tryz.prog 178 #[.pointer (some p), nkey n] w0
  (fun e w'=>∃r:Int,∃ok:Bool,e=.returned (.tuple #[.int .i64 r,.bool ok])∧((match Sp.find L n with | some i=>r=(i:Int)+1∧ok=true | none=>r=0∧ok=false)∧Pure w0 w')):=by
 obtain ⟨k,f,t,u,x,a,b⟩:=n
 generalize hn:(⟨k,f,t,u,x,a,b⟩:Sp.Node)=n
 have hnk:nkey n=.agg #[.int .i64 k,.int .i64 f,.int .i64 t,.int .u64 u,.string x,.int .i64 a,.int .i64 b]:=by rw [← hn];rfl
 rw [hnk]
 suffices key:∀K:Int→Bool→WP,(∀r ok w',((match Sp.find L n with | some i=>r=(i:Int)+1∧ok=true | none=>r=0∧ok=false)∧Pure w0 w')→K r ok w')→m_N1 (some p) k f t u x a b w0 K from
  w_N1 _ _ _ _ _ _ _ _ w0 _ (key _ (fun _ _ _ h=>h))
 intro K hK
 unfold m_N1
 intro H1 w1 hs1
 refine ⟨fun i H w'=>∃j:Nat,i=j∧j≤L.length∧Pure w0 w'∧∀q,q<j→∀e,L[q]?=some e→e.node≠n,fun i _=>((L.length:Int) - i).toNat,⟨0,rfl,Nat.zero_le _,hs1.first,fun q hq=>absurd hq (by omega)⟩,?_⟩
 rintro _ Hl wl hl ⟨j,rfl,hj,El,hno⟩
 unfold m_N1_l1
 obtain ⟨s1,s2,s3,hS,hF⟩:=hP.pure El
 have hf:=hok.few
 have hlen:s1.len=L.length:=by rw [hS.r1.len];simp
 refine ⟨p,rfl,s1,hS.box.cell0,fun h=>?_,fun h=>?_⟩
 ·have hlt:=lt_of_dec hlen h
  refine ⟨p,rfl,?_⟩
  intro w2 hs2
  have E2:=El.hst hs2
  obtain ⟨s1',s2',s3',hS',_⟩:=hP.pure E2
  obtain ⟨a',hat,hr⟩:=hS'.r1.nth hlt
  refine ⟨s1',hS'.box.cell0,a',hat,_,_,_,_,_,_,_,hr,?_⟩
  have hB:=node_eqB L[j].node n
  rw [← hn] at hB
  simp only at hB
  rw [hB,hn]
  refine ⟨fun h=>?_,fun h=>?_⟩
  ·have h:=of_decide_eq_true h
   rw [wrap_succ hlt (by omega)]
   refine hK _ _ _ ⟨?_,E2⟩
   have hfd:Sp.find L n=some j:=by
    unfold Sp.find
    rw [List.findIdx?_eq_some_iff_getElem]
    exact ⟨hlt,by simp [h],fun q hq=>by simpa using hno q hq _ (List.getElem?_eq_getElem (by omega))⟩
   rw [hfd];exact ⟨by omega,rfl⟩
  ·have h:=of_decide_eq_false h
   rw [wrap_succ hlt (by omega)]
   refine ⟨⟨j+1,rfl,hlt,E2,fun q hq e he=>?_⟩,lt_dec hlt⟩
   by_cases hqj:q=j
   ·subst hqj;rw [List.getElem?_eq_getElem hlt] at he;cases he;exact h
   ·exact hno q (by omega) e he
 ·have hge:=eq_of_dec hlen hj h
  subst hge
  refine hK _ _ _ ⟨?_,El⟩
  have hfd:Sp.find L n=none:=find_none (fun e he=>by
   obtain ⟨q,hq,rfl⟩:=List.mem_iff_getElem.1 he
   exact hno q hq _ (List.getElem?_eq_getElem hq))
  rw [hfd];exact ⟨rfl,rfl⟩
end Go.Proofs
end
section
open Go Go.SE
namespace Go.Proofs
attribute [local irreducible] Calls
theorem append_in {P : Program} {t ty e : TypeId} {sz bytes : Nat} (T : SlType P t e sz bytes) {w : World} {p : Addr} {c : List Value} {Tp : TypeId} (hB : Box w p c Tp) {s : Sl} {rs : List (List Value)} (hR : Rws w e sz s rs) (hp : ¬ s.blk p.block) {a : Addr} {r : List Value} (hr : Row w a r) (hl : r.length = sz) (h1 : r.all oneCell = true) (hb : (rs.length + 1) * bytes ≤ 140737488355328) (hm : rs.length + 1 ≤ maxLen) :
  ∃s' w',(Builtin.append_ #[t,t] ty #[s.v,(Sl.mk (some a) 1 1).v]).run P w=.ok s'.v w'∧Rws w' e sz s' (rs++[r])∧Box w' p c Tp∧¬ s'.blk p.block∧Ext s.blk w w'∧(∀b,s'.blk b→s.blk b∨w.heap.size≤b):=by
 obtain ⟨s',w',hr',hR',hE,hb'⟩:=hR.append T (ty:=ty) (c:=1) hr hl h1 hb hm
 exact ⟨s',w',hr',hR',hB.ext hE hp,fun h=>(hb' _ h).elim hp (fun h=>by have:=hB.lt;omega),hE,hb'⟩
theorem plainErr_val (n:Sp.Node):Sp.plainErr n=53∨Sp.plainErr n=0:=by
 unfold Sp.plainErr;simp only;split
 ·exact .inl rfl
 ·exact .inr rfl
theorem c_ref05_Make (p : Addr) (n : Sp.Node) (w0 : World) {L : Sp.Pool} {F : NP} (hP : PoolR w0 p L F) (hok : Sp.Ok L) : Calls Tryz.prog 113 #[.pointer (some p), nkey n] w0
  (fun e w'=>∃r1 r2:Int,e=.returned (.tuple #[.int .i64 r1,.int .i64 r2])∧((r1,r2)=((Sp.make L n).1,(Sp.make L n).2.1)∧∃F',PoolR w' p (Sp.make L n).2.2 F'∧Ext F w0 w'∧∀b,F' b→F b∨w0.heap.size≤b)):=by
 obtain ⟨k,f,t,u,x,a,b⟩:=n
 generalize hn:(⟨k,f,t,u,x,a,b⟩:Sp.Node)=n
 have hnk:nkey n=.agg #[.int .i64 k,.int .i64 f,.int .i64 t,.int .u64 u,.string x,.int .i64 a,.int .i64 b]:=by rw [← hn];rfl
 rw [hnk]
 suffices key:∀K:Int→Int→WP,(∀r1 r2 w',((r1,r2)=((Sp.make L n).1,(Sp.make L n).2.1)∧∃F',PoolR w' p (Sp.make L n).2.2 F'∧Ext F w0 w'∧∀b,F' b→F b∨w0.heap.size≤b)→K r1 r2 w')→m_O (some p) k f t u x a b w0 K from
  w_O _ _ _ _ _ _ _ _ w0 _ (key _ (fun _ _ _ h=>h))
 intro K hK
 have hsh:=ref05_shape n
 have hkd:=ref05_kids k
 rw [← hn] at hsh
 simp only at hsh
 rw [hn] at hsh
 have hna:n.a=a:=by rw [← hn]
 have hnb:n.b=b:=by rw [← hn]
 have hnkk:n.kind=k:=by rw [← hn]
 have hk:=Sp.kids_le k
 have same:∀(r1 r2:Int) (w':World),Pure w0 w'→Sp.make L n=(r1,r2,L)→K r1 r2 w':=fun r1 r2 w' E h=>hK _ _ _ ⟨by rw [h],F,by rw [h];exact hP.pure E,E.pure,fun b h=>.inl h⟩
 have bad:∀(er:Int) (w':World),er≠0→Pure w0 w'→Sp.check L n=(0,0,er)→K 0 er w':=fun er w' h0 E h=>same 0 er w' E (by unfold Sp.make;simp [h,h0])
 unfold m_O
 rw [hsh,hkd]
 have good:Sp.nodeErr n=0→Sp.check L n=(if (Sp.kidsOf n).any (fun t=>!Sp.inP L t) then (0,0,51) else if 1+((Sp.kidsOf n).map (Sp.sizeOf L)).sum>4096∨(Sp.kidsOf n).foldl (fun d t=>max d (Sp.depthOf L t)) 0+1>64 then (0,0,52) else (1+((Sp.kidsOf n).map (Sp.sizeOf L)).sum,(Sp.kidsOf n).foldl (fun d t=>max d (Sp.depthOf L t)) 0+1,0)):=by
  intro h
  unfold Sp.nodeErr at h
  unfold Sp.check
  split at h
  ·cases h
  ·rename_i h1
   simp only
   rw [if_neg h1]
   split at h
   ·cases h
   ·rename_i h2
    rw [if_neg h2,if_neg (by simpa using h)]
 refine ⟨fun h=>?_,fun h=>?_⟩
 ·intro H1 w2 hs2
  have h:Sp.nodeErr n≠0:=by simpa using h
  refine bad _ _ h hs2.first ?_
  unfold Sp.nodeErr at h ⊢
  unfold Sp.check
  by_cases h1:Sp.plainErr n≠0
  ·rw [if_pos h1,if_pos h1]
   have:Sp.plainErr n=53:=(plainErr_val n).resolve_right h1
   rw [this]
  ·rw [if_neg h1] at h ⊢
   simp only
   rw [if_neg h1]
   by_cases h2:((decide ((Sp.shapeOf n.kind).kids<1) && n.a != 0) || (decide ((Sp.shapeOf n.kind).kids<2) && n.b != 0))=true
   ·rw [if_pos h2,if_pos h2]
   ·rw [if_neg h2] at h ⊢;rw [if_neg h2,if_pos h]
 have h0:Sp.nodeErr n=0:=by simpa using h
 have hchk:=good h0
 have hzero:((Sp.shapeOf k).kids<1→a=0)∧((Sp.shapeOf k).kids<2→b=0):=by
  unfold Sp.nodeErr at h0
  split at h0
  ·cases h0
  ·split at h0
   ·cases h0
   ·rename_i _ h2
    rw [hnkk,hna,hnb] at h2
    simp at h2
    exact h2
 have hz0:Sp.inP L 0=false:=by simp [Sp.inP]
 have hs0:Sp.sizeOf L 0=0:=by simp [Sp.sizeOf,Sp.get,hz0]
 have hd0:Sp.depthOf L 0=0:=by simp [Sp.depthOf,Sp.get,hz0]
 have hsa:=hok.sizeOf a
 have hsb:=hok.sizeOf b
 have hda:=hok.depthOf a
 have hdb:=hok.depthOf b
 have hany:(Sp.kidsOf n).any (fun t=>!Sp.inP L t)=((decide (1≤(Sp.shapeOf k).kids) && !Sp.inP L a) || (decide ((Sp.shapeOf k).kids=2) && !Sp.inP L b)):=by
  unfold Sp.kidsOf;rw [hnkk,hna,hnb]
  rcases hk with h | h | h <;> rw [h] <;> simp
 have hsum:((Sp.kidsOf n).map (Sp.sizeOf L)).sum=Sp.sizeOf L a+Sp.sizeOf L b:=by
  unfold Sp.kidsOf;rw [hnkk,hna,hnb]
  rcases hk with h | h | h <;> rw [h] <;> simp
  ·rw [hzero.1 (by omega),hzero.2 (by omega),hs0];rfl
  ·rw [hzero.2 (by omega),hs0];omega
 have hmax:(Sp.kidsOf n).foldl (fun d t=>max d (Sp.depthOf L t)) 0=max (Sp.depthOf L a) (Sp.depthOf L b):=by
  unfold Sp.kidsOf;rw [hnkk,hna,hnb]
  rcases hk with h | h | h <;> rw [h] <;> simp
  ·rw [hzero.1 (by omega),hzero.2 (by omega),hd0];omega
  ·rw [hzero.2 (by omega),hd0];omega
  ·omega
 rw [hany,hsum,hmax] at hchk
 have J1:∀(x1:Bool) (H:NP) (w:World),Hst w0 H w H w→Pure w0 w→x1=((decide (1≤(Sp.shapeOf k).kids) && !Sp.inP L a) || (decide ((Sp.shapeOf k).kids=2) && !Sp.inP L b))→m_O_j1 (some p) k f t u x a b x1 w0 H w K:=by
  intro x1 H w hs E hx
  rw [← hx] at hchk
  unfold m_O_j1
  refine ⟨fun h=>bad 51 w (by omega) E (by rw [hchk,h];rfl),fun h=>?_⟩
  rw [h,if_neg (by simp)] at hchk
  refine ⟨fun _=>True,trivial,?_⟩
  rintro _ rfl
  have Ed:Pure w0 w.drew:=E.trans (Ext.drew w)
  refine (c_ref05_Size p a w.drew (hP.pure Ed) hok).mono ?_
  rintro _ _ ⟨_,rfl,rfl,rfl⟩
  refine ⟨_,rfl,trivial,Kept.refl _,?_⟩
  refine (c_ref05_Size p b w.drew (hP.pure Ed) hok).mono ?_
  rintro _ _ ⟨_,rfl,rfl,rfl⟩
  refine ⟨_,rfl,trivial,Kept.refl _,fun _=>True,trivial,?_⟩
  rintro _ rfl
  have Ed2:Pure w0 w.drew.drew:=Ed.trans (Ext.drew w.drew)
  refine (c_ref05_Depth p a w.drew.drew (hP.pure Ed2) hok).mono ?_
  rintro _ _ ⟨_,rfl,rfl,rfl⟩
  refine ⟨_,rfl,trivial,Kept.refl _,?_⟩
  refine (c_ref05_Depth p b w.drew.drew (hP.pure Ed2) hok).mono ?_
  rintro _ _ ⟨_,rfl,rfl,rfl⟩
  refine ⟨_,rfl,trivial,Kept.refl _,_,fun w' _=>run_max_int2 _ _ _ _ _ _ _,?_⟩
  have hmx:(if Sp.depthOf L b>Sp.depthOf L a then Sp.depthOf L b else Sp.depthOf L a)=max (Sp.depthOf L a) (Sp.depthOf L b):=by
   split <;> omega
  generalize hz:(if Sp.depthOf L b>Sp.depthOf L a then Sp.depthOf L b else Sp.depthOf L a)=z at *
  have hz64:0≤z∧z≤64:=by rw [hmx];omega
  have e1:IntKind.i64.wrap (IntKind.i64.wrap (1+Sp.sizeOf L a)+Sp.sizeOf L b)=1+(Sp.sizeOf L a+Sp.sizeOf L b):=by
   rw [i64 (n:=1+Sp.sizeOf L a) (by omega) (by omega),i64 (by omega) (by omega)];omega
  have e2:IntKind.i64.wrap (1+z)=z+1:=by rw [i64 (by omega) (by omega)];omega
  rw [e1,e2]
  rw [← hmx] at hchk
  rintro y1 rfl
  have hsx:Hst w0 H w.drew.drew H w.drew.drew:=(hs.drew.here.drew).here
  refine ⟨fun h=>?_,fun h=>?_⟩
  ·intro H2 w10 hs10
   refine bad 52 w10 (by omega) (Ed2.hst hs10) ?_
   rw [hchk,if_pos (by simpa using h)]
  ·intro H2 w10 hs10
   have hck:Sp.check L n=(1+(Sp.sizeOf L a+Sp.sizeOf L b),z+1,0):=by rw [hchk,if_neg (by simp at h;omega)]
   have E10:=Ed2.hst hs10
   rw [← hnk]
   refine (c_ref05_Has p n w10 (hP.pure E10) hok).mono ?_
   rintro _ w11 ⟨r,ok,rfl,hfd,E11⟩
   refine ⟨_,_,rfl,E11.keptP,?_⟩
   have E11':=E10.trans E11
   have hs11:Hst w0 H2 w11 H2 w11:=hs10.again E11.keptP
   cases hf:Sp.find L n with
   | some i =>
    rw [hf] at hfd
    obtain ⟨rfl,rfl⟩:=hfd
    exact Br.t rfl (same _ _ _ E11' (by unfold Sp.make;simp [hck,hf]))
   | none =>
    rw [hf] at hfd
    obtain ⟨rfl,rfl⟩:=hfd
    refine Br.f rfl ?_
    obtain ⟨s1,s2,s3,hS,hF⟩:=hP.pure E11'
    have hlen:s1.len=L.length:=by rw [hS.r1.len];simp
    refine ⟨p,rfl,s1,hS.box.cell0,fun h=>?_,fun h=>?_⟩
    ·have h2:65536≤L.length:=by have h:=of_decide_eq_true h;omega
     exact same _ _ _ E11' (by unfold Sp.make;simp [hck,hf,h2])
    ·have h2:¬ 65536≤L.length:=by have h:=of_decide_eq_false h;omega
     have hmk:Sp.make L n=((L.length:Int)+1,0,L++[⟨n,1+(Sp.sizeOf L a+Sp.sizeOf L b),z+1⟩]):=by unfold Sp.make;simp [hck,hf,h2]
     have hvis:∀b,F b→¬ H2 b:=fun b hb h2=>by have:=hP.lt hb;have:=hs11.old b h2;omega
     have hpF:F p.block:=(hF _).2 (.inl rfl)
     refine ⟨fun w'=>w'.cell? p=some s1.v,hS.box.cell0,?_⟩
     rintro _ rfl
     have E12:Pure w11 w11.drew:=Ext.drew w11
     refine ⟨p,rfl,s1,fun w' h'=>h',?_⟩
     intro p3 w13 h13
     have E13:Pure w11 w13:=E12.trans (Ext.new h13)
     have B13:=hS.box.pure E13
     refine ⟨B13.cell0,?_⟩
     obtain ⟨t1,w14,hr14,R14,B14,np1,X14,nb1⟩:=append_in (P:=Tryz.prog) (ty:=41) slT_node B13 (hS.r1.pure E13) hS.n1 (a:=p3) (r:=nrow n) (by rw [← hn];exact (Box.of_new h13).row) rfl rfl (by simp;omega) (by simp [maxLen];omega)
     refine ⟨t1,w14,hr14,B14.cell0,X14.kept (fun b hb h=>hvis b ((hF b).2 (.inr (.inl h))) hb),p,rfl,B14.canW0 (by simp),hvis _ hpF,?_⟩
     rintro w15 hw15
     have B15:Box w15 p [t1.v,s2.v,s3.v] 44:=by rw [hw15];exact B14.set0
     have X15:Ext (·=p.block) w14 w15:=by rw [hw15];exact Ext.setCell p _
     clear hw15
     have R15:=R14.ext X15 (fun b hb e=>np1 (e▸hb))
     have R2:=((hS.r2.pure E13).ext X14 (fun b h2 h1=>hS.d12 b h1 h2)).ext X15 (fun b hb e=>hS.n2 (e▸hb))
     have R3:=((hS.r3.pure E13).ext X14 (fun b h2 h1=>hS.d13 b h1 h2)).ext X15 (fun b hb e=>hS.n3 (e▸hb))
     have d12':∀b,t1.blk b→¬ s2.blk b:=fun b hb h2=>(nb1 b hb).elim (fun h=>hS.d12 b h h2) (fun h=>by have:=hS.r2.lt h2;have:=E13.size;omega)
     have d13':∀b,t1.blk b→¬ s3.blk b:=fun b hb h2=>(nb1 b hb).elim (fun h=>hS.d13 b h h2) (fun h=>by have:=hS.r3.lt h2;have:=E13.size;omega)
     refine ⟨p,rfl,s2,B15.cell rfl,?_⟩
     intro p4 w16 h16
     have E16:Pure w15 w16:=Ext.new h16
     have B16:=B15.pure E16
     obtain ⟨t2,w17,hr17,R17,B17,np2,X17,nb2⟩:=append_in (P:=Tryz.prog) (ty:=42) slT_int B16 (R2.pure E16) hS.n2 (a:=p4) (r:=[.int .i64 (1+(Sp.sizeOf L a+Sp.sizeOf L b))]) (Box.of_new h16).row rfl rfl (by simp;omega) (by simp [maxLen];omega)
     refine ⟨t2,w17,hr17,X17.kept (fun b hb h=>hvis b ((hF b).2 (.inr (.inr (.inl h)))) hb),p,rfl,B17.canW (by simp),by rw [add_block];exact hvis _ hpF,?_⟩
     rintro w18 hw18
     have B18:Box w18 p [t1.v,t2.v,s3.v] 44:=by rw [hw18];exact B17.set 1 _
     have X18:Ext (·=p.block) w17 w18:=by rw [hw18];have:=Ext.setCell (w:=w17) (p.add 1) t2.v;rw [add_block] at this;exact this
     clear hw18
     have Q1:=((R15.pure E16).ext X17 (fun b h1 h2=>d12' b h1 h2)).ext X18 (fun b hb e=>np1 (e▸hb))
     have Q2:=R17.ext X18 (fun b hb e=>np2 (e▸hb))
     have Q3:=((R3.pure E16).ext X17 (fun b h3 h2=>hS.d23 b h2 h3)).ext X18 (fun b hb e=>hS.n3 (e▸hb))
     have d12'':∀b,t1.blk b→¬ t2.blk b:=fun b hb h2=>(nb2 b h2).elim (fun h=>d12' b hb h) (fun h=>by have:=(R15.pure E16).lt hb;omega)
     have d23':∀b,t2.blk b→¬ s3.blk b:=fun b hb h2=>(nb2 b hb).elim (fun h=>hS.d23 b h h2) (fun h=>by have:=(R3.pure E16).lt h2;omega)
     refine ⟨p,rfl,s3,B18.cell rfl,?_⟩
     intro p5 w19 h19
     have E19:Pure w18 w19:=Ext.new h19
     have B19:=B18.pure E19
     obtain ⟨t3,w20,hr20,R20,B20,np3,X20,nb3⟩:=append_in (P:=Tryz.prog) (ty:=42) slT_int B19 (Q3.pure E19) hS.n3 (a:=p5) (r:=[.int .i64 (z+1)]) (Box.of_new h19).row rfl rfl (by simp;omega) (by simp [maxLen];omega)
     refine ⟨t3,w20,hr20,X20.kept (fun b hb h=>hvis b ((hF b).2 (.inr (.inr (.inr h)))) hb),p,rfl,B20.canW (by simp),by rw [add_block];exact hvis _ hpF,?_⟩
     rintro w21 hw21
     have B21:Box w21 p [t1.v,t2.v,t3.v] 44:=by rw [hw21];exact B20.set 2 _
     have X21:Ext (·=p.block) w20 w21:=by rw [hw21];have:=Ext.setCell (w:=w20) (p.add 2) t3.v;rw [add_block] at this;exact this
     clear hw21
     have d13'':∀b,t1.blk b→¬ t3.blk b:=fun b hb h2=>(nb3 b h2).elim (fun h=>d13' b hb h) (fun h=>by have:=(Q1.pure E19).lt hb;omega)
     have d23'':∀b,t2.blk b→¬ t3.blk b:=fun b hb h2=>(nb3 b h2).elim (fun h=>d23' b hb h) (fun h=>by have:=(Q2.pure E19).lt hb;omega)
     have Z1:=((Q1.pure E19).ext X20 (fun b h1 h2=>d13' b h1 h2)).ext X21 (fun b hb e=>np1 (e▸hb))
     have Z2:=((Q2.pure E19).ext X20 (fun b h1 h2=>d23' b h1 h2)).ext X21 (fun b hb e=>np2 (e▸hb))
     have Z3:=R20.ext X21 (fun b hb e=>np3 (e▸hb))
     have hl1:(t1.len:Int)=L.length+1:=by rw [R14.len];simp
     refine ⟨p,rfl,t1,B21.cell0,?_⟩
     rw [hl1]
     refine hK _ _ _ ⟨by rw [hmk],fun b=>b=p.block∨t1.blk b∨t2.blk b∨t3.blk b,?_,?_,?_⟩
     ·rw [hmk]
      exact ⟨t1,t2,t3,⟨B21,by simpa [rnode] using Z1,by simpa [rsize] using Z2,by simpa [rdepth] using Z3,np1,np2,np3,d12'',d13'',d23''⟩,fun _=>Iff.rfl⟩
     ·have a1:Ext F w0 w14:=(E11'.trans E13).pure.trans' X14 (fun i _ h=>(hF i).2 (.inr (.inl h)))
      have a2:Ext F w0 w15:=a1.trans' X15 (fun i _ h=>(hF i).2 (.inl h))
      have a3:Ext F w0 w17:=(a2.thenPure E16).trans' X17 (fun i _ h=>(hF i).2 (.inr (.inr (.inl h))))
      have a4:Ext F w0 w18:=a3.trans' X18 (fun i _ h=>(hF i).2 (.inl h))
      have a5:Ext F w0 w20:=(a4.thenPure E19).trans' X20 (fun i _ h=>(hF i).2 (.inr (.inr (.inr h))))
      exact a5.trans' X21 (fun i _ h=>(hF i).2 (.inl h))
     ·have z13:w0.heap.size≤w13.heap.size:=(E11'.trans E13).size
      have z16:w0.heap.size≤w16.heap.size:=by have:=X14.size;have:=X15.size;have:=E16.size;omega
      have z19:w0.heap.size≤w19.heap.size:=by have:=X17.size;have:=X18.size;have:=E19.size;omega
      rintro b (rfl | hb | hb | hb)
      ·exact .inl hpF
      ·exact (nb1 b hb).imp (fun h=>(hF b).2 (.inr (.inl h))) (fun h=>by omega)
      ·exact (nb2 b hb).imp (fun h=>(hF b).2 (.inr (.inr (.inl h)))) (fun h=>by omega)
      ·exact (nb3 b hb).imp (fun h=>(hF b).2 (.inr (.inr (.inr h)))) (fun h=>by omega)
 have J2:∀(x2:Bool) (H:NP) (w:World),Hst w0 H w H w→Pure w0 w→x2=(decide (1≤(Sp.shapeOf k).kids) && !Sp.inP L a)→m_O_j2 (some p) k f t u x a b x2 w0 H w K:=by
  intro x2 H w hs E hx
  unfold m_O_j2
  rw [hkd]
  refine ⟨fun h=>J1 true H w hs E (by rw [← hx,h];rfl),fun h=>⟨fun h2=>?_,fun h2=>J1 false H w hs E ?_⟩⟩
  ·refine (c_ref05_In p b w (hP.pure E)).mono ?_
   rintro _ _ ⟨_,rfl,rfl,rfl⟩
   refine ⟨_,rfl,Kept.refl _,J1 _ H _ hs E ?_⟩
   have h2:(Sp.shapeOf k).kids=2:=by simpa using h2
   rw [← hx,h];simp [h2]
  ·have h2:(Sp.shapeOf k).kids≠2:=by simpa using h2
   rw [← hx,h];simp [h2]
 refine ⟨fun h=>?_,fun h=>?_⟩
 ·intro H1 w3 hs3
  refine (c_ref05_In p a w3 (hP.pure hs3.first)).mono ?_
  rintro _ _ ⟨_,rfl,rfl,rfl⟩
  refine ⟨_,rfl,Kept.refl _,J2 _ H1 _ hs3.here hs3.first ?_⟩
  have:1≤(Sp.shapeOf k).kids:=by have:=of_decide_eq_true h;omega
  simp [this]
 ·intro H1 w3 hs3
  refine J2 _ H1 _ hs3.here hs3.first ?_
  have:¬ 1≤(Sp.shapeOf k).kids:=by have:=of_decide_eq_false h;omega
  simp [this]
end Go.Proofs
end
section
open Go Go.SE
namespace Go.Proofs
attribute [local irreducible] Calls
theorem fieldsErr_ne (s:Sp.Shape) (n:Sp.Node):Sp.fieldsErr s n≠53:=by
 unfold Sp.fieldsErr
 split
 ·omega
 ·split <;> omega
theorem ownErr_eq (k f t u:Int) (x:ByteArray) (len:Nat):Sp.ownErr ⟨k,f,t,u,x,0,0⟩ len=(if (Sp.nodeErr ⟨k,f,t,u,x,0,0⟩≠53∧(len:Int)≠(Sp.shapeOf k).kids) then 53 else Sp.nodeErr ⟨k,f,t,u,x,0,0⟩):=by
 unfold Sp.ownErr Sp.nodeErr
 simp only
 rcases plainErr_val ⟨k,f,t,u,x,0,0⟩ with h | h
 ·rw [h];simp
 ·rw [h]
  have:=fieldsErr_ne (Sp.shapeOf k) ⟨k,f,t,u,x,0,0⟩
  by_cases h2:(len:Int)=(Sp.shapeOf k).kids <;> simp [h2,this]
theorem c_ref05_looked {S : NP} (q : Addr) (hq : ¬ S q.block) (T : TypeId) (t : Sp.Tree) : ∀ (s : Sl) (inside seen : Int) (w0 : World), 0 ≤ inside → 0 ≤ seen → TreeAt S w0 s t → (∀ b, S b → b < w0.heap.size) → Box w0 q [.int .i64 seen] T →
  Calls Tryz.prog 203 #[.agg (trow t s).toArray,.int .i64 inside,.pointer (some q)] w0
   (fun e w'=>∃r:Int,e=.returned (.int .i64 r)∧(r=(Sp.looks inside seen t).1∧Box w' q [.int .i64 (Sp.looks inside seen t).2] T∧Ext (·=q.block) w0 w')):=by
 induction t using Sp.Tree.ind with
 | h k f t u x ks ih =>
 intro s inside seen w0 hi0 hn0 hT hSw hB
 suffices key:∀K:Int→WP,(∀r w',(r=(Sp.looks inside seen (.mk k f t u x ks)).1∧Box w' q [.int .i64 (Sp.looks inside seen (.mk k f t u x ks)).2] T∧Ext (·=q.block) w0 w')→K r w')→m_T k f t u x s inside (some q) w0 K from
  w_T _ _ _ _ _ _ _ _ w0 _ (key _ (fun _ _ h=>h))
 intro K hK
 have hql:=hB.lt
 unfold m_T
 refine ⟨q,rfl,?_⟩
 intro H1 w1 hs1
 have hB1:=hB.pure hs1.first
 refine ⟨seen,hB1.cell0,?_⟩
 intro H5 w13 hs5
 have E13:=hs1.first.hst hs5
 have hB13:=hB.pure E13
 have hq0:∀{H w' H' w''},Hst w0 H w' H' w''→¬ H' q.block:=fun h hh=>by have:=h.old _ hh;omega
 unfold m_T_j1
 refine ⟨fun h=>?_,fun h=>?_⟩
 ·have : Sp.looks inside seen (.mk k f t u x ks) = (52, seen) := by
   rw [Sp.looks]
   simp only [Bool.or_eq_true,decide_eq_true_eq] at h
   by_cases h1:4096≤seen
   ·rw [if_pos h1]
   ·rw [if_neg h1,if_pos (by omega)]
  rw [this] at hK;exact hK _ _ ⟨rfl,hB13,E13.pure⟩
 ·have h1 : ¬ 4096 ≤ seen ∧ ¬ 64 ≤ inside := by
   simp only [Bool.or_eq_false_iff,decide_eq_false_iff_not] at h;omega
  have hsp:Sp.looks inside seen (.mk k f t u x ks)=Sp.looksAll (inside+1) (Sp.ownErr ⟨k,f,t,u,x,0,0⟩ ks.length) (seen+1) ks:=by rw [Sp.looks,if_neg h1.1,if_neg h1.2]
  rw [hsp] at hK
  have hlen:s.len=ks.length:=by cases hT;assumption
  have hfit:ks.length≤9223372036854775807:=by cases hT;assumption
  refine ⟨q,rfl,seen,hB13.cell0,q,rfl,hB13.canW0 (by simp),hq0 hs5,?_⟩
  rw [i64 (n:=seen+1) (by omega) (by omega)]
  rintro w2 hw2
  have hB2:Box w2 q [.int .i64 (seen+1)] T:=by rw [hw2];exact hB13.set0
  have E2:Ext (·=q.block) w0 w2:=by rw [hw2];exact E13.pure.trans (Ext.setCell q _)
  clear hw2
  rintro y1 rfl
  have hsh:=ref05_shape ⟨k,f,t,u,x,0,0⟩
  simp only at hsh
  rw [hsh,ref05_kids,hlen]
  have hown:cond ((Sp.nodeErr ⟨k,f,t,u,x,0,0⟩ != 53) && ((ks.length:Int) != (Sp.shapeOf k).kids)) 53 (Sp.nodeErr ⟨k,f,t,u,x,0,0⟩)=Sp.ownErr ⟨k,f,t,u,x,0,0⟩ ks.length:=by
   rw [ownErr_eq]
   by_cases h2:Sp.nodeErr ⟨k,f,t,u,x,0,0⟩=53
   ·simp [h2]
   ·by_cases h3:(ks.length:Int)=(Sp.shapeOf k).kids
    ·simp [h3]
    ·have e1:(Sp.nodeErr ⟨k,f,t,u,x,0,0⟩ != 53)=true:=by simpa using h2
     have e2:((ks.length:Int) != (Sp.shapeOf k).kids)=true:=by simpa using h3
     rw [e1,e2,if_pos ⟨h2,h3⟩];rfl
  rw [hown]
  intro H3 w10 hs3
  have E10:Ext (·=q.block) w0 w10:=E2.hst hs3
  have hB10:=hB2.ext hs3.ext (hq0 hs3)
  refine ⟨fun e i H w'=>∃j:Nat,i=j∧j≤ks.length∧∃n:Int,0≤n∧Ext (·=q.block) w0 w'∧Box w' q [.int .i64 n] T∧Sp.looksAll (inside+1) e n (ks.drop j)=Sp.looksAll (inside+1) (Sp.ownErr ⟨k,f,t,u,x,0,0⟩ ks.length) (seen+1) ks,fun _ i _=>((ks.length:Int) - i).toNat,⟨0,rfl,Nat.zero_le _,seen+1,by omega,E10,hB10,rfl⟩,?_⟩
  rintro e1 _ Hl wl hl ⟨j,rfl,hj,n,hn,El,hBl,heq⟩
  unfold m_T_l2
  have hTl:=hT.ext El (fun b hb e=>hq (e▸hb))
  refine ⟨fun hc=>?_,fun hc=>?_⟩
  ·simp only [Bool.and_eq_true,beq_iff_eq] at hc
   obtain ⟨he,hlt⟩:=hc
   have hlt:=lt_of_dec hlen hlt
   subst he
   cases hTl with
   | mk _ _ _ _ _ _ _ rs len fit row kid =>
   obtain ⟨a,hat,ha,hr⟩:=row j hlt
   refine ⟨a,hat,?_⟩
   intro H4 w11 hs4
   have E11:=El.hst hs4
   have hT11:=hT.ext E11 (fun b hb e=>hq (e▸hb))
   have hr11:Row w11 a (trow ks[j] (rs j)):=hs4.ext.row hr (fun hh=>by have:=hs4.old _ hh;have:=hSw _ ha;omega)
   have hk11:TreeAt S w11 (rs j) ks[j]:=(kid j hlt).ext hs4.ext (fun b hb hh=>by have:=hs4.old _ hh;have:=hSw _ hb;omega)
   have hB11:=hBl.ext hs4.ext (hq0 hs4)
   refine ⟨_,_,_,_,_,rs j,hr11,?_⟩
   rw [i64 (n:=inside+1) (by omega) (by omega)]
   refine (ih j hlt (rs j) (inside+1) n w11 (by omega) hn hk11 (fun b hb=>by have:=hSw b hb;have:=E11.size;omega) hB11).mono ?_
   rintro _ w12 ⟨r,rfl,rfl,hB12,E12⟩
   refine ⟨_,rfl,E12.kept (fun b hb e=>hq0 hs4 (e▸hb)),?_⟩
   rw [wrap_succ hlt (by omega)]
   refine ⟨⟨j+1,rfl,hlt,_,looks_mono ks[j] (inside+1) n hn,E11.trans E12,hB12,?_⟩,lt_dec hlt⟩
   rw [← heq];exact (looksAll_drop hlt (inside+1) n).symm
  ·intro H4 w11 hs4
   have hfin:Sp.looksAll (inside+1) e1 n (ks.drop j)=(e1,n):=by
    by_cases he:e1=0
    ·have hge : j = ks.length := by
      rw [he] at hc
      have hc:decide ((j:Int)<(s.len:Int))=false:=by simpa using hc
      exact eq_of_dec hlen hj hc
     rw [hge,List.drop_length];rfl
    ·exact looksAll_bad he _ _
   rw [hfin] at heq
   refine hK _ _ ⟨by rw [← heq],?_,El.hst hs4⟩
   rw [← heq];exact hBl.ext hs4.ext (hq0 hs4)
theorem c_ref05_Looks {S : NP} (t : Sp.Tree) (s : Sl) (w0 : World) (hT : TreeAt S w0 s t) (hSw : ∀ b, S b → b < w0.heap.size) :
  Calls Tryz.prog 147 #[.agg (trow t s).toArray] w0 (fun e w'=>∃r:Int,e=.returned (.int .i64 r)∧(r=(Sp.looks 0 0 t).1∧Pure w0 w')):=by
 obtain ⟨k,f,to,u,x,ks⟩:=t
 refine w_F4 _ _ _ _ _ _ w0 (fun r w'=>r=(Sp.looks 0 0 (.mk k f to u x ks)).1∧Pure w0 w') ?_
 unfold m_F4
 intro H1 w1 hs1 p w2 h2
 have b2:=Box.of_new h2
 have E2:Pure w0 w2:=hs1.first.trans (Ext.new h2)
 have o2:=New.own hs1.first h2
 have hpH:¬ H1 p.block:=fun hh=>by have:=hs1.lt _ hh;have:=h2.at_size;omega
 refine ⟨b2.canW0 (by simp),hpH,?_⟩
 rintro w3 hw3
 have b3:Box w3 p [.int .i64 0] 3:=by rw [hw3];exact b2.set0
 have E3:Pure w0 w3:=by rw [hw3];exact E2.own o2 (Ext.setCell p _)
 clear hw3
 refine (c_ref05_looked p (fun h=>by have:=hSw _ h;omega) _ _ s 0 0 w3 (Int.le_refl _) (Int.le_refl _) (hT.pure E3) (fun b hb=>by have:=hSw b hb;have:=E3.size;omega) b3).mono ?_
 rintro _ w4 ⟨r,rfl,rfl,_,E4⟩
 exact ⟨_,rfl,E4.kept (fun b hb e=>hpH (e▸hb)),rfl,E3.own o2 E4⟩
end Go.Proofs
end
section
open Go Go.SE
namespace Go.Proofs
attribute [local irreducible] Calls
theorem c_ref05_cut (p : Addr) (n : Nat) (w0 : World) {L : Sp.Pool} {F : NP} (hP : PoolR w0 p L F) (hn : n ≤ L.length) :
  Calls Tryz.prog 149 #[.pointer (some p),.int .i64 n] w0 (fun e w'=>e=.returned (.tuple #[])∧PoolR w' p (L.take n) F∧Ext F w0 w'):=by
 suffices key:∀K:WP,(∀w',PoolR w' p (L.take n) F∧Ext F w0 w'→K w')→m_M2 (some p) n w0 K from
  w_M2 _ _ w0 _ (key _ (fun _ h=>h))
 intro K hK
 unfold m_M2
 obtain ⟨s1,s2,s3,hS,hF⟩:=hP
 obtain ⟨t1,hr1,R1,hb1⟩:=Rws.hi (P:=Tryz.prog) slT_node hS.r1 (k:=.i64) (n:=n) (by omega) (by simpa using hn)
 refine ⟨p,rfl,s1,hS.box.cell0,t1,hr1,p,rfl,hS.box.canW0 (by simp),?_⟩
 rintro w1 hw1
 have B1:Box w1 p [t1.v,s2.v,s3.v] 44:=by rw [hw1];exact hS.box.set0
 have X1:Ext (·=p.block) w0 w1:=by rw [hw1];exact Ext.setCell p _
 clear hw1
 obtain ⟨t2,hr2,R2,hb2⟩:=Rws.hi (P:=Tryz.prog) slT_int (hS.r2.ext X1 (fun b hb e=>hS.n2 (e▸hb))) (k:=.i64) (n:=n) (by omega) (by simpa using hn)
 refine ⟨p,rfl,s2,B1.cell rfl,t2,hr2,p,rfl,B1.canW (by simp),?_⟩
 rintro w2 hw2
 have B2:Box w2 p [t1.v,t2.v,s3.v] 44:=by rw [hw2];exact B1.set 1 _
 have X2:Ext (·=p.block) w1 w2:=by rw [hw2];have:=Ext.setCell (w:=w1) (p.add 1) t2.v;rw [add_block] at this;exact this
 clear hw2
 obtain ⟨t3,hr3,R3,hb3⟩:=Rws.hi (P:=Tryz.prog) slT_int (hS.r3.ext (X1.trans X2) (fun b hb e=>hS.n3 (e▸hb))) (k:=.i64) (n:=n) (by omega) (by simpa using hn)
 refine ⟨p,rfl,s3,B2.cell rfl,t3,hr3,p,rfl,B2.canW (by simp),?_⟩
 rintro w3 hw3
 have B3:Box w3 p [t1.v,t2.v,t3.v] 44:=by rw [hw3];exact B2.set 2 _
 have X3:Ext (·=p.block) w2 w3:=by rw [hw3];have:=Ext.setCell (w:=w2) (p.add 2) t3.v;rw [add_block] at this;exact this
 clear hw3
 have E:=(X1.trans X2).trans X3
 refine hK _ ⟨⟨t1,t2,t3,⟨B3,?_,?_,?_,fun h=>hS.n1 ((hb1 _).1 h),fun h=>hS.n2 ((hb2 _).1 h),fun h=>hS.n3 ((hb3 _).1 h),fun b h1 h2=>hS.d12 b ((hb1 b).1 h1) ((hb2 b).1 h2),fun b h1 h2=>hS.d13 b ((hb1 b).1 h1) ((hb3 b).1 h2),fun b h1 h2=>hS.d23 b ((hb2 b).1 h1) ((hb3 b).1 h2)⟩,fun b=>by rw [hF b,hb1 b,hb2 b,hb3 b]⟩,E.mono (fun i _ h=>(hF i).2 (.inl h))⟩
 ·have:=R1.ext E (fun b hb e=>hS.n1 ((hb1 _).1 (e▸hb)))
  rw [List.map_take];simpa using this
 ·have:=R2.ext (X2.trans X3) (fun b hb e=>hS.n2 ((hb2 _).1 (e▸hb)))
  rw [List.map_take];simpa using this
 ·have:=R3.ext X3 (fun b hb e=>hS.n3 ((hb3 _).1 (e▸hb)))
  rw [List.map_take];simpa using this
theorem c_ref05_made {S : NP} (p : Addr) (t : Sp.Tree) : ∀ (s : Sl) (w0 : World) (L : Sp.Pool) (F : NP), Sp.Tree.two t → TreeAt S w0 s t → PoolR w0 p L F → Sp.Ok L → (∀ b, F b → ¬ S b) → (∀ b, S b → b < w0.heap.size) →
  Calls Tryz.prog 148 #[.pointer (some p),.agg (trow t s).toArray] w0
   (fun e w'=>∃r1:Int,∃r2:Int,e=.returned (.tuple #[.int .i64 r1,.int .i64 r2])∧((r1,r2)=((Sp.grow L t).1,(Sp.grow L t).2.1)∧∃F',PoolR w' p (Sp.grow L t).2.2 F'∧Ext F w0 w'∧∀b,F' b→F b∨w0.heap.size≤b)):=by
 induction t using Sp.Tree.ind with
 | h k f t u x ks ih =>
 intro s w0 L F h2 hT hP hok hFS hSw
 suffices key:∀K:Int→Int→WP,(∀r1 r2 w',((r1,r2)=((Sp.grow L (.mk k f t u x ks)).1,(Sp.grow L (.mk k f t u x ks)).2.1)∧∃F',PoolR w' p (Sp.grow L (.mk k f t u x ks)).2.2 F'∧Ext F w0 w'∧∀b,F' b→F b∨w0.heap.size≤b)→K r1 r2 w')→m_O1 (some p) k f t u x s w0 K from
  w_O1 _ _ _ _ _ _ _ w0 _ (key _ (fun _ _ _ h=>h))
 intro K hK
 obtain ⟨hk2,hall⟩:=two_mk.1 h2
 have hsp:Sp.grow L (.mk k f t u x ks)=Sp.growAll ⟨k,f,t,u,x,0,0⟩ 0 L ks:=by rw [Sp.grow]
 rw [hsp] at hK
 have hlen:s.len=ks.length:=by cases hT;assumption
 unfold m_O1
 intro H2 w4 hs4
 refine ⟨fun i a1 a2 a3 a4 a5 a6 a7 H w'=>∃j:Nat,i=j∧j≤ks.length∧∃(L':Sp.Pool) (F':NP),Sp.growAll ⟨k,f,t,u,x,0,0⟩ 0 L ks=Sp.growAll ⟨a1,a2,a3,a4,a5,a6,a7⟩ j L' (ks.drop j)∧Sp.Ok L'∧PoolR w' p L' F'∧(∀b,F' b→F b∨w0.heap.size≤b)∧(∀b,F' b→¬ H b)∧Ext F w0 w',fun i _ _ _ _ _ _ _ _=>((ks.length:Int) - i).toNat,
  ⟨0,rfl,Nat.zero_le _,L,F,by simp,hok,hP.pure hs4.first,fun b h=>.inl h,hs4.disj0 (fun b hb=>hP.lt hb),hs4.first.pure⟩,?_⟩
 rintro _ a1 a2 a3 a4 a5 a6 a7 Hl wl hl ⟨j,rfl,hj,L',F',heq,hok',hPl,hF',hv,El⟩
 unfold m_O1_l1
 refine ⟨fun h=>?_,fun h=>?_⟩
 ·have hlt:=lt_of_dec hlen h
  have hTl:TreeAt S wl s (.mk k f t u x ks):=hT.ext El (fun b hs hf=>hFS b hf hs)
  have hkid:∃a r,At s j 6 a∧Row wl a (trow ks[j] r)∧TreeAt S wl r ks[j]:=by
   cases hTl with
   | mk _ _ _ _ _ _ _ rs len fit row kid=>exact let ⟨a,h1,_,h3⟩:=row j hlt;⟨a,rs j,h1,h3,kid j hlt⟩
  obtain ⟨a,r,hat,hrow,hTk⟩:=hkid
  refine ⟨a,hat,_,_,_,_,_,r,hrow,?_⟩
  have hsz:w0.heap.size≤wl.heap.size:=El.size
  refine (ih j hlt r wl L' F' (twoAll_get hall hlt) hTk hPl hok' (fun b hb hs=>(hF' b hb).elim (fun h=>hFS b h hs) (fun h=>by have:=hSw b hs;omega)) (fun b hs=>by have:=hSw b hs;omega)).mono ?_
  rintro _ w8 ⟨r1,r2,rfl,hr,F8,hP8,E8,hF8⟩
  have e1:r1=(Sp.grow L' ks[j]).1:=congrArg Prod.fst hr
  have e2:r2=(Sp.grow L' ks[j]).2.1:=congrArg Prod.snd hr
  rw [List.drop_eq_getElem_cons hlt] at heq
  have hF8':∀b,F8 b→F b∨w0.heap.size≤b:=fun b hb=>(hF8 b hb).elim (hF' b) (fun h=>by right;omega)
  have Ew8:Ext F w0 w8:=El.trans' E8 (fun i hi h=>(hF' i h).elim id (fun h=>by omega))
  refine ⟨_,_,rfl,E8.kept (fun b hH hF=>hv b hF hH),fun h=>?_,fun h=>?_⟩
  ·have h:(Sp.grow L' ks[j]).2.1≠0:=by rw [← e2];simpa using h
   rw [growAll_bad h] at heq
   refine hK _ _ _ ?_
   rw [heq];exact ⟨by rw [e2],F8,hP8,Ew8,hF8'⟩
  ·have h:(Sp.grow L' ks[j]).2.1=0:=by rw [← e2];simpa using h
   rw [growAll_good h] at heq
   intro H3 w9 hs9
   have hv8:∀b,F8 b→¬ Hl b:=fun b hb hH=>(hF8 b hb).elim (fun h=>hv b h hH) (fun h=>by have:=hl.lt b hH;omega)
   have hv9:∀b,F8 b→¬ H3 b:=hs9.disj (fun b hb=>⟨hP8.lt hb,hv8 b hb⟩)
   rw [wrap_succ hlt (by omega)]
   refine ⟨⟨j+1,rfl,hlt,_,F8,?_,(Sp.grow_facts ks[j] L' hok').1,hP8.ext hs9.ext hv9,hF8',hv9,Ew8.hst hs9⟩,lt_dec hlt⟩
   rw [heq,e1]
   have hj0:(((j:Int)) == 0)=decide (j=0):=by rw [Bool.eq_iff_iff];simp
   rw [hj0]
   by_cases hj0':j=0
   ·subst hj0';rfl
   ·simp [hj0']
 ·have hge:=eq_of_dec hlen hj h
  rw [hge,List.drop_length,Sp.growAll] at heq
  refine (c_ref05_Make p ⟨a1,a2,a3,a4,a5,a6,a7⟩ wl hPl hok').mono ?_
  rintro _ w9 ⟨r1,r2,rfl,hr,F9,hP9,E9,hF9⟩
  have hsz:w0.heap.size≤wl.heap.size:=El.size
  refine ⟨_,_,rfl,E9.kept (fun b hH hF=>hv b hF hH),hK _ _ _ ?_⟩
  rw [heq]
  exact ⟨hr,F9,hP9,El.trans' E9 (fun i hi h=>(hF' i h).elim id (fun h=>by omega)),fun b hb=>(hF9 b hb).elim (hF' b) (fun h=>by right;omega)⟩
theorem grow_bad_term (t:Sp.Tree):∀L,(Sp.grow L t).2.1≠0→(Sp.grow L t).1=0:=by
 induction t using Sp.Tree.ind with
 | h k f t u x ks ih =>
  have hmk:∀L n,(Sp.make L n).2.1≠0→(Sp.make L n).1=0:=by
   intro L n h
   unfold Sp.make at h ⊢
   simp only at h ⊢
   split at h
   ·rename_i h1;rw [if_pos h1]
   ·rename_i h1
    rw [if_neg h1]
    split at h
    ·rename_i hf;exact absurd rfl h
    ·split at h
     ·rename_i h2;simp [h2]
     ·exact absurd rfl h
  have:∀(ks:List Sp.Tree),(∀i (hi:i<ks.length),∀L,(Sp.grow L ks[i]).2.1≠0→(Sp.grow L ks[i]).1=0)→∀n i L,(Sp.growAll n i L ks).2.1≠0→(Sp.growAll n i L ks).1=0:=by
   intro ks
   induction ks with
   | nil=>intro _ n i L h;unfold Sp.growAll at h ⊢;exact hmk L n h
   | cons t ts iht =>
    intro hh n i L h
    unfold Sp.growAll at h ⊢
    split at h
    ·rename_i h1;rw [if_pos h1]
    ·rename_i h1;rw [if_neg h1];exact iht (fun i hi=>hh (i+1) (by simpa using hi)) _ _ _ h
  intro L h
  unfold Sp.grow at h ⊢
  exact this ks ih _ _ L h
theorem c_ref05_Of {S : NP} (p : Addr) (t : Sp.Tree) (s : Sl) (w0 : World) {L : Sp.Pool} {F : NP} (hT : TreeAt S w0 s t) (hP : PoolR w0 p L F) (hok : Sp.Ok L) (hFS : ∀ b, F b → ¬ S b) (hSw : ∀ b, S b → b < w0.heap.size) :
  Calls Tryz.prog 78 #[.pointer (some p),.agg (trow t s).toArray] w0
   (fun e w'=>∃r1:Int,∃r2:Int,e=.returned (.tuple #[.int .i64 r1,.int .i64 r2])∧((r1,r2)=((Sp.of L t).1,(Sp.of L t).2.1)∧∃F',PoolR w' p (Sp.of L t).2.2 F'∧Ext F w0 w'∧∀b,F' b→F b∨w0.heap.size≤b)):=by
 obtain ⟨k,f,to,u,x,ks⟩:=t
 suffices key:∀K:Int→Int→WP,(∀r1 r2 w',((r1,r2)=((Sp.of L (.mk k f to u x ks)).1,(Sp.of L (.mk k f to u x ks)).2.1)∧∃F',PoolR w' p (Sp.of L (.mk k f to u x ks)).2.2 F'∧Ext F w0 w'∧∀b,F' b→F b∨w0.heap.size≤b)→K r1 r2 w')→m_N2 (some p) k f to u x s w0 K from
  w_N2 _ _ _ _ _ _ _ w0 _ (key _ (fun _ _ _ h=>h))
 intro K hK
 unfold m_N2
 intro H1 w1 hs1
 have E1:=hs1.first
 generalize ht:Sp.Tree.mk k f to u x ks=t at *
 have htr:(Value.agg #[.int .i64 k,.int .i64 f,.int .i64 to,.int .u64 u,.string x,s.v])=.agg (trow t s).toArray:=by rw [← ht];rfl
 rw [htr]
 refine (c_ref05_Looks t s w1 (hT.pure E1) (fun b hb=>by have:=hSw b hb;have:=E1.size;omega)).mono ?_
 rintro _ w2 ⟨r1,rfl,rfl,E2⟩
 have E12:=E1.trans E2
 refine ⟨_,rfl,E2.keptP,fun h=>?_,fun h=>?_⟩
 ·have h:(Sp.looks 0 0 t).1≠0:=by simpa using h
  have:Sp.of L t=(0,(Sp.looks 0 0 t).1,L):=by rw [Sp.of,if_pos h]
  refine hK _ _ _ ?_
  rw [this];exact ⟨rfl,F,hP.pure E12,E12.pure,fun _ h=>.inl h⟩
 ·have h:(Sp.looks 0 0 t).1=0:=by simpa using h
  have hP2:=hP.pure E12
  have hv:∀b,F b→¬ H1 b:=hs1.disj0 (fun b hb=>hP.lt hb)
  obtain ⟨s1,s2,s3,hS,hF0⟩:=id hP2
  have hl0:s1.len=L.length:=by rw [hS.r1.len];simp
  refine ⟨p,rfl,s1,hS.box.cell0,?_⟩
  refine (c_ref05_made p t s w2 L F (looks_two t _ _ h) (hT.pure E12) hP2 hok hFS (fun b hb=>by have:=hSw b hb;have:=E12.size;omega)).mono ?_
  rintro _ w5 ⟨r1,r2,rfl,hr,F5,hP5,E5,hF5⟩
  have e1:r1=(Sp.grow L t).1:=congrArg Prod.fst hr
  have e2:r2=(Sp.grow L t).2.1:=congrArg Prod.snd hr
  have hs4:w0.heap.size≤w2.heap.size:=E12.size
  have E05:Ext F w0 w5:=E12.pure.trans E5
  have hF5':∀b,F5 b→F b∨w0.heap.size≤b:=fun b hb=>(hF5 b hb).elim .inl (fun h=>.inr (by omega))
  have hs2:=hs1.again E2.keptP
  have hv5:∀b,F5 b→¬ H1 b:=fun b hb hH=>(hF5 b hb).elim (fun h=>hv b h hH) (fun h=>by have:=hs2.lt b hH;omega)
  refine ⟨_,_,rfl,E5.kept (fun b hH hF=>hv b hF hH),fun h'=>?_,fun h'=>?_⟩
  ·have h':(Sp.grow L t).2.1≠0:=by rw [← e2];simpa using h'
   obtain ⟨hok5,M,hM⟩:=Sp.grow_facts t L hok
   rw [hl0]
   refine (c_ref05_cut p L.length w5 hP5 (by rw [hM];simp)).mono ?_
   rintro _ w6 ⟨rfl,hP6,E6⟩
   have:Sp.of L t=(0,(Sp.grow L t).2.1,L):=by rw [Sp.of,if_neg (by simp [h]),if_pos h']
   refine ⟨rfl,E6.kept (fun b hH hF=>hv5 b hF hH),hK _ _ _ ?_⟩
   rw [this]
   rw [hM,List.take_left] at hP6
   exact ⟨by rw [e1,e2,grow_bad_term t L h'],F5,hP6,E05.trans' E6 (fun i hi h=>(hF5' i h).elim id (fun h=>by omega)),hF5'⟩
  ·have h':(Sp.grow L t).2.1=0:=by rw [← e2];simpa using h'
   have:Sp.of L t=((Sp.grow L t).1,0,(Sp.grow L t).2.2):=by rw [Sp.of,if_neg (by simp [h]),if_neg (by simp [h'])]
   refine hK _ _ _ ?_
   rw [this]
   exact ⟨by rw [e1,e2,h'],F5,hP5,E05,hF5'⟩
end Go.Proofs
end
section
open Go Go.SE
namespace Go.Proofs
attribute [local irreducible] Calls
theorem TreeAt.hst {S:NP} {w0 w w':World} {H H':NP} {s:Sl} {t:Sp.Tree} (h:TreeAt S w s t) (hs:Hst w0 H w H' w') (hd:∀b,S b→b<w.heap.size∧¬ H b):TreeAt S w' s t :=
 h.ext hs.ext (fun b hb hh=>hs.disj (G:=S) hd b hb hh)
theorem c_ref05_Parts {S : NP} (t : Sp.Tree) : ∀ (s : Sl) (most : Int) (w0 : World), 0 ≤ most → most ≤ 1000000000 → TreeAt S w0 s t → (∀ b, S b → b < w0.heap.size) →
  Calls Tryz.prog 75 #[.agg (trow t s).toArray,.int .i64 most] w0 (fun e w'=>∃r:Int,e=.returned (.int .i64 r)∧(r=Sp.parts most t∧Pure w0 w')):=by
 induction t using Sp.Tree.ind with
 | h k f t u x ks ih =>
 intro s most w0 hm0 hm hT hSw
 suffices key:∀K:Int→WP,(∀r w',(r=Sp.parts most (.mk k f t u x ks)∧Pure w0 w')→K r w')→m_M1 k f t u x s most w0 K from
  w_M1 _ _ _ _ _ _ _ w0 _ (key _ (fun _ _ h=>h))
 intro K hK
 have hlen:s.len=ks.length:=by cases hT;assumption
 have hfit:ks.length≤9223372036854775807:=by cases hT;assumption
 unfold m_M1
 intro H1 w1 hs1
 refine ⟨fun n i H w'=>∃j:Nat,i=j∧j≤ks.length∧1≤n∧n≤most+1∧Pure w0 w'∧Sp.partsAll most 1 ks=Sp.partsAll most n (ks.drop j),fun _ i _=>((ks.length:Int) - i).toNat,⟨0,rfl,Nat.zero_le _,Int.le_refl _,by omega,hs1.first,rfl⟩,?_⟩
 rintro n _ Hl wl hl ⟨j,rfl,hj,hn1,hn2,El,heq⟩
 unfold m_M1_l1
 refine ⟨fun hc=>?_,fun hc=>?_⟩
 ·simp only [Bool.and_eq_true,decide_eq_true_eq] at hc
  have hlt:j<ks.length:=by omega
  rw [List.drop_eq_getElem_cons hlt,Sp.partsAll,if_pos hc.2] at heq
  have hT1:=hT.pure El
  cases hT1 with
  | mk _ _ _ _ _ _ _ rs len fit row kid =>
  obtain ⟨a,hat,ha,hr⟩:=row j hlt
  refine ⟨a,hat,?_⟩
  intro H2 w2 hs2
  have hd:∀b,S b→¬ H2 b:=fun b hb hh=>by have:=hs2.old _ hh;have:=hSw b hb;omega
  refine ⟨_,_,_,_,_,rs j,hs2.ext.row hr (hd _ ha),?_⟩
  rw [i64 (n:=most - n) (by omega) (by omega)]
  refine (ih j hlt (rs j) (most - n) w2 (by omega) (by omega) ((kid j hlt).ext hs2.ext hd) (fun b hb=>by have:=hSw b hb;have:=(El.hst hs2).size;omega)).mono ?_
  rintro _ w3 ⟨r,rfl,rfl,E3⟩
  have hpf:=Sp.parts_facts ks[j] (most - n) (by omega)
  refine ⟨_,rfl,E3.keptP,?_⟩
  rw [wrap_succ hlt (by omega),i64 (n:=n+Sp.parts (most - n) ks[j]) (by omega) (by omega)]
  exact ⟨⟨j+1,rfl,hlt,by omega,by omega,(El.hst hs2).trans E3,heq⟩,lt_dec hlt⟩
 ·intro H2 w2 hs2
  refine hK _ _ ⟨?_,El.hst hs2⟩
  rw [Sp.parts,heq]
  by_cases hj2:j=ks.length
  ·rw [hj2,List.drop_length];rfl
  ·have hlt:j<ks.length:=by omega
   rw [List.drop_eq_getElem_cons hlt,Sp.partsAll,if_neg]
   intro h
   have:decide (n≤most)=true:=decide_eq_true h
   have h2:decide ((j:Int)<(s.len:Int))=true:=decide_eq_true (by omega)
   rw [this,h2] at hc;cases hc
theorem sameAll_drop {xs ys:List Sp.Tree} {j:Nat} (hl:xs.length=ys.length) (hj:j<xs.length):Sp.sameAll (xs.drop j) (ys.drop j)=(Sp.same xs[j] (ys[j]'(by omega)) && Sp.sameAll (xs.drop (j+1)) (ys.drop (j+1))):=by
 rw [List.drop_eq_getElem_cons hj,List.drop_eq_getElem_cons (show j<ys.length by omega),Sp.sameAll]
theorem sameAll_len:∀{xs ys:List Sp.Tree},Sp.sameAll xs ys=true→xs.length=ys.length
 | [],[],_=>rfl
 | a :: xs,b :: ys,h=>by simp only [Sp.sameAll,Bool.and_eq_true] at h;simp [sameAll_len h.2]
 | [],b :: ys,h=>by simp [Sp.sameAll] at h
 | a :: xs,[],h=>by simp [Sp.sameAll] at h
theorem c_ref05_Same {S : NP} (t : Sp.Tree) : ∀ (t' : Sp.Tree) (s s' : Sl) (w0 : World), TreeAt S w0 s t → TreeAt S w0 s' t' → (∀ b, S b → b < w0.heap.size) →
  Calls Tryz.prog 47 #[.agg (trow t s).toArray,.agg (trow t' s').toArray] w0 (fun e w'=>∃r:Bool,e=.returned (.bool r)∧(r=Sp.same t t'∧Pure w0 w')):=by
 induction t using Sp.Tree.ind with
 | h k f t u x ks ih =>
 intro t' s s' w0 hT hT' hSw
 obtain ⟨k',f',tt',u',x',ks'⟩:=t'
 suffices key:∀K:Bool→WP,(∀r w',(r=Sp.same (.mk k f t u x ks) (.mk k' f' tt' u' x' ks')∧Pure w0 w')→K r w')→m_L1 k f t u x s k' f' tt' u' x' s' w0 K from
  w_L1 _ _ _ _ _ _ _ _ _ _ _ _ w0 _ (key _ (fun _ _ h=>h))
 intro K hK
 have hlen:s.len=ks.length:=by cases hT;assumption
 have hlen':s'.len=ks'.length:=by cases hT';assumption
 have hfit:ks.length≤9223372036854775807:=by cases hT;assumption
 unfold m_L1
 rintro y1 rfl
 refine ⟨fun h=>?_,fun h=>?_⟩
 ·intro H7 w7 hs7
  refine hK _ _ ⟨?_,hs7.first⟩
  symm
  apply Bool.eq_false_iff.2
  intro hs
  simp only [Sp.same,Bool.and_eq_true,decide_eq_true_eq] at hs
  obtain ⟨⟨⟨⟨⟨rfl,rfl⟩,rfl⟩,rfl⟩,rfl⟩,h6⟩:=hs
  have:=sameAll_len h6
  simp [hlen,hlen',this] at h
 ·have hne : k = k' ∧ f = f' ∧ t = tt' ∧ u = u' ∧ x = x' ∧ ks.length = ks'.length := by
   simp only [Bool.or_eq_false_iff,bne_eq_false_iff_eq,Bool.not_eq_false',decide_eq_true_eq] at h
   obtain ⟨⟨⟨⟨⟨h1,h2⟩,h3⟩,h4⟩,h5⟩,h6⟩:=h
   exact ⟨h1,h2,h3,h4,h5,by omega⟩
  obtain ⟨rfl,rfl,rfl,rfl,rfl,hll⟩:=hne
  have hsp:Sp.same (.mk k f t u x ks) (.mk k f t u x ks')=Sp.sameAll ks ks':=by simp [Sp.same]
  rw [hsp] at hK
  intro H7 w7 hs7
  refine ⟨fun i H w'=>∃j:Nat,i=j∧j≤ks.length∧Pure w0 w'∧Sp.sameAll ks ks'=Sp.sameAll (ks.drop j) (ks'.drop j),fun i _=>((ks.length:Int) - i).toNat,⟨0,rfl,Nat.zero_le _,hs7.first,rfl⟩,?_⟩
  rintro _ Hl wl hl ⟨j,rfl,hj,El,heq⟩
  unfold m_L1_l1
  refine ⟨fun hc=>?_,fun hc=>?_⟩
  ·have hlt:=lt_of_dec hlen hc
   have hlt':j<ks'.length:=by omega
   rw [sameAll_drop hll hlt] at heq
   have g1:∃a r,At s j 6 a∧S a.block∧(∀w',Pure w0 w'→Row w' a (trow ks[j] r))∧TreeAt S w0 r ks[j]:=by
    cases hT with
    | mk _ _ _ _ _ _ _ rs len fit row kid=>obtain ⟨a,h1,h2,h3⟩:=row j hlt;exact ⟨a,rs j,h1,h2,fun w' E=>E.row h3 id,kid j hlt⟩
   have g2:∃a r,At s' j 6 a∧S a.block∧(∀w',Pure w0 w'→Row w' a (trow ks'[j] r))∧TreeAt S w0 r ks'[j]:=by
    cases hT' with
    | mk _ _ _ _ _ _ _ rs len fit row kid=>obtain ⟨a,h1,h2,h3⟩:=row j hlt';exact ⟨a,rs j,h1,h2,fun w' E=>E.row h3 id,kid j hlt'⟩
   obtain ⟨a,r,hat,_,hr,hk⟩:=g1
   obtain ⟨a',r',hat',_,hr',hk'⟩:=g2
   refine ⟨fun w'=>Pure w0 w',El.trans (Ext.drew wl),?_⟩
   rintro _ rfl
   have Ed:=El.trans (Ext.drew wl)
   refine ⟨a,hat,_,_,_,_,_,r,fun w' h=>hr w' h,a',hat',_,_,_,_,_,r',fun w' h=>hr' w' h,?_⟩
   refine (ih j hlt ks'[j] r r' wl.drew (hk.pure Ed) (hk'.pure Ed) (fun b hb=>by have:=hSw b hb;have:=Ed.size;omega)).mono ?_
   rintro _ w13 ⟨q,rfl,rfl,E13⟩
   refine ⟨_,rfl,Ed.trans E13,E13.keptP,fun h=>?_,fun h=>?_⟩
   ·have h:Sp.same ks[j] ks'[j]=false:=by simpa using h
    exact hK _ _ ⟨by rw [heq,h];rfl,Ed.trans E13⟩
   ·have h:Sp.same ks[j] ks'[j]=true:=by simpa using h
    rw [h,Bool.true_and] at heq
    rw [wrap_succ hlt (by omega)]
    exact ⟨⟨j+1,rfl,hlt,Ed.trans E13,heq⟩,lt_dec hlt⟩
  ·have hge:=eq_of_dec hlen hj hc
   subst hge
   rw [List.drop_length,hll,List.drop_length] at heq
   exact hK _ _ ⟨heq.symm,El⟩
end Go.Proofs
end
section
namespace Go.Sp
theorem cntAll_snoc (ts:List Tree) (t:Tree):cntAll (ts++[t])=cntAll ts+cnt t:=by
 induction ts with
 | nil=>simp [cntAll]
 | cons a ts ih=>rw [List.cons_append,cntAll,cntAll,ih];omega
theorem make_few8 (L:Pool) (n:Node):(make L n).2.2.length≤L.length+1:=by
 rcases make_pool L n with e | ⟨_,e⟩ <;> rw [e] <;> simp
theorem grow_few8 (t:Tree):∀L,(grow L t).2.2.length≤L.length+cnt t:=by
 induction t using Tree.ind with
 | h k f t u x ks ih =>
  have:∀(ks:List Tree),(∀i (hi:i<ks.length),∀L,(grow L ks[i]).2.2.length≤L.length+cnt ks[i])→∀n i L,(growAll n i L ks).2.2.length≤L.length+1+cntAll ks:=by
   intro ks
   induction ks with
   | nil=>intro _ n i L;unfold growAll;have:=make_few8 L n;simp only [cntAll];omega
   | cons t ts iht =>
    intro hh n i L
    have h0:=hh 0 (by simp) L
    simp only [List.getElem_cons_zero] at h0
    unfold growAll
    simp only [cntAll]
    split
    ·simp only;omega
    ·have:=iht (fun i hi=>hh (i+1) (by simpa using hi)) (if i=0 then { n with a:=(grow L t).1 } else { n with b:=(grow L t).1 }) (i+1) (grow L t).2.2
     omega
  intro L
  have:=this ks ih ⟨k,f,t,u,x,0,0⟩ 0 L
  unfold grow
  rw [cnt];omega
theorem of_few8 (L:Pool) (t:Tree):(of L t).2.2.length≤L.length+cnt t:=by
 have:=grow_few8 t L
 unfold of
 split
 ·simp only;omega
 ·split
  ·simp only;omega
  ·exact this
end Go.Sp
end
section
open Go Go.SE
namespace Go.Sp
def poolOf (ts:List Tree):Pool:=ts.foldl (fun L t=>(of L t).2.2) []
theorem poolOf_ok (ts:List Tree):Wf (poolOf ts)∧(poolOf ts).length≤cntAll ts:=by
 have:∀(ts:List Tree) L,Wf L→Wf (ts.foldl (fun L t=>(of L t).2.2) L)∧(ts.foldl (fun L t=>(of L t).2.2) L).length≤L.length+cntAll ts:=by
  intro ts
  induction ts with
  | nil=>intro L h;exact ⟨h,by simp [cntAll]⟩
  | cons t ts ih =>
   intro L h
   obtain ⟨h1,h2⟩:=ih _ (of_wf h t)
   have:=of_few8 L t
   exact ⟨h1,by rw [List.foldl_cons,cntAll];omega⟩
 obtain ⟨h1,h2⟩:=this ts [] Wf.nil
 exact ⟨h1,by unfold poolOf;simpa using h2⟩
end Go.Sp
namespace Go.Proofs
attribute [local irreducible] Calls
structure Pl2 (w0:World) (H:NP) (w:World) (p q:Addr) (L1 L2:Sp.Pool) (F1 F2:NP):Prop where
 pure:Pure w0 w
 pool:PoolAt w p L1 F1
 ref:PoolR w q L2 F2
 o1:∀b,F1 b→w0.heap.size≤b∧¬ H b∧¬ F2 b
 o2:∀b,F2 b→w0.heap.size≤b∧¬ H b
section
variable {w0 w w':World} {H H':NP} {p q:Addr} {L1 L2:Sp.Pool} {F1 F2:NP}
theorem Pl2.pureE (h:Pl2 w0 H w p q L1 L2 F1 F2) (E:Pure w w'):Pl2 w0 H w' p q L1 L2 F1 F2:=⟨h.pure.trans E,h.pool.pure E,h.ref.pure E,h.o1,h.o2⟩
theorem Pl2.first (h:Pl2 w H w' p q L1 L2 F1 F2) (E:Pure w0 w):Pl2 w0 H w' p q L1 L2 F1 F2 :=
 ⟨E.trans h.pure,h.pool,h.ref,fun b hb=>⟨Nat.le_trans E.size (h.o1 b hb).1,(h.o1 b hb).2⟩,fun b hb=>⟨Nat.le_trans E.size (h.o2 b hb).1,(h.o2 b hb).2⟩⟩
theorem Pl2.hst (h:Pl2 w0 H w p q L1 L2 F1 F2) (hs:Hst w0 H w H' w'):Pl2 w0 H' w' p q L1 L2 F1 F2:=by
 have d:∀b,b<w.heap.size→¬ H b→¬ H' b:=fun b h1 h2=>hs.disj (G:=(·=b)) (fun c e=>by subst e;exact ⟨h1,h2⟩) b rfl
 have d1:∀b,F1 b→¬ H' b:=fun b hb=>d b (h.pool.lt hb) (h.o1 b hb).2.1
 have d2:∀b,F2 b→¬ H' b:=fun b hb=>d b (h.ref.lt hb) (h.o2 b hb).2
 exact ⟨h.pure.hst hs,h.pool.ext hs.ext d1,h.ref.ext hs.ext d2,fun b hb=>⟨(h.o1 b hb).1,d1 b hb,(h.o1 b hb).2.2⟩,fun b hb=>⟨(h.o2 b hb).1,d2 b hb⟩⟩
theorem Pl2.of1 (h:Pl2 w0 H w p q L1 L2 F1 F2) (hH:∀b,H b→b<w.heap.size) {L:Sp.Pool} {F:NP} (hP:PoolAt w' p L F) (hE:Ext F1 w w') (hF:∀b,F b→F1 b∨w.heap.size≤b):Pl2 w0 H w' p q L L2 F F2:=by
 refine ⟨h.pure.trans' hE (fun i hi hb=>by have:=(h.o1 i hb).1;omega),hP,h.ref.ext hE (fun b hb h1=>(h.o1 b h1).2.2 hb),fun b hb=>?_,h.o2⟩
 rcases hF b hb with h1 | h1
 ·exact h.o1 b h1
 ·exact ⟨by have:=h.pure.size;omega,fun hh=>by have:=hH b hh;omega,fun hh=>by have:=h.ref.lt hh;omega⟩
theorem Pl2.of2 (h:Pl2 w0 H w p q L1 L2 F1 F2) (hH:∀b,H b→b<w.heap.size) {L:Sp.Pool} {F:NP} (hP:PoolR w' q L F) (hE:Ext F2 w w') (hF:∀b,F b→F2 b∨w.heap.size≤b):Pl2 w0 H w' p q L1 L F1 F:=by
 refine ⟨h.pure.trans' hE (fun i hi hb=>by have:=(h.o2 i hb).1;omega),h.pool.ext hE (fun b hb h1=>(h.o1 b hb).2.2 h1),hP,fun b hb=>⟨(h.o1 b hb).1,(h.o1 b hb).2.1,fun hh=>?_⟩,fun b hb=>?_⟩
 ·rcases hF b hh with h1 | h1
  ·exact (h.o1 b hb).2.2 h1
  ·have:=h.pool.lt hb;omega
 ·rcases hF b hb with h1 | h1
  ·exact h.o2 b h1
  ·exact ⟨by have:=h.pure.size;omega,fun hh=>by have:=hH b hh;omega⟩
end
end Go.Proofs
end
section
open Go Go.SE
namespace Go.Proofs
attribute [local irreducible] Calls
theorem c_law12_wide {S : NP} (ts : List Sp.Tree) (s : Sl) (w0 : World) (hT : TreeAt S w0 s (.mk 0 0 0 0 ⟨#[]⟩ ts)) (hS : ∀ b, S b → b < w0.heap.size) :
  Calls Tryz.prog 23 #[s.v] w0 (fun e w'=>∃r:Bool,e=.returned (.bool r)∧((r=false→ts.length≤10∧Sp.cntAll ts≤500)∧Pure w0 w')):=by
 refine w_R1 _ w0 (fun r w'=>(r=false→ts.length≤10∧Sp.cntAll ts≤500)∧Pure w0 w') ?_
 unfold m_R1
 cases hT with
 | mk _ _ _ _ _ _ _ rs len fit row kid =>
 refine ⟨fun n i w'=>∃j:Nat,i=j∧j≤ts.length∧j≤11∧n=(Sp.cntAll (ts.take j):Nat)∧n<500∧Pure w0 w',fun _ i _=>(12 - i).toNat,⟨0,rfl,Nat.zero_le _,by omega,by simp [Sp.cntAll],by omega,Ext.refl _⟩,?_⟩
 rintro n _ wl ⟨j,rfl,hj,hj11,hn,hn4,E⟩
 unfold m_R1_l1
 refine ⟨fun h=>?_,fun h=>⟨fun hr=>?_,E⟩⟩
 ·rw [Bool.and_eq_true] at h
  have hlt:=lt_of_dec len h.1
  have h10:=of_decide_eq_true h.2
  obtain ⟨a,hat,hSa,hrow⟩:=row j hlt
  have hkid:=kid j hlt
  have htk:ts.take (j+1)=ts.take j++[ts[j]]:=List.take_succ_eq_append_getElem hlt
  have hsn:=Sp.cntAll_snoc (ts.take j) ts[j]
  rw [← htk] at hsn
  generalize ts[j]=x at *
  generalize rs j=sx at *
  obtain ⟨xk,xf,xt,xu,xx,xks⟩:=x
  have hrl:Row wl a (trow (.mk xk xf xt xu xx xks) sx):=E.row hrow (fun h=>h)
  refine ⟨a,hat,_,_,_,_,_,sx,hrl,?_⟩
  refine (c_ref05_Parts (.mk xk xf xt xu xx xks) sx 500 wl (by omega) (by omega) (hkid.pure E) (fun b hb=>by have:=hS b hb;have:=E.size;omega)).mono ?_
  rintro _ w1 ⟨r,rfl,rfl,E1⟩
  obtain ⟨p1,p2,p3⟩:=Sp.parts_facts (.mk xk xf xt xu xx xks) 500 (by omega)
  generalize Sp.parts 500 (.mk xk xf xt xu xx xks)=r at *
  refine ⟨r,rfl,?_⟩
  rw [IntWalk.i64_in _ (by omega),IntWalk.i64_in _ (by omega)]
  refine ⟨fun h=>⟨(fun h=>by cases h),E.trans E1⟩,fun h=>?_⟩
  have h:=of_decide_eq_false h
  have hc:=p3 (by omega)
  refine ⟨⟨j+1,by omega,hlt,by omega,?_,by omega,E.trans E1⟩,by show (12 - ((j:Int)+1)).toNat<(12 - (j:Int)).toNat;omega⟩
  rw [hsn];omega
 ·have hr:=of_decide_eq_false hr
  have hjl:j=ts.length:=by
   rw [Bool.and_eq_false_iff] at h
   rcases h with h | h
   ·exact eq_of_dec len hj h
   ·have:=of_decide_eq_false h;omega
  subst hjl
  rw [List.take_length] at hn
  exact ⟨by omega,by omega⟩
theorem c_law12_pools {S : NP} (ts : List Sp.Tree) (s : Sl) (w0 : World) (hT : TreeAt S w0 s (.mk 0 0 0 0 ⟨#[]⟩ ts)) (hS : ∀ b, S b → b < w0.heap.size) (hn : ts.length ≤ 10) :
  Calls Tryz.prog 25 #[s.v] w0 (fun e w'=>∃r1:Option Addr,∃r2:Option Addr,∃r4:Bool,e=.returned (.tuple #[.pointer r1,.pointer r2,.bool r4])∧∃p q F1 F2,r1=some p∧r2=some q∧r4=true∧Pl2 w0 None w' p q (Sp.poolOf ts) (Sp.poolOf ts) F1 F2):=by
 suffices key:∀K:Option Addr→Option Addr→Bool→WP,(∀p q F1 F2 H w',Pl2 w0 H w' p q (Sp.poolOf ts) (Sp.poolOf ts) F1 F2→K (some p) (some q) true w')→m_H1 s w0 K from
  w_H1 _ w0 _ (key _ (fun p q F1 F2 H w' h=>⟨p,q,F1,F2,rfl,rfl,rfl,h.pure,h.pool,h.ref,fun b hb=>⟨(h.o1 b hb).1,id,(h.o1 b hb).2.2⟩,fun b hb=>⟨(h.o2 b hb).1,id⟩⟩))
 intro K hK
 cases hT with
 | mk _ _ _ _ _ _ _ rs len fit row kid =>
 unfold m_H1
 refine (c_New w0).mono ?_
 rintro _ w1 ⟨_,rfl,p,rfl,E1,F1,hP1,hF1⟩
 refine ⟨_,rfl,E1.keptP,?_⟩
 refine (c_ref05_New w1).mono ?_
 rintro _ w2 ⟨_,rfl,q,F2,rfl,hP2,E2,hF2⟩
 refine ⟨_,rfl,E2.keptP,Br.f rfl ?_⟩
 have S0:Pl2 w0 None w2 p q [] [] F1 F2:=⟨E1.trans E2,hP1.pure E2,hP2,
  fun b hb=>⟨hF1 b hb,id,fun h2=>by have:=hF2 b h2;have:=hP1.lt hb;omega⟩,fun b hb=>⟨by have:=hF2 b hb;have:=E1.size;omega,id⟩⟩
 refine ⟨fun i H w'=>∃j:Nat,i=j∧j≤ts.length∧∃F1 F2,Pl2 w0 H w' p q (Sp.poolOf (ts.take j)) (Sp.poolOf (ts.take j)) F1 F2,fun i _=>((ts.length:Int) - i).toNat,⟨0,rfl,Nat.zero_le _,F1,F2,S0⟩,?_⟩
 rintro _ Hl wl hl ⟨j,rfl,hj,F1,F2,hq⟩
 unfold m_H1_l1
 refine ⟨fun h=>?_,fun h=>?_⟩
 ·have hlt:=lt_of_dec len h
  have htk:ts.take (j+1)=ts.take j++[ts[j]]:=List.take_succ_eq_append_getElem hlt
  obtain ⟨hW,_⟩:=Sp.poolOf_ok (ts.take j)
  have hstep:Sp.poolOf (ts.take (j+1))=(Sp.of (Sp.poolOf (ts.take j)) ts[j]).2.2:=by rw [htk];unfold Sp.poolOf;rw [List.foldl_append];rfl
  generalize Sp.poolOf (ts.take j)=Q at *
  obtain ⟨a,hat,hSa,hrow⟩:=row j hlt
  have hkid:=kid j hlt
  generalize ts[j]=x at *
  generalize rs j=sx at *
  obtain ⟨xk,xf,xt,xu,xx,xks⟩:=x
  have hrl:Row wl a (trow (.mk xk xf xt xu xx xks) sx):=hq.pure.row hrow (fun h=>h)
  refine ⟨a,hat,_,_,_,_,_,sx,hrl,?_⟩
  refine (c_Of (S:=S) p (.mk xk xf xt xu xx xks) sx wl (hkid.pure hq.pure) hq.pool hW.ok (fun b hb hh=>by have:=(hq.o1 b hb).1;have:=hS b hh;omega) (fun b hb=>by have:=hS b hb;have:=hq.pure.size;omega)).mono ?_
  rintro _ w3 ⟨r3,r4,rfl,h34,F1',hP3,E3,hF3⟩
  have k3:Kept Hl wl w3:=E3.kept (fun b hb h1=>(hq.o1 b h1).2.1 hb)
  refine ⟨_,_,rfl,k3,?_⟩
  have hq3:=hq.of1 (fun b hb=>hl.lt b hb) hP3 E3 hF3
  have hl3:=hl.again k3
  have hr3:Row w3 a (trow (.mk xk xf xt xu xx xks) sx):=hq3.pure.row hrow (fun h=>h)
  refine ⟨a,hat,_,_,_,_,_,sx,hr3,?_⟩
  refine (c_ref05_Of (S:=S) q (.mk xk xf xt xu xx xks) sx w3 (hkid.pure hq3.pure) hq3.ref hW.ok (fun b hb hh=>by have:=(hq3.o2 b hb).1;have:=hS b hh;omega) (fun b hb=>by have:=hS b hb;have:=hq3.pure.size;omega)).mono ?_
  rintro _ w4 ⟨r5,r6,rfl,h56,F2',hP4,E4,hF4⟩
  have k4:Kept Hl w3 w4:=E4.kept (fun b hb h1=>(hq3.o2 b h1).2 hb)
  refine ⟨_,_,rfl,k4,?_⟩
  have hq4:=hq3.of2 (fun b hb=>hl3.lt b hb) hP4 E4 hF4
  injection h34 with e3 e4
  injection h56 with e5 e6
  refine Br.f (by rw [e4,e6,e3,e5];simp) ?_
  intro H1 w6 hs6
  rw [wrap_succ hlt (by omega)]
  refine ⟨⟨j+1,rfl,hlt,F1',F2',?_⟩,lt_dec hlt⟩
  rw [hstep]
  exact hq4.hst hs6
 ·have hge:=eq_of_dec len hj h
  subst hge
  rw [List.take_length] at hq
  exact hK _ _ _ _ _ _ hq
end Go.Proofs
end
section
open Go Go.SE
namespace Go.Sp
end Go.Sp
namespace Go.Proofs
attribute [local irreducible] Calls
end Go.Proofs
end
section
open Go Go.SE
namespace Go.Sp
def Dep (L:Pool) (S:List Way) (t y:Int):Prop :=
 (∃v∈S,v.t=t∧v.rule≠0∧y=v.frm)∨(t ∉ wkeys S∧0<y∧(y=(madeS L S t).1∨y=(madeS L S t).2.1))
inductive Dp (L:Pool) (S:List Way):Int→Int→Prop
 | refl (t:Int):Dp L S t t
 | step {t y z:Int}:Dep L S t y→Dp L S y z→Dp L S t z
theorem Dep.way {L:Pool} {S:List Way} {t y r f:Int} (hn:(wkeys S).Nodup) (hl:SE.look (S.map fun v=>(v.t,(v.rule,v.frm))) t=some (r,f)):Dep L S t y↔r≠0∧y=f:=by
 have hm:=look_mem hl
 obtain ⟨v,hv,e⟩:=List.mem_map.1 hm
 simp only [Prod.mk.injEq] at e
 obtain ⟨rfl,rfl,rfl⟩:=e
 have hk:v.t∈wkeys S:=List.mem_map.2 ⟨v,hv,rfl⟩
 unfold Dep
 constructor
 ·rintro (⟨u,hu,e,hr,rfl⟩ | ⟨h,_⟩)
  ·have hnd:((S.map fun v=>(v.t,(v.rule,v.frm))).map Prod.fst).Nodup:=by rw [List.map_map];exact hn
   have h2:=look_of_mem hnd (List.mem_map.2 ⟨u,hu,rfl⟩)
   rw [e,hl] at h2
   simp only [Option.some.injEq,Prod.mk.injEq] at h2
   exact ⟨by rw [h2.1];exact hr,h2.2.symm⟩
  ·exact absurd hk h
 ·rintro ⟨h1,rfl⟩
  exact .inl ⟨v,hv,rfl,h1,rfl⟩
theorem Dp.all {L:Pool} {S:List Way} {M:List Step} (hc:∀s∈M,∀y,Dep L S s.t y→y∈M.map Step.t) {t x:Int} (ht:t∈M.map Step.t) (h:Dp L S t x):x∈M.map Step.t:=by
 induction h with
 | refl=>exact ht
 | step hd _ ih =>
  obtain ⟨s,hs,rfl⟩:=List.mem_map.1 ht
  exact ih (hc s hs _ hd)
end Go.Sp
namespace Go.Proofs
attribute [local irreducible] Calls
def strow (s:Sp.Step):List Value:=[.int .i64 s.rule,.int .i64 s.a,.int .i64 s.b,.int .i64 s.t]
def tru (_:Unit):Value:=.bool true
def bmap (B:List Int):List (Int×Unit):=B.map fun t=>(t,())
theorem bmap_snoc (B:List Int) (t:Int):bmap (B++[t])=bmap B++[(t,())]:=by simp [bmap]
def PW (ma mb:Nat) (c5:Addr) (sl:Sl) (b:Nat):Prop:=b=ma∨b=mb∨b=c5.block∨sl.blk b
def says (f:FuncId) (c1 c2 c3 c4 c5:Addr):Value:=.func (.func f) #[] #[.pointer (some c1),.pointer (some c2),.pointer (some c3),.pointer (some c4),.pointer (some c5)]
structure PrfAt (w:World) (k:Addr) (c1 c2 c3 c4 c5:Addr) (ma mb:Nat) (sl:Sl) (l:List Sp.Step) (B:List Int):Prop where
 a1:w.cell? c1=some (.map (some ma))
 a2:w.cell? c2=some (.map (some mb))
 a3:w.cell? c3=some (.pointer (some k))
 a4:w.cell? c4=some (says 188 c1 c2 c3 c4 c5)
 a5:Box w c5 [sl.v] 216
 am:IMap ikey w ma (Sp.amap l)
 bm:IMap tru w mb (bmap B)
 ls:Rws w 220 4 sl (l.map strow)
 d:∀b,PW ma mb c5 sl b→b≠c1.block∧b≠c2.block∧b≠c3.block∧b≠c4.block
 n1:ma≠mb
 n2:ma≠c5.block
 n3:mb≠c5.block
 n4:¬ sl.blk ma
 n5:¬ sl.blk mb
 n6:¬ sl.blk c5.block
structure SaysAt (w:World) (k p:Addr) (c1 c2 c3 c4 c5:Addr) (ma mb:Nat) (L:Sp.Pool) (G:List Int) (S:List Sp.Way) (F FP:NP) (sl:Sl) (l:List Sp.Step) (B:List Int):Prop where
 prf:PrfAt w k c1 c2 c3 c4 c5 ma mb sl l B
 know:KnowAt w k p G S F
 pool:PoolAt w p L FP
 dF:∀b,F b→¬ PW ma mb c5 sl b
 dP:∀b,FP b→¬ PW ma mb c5 sl b
section
variable {w w':World} {k p c1 c2 c3 c4 c5:Addr} {ma mb:Nat} {L:Sp.Pool} {G:List Int} {S:List Sp.Way} {F FP:NP} {sl:Sl} {l:List Sp.Step} {B:List Int}
theorem PrfAt.ext {X:NP} (h:PrfAt w k c1 c2 c3 c4 c5 ma mb sl l B) (hE:Ext X w w') (h1:∀b,PW ma mb c5 sl b→¬ X b) (x1:¬ X c1.block) (x2:¬ X c2.block) (x3:¬ X c3.block) (x4:¬ X c4.block):PrfAt w' k c1 c2 c3 c4 c5 ma mb sl l B :=
 ⟨hE.cell h.a1 x1,hE.cell h.a2 x2,hE.cell h.a3 x3,hE.cell h.a4 x4,h.a5.ext hE (h1 _ (.inr (.inr (.inl rfl)))),h.am.ext hE (h1 _ (.inl rfl)),h.bm.ext hE (h1 _ (.inr (.inl rfl))),h.ls.ext hE (fun b hb=>h1 b (.inr (.inr (.inr hb)))),h.d,h.n1,h.n2,h.n3,h.n4,h.n5,h.n6⟩
theorem PrfAt.lt (h:PrfAt w k c1 c2 c3 c4 c5 ma mb sl l B) {b:Nat} (hb:PW ma mb c5 sl b):b<w.heap.size:=by
 rcases hb with rfl | rfl | rfl | hb
 ·exact h.am.lt
 ·exact h.bm.lt
 ·exact h.a5.lt
 ·exact h.ls.lt hb
theorem SaysAt.ext {X:NP} {n:Nat} (h:SaysAt w k p c1 c2 c3 c4 c5 ma mb L G S F FP sl l B) (hE:Ext X w w') (hn:∀b,X b→n≤b) (z1:∀b,PW ma mb c5 sl b→b<n∨¬ X b) (zc:c1.block<n∧c2.block<n∧c3.block<n∧c4.block<n) (zF:∀b,F b→b<n) (zP:∀b,FP b→b<n):SaysAt w' k p c1 c2 c3 c4 c5 ma mb L G S F FP sl l B:=by
 have hx:∀b,b<n→¬ X b:=fun b hb hX=>by have:=hn b hX;omega
 exact ⟨h.prf.ext hE (fun b hb=>(z1 b hb).elim (hx b) id) (hx _ zc.1) (hx _ zc.2.1) (hx _ zc.2.2.1) (hx _ zc.2.2.2),h.know.ext hE (fun b hb=>hx b (zF b hb)),h.pool.ext hE (fun b hb=>hx b (zP b hb)),h.dF,h.dP⟩
theorem SaysAt.pure (h:SaysAt w k p c1 c2 c3 c4 c5 ma mb L G S F FP sl l B) (E:Pure w w'):SaysAt w' k p c1 c2 c3 c4 c5 ma mb L G S F FP sl l B :=
 ⟨h.prf.ext E (fun _ _ h=>h) (fun h=>h) (fun h=>h) (fun h=>h) (fun h=>h),h.know.pure E,h.pool.pure E,h.dF,h.dP⟩
theorem SaysAt.zc (h:SaysAt w k p c1 c2 c3 c4 c5 ma mb L G S F FP sl l B):c1.block<w.heap.size∧c2.block<w.heap.size∧c3.block<w.heap.size∧c4.block<w.heap.size :=
 ⟨World.block_lt_of_cell? w _ h.prf.a1,World.block_lt_of_cell? w _ h.prf.a2,World.block_lt_of_cell? w _ h.prf.a3,World.block_lt_of_cell? w _ h.prf.a4⟩
theorem PrfAt.bar (h:PrfAt w k c1 c2 c3 c4 c5 ma mb sl l B) (t:Int):∃w',(Instr.mapUpdate 278 (.map (some mb)) (.int .i64 t) (.bool true)).run Tryz.prog w=.ok () w'∧(∃B',(B'=B∨B'=B++[t])∧PrfAt w' k c1 c2 c3 c4 c5 ma mb sl l B')∧Ext (·=mb) w w':=by
 have hd:=h.d mb (.inr (.inl rfl))
 have back:∀{w':World} {B':List Int},IMap tru w' mb (bmap B')→Ext (·=mb) w w'→PrfAt w' k c1 c2 c3 c4 c5 ma mb sl l B':=fun hI hE =>
  ⟨hE.cell h.a1 (fun e=>hd.1 e.symm),hE.cell h.a2 (fun e=>hd.2.1 e.symm),hE.cell h.a3 (fun e=>hd.2.2.1 e.symm),hE.cell h.a4 (fun e=>hd.2.2.2 e.symm),h.a5.ext hE (fun e=>h.n3 e.symm),h.am.ext hE h.n1,hI,h.ls.ext hE (fun b hb e=>h.n5 (e▸hb)),h.d,h.n1,h.n2,h.n3,h.n4,h.n5,h.n6⟩
 cases hl:SE.look (bmap B) t with
 | none =>
  obtain ⟨w',h1,h2,h3⟩:=h.bm.put (P:=Tryz.prog) (T:=278) Tryz.underlying278 Tryz.underlying78 hl ()
  exact ⟨w',h1,⟨_,.inr rfl,back (by rw [bmap_snoc];exact h2) h3⟩,h3⟩
 | some v =>
  cases v
  obtain ⟨w',h1,h2,h3⟩:=h.bm.again (P:=Tryz.prog) (T:=278) Tryz.underlying278 Tryz.underlying78 hl
  exact ⟨w',h1,⟨_,.inl rfl,back h2 h3⟩,h3⟩
end
structure SaysRet (w0:World) (k p:Addr) (c1 c2 c3 c4 c5:Addr) (ma mb:Nat) (L:Sp.Pool) (G:List Int) (S:List Sp.Way) (F FP:NP) (sl:Sl) (l:List Sp.Step) (t r:Int) (ok:Bool) (w':World) (sl':Sl) (M:List Sp.Step) (B':List Int):Prop where
 st:SaysAt w' k p c1 c2 c3 c4 c5 ma mb L G S F FP sl' (l++M) B'
 prf:Sp.PrfOk L G (fun x=>x∈Sp.wkeys S) (l++M) B'
 new:∀s∈M,Sp.rank S s.t≤Sp.rank S t∧(Sp.Sub L t s.t∨s.t∈Sp.wkeys S)
 idx:ok=true→∃i,r=((i:Nat):Int)∧∃hi:i<(l++M).length,(l++M)[i].t=t
 drv:ok=true↔Sp.Drv L (fun x=>x∈Sp.wkeys S) t
 ext:Ext (PW ma mb c5 sl) w0 w'
 own:∀b,sl'.blk b→sl.blk b∨w0.heap.size≤b
 last:ok=true→M=[]∨Sp.tAt (l++M) (((l++M).length:Int) - 1)=t
 dp:∀s∈M,Sp.Dp L S t s.t
 cl:∀s∈M,∀y,Sp.Dep L S s.t y→y∈(l++M).map Sp.Step.t
structure SaysCur (w0:World) (H:NP) (w:World) (k p:Addr) (c1 c2 c3 c4 c5:Addr) (ma mb:Nat) (L:Sp.Pool) (G:List Int) (S:List Sp.Way) (F FP:NP) (sl:Sl) (l:List Sp.Step) (t:Int) (sl1:Sl) (M B:_):Prop where
 st:SaysAt w k p c1 c2 c3 c4 c5 ma mb L G S F FP sl1 (l++M) B
 prf:Sp.PrfOk L G (fun x=>x∈Sp.wkeys S) (l++M) B
 new:∀s∈M,Sp.rank S s.t<Sp.rank S t∧(Sp.Sub L t s.t∨s.t∈Sp.wkeys S)
 ext:Ext (PW ma mb c5 sl) w0 w
 own:∀b,sl1.blk b→sl.blk b∨w0.heap.size≤b
 vis:∀b,sl1.blk b→¬ H b
 hs:Hst w0 H w H w
 dp:∀s∈M,Sp.Dp L S t s.t
 cl:∀s∈M,∀y,Sp.Dep L S s.t y→y∈(l++M).map Sp.Step.t
section
variable {w0 w w':World} {H H':NP} {k p c1 c2 c3 c4 c5:Addr} {ma mb:Nat} {L:Sp.Pool} {G:List Int} {S:List Sp.Way} {F FP:NP} {sl sl1 sl2:Sl} {l M M2:List Sp.Step} {B0 B B2:List Int} {t:Int}
theorem PW.old (h:SaysAt w0 k p c1 c2 c3 c4 c5 ma mb L G S F FP sl l B0) (ho:∀b,sl1.blk b→sl.blk b∨w0.heap.size≤b):∀b,PW ma mb c5 sl1 b→b<w0.heap.size→PW ma mb c5 sl b:=by
 rintro b (hb | hb | hb | hb) hlt
 ·exact .inl hb
 ·exact .inr (.inl hb)
 ·exact .inr (.inr (.inl hb))
 ·exact (ho b hb).elim (fun h=>.inr (.inr (.inr h))) (fun h=>by omega)
theorem SaysCur.nh (h:SaysCur w0 H w k p c1 c2 c3 c4 c5 ma mb L G S F FP sl l t sl1 M B) (h0:SaysAt w0 k p c1 c2 c3 c4 c5 ma mb L G S F FP sl l B0):∀b,PW ma mb c5 sl1 b→¬ H b:=by
 have old:∀b,b<w0.heap.size→¬ H b:=fun b hb hh=>by have:=h.hs.old b hh;omega
 rintro b (rfl | rfl | rfl | hb)
 ·exact old _ (h0.prf.lt (.inl rfl))
 ·exact old _ (h0.prf.lt (.inr (.inl rfl)))
 ·exact old _ (h0.prf.lt (.inr (.inr (.inl rfl))))
 ·exact h.vis b hb
theorem SaysCur.hst (h:SaysCur w0 H w k p c1 c2 c3 c4 c5 ma mb L G S F FP sl l t sl1 M B) (h0:SaysAt w0 k p c1 c2 c3 c4 c5 ma mb L G S F FP sl l B0) (hs:Hst w0 H w H' w'):SaysCur w0 H' w' k p c1 c2 c3 c4 c5 ma mb L G S F FP sl l t sl1 M B:=by
 have dj:=hs.disj (G:=PW ma mb c5 sl1) (fun b hb=>⟨h.st.prf.lt hb,h.nh h0 b hb⟩)
 exact ⟨h.st.ext hs.ext hs.old (fun b hb=>.inr (dj b hb)) h0.zc (fun b hb=>h0.know.lt hb) (fun b hb=>h0.pool.lt hb),h.prf,h.new,h.ext.hst hs,h.own,fun b hb=>dj b (.inr (.inr (.inr hb))),hs.here,h.dp,h.cl⟩
theorem SaysCur.step {u r : Int} {ok : Bool} (h : SaysCur w0 H w k p c1 c2 c3 c4 c5 ma mb L G S F FP sl l t sl1 M B) (h0 : SaysAt w0 k p c1 c2 c3 c4 c5 ma mb L G S F FP sl l B0) (hr : SaysRet w k p c1 c2 c3 c4 c5 ma mb L G S F FP sl1 (l ++ M) u r ok w' sl2 M2 B2) (hu : Sp.rank S u < Sp.rank S t) (hsub : Sp.Sub L t u ∨ u ∈ Sp.wkeys S) (hcl : ∀ x, u ∈ Sp.wkeys S → Sp.rank S x ≤ Sp.rank S u → x ∈ Sp.wkeys S) (hdep : Sp.Dep L S t u) :
  Kept H w w'∧SaysCur w0 H w' k p c1 c2 c3 c4 c5 ma mb L G S F FP sl l t sl2 (M++M2) B2:=by
 have hk:Kept H w w':=hr.ext.kept (fun b hb hx=>h.nh h0 b hx hb)
 refine ⟨hk,by rw [← List.append_assoc];exact hr.st,by rw [← List.append_assoc];exact hr.prf,fun s hs=>?_,h.ext.trans' hr.ext (fun i hi hb=>PW.old h0 h.own i hb hi),fun b hb=>?_,fun b hb hh=>?_,h.hs.again hk,fun s hs=>?_,fun s hs y hy=>?_⟩
 ·rcases List.mem_append.1 hs with hs | hs
  ·exact h.new s hs
  ·obtain ⟨q1,q2⟩:=hr.new s hs
   refine ⟨by omega,?_⟩
   rcases q2 with q2 | q2
   ·rcases hsub with h1 | h1
    ·exact .inl (h1.trans q2)
    ·exact .inr (hcl _ h1 q1)
   ·exact .inr q2
 ·rcases hr.own b hb with h1 | h1
  ·exact h.own b h1
  ·right;have:=h.ext.size;omega
 ·rcases hr.own b hb with h1 | h1
  ·exact h.vis b h1 hh
  ·have:=h.hs.lt b hh;omega
 ·rcases List.mem_append.1 hs with hs | hs
  ·exact h.dp s hs
  ·exact .step hdep (hr.dp s hs)
 ·rw [← List.append_assoc]
  rcases List.mem_append.1 hs with hs | hs
  ·rw [List.map_append];exact List.mem_append_left _ (h.cl s hs y hy)
  ·exact hr.cl s hs y hy
end
end Go.Proofs
end
section
open Go Go.SE
namespace Go.Proofs
attribute [local irreducible] Calls
end Go.Proofs
end
section
open Go Go.SE
namespace Go.Proofs
attribute [local irreducible] Calls
end Go.Proofs
end
section
open Go Go.SE
open Go.IntKind renaming i64 → q6
namespace Go.Proofs
set_option maxRecDepth 100000
set_option maxHeartbeats 4000000
attribute [local irreducible] wpL wpX opE wpE Calls
def m_U1_l1 (l1:Sl) (t1 i1:Int) (wl1:World) (Kc1:Int→WP) (K:Bool→WP):Prop :=
 Br (decide (i1<(l1.len:Int)))
  (∃a1:Addr,At l1 i1 1 a1 ∧
  ∃v1:Int,wl1.cell? a1=some (vi v1) ∧
  Br (v1 == t1)
   (K true wl1)
   (Kc1 (q6.wrap (i1+1)) wl1))
  (K false wl1)
def m_U1 (l1:Sl) (t1:Int) (w0:World) (K:Bool→WP):Prop :=
 ∃(I1:Int→WP) (mu1:Int→World→Nat),I1 0 w0 ∧
  ∀(i1:Int) (wl1:World),I1 i1 wl1→m_U1_l1 l1 t1 i1 wl1 (fun y'0 w'=>I1 y'0 w'∧mu1 y'0 w'<mu1 i1 wl1) K
theorem w_U1 (l1 : Sl) (t1 : Int) (w0 : World) (K : Bool → WP) (h : m_U1 l1 t1 w0 K) :
  Calls Tryz.prog 88 #[l1.v,(vi t1)] w0 (fun e w'=>∃r1:Bool,e=.returned (vb r1)∧K r1 w'):=by
 unfold m_U1 at h
 refine cw (args:=[l1.v,(vi t1)]) Tryz.func88 Tryz.ntmps88 (eg (q0 (vb false) (ln (wpE_seq (eg (q0 (vi 0) (ln ?_)))))))
 refine wpE_block ?_
 obtain ⟨I1,mu1,h0,hr⟩:=h
 refine wpE_loop (σ:=Int×World) (fun s ρ w=>w=s.2∧Has ρ [(0,l1.v),(1,(vi t1)),(5,(vi s.1))]∧I1 s.1 s.2) (fun s=>mu1 s.1 s.2) (0,w0) ⟨rfl,hm,h0⟩ ?_
 rintro ⟨i1,wl1⟩ ρ w ⟨hw,hH,hI⟩
 obtain rfl:wl1=w:=(show w=wl1 from hw).symm
 have hH:Has ρ [(0,l1.v),(1,(vi t1)),(5,(vi i1))]:=hH
 have h:=hr i1 wl1 hI
 unfold m_U1_l1 at h
 refine wpE_has hH ?_
 refine wpE_seq (eg (q0 (vi i1) (q0 l1.v (q0 (vi (l1.len:Int)) (q0 (vb (decide (i1<(l1.len:Int)))) (ln ?_))))))
 refine wpE_cond (t:=(decide (i1<(l1.len:Int)))) (by kernel_rfl) (fun hc1=>?_) (fun hc1=>?_)
 have h:=h.1 hc1
 refine wpE_skip (th_n (wpE_seq (wpE_block (eg (q0 l1.v (q0 (vi i1) ?_))))))
 obtain ⟨a1,hv2,h⟩:=h
 refine q2 (vp (some a1)) (xi (Tryz.runUnderlying46 _) (Tryz.sizeOf78 _) hv2) ?_
 obtain ⟨v1,hv1,h⟩:=h
 refine q2 (vi v1) (xl (Tryz.isAgg78 _) hv1) (q0 (vi t1) (q0 (vb (v1 == t1)) (ln ?_)))
 refine wpE_cond (t:=(v1 == t1)) (by kernel_rfl) (fun hc2=>?_) (fun hc2=>?_)
 have h:=h.1 hc2
 refine eg (q0 (vb true) (ln (er (bl_r (th_r (th_r (bl_r (th_r (rs1 Tryz.results88 (v:=(vb true)) ?_)))))))))
 exact ⟨true,rfl,h⟩
 have h:=h.2 hc2
 refine wpE_skip (bl_n (th_n (rg (q0 (vi i1) (q0 (vi (q6.wrap (i1+1))) (q0 (vi (q6.wrap (i1+1))) (ln ?_)))))))
 exact ⟨((q6.wrap (i1+1)),wl1),⟨rfl,hm,h.1⟩,h.2⟩
 have h:=h.2 hc1
 refine wpE_exit (th_x (th_x (bl_eq (th_n (eg (q0 (vb false) (ln (er (rs1 Tryz.results88 (v:=(vb false)) ?_)))))))))
 exact ⟨false,rfl,h⟩
def m_I4 (k1:Option Addr) (t1:Int) (w0:World) (K:Int→WP):Prop :=
 ∃a1:Addr,k1=some a1 ∧
 ∃v1:Option Addr,w0.cell? a1=some (vp v1) ∧
 Calls Tryz.prog 87 #[(vp v1),(vi t1)] w0 (fun e w1=>∃r1:Bool,e=.returned (vb r1)∧
  Br (!r1)
   (K 51 w1)
   (∃a2:Addr,k1=some a2 ∧
   ∃v2:Sl,w1.cell? (a2.add 1)=some v2.v ∧
   Calls Tryz.prog 88 #[v2.v,(vi t1)] w1 (fun e w2=>∃r2:Bool,e=.returned (vb r2)∧
    Br (!r2)
     (∃a3:Addr,k1=some a3 ∧
     ∃v3:Sl,w2.cell? (a3.add 1)=some v3.v ∧
     ∀(p1:Addr) (w3:World),New w2 (.cells #[(vi t1)] 78) p1 w3 →
     ∃s1:Sl,∃w4:World,(Builtin.append_ #[46,46] 46 #[v3.v,(Sl.mk (some p1) 1 1).v]).run Tryz.prog w3=.ok s1.v w4 ∧
     ∃a4:Addr,k1=some a4 ∧
     CanW w4 (a4.add 1)∧∀w5:World,w5=w4.setCell (a4.add 1) s1.v →
     K 0 w5)
     (K 0 w2))))
theorem w_I4 (k1 : Option Addr) (t1 : Int) (w0 : World) (K : Int → WP) (h : m_I4 k1 t1 w0 K) :
  Calls Tryz.prog 29 #[(vp k1),(vi t1)] w0 (fun e w'=>∃r3:Int,e=.returned (vi r3)∧K r3 w'):=by
 unfold m_I4 at h
 refine cw (args:=[(vp k1),(vi t1)]) Tryz.func29 Tryz.ntmps29 (eg (q0 (vi 0) (ln (wpE_seq (eg (q0 (vp k1) ?_))))))
 obtain ⟨a1,hp1,h⟩:=h
 refine q2 (vp (some a1)) (x_nilCheck (p:=k1) (by kernel_rfl) hp1) (q0 (vp (some a1)) ?_)
 obtain ⟨v1,hv4,h⟩:=h
 refine q2 (vp v1) (xl (Tryz.isAgg45 _) hv4) (q0 (vi t1) ?_)
 refine sc Tryz.call87 (h.mono ?_)
 rintro e w1 ⟨r1,rfl,h⟩
 refine ⟨_,rfl,?_⟩
 refine q0 (vb (!r1)) (ln ?_)
 refine wpE_cond (t:=(!r1)) (by kernel_rfl) (fun hc1=>?_) (fun hc1=>?_)
 have h:=h.1 hc1
 refine eg (q0 (vi 51) (ln (er (th_r (rs1 Tryz.results29 (v:=(vi 51)) ?_)))))
 exact ⟨51,rfl,h⟩
 have h:=h.2 hc1
 refine wpE_skip (th_n (wpE_seq (eg (q0 (vp k1) ?_))))
 obtain ⟨a2,hp2,h⟩:=h
 refine q2 (vp (some a2)) (x_nilCheck (p:=k1) (by kernel_rfl) hp2) (q0 (vp (some (a2.add 1))) ?_)
 obtain ⟨v2,hv3,h⟩:=h
 refine q2 v2.v (xl (Tryz.isAgg46 _) hv3) (q0 (vi t1) ?_)
 refine sc Tryz.call88 (h.mono ?_)
 rintro e w2 ⟨r2,rfl,h⟩
 refine ⟨_,rfl,?_⟩
 refine q0 (vb (!r2)) (ln ?_)
 refine wpE_cond (t:=(!r2)) (by kernel_rfl) (fun hc2=>?_) (fun hc2=>?_)
 have h:=h.1 hc2
 refine rg (q0 (vp k1) (q0 (vp k1) ?_))
 obtain ⟨a3,hp3,h⟩:=h
 refine q2 (vp (some a3)) (x_nilCheck (p:=k1) (by kernel_rfl) hp3) (q0 (vp (some (a3.add 1))) ?_)
 obtain ⟨v3,hv2,h⟩:=h
 refine q2 v3.v (xl (Tryz.isAgg46 _) hv2) (q0 (vi t1) (st_new (O:=(.cells #[(vi t1)] 78)) (fun p=>(Sl.mk (some p) 1 1).v) (want0 rfl) (x_buildSlice (vs:=#[(0,(vi t1))]) (by kernel_rfl) (by kernel_rfl)) ?_))
 intro p1 w3 hn2
 have h:=h p1 w3 hn2
 obtain ⟨s1,w4,hv1,h⟩:=h
 refine st (v:=s1.v) (want0 rfl) (x_builtin (args:=#[v3.v,(Sl.mk (some p1) 1 1).v]) (by kernel_rfl) (fun _=>rfl) hv1) ?_
 obtain ⟨a4,hp4,h⟩:=h
 refine q2 (vp (some a4)) (x_nilCheck (p:=k1) (by kernel_rfl) hp4) (q0 (vp (some (a4.add 1))) ?_)
 obtain ⟨hp5,h⟩:=h
 refine st_set (want0 rfl) (x_store (a:=(a4.add 1)) (v:=s1.v) (by kernel_rfl) (by kernel_rfl) rfl (Tryz.sizeOf46 _) hp5) ?_
 intro w5 hn1
 have h:=h w5 hn1
 refine ln (eg (q0 (vi 0) (ln (er (rs1 Tryz.results29 (v:=(vi 0)) ?_)))))
 exact ⟨0,rfl,h⟩
 have h:=h.2 hc2
 refine wpE_skip (th_n (eg (q0 (vi 0) (ln (er (rs1 Tryz.results29 (v:=(vi 0)) ?_))))))
 exact ⟨0,rfl,h⟩
def s_A1 (kind1:Int):Bool :=
 (((kind1 == 7) || (kind1 == 8)) || (kind1 == 9))
theorem pw_A1 (kind1 : Int) (w0 : World) :
  Calls Tryz.prog 159 #[(vi kind1)] w0 (fun e w'=>(e=.returned (vb (((kind1 == 7) || (kind1 == 8)) || (kind1 == 9))))∧Pure w0 w'):=by
 refine cw (args:=[(vi kind1)]) Tryz.func159 Tryz.ntmps159 (eg (q0 (vb false) (ln (wpE_seq ?_))))
 refine wpE_via (fun ρ wJ=>w0=wJ∧Has ρ [(2,(vb (((kind1 == 7) || (kind1 == 8)) || (kind1 == 9))))]) ?_ ?_
 refine rg (q0 (vi kind1) (q0 (vb (kind1 == 7)) (q0 (vb (kind1 == 7)) ?_)))
 refine wpL_join 3 (fun ρ wJ=>∃b4'0:Bool,((kind1 == 7)=b4'0)∧w0=wJ∧Has ρ [(0,(vi kind1)),(8,(vb (b4'0 || (kind1 == 8))))]) ?_ ?_
 rintro ρ w4 ⟨b4'0,he0,hw,hH⟩
 subst he0
 subst hw
 refine wpL_has hH ?_
 refine q0 (vb ((kind1 == 7) || (kind1 == 8))) ?_
 refine wpL_join 3 (fun ρ wJ=>∃b5'0:Bool,(((kind1 == 7) || (kind1 == 8))=b5'0)∧w0=wJ∧Has ρ [(12,(vb (b5'0 || (kind1 == 9))))]) ?_ ?_
 rintro ρ w5 ⟨b5'0,he0,hw,hH⟩
 subst he0
 subst hw
 refine wpL_has hH ?_
 refine q0 (vb (((kind1 == 7) || (kind1 == 8)) || (kind1 == 9))) (ln ?_)
 exact ⟨rfl,hm⟩
 rcases Bool.eq_false_or_eq_true ((kind1 == 7) || (kind1 == 8)) with hg8 | hg8
 refine sk (yD 9 hg8) (sk (yD 9 hg8) (q2 (vb true) (xT hg8) (wpL_nil ?_)))
 exact ⟨true,hg8,rfl,hm⟩
 refine q1 (vi kind1) (wy 9 hg8) (q1 (vb (kind1 == 9)) (wy 9 hg8) (q2 (vb (kind1 == 9)) (xF hg8) (wpL_nil ?_)))
 exact ⟨false,hg8,rfl,hm⟩
 rcases Bool.eq_false_or_eq_true (kind1 == 7) with hg6 | hg6
 refine sk (yD 5 hg6) (sk (yD 5 hg6) (q2 (vb true) (xT hg6) (wpL_nil ?_)))
 exact ⟨true,hg6,rfl,hm⟩
 refine q1 (vi kind1) (wy 5 hg6) (q1 (vb (kind1 == 8)) (wy 5 hg6) (q2 (vb (kind1 == 8)) (xF hg6) (wpL_nil ?_)))
 exact ⟨false,hg6,rfl,hm⟩
 rintro ρ w3 ⟨hw,hH⟩
 subst hw
 refine norm_has hH ?_
 refine th_n (er (rs1 Tryz.results159 (v:=(vb (((kind1 == 7) || (kind1 == 8)) || (kind1 == 9)))) ?_))
 exact ⟨by kernel_rfl,Ext.refl _⟩
theorem p_A1 (kind1:Int) (w0:World):Calls Tryz.prog 159 #[(.int .i64 kind1)] w0 (fun e w'=>e=.returned (.bool (s_A1 kind1))∧Pure w0 w'):=pw_A1 kind1 w0
def m_P_j3 (s1:Sl) (t1 aA:Int) (aB aC:Int) (x1:Bool) (H:NP) (w:World) (Kc2:Int→NP→WP) (_K:Sl→WP):Prop :=
 Br x1
  (∃a10:Addr,At s1 aB 1 a10 ∧
  CanW w a10∧¬ H a10.block∧∀w6:World,w6=w.setCell a10 (vb true) →
  Br (aA == 4)
   (∃a11:Addr,At s1 aC 1 a11 ∧
   CanW w6 a11∧¬ H a11.block∧∀w7:World,w7=w6.setCell a11 (vb true) →
   Kc2 (q6.wrap (t1 - 1)) H w7)
   (Kc2 (q6.wrap (t1 - 1)) H w6))
  (Kc2 (q6.wrap (t1 - 1)) H w)
def m_P_l2 (k1:Option Addr) (s1:Sl) (t1:Int) (w0:World) (Hl2:NP) (wl2:World) (Kc2:Int→NP→WP) (K:Sl→WP):Prop :=
 Br (decide (t1≥1))
  (∃a9:Addr,k1=some a9 ∧
  ∃v8:Option Addr,wl2.cell? a9=some (vp v8) ∧
  Calls Tryz.prog 104 #[(vp v8),(vi t1)] wl2 (fun e w3=>∃aA aD:Int,∃aE aF:Int,∃aG:ByteArray,∃aB aC:Int,∃r1:Bool,e=.returned (.tuple #[(.agg #[(vi aA),(vi aD),(vi aE),(vu aF),(vs aG),(vi aB),(vi aC)]),(vb r1)])∧
   Kept Hl2 wl2 w3 ∧
   ∃a12:Addr,At s1 t1 1 a12 ∧
   ∀(H1:NP) (w5:World),Hst w0 Hl2 w3 H1 w5 →
   ∃v9:Bool,w5.cell? a12=some (vb v9) ∧
   ∀(H3:NP) (w11:World),Hst w0 H1 w5 H3 w11 →
   m_P_j3 s1 t1 aA aB aC (v9 && ((aA == 4) || (s_A1 aA))) H3 w11 Kc2 K))
  (K s1 wl2)
def m_P_l1 (k1:Option Addr) (s1:Sl) (i1:Int) (w0:World) (Hl1:NP) (wl1:World) (Kc1:Int→NP→WP) (K:Sl→WP):Prop :=
 ∃a3:Addr,k1=some a3 ∧
 ∃v3:Sl,wl1.cell? (a3.add 1)=some v3.v ∧
 Br (decide (i1<(v3.len:Int)))
  (∃a4:Addr,k1=some a4 ∧
  ∃v4:Sl,wl1.cell? (a4.add 1)=some v4.v ∧
  ∃a5:Addr,At v4 i1 1 a5 ∧
  ∃v5:Int,wl1.cell? a5=some (vi v5) ∧
  ∃a6:Addr,At s1 v5 1 a6 ∧
  CanW wl1 a6∧¬ Hl1 a6.block∧∀w2:World,w2=wl1.setCell a6 (vb true) →
  Kc1 (q6.wrap (i1+1)) Hl1 w2)
  (∃a7:Addr,k1=some a7 ∧
  ∃v6:Option Addr,wl1.cell? a7=some (vp v6) ∧
  ∃a8:Addr,v6=some a8 ∧
  ∃v7:Sl,wl1.cell? a8=some v7.v ∧
  ∃(I2:Int→NP→WP) (mu2:Int→World→Nat),I2 (v7.len:Int) Hl1 wl1 ∧
   ∀(t1:Int) (Hl2:NP) (wl2:World),Hst w0 Hl2 wl2 Hl2 wl2→I2 t1 Hl2 wl2→m_P_l2 k1 s1 t1 w0 Hl2 wl2 (fun y'0 H' w'=>I2 y'0 H' w'∧mu2 y'0 w'<mu2 t1 wl2) K)
def m_P (k1:Option Addr) (w0:World) (K:Sl→WP):Prop :=
 ∃a1:Addr,k1=some a1 ∧
 ∃v1:Option Addr,w0.cell? a1=some (vp v1) ∧
 ∃a2:Addr,v1=some a2 ∧
 ∃v2:Sl,w0.cell? a2=some v2.v ∧
 ∃s1:Sl,∃w1:World,(Instr.makeSlice 157 (vi (q6.wrap ((v2.len:Int)+1))) (vi (q6.wrap ((v2.len:Int)+1)))).run Tryz.prog w0=.ok s1.v w1 ∧
 Kept None w0 w1 ∧
 ∃(I1:Int→NP→WP) (mu1:Int→World→Nat),I1 0 None w1 ∧
  ∀(i1:Int) (Hl1:NP) (wl1:World),Hst w0 Hl1 wl1 Hl1 wl1→I1 i1 Hl1 wl1→m_P_l1 k1 s1 i1 w0 Hl1 wl1 (fun y'0 H' w'=>I1 y'0 H' w'∧mu1 y'0 w'<mu1 i1 wl1) K
theorem w_P (k1 : Option Addr) (w0 : World) (K : Sl → WP) (h : m_P k1 w0 K) :
  Calls Tryz.prog 89 #[(vp k1)] w0 (fun e w'=>∃r2:Sl,e=.returned r2.v∧K r2 w'):=by
 unfold m_P at h
 refine cw (args:=[(vp k1)]) Tryz.func89 Tryz.ntmps89 ?_
 have hs:=Hst.start w0
 have hb:=HB.nil None w0
 refine eg (q0 Sl.nil.v (ln (eg (q0 (vp k1) ?_))))
 obtain ⟨a1,hp1,h⟩:=h
 refine q2 (vp (some a1)) (x_nilCheck (p:=k1) (by kernel_rfl) hp1) (q0 (vp (some a1)) ?_)
 obtain ⟨v1,hv15,h⟩:=h
 refine q2 (vp v1) (xl (Tryz.isAgg45 _) hv15) ?_
 obtain ⟨a2,hp2,h⟩:=h
 refine q2 (vp (some a2)) (x_nilCheck (p:=v1) (by kernel_rfl) hp2) (q0 (vp (some a2)) ?_)
 obtain ⟨v2,hv14,h⟩:=h
 refine q2 v2.v (xl (Tryz.isAgg41 _) hv14) (q0 (vi (v2.len:Int)) (q0 (vi (q6.wrap ((v2.len:Int)+1))) ?_))
 obtain ⟨s1,w1,hv13,hk,h⟩:=h
 refine st (v:=s1.v) (want0 rfl) (x_makeSlice (by kernel_rfl) (by kernel_rfl) hv13) ?_
 obtain ⟨hs,hb⟩:=hk.hh hs hb
 refine q0 s1.v (ln (wpE_seq (eg (q0 (vi 0) (ln (wpE_block ?_))))))
 obtain ⟨I1,mu1,h0,hr⟩:=h
 refine wpE_loop (σ:=Int×NP×World) (fun s ρ w=>w=s.2.2∧Has ρ [(0,(vp k1)),(3,s1.v),(4,(vi s.1))]∧Hst w0 s.2.1 w s.2.1 w∧HB s.2.1 w []∧I1 s.1 s.2.1 s.2.2) (fun s=>mu1 s.1 s.2.2) (0,None,w1) ⟨rfl,hm,hs,hb,h0⟩ ?_
 rintro ⟨i1,Hl1,wl1⟩ ρ w ⟨hw,hH,hs,hb,hI⟩
 obtain rfl:wl1=w:=(show w=wl1 from hw).symm
 have hH:Has ρ [(0,(vp k1)),(3,s1.v),(4,(vi i1))]:=hH
 have hs:Hst w0 Hl1 wl1 Hl1 wl1:=hs
 have hb:HB Hl1 wl1 []:=hb
 have h:=hr i1 Hl1 wl1 hs hI
 unfold m_P_l1 at h
 refine wpE_has hH ?_
 refine wpE_seq (eg (q0 (vi i1) (q0 (vp k1) ?_)))
 obtain ⟨a3,hp3,h⟩:=h
 refine q2 (vp (some a3)) (x_nilCheck (p:=k1) (by kernel_rfl) hp3) (q0 (vp (some (a3.add 1))) ?_)
 obtain ⟨v3,hv12,h⟩:=h
 refine q2 v3.v (xl (Tryz.isAgg46 _) hv12) (q0 (vi (v3.len:Int)) (q0 (vb (decide (i1<(v3.len:Int)))) (ln ?_)))
 refine wpE_cond (t:=(decide (i1<(v3.len:Int)))) (by kernel_rfl) (fun hc1=>?_) (fun hc1=>?_)
 have h:=h.1 hc1
 refine wpE_skip (th_n (wpE_seq (wpE_block (rg (q0 s1.v (q0 (vp k1) ?_))))))
 obtain ⟨a4,hp4,h⟩:=h
 refine q2 (vp (some a4)) (x_nilCheck (p:=k1) (by kernel_rfl) hp4) (q0 (vp (some (a4.add 1))) ?_)
 obtain ⟨v4,hv4,h⟩:=h
 refine q2 v4.v (xl (Tryz.isAgg46 _) hv4) (q0 (vi i1) ?_)
 obtain ⟨a5,hv3,h⟩:=h
 refine q2 (vp (some a5)) (xi (Tryz.runUnderlying46 _) (Tryz.sizeOf78 _) hv3) ?_
 obtain ⟨v5,hv2,h⟩:=h
 refine q2 (vi v5) (xl (Tryz.isAgg78 _) hv2) ?_
 obtain ⟨a6,hv1,h⟩:=h
 refine q2 (vp (some a6)) (xi (Tryz.runUnderlying157 _) (Tryz.sizeOf4 _) hv1) ?_
 obtain ⟨hp5,hnh,h⟩:=h
 refine st_set (want0 rfl) (x_store (a:=a6) (v:=(vb true)) (by kernel_rfl) (by kernel_rfl) rfl (Tryz.sizeOf4 _) hp5) ?_
 intro w2 hn1
 have h:=h w2 hn1
 have hk:=Kept.sc hnh hn1
 obtain ⟨hs,hb⟩:=hk.hh hs hb
 refine wpL_nil (bl_n (th_n (rg (q0 (vi i1) (q0 (vi (q6.wrap (i1+1))) (q0 (vi (q6.wrap (i1+1))) (ln ?_)))))))
 exact ⟨((q6.wrap (i1+1)),Hl1,w2),⟨rfl,hm,hs,hb,h.1⟩,h.2⟩
 have h:=h.2 hc1
 refine wpE_exit (th_x (th_x (bl_eq (th_n (wpE_seq (eg (q0 (vp k1) ?_)))))))
 obtain ⟨a7,hp6,h⟩:=h
 refine q2 (vp (some a7)) (x_nilCheck (p:=k1) (by kernel_rfl) hp6) (q0 (vp (some a7)) ?_)
 obtain ⟨v6,hv11,h⟩:=h
 refine q2 (vp v6) (xl (Tryz.isAgg45 _) hv11) ?_
 obtain ⟨a8,hp7,h⟩:=h
 refine q2 (vp (some a8)) (x_nilCheck (p:=v6) (by kernel_rfl) hp7) (q0 (vp (some a8)) ?_)
 obtain ⟨v7,hv10,h⟩:=h
 refine q2 v7.v (xl (Tryz.isAgg41 _) hv10) (q0 (vi (v7.len:Int)) (q0 (vi (v7.len:Int)) (ln (wpE_block ?_))))
 obtain ⟨I2,mu2,h0,hr⟩:=h
 refine wpE_loop (σ:=Int×NP×World) (fun s ρ w=>w=s.2.2∧Has ρ [(0,(vp k1)),(3,s1.v),(5,(vi s.1))]∧Hst w0 s.2.1 w s.2.1 w∧HB s.2.1 w []∧I2 s.1 s.2.1 s.2.2) (fun s=>mu2 s.1 s.2.2) ((v7.len:Int),Hl1,wl1) ⟨rfl,hm,hs,hb,h0⟩ ?_
 rintro ⟨t1,Hl2,wl2⟩ ρ w ⟨hw,hH,hs,hb,hI⟩
 obtain rfl:wl2=w:=(show w=wl2 from hw).symm
 have hH:Has ρ [(0,(vp k1)),(3,s1.v),(5,(vi t1))]:=hH
 have hs:Hst w0 Hl2 wl2 Hl2 wl2:=hs
 have hb:HB Hl2 wl2 []:=hb
 have h:=hr t1 Hl2 wl2 hs hI
 unfold m_P_l2 at h
 refine wpE_has hH ?_
 refine wpE_seq (eg (q0 (vi t1) (q0 (vb (decide (t1≥1))) (ln ?_))))
 refine wpE_cond (t:=(decide (t1≥1))) (by kernel_rfl) (fun hc2=>?_) (fun hc2=>?_)
 have h:=h.1 hc2
 refine wpE_skip (th_n (wpE_seq (wpE_block (eg (q0 (vp k1) ?_)))))
 obtain ⟨a9,hp8,h⟩:=h
 refine q2 (vp (some a9)) (x_nilCheck (p:=k1) (by kernel_rfl) hp8) (q0 (vp (some a9)) ?_)
 obtain ⟨v8,hv9,h⟩:=h
 refine q2 (vp v8) (xl (Tryz.isAgg45 _) hv9) (q0 (vi t1) ?_)
 refine sc Tryz.call104 (h.mono ?_)
 rintro e w3 ⟨aA,aD,aE,aF,aG,aB,aC,r1,rfl,hk,h⟩
 refine ⟨_,rfl,?_⟩
 obtain ⟨hs,hb⟩:=hk.hh hs hb
 refine q0 (.tuple #[(.agg #[(vi aA),(vi aD),(vi aE),(vu aF),(vs aG),(vi aB),(vi aC)]),(vb r1)]) (q0 (.agg #[(vi aA),(vi aD),(vi aE),(vu aF),(vs aG),(vi aB),(vi aC)]) (q0 (vb r1) (sn (O:=(.cells #[(vi 0),(vi 0),(vi 0),(vu 0),(vs ⟨#[]⟩),(vi 0),(vi 0)] 176)) (x_alloc (Tryz.zeroValue176 _) rfl) ?_)))
 intro p1 w4 hn2
 obtain ⟨H1,hs,hb⟩:=hs.alloc hb hn2
 refine st_set (want0 rfl) (xo p1 [(vi aA),(vi aD),(vi aE),(vu aF),(vs aG),(vi aB),(vi aC)] (Tryz.sizeOf176 _) (hb.k0 0 7 gZ)) ?_
 intro w5 hn3
 obtain ⟨hs,hb⟩:=hb.s0 (l':=[(p1,[(vi aA),(vi aD),(vi aE),(vu aF),(vs aG),(vi aB),(vi aC)],176)]) 0 [(vi aA),(vi aD),(vi aE),(vu aF),(vs aG),(vi aB),(vi aC)] hs hn3 gZ
 refine q0 (vb r1) (ln (wpE_seq ?_))
 refine wpE_joinT (fun ρ w=>∃x1:Bool,∃H:NP,Has ρ [(0,(vp k1)),(3,s1.v),(5,(vi t1)),(6,(vp (some p1))),(70,(vb x1))]∧Hst w0 H w H w∧HB H w [(p1,[(vi aA),(vi aD),(vi aE),(vu aF),(vs aG),(vi aB),(vi aC)],176)]∧m_P_j3 s1 t1 aA aB aC x1 H w (fun y'0 H' w'=>I2 y'0 H' w'∧mu2 y'0 w'<mu2 t1 wl2) K) ?_ ?_
 rintro ρ w ⟨x1,H,hH,hs,hb,h⟩
 unfold m_P_j3 at h
 refine wpE_has hH ?_
 refine wpE_cond (t:=x1) (by kernel_rfl) (fun hc3=>?_) (fun hc3=>?_)
 have h:=h.1 hc3
 refine eg (q0 s1.v (q0 (vp (some (p1.add 5))) (q2 (vi aB) (xl (Tryz.isAgg78 _) (hb.c 0 5 gZ)) ?_)))
 obtain ⟨a10,hv6,h⟩:=h
 refine q2 (vp (some a10)) (xi (Tryz.runUnderlying157 _) (Tryz.sizeOf4 _) hv6) ?_
 obtain ⟨hp9,hnh,h⟩:=h
 refine st_set (want0 rfl) (x_store (a:=a10) (v:=(vb true)) (by kernel_rfl) (by kernel_rfl) rfl (Tryz.sizeOf4 _) hp9) ?_
 intro w6 hn4
 have h:=h w6 hn4
 have hk:=Kept.sc hnh hn4
 obtain ⟨hs,hb⟩:=hk.hh hs hb
 refine ln (eg (q0 (vp (some p1)) (q2 (vi aA) (xl (Tryz.isAgg3 _) (hb.c0 0 gZ)) (q0 (vb (aA == 4)) (ln ?_)))))
 refine wpE_cond (t:=(aA == 4)) (by kernel_rfl) (fun hc4=>?_) (fun hc4=>?_)
 have h:=h.1 hc4
 refine rg (q0 s1.v (q0 (vp (some (p1.add 6))) (q2 (vi aC) (xl (Tryz.isAgg78 _) (hb.c 0 6 gZ)) ?_)))
 obtain ⟨a11,hv5,h⟩:=h
 refine q2 (vp (some a11)) (xi (Tryz.runUnderlying157 _) (Tryz.sizeOf4 _) hv5) ?_
 obtain ⟨hp10,hnh,h⟩:=h
 refine st_set (want0 rfl) (x_store (a:=a11) (v:=(vb true)) (by kernel_rfl) (by kernel_rfl) rfl (Tryz.sizeOf4 _) hp10) ?_
 intro w7 hn5
 have h:=h w7 hn5
 have hk:=Kept.sc hnh hn5
 obtain ⟨hs,hb⟩:=hk.hh hs hb
 refine wpL_nil (bl_n (th_n (rg (q0 (vi t1) (q0 (vi (q6.wrap (t1 - 1))) (q0 (vi (q6.wrap (t1 - 1))) (ln ?_)))))))
 exact ⟨((q6.wrap (t1 - 1)),H,w7),⟨rfl,hm,hs,hb.drop 1,h.1⟩,h.2⟩
 have h:=h.2 hc4
 refine wpE_skip (bl_n (th_n (rg (q0 (vi t1) (q0 (vi (q6.wrap (t1 - 1))) (q0 (vi (q6.wrap (t1 - 1))) (ln ?_)))))))
 exact ⟨((q6.wrap (t1 - 1)),H,w6),⟨rfl,hm,hs,hb.drop 1,h.1⟩,h.2⟩
 have h:=h.2 hc3
 refine wpE_skip (bl_n (th_n (rg (q0 (vi t1) (q0 (vi (q6.wrap (t1 - 1))) (q0 (vi (q6.wrap (t1 - 1))) (ln ?_)))))))
 exact ⟨((q6.wrap (t1 - 1)),H,w),⟨rfl,hm,hs,hb.drop 1,h.1⟩,h.2⟩
 refine rg (q0 s1.v (q0 (vi t1) ?_))
 obtain ⟨a12,hv8,h⟩:=h
 refine q2 (vp (some a12)) (xi (Tryz.runUnderlying157 _) (Tryz.sizeOf4 _) hv8) ?_
 have h:=h H1 w5 hs
 have hs:=hs.here
 obtain ⟨v9,hv7,h⟩:=h
 refine q2 (vb v9) (xl (Tryz.isAgg4 _) hv7) (q0 (vb v9) ?_)
 refine wpL_join 9 (fun ρ wJ=>∃b2'0:Bool,∃HJ:NP,(v9=b2'0)∧Hst w0 H1 w5 HJ wJ∧HB HJ wJ [(p1,[(vi aA),(vi aD),(vi aE),(vu aF),(vs aG),(vi aB),(vi aC)],176)]∧Has ρ [(0,(vp k1)),(3,s1.v),(5,(vi t1)),(6,(vp (some p1))),(70,(vb (b2'0 && ((aA == 4) || (s_A1 aA)))))]) ?_ ?_
 rintro ρ w11 ⟨b2'0,H3,he0,hs,hb,hH⟩
 subst he0
 refine wpL_has hH ?_
 refine wpL_nil ?_
 have h:=h H3 w11 hs
 have hs:=hs.here
 refine th_n ?_
 exact ⟨(v9 && ((aA == 4) || (s_A1 aA))),H3,hm,hs,hb,h⟩
 rcases Bool.eq_false_or_eq_true v9 with hg4 | hg4
 refine q1 (vp (some p1)) (wy 61 hg4) (stp (v:=(vi aA)) (wy 61 hg4) (xl (Tryz.isAgg3 _) (hb.c0 0 gZ)) (q1 (vb (aA == 4)) (wy 61 hg4) (q1 (vb (aA == 4)) (wy 61 hg4) ?_)))
 refine wpL_join 4 (fun ρ wJ=>∃b3'0:Bool,∃HJ:NP,((aA == 4)=b3'0)∧Hst w0 H1 w5 HJ wJ∧HB HJ wJ [(p1,[(vi aA),(vi aD),(vi aE),(vu aF),(vs aG),(vi aB),(vi aC)],176)]∧Has ρ [(0,(vp k1)),(3,s1.v),(5,(vi t1)),(6,(vp (some p1))),(61,(vb v9)),(69,(vb (b3'0 || (s_A1 aA))))]) ?_ ?_
 rintro ρ w13 ⟨b3'0,H4,he0,hs,hb,hH⟩
 subst he0
 refine wpL_has hH ?_
 refine q2 (vb ((aA == 4) || (s_A1 aA))) (xT hg4) (wpL_nil ?_)
 exact ⟨true,_,hg4,hs,hb,hm⟩
 rcases Bool.eq_false_or_eq_true (aA == 4) with hg6 | hg6
 refine sk (yD 65 hg6) (sk (yD 65 hg6) (sk (yD 65 hg6) (stp (v:=(vb true)) (wy 61 hg4) (xT hg6) (wpL_nil ?_))))
 exact ⟨true,_,hg6,hs,hb,hm⟩
 refine q1 (vp (some p1)) (wy 65 hg6) (stp (v:=(vi aA)) (wy 65 hg6) (xl (Tryz.isAgg3 _) (hb.c0 0 gZ)) ?_)
 refine st_call (wy 65 hg6) (xc Tryz.call159) ((p_A1 aA w5).mono ?_)
 rintro e w14 ⟨he,hE⟩
 refine ⟨(vb (s_A1 aA)),he.trans (by kernel_rfl),?_⟩
 have hs:=hs.pure hE
 have hb:=hb.pure hE
 refine stp (v:=(vb (s_A1 aA))) (wy 61 hg4) (xF hg6) (wpL_nil ?_)
 exact ⟨false,_,hg6,hs,hb,hm⟩
 refine sk (yD 61 hg4) (sk (yD 61 hg4) (sk (yD 61 hg4) (sk (yD 61 hg4) (sm (sm (sm (sk (yD 61 hg4) (q2 (vb false) (xF hg4) (wpL_nil ?_)))))))))
 exact ⟨false,_,hg4,hs,hb,hm⟩
 have h:=h.2 hc2
 refine wpE_exit (th_x (th_x (bl_eq (th_n (eg (q0 s1.v (q0 s1.v (ln (er ?_)))))))))
 refine rs1 Tryz.results89 (v:=s1.v) ?_
 exact ⟨s1,rfl,h⟩
def m_V1_l1 (r1 l1:Sl) (t1:Int) (wl1:World) (Kc1:Sl→Int→WP) (K:Sl→WP):Prop :=
 Br (decide (t1<(r1.len:Int)))
  (∃a1:Addr,At r1 t1 1 a1 ∧
  ∃v1:Bool,wl1.cell? a1=some (vb v1) ∧
  Br v1
   (∀(p1:Addr) (w2:World),New wl1 (.cells #[(vi t1)] 78) p1 w2 →
   ∃s1:Sl,∃w3:World,(Builtin.append_ #[46,46] 46 #[l1.v,(Sl.mk (some p1) 1 1).v]).run Tryz.prog w2=.ok s1.v w3 ∧
   Kc1 s1 (q6.wrap (t1+1)) w3)
   (Kc1 l1 (q6.wrap (t1+1)) wl1))
  (K l1 wl1)
def m_V1 (k1:Option Addr) (w0:World) (K:Sl→WP):Prop :=
 Calls Tryz.prog 89 #[(vp k1)] w0 (fun e w1=>∃r1:Sl,e=.returned r1.v∧
  ∃(I1:Sl→Int→WP) (mu1:Sl→Int→World→Nat),I1 Sl.nil 1 w1 ∧
   ∀(l1:Sl) (t1:Int) (wl1:World),I1 l1 t1 wl1→m_V1_l1 r1 l1 t1 wl1 (fun y'0 y'1 w'=>I1 y'0 y'1 w'∧mu1 y'0 y'1 w'<mu1 l1 t1 wl1) K)
theorem w_V1 (k1 : Option Addr) (w0 : World) (K : Sl → WP) (h : m_V1 k1 w0 K) :
  Calls Tryz.prog 31 #[(vp k1)] w0 (fun e w'=>∃r2:Sl,e=.returned r2.v∧K r2 w'):=by
 unfold m_V1 at h
 refine cw (args:=[(vp k1)]) Tryz.func31 Tryz.ntmps31 (eg (q0 Sl.nil.v (ln (eg (q0 (vp k1) ?_)))))
 refine sc Tryz.call89 (h.mono ?_)
 rintro e w1 ⟨r1,rfl,h⟩
 refine ⟨_,rfl,?_⟩
 refine q0 r1.v (ln (eg (q0 Sl.nil.v (ln (wpE_seq (eg (q0 (vi 1) ?_)))))))
 refine ln (wpE_block ?_)
 obtain ⟨I1,mu1,h0,hr⟩:=h
 refine wpE_loop (σ:=Sl×Int×World) (fun s ρ w=>w=s.2.2∧Has ρ [(3,r1.v),(4,s.1.v),(5,(vi s.2.1))]∧I1 s.1 s.2.1 s.2.2) (fun s=>mu1 s.1 s.2.1 s.2.2) (Sl.nil,1,w1) ⟨rfl,hm,h0⟩ ?_
 rintro ⟨l1,t1,wl1⟩ ρ w ⟨hw,hH,hI⟩
 obtain rfl:wl1=w:=(show w=wl1 from hw).symm
 have hH:Has ρ [(3,r1.v),(4,l1.v),(5,(vi t1))]:=hH
 have h:=hr l1 t1 wl1 hI
 unfold m_V1_l1 at h
 refine wpE_has hH ?_
 refine wpE_seq (eg (q0 (vi t1) (q0 r1.v (q0 (vi (r1.len:Int)) (q0 (vb (decide (t1<(r1.len:Int)))) (ln ?_))))))
 refine wpE_cond (t:=(decide (t1<(r1.len:Int)))) (by kernel_rfl) (fun hc1=>?_) (fun hc1=>?_)
 have h:=h.1 hc1
 refine wpE_skip (th_n (wpE_seq (wpE_block (eg (q0 r1.v (q0 (vi t1) ?_))))))
 obtain ⟨a1,hv3,h⟩:=h
 refine q2 (vp (some a1)) (xi (Tryz.runUnderlying157 _) (Tryz.sizeOf4 _) hv3) ?_
 obtain ⟨v1,hv2,h⟩:=h
 refine q2 (vb v1) (xl (Tryz.isAgg4 _) hv2) (ln ?_)
 refine wpE_cond (t:=v1) (by kernel_rfl) (fun hc2=>?_) (fun hc2=>?_)
 have h:=h.1 hc2
 refine rg (q0 l1.v (q0 (vi t1) (st_new (O:=(.cells #[(vi t1)] 78)) (fun p=>(Sl.mk (some p) 1 1).v) (want0 rfl) (x_buildSlice (vs:=#[(0,(vi t1))]) (by kernel_rfl) (by kernel_rfl)) ?_)))
 intro p1 w2 hn1
 have h:=h p1 w2 hn1
 obtain ⟨s1,w3,hv1,h⟩:=h
 refine st (v:=s1.v) (want0 rfl) (x_builtin (args:=#[l1.v,(Sl.mk (some p1) 1 1).v]) (by kernel_rfl) (fun _=>rfl) hv1) (q0 s1.v (wpL_nil (bl_n (th_n (rg (q0 (vi t1) (q0 (vi (q6.wrap (t1+1))) (q0 (vi (q6.wrap (t1+1))) (ln ?_)))))))))
 exact ⟨(s1,(q6.wrap (t1+1)),w3),⟨rfl,hm,h.1⟩,h.2⟩
 have h:=h.2 hc2
 refine wpE_skip (bl_n (th_n (rg (q0 (vi t1) (q0 (vi (q6.wrap (t1+1))) (q0 (vi (q6.wrap (t1+1))) (ln ?_)))))))
 exact ⟨(l1,(q6.wrap (t1+1)),wl1),⟨rfl,hm,h.1⟩,h.2⟩
 have h:=h.2 hc1
 refine wpE_exit (th_x (th_x (bl_eq (th_n (eg (q0 l1.v (q0 l1.v (ln (er ?_)))))))))
 refine rs1 Tryz.results31 (v:=l1.v) ?_
 exact ⟨l1,rfl,h⟩
end Go.Proofs
end
section
open Go Go.SE
namespace Go.Proofs
attribute [local irreducible] Calls
theorem c_r08_Has {S : NP} (s : Sl) (ts : List Int) (v : Int) (w0 : World) (hs : Lst S w0 1 s (tmr ts)) (hn : ts.length ≤ 1000000) :
  Calls Tryz.prog 88 #[s.v,.int .i64 v] w0 (fun e w'=>∃r:Bool,e=.returned (.bool r)∧(r=decide (v∈ts)∧w'=w0)):=by
 refine w_U1 _ _ w0 (fun r w'=>r=decide (v∈ts)∧w'=w0) ?_
 unfold m_U1
 have hl:s.len=ts.length:=by rw [hs.len,tmr_len]
 refine ⟨fun i w'=>w'=w0∧∃j:Nat,i=j∧j≤ts.length∧v ∉ ts.take j,fun i _=>((ts.length:Int) - i).toNat,⟨rfl,0,rfl,Nat.zero_le _,by simp⟩,?_⟩
 rintro _ _ ⟨rfl,j,rfl,hj,hv⟩
 unfold m_U1_l1
 refine ⟨fun h=>?_,fun h=>?_⟩
 ·have hlt:=lt_of_dec hl h
  obtain ⟨a,hat,_,hc⟩:=tm_nth hs hlt
  have htk:ts.take (j+1)=ts.take j++[ts[j]]:=List.take_succ_eq_append_getElem hlt
  refine ⟨a,hat,_,hc,fun h=>⟨?_,rfl⟩,fun h=>?_⟩
  ·have:ts[j]=v:=by simpa using h
   rw [decide_eq_true]
   rw [← this];exact List.getElem_mem hlt
  ·rw [wrap_succ hlt (by omega)]
   refine ⟨⟨rfl,j+1,rfl,hlt,?_⟩,lt_dec hlt⟩
   rw [htk,List.mem_append,List.mem_singleton]
   rintro (h' | h')
   ·exact hv h'
   ·simp [h'] at h
 ·have hge:=eq_of_dec hl hj h
  subst hge
  rw [List.take_length] at hv
  exact ⟨by simp [hv],rfl⟩
end Go.Proofs
end
section
open Go.SE
namespace Go.Sp
def upd (V:Int→Bool) (t:Int) (b:Bool):Int→Bool:=fun x=>if x=t then b else V x
theorem Sub.le {L:Pool} (hW:Wf L) {t y:Int} (ht:inP L t=true) (h:Sub L t y):inP L y=true∧y≤t:=by
 induction h with
 | refl=>exact ⟨ht,Int.le_refl _⟩
 | kid _ hk ih =>
  have:=(hW.node ih.1).2.2.2.2.1 _ hk
  exact ⟨this.1,by omega⟩
end Go.Sp
end
section
open Go Go.SE
namespace Go.Proofs
attribute [local irreducible] Calls
theorem slT_bool:SlType Tryz.prog 157 4 1 1:=by
 refine ⟨Tryz.underlying157,⟨Tryz.t4,_,by kernel_rfl,(by kernel_rfl:Tryz.t4.zero=some (.bool false)),by kernel_rfl,by kernel_rfl,rfl⟩,by omega⟩
theorem zero_bool:∀i z,Tryz.prog.info? 4=some i→i.zero=some z→z.cells=#[Value.bool false]:=by
 intro i z hi hz
 have h1:Tryz.prog.info? 4=some Tryz.t4:=by kernel_rfl
 rw [h1] at hi;cases hi
 have h2:Tryz.t4.zero=some (.bool false):=by kernel_rfl
 rw [h2] at hz;cases hz;rfl
def brw (n:Nat) (V:Int→Bool):List (List Value):=(List.range n).map fun i:Nat=>[Value.bool (V (i:Int))]
theorem brw_len (n:Nat) (V:Int→Bool):(brw n V).length=n:=by simp [brw]
theorem brw_false (n:Nat):List.replicate n [Value.bool false]=brw n (fun _=>false):=by
 unfold brw;rw [List.map_const',List.length_range]
theorem brw_set (n:Nat) (V:Int→Bool) (t:Nat) (b:Bool):(brw n V).set t [.bool b]=brw n (Sp.upd V (t:Int) b):=by
 apply List.ext_getElem?
 intro i
 rw [List.getElem?_set]
 by_cases h:t=i
 ·subst h
  rw [if_pos rfl]
  by_cases hl:t<n
  ·simp [brw,hl,Sp.upd]
  ·simp [brw,hl]
 ·rw [if_neg h]
  by_cases hl:i<n
  ·simp [brw,hl,Sp.upd,show ¬ (i:Int)=t by omega]
  ·simp [brw,hl]
section
variable {w w':World} {e:TypeId} {s:Sl} {n:Nat} {V:Int→Bool}
theorem brw_get (h:Rws w e 1 s (brw n V)) {t:Int} (h0:0≤t) (ht:t<n):∃a,At s t 1 a∧s.blk a.block∧w.cell? a=some (.bool (V t)):=by
 obtain ⟨a,h1,h2,h3⟩:=h.at h0 (by rw [brw_len];omega)
 refine ⟨a,h1,h3,?_⟩
 have:(brw n V)[t.toNat]'(by rw [brw_len];omega)=[Value.bool (V t)]:=by
  simp only [brw,List.getElem_map,List.getElem_range]
  rw [show ((t.toNat:Nat):Int)=t by omega]
 rw [this] at h2
 exact row_cell h2
theorem brw_put (h:Rws w e 1 s (brw n V)) {t:Int} (h0:0≤t) (ht:t<n):∃a,At s t 1 a∧s.blk a.block∧CanW w a∧∀b,Rws (w.setCell a (.bool b)) e 1 s (brw n (Sp.upd V t b))∧Ext s.blk w (w.setCell a (.bool b)):=by
 have hset:∀b:Bool,∃a,At s t 1 a∧(∀j,j<1→CanW w (a.add j))∧∀w',w'=storeRow w a [Value.bool b]→Rws w' e 1 s ((brw n V).set t.toNat [.bool b])∧Ext s.blk w w':=fun b=>h.set (i:=t.toNat) (by rw [brw_len];omega) rfl (by omega)
 obtain ⟨a,hat,hw,_⟩:=hset true
 obtain ⟨a',h1,_,hblk⟩:=h.at h0 (by rw [brw_len];omega)
 have same:∀{x:Addr},At s t 1 x→x=a:=fun hx=>by
  obtain ⟨_,_,b1,hb1,rfl⟩:=hx
  obtain ⟨_,_,b2,hb2,rfl⟩:=hat
  rw [hb1] at hb2;cases hb2;rfl
 have h00:a.add 0=a:=by simp [Addr.add]
 refine ⟨a,hat,?_,by have:=hw 0 (by omega);rwa [h00] at this,fun b=>?_⟩
 ·have:=same h1;subst this;exact hblk
 ·obtain ⟨x,hx,_,hx2⟩:=hset b
  have:=same hx;subst this
  have hst:storeRow w x [Value.bool b]=w.setCell x (.bool b):=by show w.setCell (x.add 0) (.bool b)=_;rw [h00]
  obtain ⟨r1,r2⟩:=hx2 _ rfl
  rw [hst] at r1 r2
  rw [brw_set,show ((t.toNat:Nat):Int)=t by omega] at r1
  exact ⟨r1,r2⟩
end
end Go.Proofs
end
section
open Go Go.SE
namespace Go.Proofs
attribute [local irreducible] Calls
structure K8S (w:World) (x q:Addr) (G:List Int) (sg:Sl):Prop where
 box:Box w x [.pointer (some q),sg.v] 48
 giv:Rws w 78 1 sg (tmr G)
 n1:¬ sg.blk x.block
def K8At (w:World) (x q:Addr) (G:List Int) (F:NP):Prop:=∃sg,K8S w x q G sg∧∀b,F b↔(b=x.block∨sg.blk b)
section
variable {w w':World} {x q:Addr} {G:List Int} {F:NP}
theorem K8At.ext {X:NP} (h:K8At w x q G F) (hE:Ext X w w') (hd:∀b,F b→¬ X b):K8At w' x q G F:=by
 obtain ⟨sg,h,hF⟩:=h
 exact ⟨sg,⟨h.box.ext hE (hd _ ((hF _).2 (.inl rfl))),h.giv.ext hE (fun b hb=>hd _ ((hF _).2 (.inr hb))),h.n1⟩,hF⟩
theorem K8At.pure (h:K8At w x q G F) (hE:Pure w w'):K8At w' x q G F:=h.ext hE (fun _ _ h=>h)
theorem K8At.lt (h:K8At w x q G F) {b:Nat} (hb:F b):b<w.heap.size:=by
 obtain ⟨sg,h,hF⟩:=h
 rcases (hF b).1 hb with rfl | hb
 ·exact h.box.lt
 ·exact h.giv.lt hb
end
theorem c_r08_Add (x q : Addr) (t : Int) (w0 : World) {L : Sp.Pool} {G : List Int} {F FR : NP} (h : K8At w0 x q G F) (hP : PoolR w0 q L FR) (hn : G.length ≤ 100000) :
  Calls Tryz.prog 29 #[.pointer (some x),.int .i64 t] w0 (fun e w'=>∃r:Int,e=.returned (.int .i64 r)∧∃F',K8At w' x q (Sp.giveT L G t) F'∧Ext F w0 w'∧∀b,F' b→F b∨w0.heap.size≤b):=by
 refine w_I4 _ _ w0 (fun r w'=>∃F',K8At w' x q (Sp.giveT L G t) F'∧Ext F w0 w'∧∀b,F' b→F b∨w0.heap.size≤b) ?_
 unfold m_I4
 have hA:=h
 obtain ⟨sg,h,hF⟩:=h
 refine ⟨x,rfl,_,h.box.cell0,?_⟩
 refine (c_ref05_In q t w0 hP).mono ?_
 rintro _ w0 ⟨r1,rfl,rfl,rfl⟩
 refine ⟨_,rfl,fun hc=>?_,fun hc=>?_⟩
 ·have hin:Sp.inP L t=false:=by simpa using hc
  have:Sp.giveT L G t=G:=by unfold Sp.giveT;rw [if_neg (by simp [hin])]
  rw [this];exact ⟨F,hA,Ext.refl _,fun b hb=>.inl hb⟩
 have hin:Sp.inP L t=true:=by simpa using hc
 have hg:Sp.giveT L G t=Sp.addT G t:=by unfold Sp.giveT;rw [if_pos hin]
 rw [hg]
 refine ⟨x,rfl,sg,h.box.cell rfl,?_⟩
 refine (c_r08_Has sg G t w0 h.giv.lst (by omega)).mono ?_
 rintro _ w0 ⟨r2,rfl,rfl,rfl⟩
 refine ⟨_,rfl,fun hc=>?_,fun hc=>?_⟩
 ·have hnG:t ∉ G:=by simpa using hc
  have hadd:Sp.addT G t=G++[t]:=if_neg hnG
  rw [hadd]
  refine ⟨x,rfl,sg,h.box.cell rfl,?_⟩
  intro p1 w3 h3
  have E3:Pure w0 w3:=Ext.new h3
  obtain ⟨s1,w4,hr4,R4,X4,f4⟩:=(h.giv.pure E3).append (P:=Tryz.prog) (ty:=46) (c:=1) slT_tm (r:=[.int .i64 t]) (Box.of_new h3).row rfl rfl (by rw [tmr_len];omega) (by rw [tmr_len];simp [maxLen];omega)
  have b4:=(h.box.pure E3).ext X4 h.n1
  refine ⟨s1,w4,hr4,x,rfl,b4.canW (by simp),?_⟩
  rintro _ rfl
  have E5:=Ext.setCell (w:=w4) (x.add 1) s1.v
  rw [add_block] at E5
  have f4':∀b,s1.blk b→sg.blk b∨w0.heap.size≤b:=fun b hb=>(f4 b hb).imp_right (fun h=>by have:=E3.size;omega)
  have nx:¬ s1.blk x.block:=fun hh=>(f4' _ hh).elim h.n1 (fun hh=>by have:=h.box.lt;omega)
  refine ⟨fun b=>b=x.block∨s1.blk b,⟨s1,⟨b4.set 1 s1.v,by rw [show tmr (G++[t])=tmr G++[[.int .i64 t]] by simp [tmr]];exact R4.ext E5 (fun b hb e=>nx (e▸hb)),nx⟩,fun b=>Iff.rfl⟩,?_,fun b hb=>?_⟩
  ·exact ((E3.pure (F:=F)).trans (X4.mono (fun b _ hb=>(hF b).2 (.inr hb)))).trans (E5.mono (fun b _ e=>(hF b).2 (.inl e)))
  ·rcases hb with hb | hb
   ·exact .inl ((hF b).2 (.inl hb))
   ·exact (f4' b hb).imp_left (fun h=>(hF b).2 (.inr h))
 ·have hG:t∈G:=by simpa using hc
  have hadd:Sp.addT G t=G:=if_pos hG
  rw [hadd];exact ⟨F,hA,Ext.refl _,fun b hb=>.inl hb⟩
theorem shows_eq (k:Int):s_A1 k=Sp.showsK k:=rfl
theorem c_r08_seen (x q : Addr) (w0 : World) {L : Sp.Pool} {G : List Int} {F FR : NP} (h : K8At w0 x q G F) (hP : PoolR w0 q L FR) (hW : Sp.Wf L) (hG : ∀ g ∈ G, Sp.inP L g = true) (hGn : G.length ≤ 100000) :
  Calls Tryz.prog 89 #[.pointer (some x)] w0 (fun e w'=>∃r:Sl,e=.returned r.v∧∃V,RetO w0 4 1 (brw (L.length+1) V) r w'∧∀t,Sp.inP L t=true→(V t=true↔Sp.Seen L G t)):=by
 suffices key:∀K:Sl→WP,(∀r w' V,RetO w0 4 1 (brw (L.length+1) V) r w'→(∀t,Sp.inP L t=true→(V t=true↔Sp.Seen L G t))→K r w')→m_P (some x) w0 K from
  w_P _ w0 _ (key _ (fun r w' V a b=>⟨V,a,b⟩))
 intro K hK
 unfold m_P
 have hL:=hW.ok.few
 obtain ⟨sg,h,hF⟩:=h
 obtain ⟨v2,hv2,hv2l⟩:∃v1:Sl,w0.cell? q=some v1.v∧v1.len=L.length:=by
  obtain ⟨s1,s2,s3,h,_⟩:=hP
  exact ⟨s1,h.box.cell0,by rw [h.r1.len];simp⟩
 refine ⟨x,rfl,_,h.box.cell0,q,rfl,v2,hv2,?_⟩
 rw [hv2l,IntWalk.i64_in _ (by omega),show ((L.length:Int)+1)=((L.length+1:Nat):Int) by omega]
 obtain ⟨w1,hr1,R1,E1⟩:=Rws.make (P:=Tryz.prog) slT_bool zero_bool (k:=.i64) (k':=.i64) (n:=L.length+1) (by omega) (by simp [maxLen];omega) w0
 rw [brw_false] at R1
 refine ⟨_,w1,hr1,E1.keptP,?_⟩
 generalize hsv:(Sl.mk (some ⟨w0.heap.size,0,none⟩) (L.length+1) (L.length+1))=sv at *
 have hsvb:∀b,sv.blk b→b=w0.heap.size:=by subst hsv;rintro b ⟨a,ha,rfl⟩;cases ha;rfl
 have nF:∀b,sv.blk b→∀{Z:NP},(∀c,Z c→c<w0.heap.size)→¬ Z b:=fun b hb Z hz hh=>by have:=hsvb b hb;have:=hz b hh;omega
 have hlg:sg.len=G.length:=by rw [h.giv.len,tmr_len]
 refine ⟨fun i H w'=>∃j:Nat,i=j∧j≤G.length∧Pure w0 w'∧(∀b,sv.blk b→¬ H b)∧∃V,Rws w' 4 1 sv (brw (L.length+1) V)∧∀t,V t=true↔t∈G.take j,fun i _=>((G.length:Int) - i).toNat,⟨0,rfl,Nat.zero_le _,E1,fun b _ h=>h,_,R1,by simp⟩,?_⟩
 rintro _ Hl wl hl ⟨j,rfl,hj,El,hv,V,RV,hV⟩
 have hx:=h.box.pure El
 have hg:=h.giv.pure El
 unfold m_P_l1
 refine ⟨x,rfl,sg,hx.cell rfl,fun hc=>?_,fun hc=>?_⟩
 ·have hlt:=lt_of_dec hlg hc
  obtain ⟨a5,at5,_,c5⟩:=tm_nth hg.lst hlt
  have htk:G.take (j+1)=G.take j++[G[j]]:=List.take_succ_eq_append_getElem hlt
  have hgi:=Sp.inP_iff.1 (hG _ (List.getElem_mem hlt))
  obtain ⟨a6,at6,hb6,cw6,hput⟩:=brw_put RV (t:=G[j]) (by omega) (by omega)
  refine ⟨x,rfl,sg,hx.cell rfl,a5,at5,_,c5,a6,at6,cw6,hv _ hb6,?_⟩
  rintro _ rfl
  obtain ⟨R2,E2⟩:=hput true
  rw [wrap_succ hlt (by omega)]
  refine ⟨⟨j+1,rfl,hlt,El.trans' E2 (fun i hi hb=>by have:=hsvb i hb;omega),hv,_,R2,fun t=>?_⟩,lt_dec hlt⟩
  rw [htk,List.mem_append,List.mem_singleton]
  simp only [Sp.upd]
  split
  ·rename_i e;simp [e]
  ·rename_i e;rw [hV];exact ⟨.inl,fun h=>h.elim id (fun h=>absurd h e)⟩
 ·have hge:=eq_of_dec hlg hj hc
  subst hge
  rw [List.take_length] at hV
  obtain ⟨v7,hv7,hv7l⟩:∃v1:Sl,wl.cell? q=some v1.v∧v1.len=L.length:=by
   obtain ⟨s1,s2,s3,h,_⟩:=hP.pure El
   exact ⟨s1,h.box.cell0,by rw [h.r1.len];simp⟩
  refine ⟨x,rfl,_,hx.cell0,q,rfl,v7,hv7,?_⟩
  rw [hv7l]
  refine ⟨fun i H w'=>∃j:Nat,i=(L.length:Int) - j∧j≤L.length∧Pure w0 w'∧(∀b,sv.blk b→¬ H b)∧∃V,Rws w' 4 1 sv (brw (L.length+1) V)∧(∀t,V t=true→Sp.Seen L G t)∧(∀g∈G,V g=true)∧∀u,i<u→u≤L.length→V u=true→∀r y,Sp.Arises L r u y→V y=true,fun i _=>i.toNat,
   ⟨0,by simp,Nat.zero_le _,El,hv,V,RV,fun t ht=>.given ((hV t).1 ht),fun g hg=>(hV g).2 hg,fun u h1 h2=>by omega⟩,?_⟩
  rintro _ Hm wm hm ⟨j,rfl,hj,Em,hvm,V,RV,h1,h2,h3⟩
  unfold m_P_l2
  refine ⟨fun hc=>?_,fun hc=>?_⟩
  ·have hc:=of_decide_eq_true hc
   have hin:Sp.inP L ((L.length:Int) - j)=true:=Sp.inP_iff.2 ⟨by omega,by omega⟩
   have hwr:IntKind.i64.wrap (((L.length:Int) - j) - 1)=(L.length:Int) - ((j+1:Nat):Int):=by rw [IntWalk.i64_in _ (by omega)];omega
   generalize ht:(L.length:Int) - j=t at *
   refine ⟨x,rfl,_,(h.box.pure Em).cell0,?_⟩
   refine (c_ref05_Node q t wm (hP.pure Em) hW.ok).mono ?_
   rintro _ w3 ⟨nk,nf,nt,nu,nx,na,nb,ok,rfl,⟨hn,_⟩,E3⟩
   refine ⟨_,_,_,_,_,_,_,_,rfl,E3.keptP,?_⟩
   have hk1:(Sp.nodeOf L t).kind=nk:=by rw [← hn]
   have ha:(Sp.nodeOf L t).a=na:=by rw [← hn]
   have hb:(Sp.nodeOf L t).b=nb:=by rw [← hn]
   obtain ⟨a12,at12,_,_⟩:=brw_get (RV.pure E3) (t:=t) (by omega) (by omega)
   refine ⟨a12,at12,?_⟩
   intro H1 w5 hs5
   have hs3:Hst w0 Hm w3 Hm w3:=hm.again E3.keptP
   have O5:Own H1 w5 4 1 sv (brw (L.length+1) V):=(Own.hst ⟨RV.pure E3,hvm⟩ hs5)
   have E5:=(Em.trans E3).hst hs5
   obtain ⟨a12',at12',_,c12⟩:=brw_get O5.rows (t:=t) (by omega) (by omega)
   have:a12'=a12:=by
    obtain ⟨_,_,b1,hb1,rfl⟩:=at12
    obtain ⟨_,_,b2,hb2,rfl⟩:=at12'
    rw [hb1] at hb2;cases hb2;rfl
   subst this
   refine ⟨_,c12,?_⟩
   intro H3 w11 hs11
   have O11:=O5.hst hs11
   have E11:=E5.hst hs11
   unfold m_P_j3
   rw [shows_eq]
   have hmu:∀y:Int,y=(L.length:Int) - ((j+1:Nat):Int)→y.toNat<t.toNat:=fun y e=>by omega
   refine ⟨fun hx1=>?_,fun hx1=>?_⟩
   ·rw [Bool.and_eq_true,Bool.or_eq_true] at hx1
    obtain ⟨hvt,hkk⟩:=hx1
    have hsn:=h1 t hvt
    have hna:Sp.inP L na=true∧na<t∧Sp.Seen L G na:=by
     rcases hkk with hk | hk
     ·have hk4:nk=4:=by simpa using hk
      have:=(Sp.kids4 hW hin (by rw [hk1];exact hk4)).1
      rw [ha] at this
      exact ⟨this.1,this.2,.from hsn (.inl ⟨rfl,by rw [hk1];exact hk4,ha⟩)⟩
     ·have:=Sp.kids7 hW hin (by rw [hk1];exact hk)
      rw [ha] at this
      exact ⟨this.1,this.2,.from hsn (.inr (.inr ⟨rfl,by rw [hk1];exact hk,ha⟩))⟩
    have hna1:=Sp.inP_iff.1 hna.1
    obtain ⟨a10,at10,hb10,cw10,hput⟩:=brw_put O11.rows (t:=na) (by omega) (by omega)
    refine ⟨a10,at10,cw10,O11.vis _ hb10,?_⟩
    rintro _ rfl
    obtain ⟨R6,X6⟩:=hput true
    have E6:Pure w0 (w11.setCell a10 (.bool true)):=E11.trans' X6 (fun i hi hb=>by have:=hsvb i hb;omega)
    generalize w11.setCell a10 (.bool true)=w6 at *
    refine ⟨fun hk=>?_,fun hk=>?_⟩
    ·have hk4:nk=4:=by simpa using hk
     have hnb:=(Sp.kids4 hW hin (by rw [hk1];exact hk4)).2
     rw [hb] at hnb
     have hnb1:=Sp.inP_iff.1 hnb.1
     obtain ⟨a11,at11,hb11,cw11,hput⟩:=brw_put R6 (t:=nb) (by omega) (by omega)
     refine ⟨a11,at11,cw11,O11.vis _ hb11,?_⟩
     rintro _ rfl
     obtain ⟨R7,X7⟩:=hput true
     have E7:Pure w0 (w6.setCell a11 (.bool true)):=E6.trans' X7 (fun i hi hb=>by have:=hsvb i hb;omega)
     refine ⟨⟨j+1,hwr,by omega,E7,O11.vis,_,R7,fun y hy=>?_,fun g hg=>?_,fun u hu1 hu2 hu3 r y hay=>?_⟩,hmu _ hwr⟩
     ·simp only [Sp.upd] at hy
      split at hy
      ·rename_i e;rw [e];exact .from hsn (.inr (.inl ⟨rfl,by rw [hk1];exact hk4,hb⟩))
      ·split at hy
       ·rename_i e;rw [e];exact hna.2.2
       ·exact h1 y hy
     ·simp only [Sp.upd];split
      ·rfl
      ·split
       ·rfl
       ·exact h2 g hg
     ·rw [hwr] at hu1
      have hc3:∀y,V y=true→Sp.upd (Sp.upd V na true) nb true y=true:=fun y hy=>by simp only [Sp.upd];split <;> (try split) <;> simp_all
      by_cases hut:u=t
      ·subst hut
       rcases hay with ⟨_,_,e⟩ | ⟨_,_,e⟩ | ⟨_,hk7,_⟩
       ·rw [← e,ha];simp only [Sp.upd];split <;> simp
       ·rw [← e,hb];simp [Sp.upd]
       ·rw [hk1,hk4] at hk7;cases hk7
      ·simp only [Sp.upd] at hu3
       rw [if_neg (by omega),if_neg (by omega)] at hu3
       exact hc3 y (h3 u (by omega) hu2 hu3 r y hay)
    ·have hk4:¬ nk=4:=by simpa using hk
     refine ⟨⟨j+1,hwr,by omega,E6,O11.vis,_,R6,fun y hy=>?_,fun g hg=>?_,fun u hu1 hu2 hu3 r y hay=>?_⟩,hmu _ hwr⟩
     ·simp only [Sp.upd] at hy
      split at hy
      ·rename_i e;rw [e];exact hna.2.2
      ·exact h1 y hy
     ·simp only [Sp.upd];split
      ·rfl
      ·exact h2 g hg
     ·rw [hwr] at hu1
      by_cases hut:u=t
      ·subst hut
       rcases hay with ⟨_,hk',_⟩ | ⟨_,hk',_⟩ | ⟨_,_,e⟩
       ·rw [hk1] at hk';exact absurd hk' hk4
       ·rw [hk1] at hk';exact absurd hk' hk4
       ·rw [← e,ha];simp [Sp.upd]
      ·simp only [Sp.upd] at hu3
       rw [if_neg (by omega)] at hu3
       have:=h3 u (by omega) hu2 hu3 r y hay
       simp only [Sp.upd];split
       ·rfl
       ·exact this
   ·refine ⟨⟨j+1,hwr,by omega,E11,O11.vis,V,O11.rows,h1,h2,fun u hu1 hu2 hu3 r y hay=>?_⟩,hmu _ hwr⟩
    rw [hwr] at hu1
    by_cases hut:u=t
    ·subst hut
     rw [hu3] at hx1
     simp only [Bool.true_and,Bool.or_eq_false_iff] at hx1
     rcases hay with ⟨_,hk',_⟩ | ⟨_,hk',_⟩ | ⟨_,hk',_⟩
     ·rw [hk1] at hk';rw [hk'] at hx1;simp at hx1
     ·rw [hk1] at hk';rw [hk'] at hx1;simp at hx1
     ·rw [hk1] at hk';rw [hk'] at hx1;simp at hx1
    ·exact h3 u (by omega) hu2 hu3 r y hay
  ·have hc:=of_decide_eq_false hc
   have hj:(L.length:Int) - j=0:=by omega
   refine hK sv wm V ⟨RV,fun b hb=>by have:=hsvb b hb;omega,Em⟩ (fun t ht=>⟨h1 t,fun hs=>?_⟩)
   have:∀t,Sp.Seen L G t→Sp.inP L t=true∧V t=true:=by
    intro t hs
    induction hs with
    | given hg=>exact ⟨hG _ hg,h2 _ hg⟩
    | «from» _ hay ih =>
     have hu:=Sp.inP_iff.1 ih.1
     exact ⟨(hay.inp hW ih.1).1,h3 _ (by omega) (by omega) ih.2 _ _ hay⟩
   exact (this t hs).2
end Go.Proofs
end
section
open Go Go.SE
namespace Go.Sp
theorem KnowOk.nil (L:Pool):KnowOk L [] []:=⟨⟨by simp [wkeys],by simp [wkeys],fun i hi=>by simp at hi⟩,by simp [wkeys],by simp,by simp⟩
end Go.Sp
end
section
open Go Go.SE
namespace Go.Proofs
attribute [local irreducible] wpL wpX opE wpE Calls
end Go.Proofs
end
section
open Go Go.SE
namespace Go.Proofs
attribute [local irreducible] Calls
structure KnAt (w0:World) (H:NP) (w:World) (p k:Addr) (L:Sp.Pool) (G:List Int) (S:List Sp.Way) (FP F:NP):Prop where
 pool:PoolAt w p L FP
 know:KnowAt w k p G S F
 pure:Pure w0 w
 oP:∀b,FP b→w0.heap.size≤b∧¬ H b
 oF:∀b,F b→w0.heap.size≤b∧¬ H b∧¬ FP b
 hs:Hst w0 H w H w
section
variable {w0 w w':World} {H H':NP} {p k:Addr} {L L':Sp.Pool} {G G':List Int} {S S':List Sp.Way} {FP FP' F F':NP}
theorem KnAt.pureE (h:KnAt w0 H w p k L G S FP F) (E:Pure w w'):KnAt w0 H w' p k L G S FP F:=⟨h.pool.pure E,h.know.pure E,h.pure.trans E,h.oP,h.oF,h.hs.again E.keptP⟩
theorem KnAt.hst (h:KnAt w0 H w p k L G S FP F) (hs:Hst w0 H w H' w'):KnAt w0 H' w' p k L G S FP F:=by
 have x1:=hs.disj (G:=FP) (fun b hb=>⟨h.pool.lt hb,(h.oP b hb).2⟩)
 have x2:=hs.disj (G:=F) (fun b hb=>⟨h.know.lt hb,(h.oF b hb).2.1⟩)
 exact ⟨h.pool.ext hs.ext x1,h.know.ext hs.ext x2,h.pure.hst hs,fun b hb=>⟨(h.oP b hb).1,x1 b hb⟩,fun b hb=>⟨(h.oF b hb).1,x2 b hb,(h.oF b hb).2.2⟩,hs.here⟩
theorem KnAt.make (h:KnAt w0 H w p k L G S FP F) (hP:PoolAt w' p L' FP') (E:Ext FP w w') (hF:∀b,FP' b→FP b∨w.heap.size≤b):Kept H w w'∧KnAt w0 H w' p k L' G S FP' F:=by
 have hk:Kept H w w':=E.kept (fun b hb hf=>(h.oP b hf).2 hb)
 refine ⟨hk,hP,h.know.ext E (fun b hb=>(h.oF b hb).2.2),h.pure.trans' E (fun i hi hb=>by have:=(h.oP i hb).1;omega),fun b hb=>?_,fun b hb=>⟨(h.oF b hb).1,(h.oF b hb).2.1,fun hx=>?_⟩,h.hs.again hk⟩
 ·rcases hF b hb with h1 | h1
  ·exact h.oP b h1
  ·exact ⟨by have:=h.pure.size;omega,fun hh=>by have:=h.hs.lt b hh;omega⟩
 ·rcases hF b hx with h1 | h1
  ·exact (h.oF b hb).2.2 h1
  ·have:=h.know.lt hb;omega
theorem KnAt.add (h:KnAt w0 H w p k L G S FP F) (hK:KnowAt w' k p G' S' F') (E:Ext F w w') (hF:∀b,F' b→F b∨w.heap.size≤b):Kept H w w'∧KnAt w0 H w' p k L G' S' FP F':=by
 have hk:Kept H w w':=E.kept (fun b hb hf=>(h.oF b hf).2.1 hb)
 refine ⟨hk,h.pool.ext E (fun b hb hf=>(h.oF b hf).2.2 hb),hK,h.pure.trans' E (fun i hi hb=>by have:=(h.oF i hb).1;omega),h.oP,fun b hb=>?_,h.hs.again hk⟩
 rcases hF b hb with h1 | h1
 ·exact h.oF b h1
 ·exact ⟨by have:=h.pure.size;omega,fun hh=>by have:=h.hs.lt b hh;omega,fun hh=>by have:=h.pool.lt hh;omega⟩
end
end Go.Proofs
end
section
open Go Go.SE
namespace Go.Sp
end Go.Sp
namespace Go.Proofs
attribute [local irreducible] Calls
structure Pl3 (w0:World) (H:NP) (w:World) (p q:Addr) (L1 L2:Sp.Pool) (t:Sl) (ids:List Int) (F1 F2:NP):Prop where
 pure:Pure w0 w
 pool:PoolAt w p L1 F1
 ref:PoolR w q L2 F2
 ts:Rws w 78 1 t (tmr ids)
 o1:∀b,F1 b→w0.heap.size≤b∧¬ H b∧¬ F2 b∧¬ t.blk b
 o2:∀b,F2 b→w0.heap.size≤b∧¬ H b∧¬ t.blk b
 o3:∀b,t.blk b→w0.heap.size≤b∧¬ H b
section
variable {w0 w w':World} {H H':NP} {p q:Addr} {L1 L2:Sp.Pool} {t:Sl} {ids:List Int} {F1 F2:NP}
theorem Pl3.pureE (h:Pl3 w0 H w p q L1 L2 t ids F1 F2) (E:Pure w w'):Pl3 w0 H w' p q L1 L2 t ids F1 F2:=⟨h.pure.trans E,h.pool.pure E,h.ref.pure E,h.ts.pure E,h.o1,h.o2,h.o3⟩
theorem Pl3.hst (h:Pl3 w0 H w p q L1 L2 t ids F1 F2) (hs:Hst w0 H w H' w'):Pl3 w0 H' w' p q L1 L2 t ids F1 F2:=by
 have d:∀b,b<w.heap.size→¬ H b→¬ H' b:=fun b h1 h2=>hs.disj (G:=(·=b)) (fun c e=>by subst e;exact ⟨h1,h2⟩) b rfl
 have d1:∀b,F1 b→¬ H' b:=fun b hb=>d b (h.pool.lt hb) (h.o1 b hb).2.1
 have d2:∀b,F2 b→¬ H' b:=fun b hb=>d b (h.ref.lt hb) (h.o2 b hb).2.1
 have d3:∀b,t.blk b→¬ H' b:=fun b hb=>d b (h.ts.lt hb) (h.o3 b hb).2
 exact ⟨h.pure.hst hs,h.pool.ext hs.ext d1,h.ref.ext hs.ext d2,h.ts.ext hs.ext d3,fun b hb=>⟨(h.o1 b hb).1,d1 b hb,(h.o1 b hb).2.2⟩,fun b hb=>⟨(h.o2 b hb).1,d2 b hb,(h.o2 b hb).2.2⟩,fun b hb=>⟨(h.o3 b hb).1,d3 b hb⟩⟩
theorem Pl3.of1 (h:Pl3 w0 H w p q L1 L2 t ids F1 F2) (hH:∀b,H b→b<w.heap.size) {L:Sp.Pool} {F:NP} (hP:PoolAt w' p L F) (hE:Ext F1 w w') (hF:∀b,F b→F1 b∨w.heap.size≤b):Pl3 w0 H w' p q L L2 t ids F F2:=by
 refine ⟨h.pure.trans' hE (fun i hi hb=>by have:=(h.o1 i hb).1;omega),hP,h.ref.ext hE (fun b hb h1=>(h.o1 b h1).2.2.1 hb),h.ts.ext hE (fun b hb h1=>(h.o1 b h1).2.2.2 hb),fun b hb=>?_,h.o2,h.o3⟩
 rcases hF b hb with h1 | h1
 ·exact h.o1 b h1
 ·exact ⟨by have:=h.pure.size;omega,fun hh=>by have:=hH b hh;omega,fun hh=>by have:=h.ref.lt hh;omega,fun hh=>by have:=h.ts.lt hh;omega⟩
theorem Pl3.of2 (h:Pl3 w0 H w p q L1 L2 t ids F1 F2) (hH:∀b,H b→b<w.heap.size) {L:Sp.Pool} {F:NP} (hP:PoolR w' q L F) (hE:Ext F2 w w') (hF:∀b,F b→F2 b∨w.heap.size≤b):Pl3 w0 H w' p q L1 L t ids F1 F:=by
 refine ⟨h.pure.trans' hE (fun i hi hb=>by have:=(h.o2 i hb).1;omega),h.pool.ext hE (fun b hb h1=>(h.o1 b hb).2.2.1 h1),hP,h.ts.ext hE (fun b hb h1=>(h.o2 b h1).2.2 hb),fun b hb=>?_,fun b hb=>?_,h.o3⟩
 ·refine ⟨(h.o1 b hb).1,(h.o1 b hb).2.1,fun hh=>?_,(h.o1 b hb).2.2.2⟩
  rcases hF b hh with h1 | h1
  ·exact (h.o1 b hb).2.2.1 h1
  ·have:=h.pool.lt hb;omega
 ·rcases hF b hb with h1 | h1
  ·exact h.o2 b h1
  ·exact ⟨by have:=h.pure.size;omega,fun hh=>by have:=hH b hh;omega,fun hh=>by have:=h.ts.lt hh;omega⟩
end
end Go.Proofs
end
section
open Go Go.SE
namespace Go.Proofs
attribute [local irreducible] Calls
structure KqAt (w0:World) (H:NP) (w:World) (p q k:Addr) (L:Sp.Pool) (G:List Int) (S:List Sp.Way) (FP FR F:NP):Prop where
 kn:KnAt w0 H w p k L G S FP F
 ref:PoolR w q L FR
 oR:∀b,FR b→¬ H b
section
variable {w0 w w':World} {H H':NP} {p q k:Addr} {L:Sp.Pool} {G:List Int} {S:List Sp.Way} {FP FR F:NP}
theorem KqAt.pureE (h:KqAt w0 H w p q k L G S FP FR F) (E:Pure w w'):KqAt w0 H w' p q k L G S FP FR F:=⟨h.kn.pureE E,h.ref.pure E,h.oR⟩
theorem KqAt.hst (h:KqAt w0 H w p q k L G S FP FR F) (hs:Hst w0 H w H' w'):KqAt w0 H' w' p q k L G S FP FR F:=by
 have x1:=hs.disj (G:=FR) (fun b hb=>⟨h.ref.lt hb,h.oR b hb⟩)
 exact ⟨h.kn.hst hs,h.ref.ext hs.ext x1,x1⟩
theorem KqAt.start {w1 w2 w3:World} {t:Sl} {ids:List Int} (hE:Pure w0 w1) (hs:Hst w0 H w1 H w1) (hq:Pl3 w1 None w2 p q L L t ids FP FR) (hk:KnowAt w3 k p G S F) (E:Pure w2 w3) (hF:∀b,F b→w2.heap.size≤b):KqAt w0 H w3 p q k L G S FP FR F:=by
 have z1:=hE.size;have z2:=hq.pure.size;have z3:=E.size
 refine ⟨⟨hq.pool.pure E,hk,(hE.trans hq.pure).trans E,fun b hb=>?_,fun b hb=>?_,(hs.again hq.pure.keptP).again E.keptP⟩,hq.ref.pure E,fun b hb hh=>?_⟩
 ·have:=(hq.o1 b hb).1;exact ⟨by omega,fun hh=>by have:=hs.lt b hh;omega⟩
 ·have:=hF b hb;exact ⟨by omega,fun hh=>by have:=hs.lt b hh;omega,fun hh=>by have:=hq.pool.lt hh;omega⟩
 ·have:=(hq.o2 b hb).1;have:=hs.lt b hh;omega
end
end Go.Proofs
end
section
open Go Go.SE
namespace Go.Proofs
attribute [local irreducible] Calls
end Go.Proofs
end
section
open Go Go.SE
namespace Go.Proofs
attribute [local irreducible] Calls
theorem slT_tree:SlType Tryz.prog 66 107 6 72:=by
 refine ⟨Tryz.underlying66,⟨Tryz.t107,_,by kernel_rfl,(by kernel_rfl:Tryz.t107.zero=some (.agg #[.int .i64 0,.int .i64 0,.int .i64 0,.int .u64 0,.string ⟨#[]⟩,.slice none 0 0])),by kernel_rfl,by kernel_rfl,rfl⟩,by omega⟩
def prow (p:Sp.Tree×Sl):List Value:=trow p.1 p.2
theorem TreeAt.of_pairs {S:NP} {w:World} {s:Sl} {e:TypeId} {ps:List (Sp.Tree×Sl)} {k f t u:Int} {x:ByteArray} (hR:Rws w e 6 s (ps.map prow)) (hS:∀b,s.blk b→S b) (hk:∀p∈ps,TreeAt S w p.2 p.1) (fit:ps.length≤9223372036854775807):TreeAt S w s (.mk k f t u x (ps.map Prod.fst)):=by
 refine .mk k f t u x _ s (fun i=>(ps.getD i (Sp.noTree,Sl.nil)).2) (by rw [hR.len];simp) (by simpa using fit) (fun i h=>?_) (fun i h=>?_)
 ·have h':i<ps.length:=by simpa using h
  obtain ⟨a,h1,h2,h3⟩:=hR.at (i:=i) (by omega) (by simpa using h')
  refine ⟨a,h1,hS _ h3,?_⟩
  have e1:(ps.map Prod.fst)[i]=ps[i].1:=by simp
  have e2:(ps.getD i (Sp.noTree,Sl.nil)).2=ps[i].2:=by simp [List.getD_eq_getElem?_getD,h']
  rw [e1,e2];simpa [prow] using h2
 ·have h':i<ps.length:=by simpa using h
  have e1:(ps.map Prod.fst)[i]=ps[i].1:=by simp
  have e2:(ps.getD i (Sp.noTree,Sl.nil)).2=ps[i].2:=by simp [List.getD_eq_getElem?_getD,h']
  rw [e1,e2];exact hk _ (List.getElem_mem h')
theorem trow_one (t:Sp.Tree) (s:Sl):(trow t s).all oneCell=true:=by simp [trow,oneCell,Sl.v]
end Go.Proofs
end
section
open Go Go.SE
namespace Go.Proofs
attribute [local irreducible] Calls
end Go.Proofs
end
section
open Go Go.SE
namespace Go.Sp
theorem Drv.inp {L:Pool} {K:Int→Prop} {t:Int} (h:Drv L K t) (hK:K t→inP L t=true):inP L t=true:=by
 cases hin:inP L t with
 | true=>rfl
 | false =>
  have hk:(nodeOf L t).kind=0:=by unfold nodeOf;rw [get_none hin];rfl
  cases h with
  | seen h=>rw [hK h] at hin;cases hin
  | free h=>rw [hk] at h;cases h
  | pair h _ _=>rw [hk] at h;cases h
  | hash h _=>rw [hk] at h;cases h
  | sign h _ _ _=>rw [hk] at h;cases h
end Go.Sp
namespace Go.Proofs
attribute [local irreducible] Calls
theorem c_r08_Seen (x q : Addr) (w0 : World) {L : Sp.Pool} {G : List Int} {F FR : NP} (h : K8At w0 x q G F) (hP : PoolR w0 q L FR) (hW : Sp.Wf L) (hG : ∀ g ∈ G, Sp.inP L g = true) (hGn : G.length ≤ 100000) :
  Calls Tryz.prog 31 #[.pointer (some x)] w0 (fun e w'=>∃r:Sl,e=.returned r.v∧∃l,RetO w0 78 1 (tmr l) r w'∧(∀y,y∈l↔Sp.inP L y=true∧Sp.Seen L G y)∧l.Pairwise (·<·)):=by
 refine w_V1 _ w0 (fun r w'=>∃l,RetO w0 78 1 (tmr l) r w'∧(∀y,y∈l↔Sp.inP L y=true∧Sp.Seen L G y)∧l.Pairwise (·<·)) ?_
 unfold m_V1
 have hnil:∀b,¬ Sl.nil.blk b:=fun b hb=>by obtain ⟨a,h,_⟩:=hb;cases h
 have hL:=hW.ok.few
 refine (c_r08_seen x q w0 h hP hW hG hGn).mono ?_
 rintro _ w1 ⟨r1,rfl,V,hR,hV⟩
 refine ⟨_,rfl,?_⟩
 have lr:r1.len=L.length+1:=by rw [hR.rows.len,brw_len]
 refine ⟨fun l t w'=>∃(j:Nat) (ls:List Int),t=(j:Int)+1∧j≤L.length∧Pure w1 w'∧Rws w' 78 1 l (tmr ls)∧(∀b,l.blk b→w1.heap.size≤b)∧(∀y,y∈ls↔(1≤y∧y≤j)∧V y=true)∧ls.Pairwise (·<·)∧ls.length≤j,fun _ t _=>((L.length:Int)+1 - t).toNat,
  ⟨0,[],by omega,Nat.zero_le _,Ext.refl _,Rws.nil _ _ _,fun b hb=>(hnil b hb).elim,fun y=>⟨fun h=>by (cases h),fun h=>by omega⟩,List.Pairwise.nil,Nat.le_refl _⟩,?_⟩
 rintro l _ wl ⟨j,ls,rfl,hj,E,hl,hln,hm,hpw,hlen⟩
 unfold m_V1_l1
 rw [lr]
 refine ⟨fun hc=>?_,fun hc=>?_⟩
 ·have hc:=of_decide_eq_true hc
  have hj':j<L.length:=by omega
  have hw:IntKind.i64.wrap ((j:Int)+1+1)=((j+1:Nat):Int)+1:=by rw [IntWalk.i64_in _ (by omega)];omega
  obtain ⟨a,hat,_,hv⟩:=brw_get (hR.rows.pure E) (t:=(j:Int)+1) (by omega) (by omega)
  refine ⟨a,hat,_,hv,fun ht=>?_,fun hf=>?_⟩
  ·intro p1 w2 h2
   have E2:Pure wl w2:=Ext.new h2
   obtain ⟨s1,w3,hr3,R3,X3,f3⟩:=(hl.pure E2).append (P:=Tryz.prog) (ty:=46) (c:=1) slT_tm (r:=[.int .i64 ((j:Int)+1)]) (Box.of_new h2).row rfl rfl (by rw [tmr_len];omega) (by rw [tmr_len];simp [maxLen];omega)
   refine ⟨s1,w3,hr3,?_⟩
   rw [hw]
   refine ⟨⟨j+1,ls++[(j:Int)+1],rfl,hj',(E.trans E2).trans' X3 (fun i hi hb=>by have:=hln i hb;omega),by rw [show tmr (ls++[(j:Int)+1])=tmr ls++[[.int .i64 ((j:Int)+1)]] by simp [tmr]];exact R3,fun b hb=>(f3 b hb).elim (hln b) (fun h=>by have:=(E.trans E2).size;omega),fun y=>?_,?_,by simp;omega⟩,by show ((L.length:Int)+1 - (((j+1:Nat):Int)+1)).toNat<((L.length:Int)+1 - ((j:Int)+1)).toNat;omega⟩
   ·rw [List.mem_append,hm,List.mem_singleton]
    constructor
    ·rintro (⟨h1,h2⟩ | rfl)
     ·exact ⟨by omega,h2⟩
     ·exact ⟨by omega,ht⟩
    ·rintro ⟨h1,h2⟩
     by_cases e:y=(j:Int)+1
     ·exact .inr e
     ·exact .inl ⟨by omega,h2⟩
   ·rw [List.pairwise_append]
    exact ⟨hpw,by simp,fun a ha b hb=>by simp at hb;have:=((hm a).1 ha).1;omega⟩
  ·rw [hw]
   refine ⟨⟨j+1,ls,rfl,hj',E,hl,hln,fun y=>?_,hpw,by omega⟩,by show ((L.length:Int)+1 - (((j+1:Nat):Int)+1)).toNat<((L.length:Int)+1 - ((j:Int)+1)).toNat;omega⟩
   rw [hm]
   constructor
   ·rintro ⟨h1,h2⟩;exact ⟨by omega,h2⟩
   ·rintro ⟨h1,h2⟩
    by_cases e:y=(j:Int)+1
    ·subst e;rw [h2] at hf;cases hf
    ·exact ⟨by omega,h2⟩
 ·have hc:=of_decide_eq_false hc
  have hj':j=L.length:=by omega
  subst hj'
  refine ⟨ls,⟨hl,fun b hb=>by have:=hln b hb;have:=hR.pure.size;omega,hR.pure.trans E⟩,fun y=>?_,hpw⟩
  rw [hm,← Sp.inP_iff]
  exact and_congr_right fun hy=>hV y hy
end Go.Proofs
end
section
open Go Go.SE
namespace Go.Sp
theorem mem_gives {L:Pool} {ts:List Int} {x:Int}:x∈gives L ts↔x∈ts∧inP L x=true:=by
 have:∀(ts G:List Int),x∈ts.foldl (giveT L) G↔x∈G∨(x∈ts∧inP L x=true):=by
  intro ts
  induction ts with
  | nil=>intro G;simp
  | cons t ts ih =>
   intro G
   rw [List.foldl_cons,ih]
   unfold giveT
   split
   ·rename_i h
    rw [mem_addT]
    simp only [List.mem_cons]
    constructor
    ·rintro ((h1 | rfl) | h1)
     ·exact .inl h1
     ·exact .inr ⟨.inl rfl,h⟩
     ·exact .inr ⟨.inr h1.1,h1.2⟩
    ·rintro (h1 | ⟨rfl | h1,h2⟩)
     ·exact .inl (.inl h1)
     ·exact .inl (.inr rfl)
     ·exact .inr ⟨h1,h2⟩
   ·rename_i h
    simp only [List.mem_cons]
    constructor
    ·rintro (h1 | h1)
     ·exact .inl h1
     ·exact .inr ⟨.inr h1.1,h1.2⟩
    ·rintro (h1 | ⟨rfl | h1,h2⟩)
     ·exact .inl h1
     ·exact absurd h2 h
     ·exact .inr ⟨h1,h2⟩
 rw [gives,this];simp
theorem gives_len (L:Pool) (ts:List Int):(gives L ts).length≤ts.length:=by
 have:∀(ts G:List Int),(ts.foldl (giveT L) G).length≤G.length+ts.length:=by
  intro ts
  induction ts with
  | nil=>intro G;simp
  | cons t ts ih =>
   intro G
   have h1:=ih (giveT L G t)
   have h2:(giveT L G t).length≤G.length+1:=by
    unfold giveT;split
    ·unfold addT;split
     ·omega
     ·simp
    ·omega
   simp only [List.foldl_cons,List.length_cons];omega
 have:=this ts []
 simpa [gives] using this
theorem Seen.inP' {L:Pool} (hW:Wf L) {G:List Int} (hG:∀g∈G,inP L g=true) {t:Int} (h:Seen L G t):inP L t=true:=by
 induction h with
 | given h=>exact hG _ h
 | «from» _ ha ih=>exact (ha.inp hW ih).1
theorem AllOk.same {L:Pool} {G M:List Int} {fs gs:List Fact} (h:AllOk L G fs) (h':AllOk L M gs) (hs:∀t,Seen L G t↔Seen L M t):fs=gs :=
 sorted_eq h.1 h'.1 fun x=>by rw [h.2,h'.2];exact exists_congr fun t=>and_congr_left fun _=>hs t
end Go.Sp
namespace Go.Proofs
attribute [local irreducible] Calls
theorem c_r12_Has {S1 : NP} (sa : Sl) (fs : List Sp.Fact) (g : Sp.Fact) (w0 : World) (ha : Lst S1 w0 4 sa (fs.map frow)) (hn : fs.length ≤ 1000000) :
  Calls Tryz.prog 27 #[sa.v,.agg #[.int .i64 g.kind,.int .i64 g.who,.int .u64 g.c,.string g.text]] w0 (fun e w'=>∃r:Bool,e=.returned (.bool r)∧(r=decide (g∈fs)∧Pure w0 w')):=by
 suffices key:∀K:Bool→WP,(∀w',Pure w0 w'→K (decide (g∈fs)) w')→m_I1 sa g.kind g.who g.c g.text w0 K from
  w_I1 _ _ _ _ _ w0 _ (key _ (fun _ h=>⟨rfl,h⟩))
 intro K hK
 unfold m_I1
 have hla:sa.len=fs.length:=by rw [ha.len];simp
 intro H1 w1 hs1
 refine ⟨fun i H w'=>∃j:Nat,i=j∧j≤fs.length∧Pure w0 w'∧g ∉ fs.take j,fun i _=>((fs.length:Int) - i).toNat,⟨0,rfl,Nat.zero_le _,hs1.first,by simp⟩,?_⟩
 rintro _ Hl wl _ ⟨j,rfl,hj,El,ht⟩
 unfold m_I1_l1
 refine ⟨fun h=>?_,fun h=>?_⟩
 ·have hlt:=lt_of_dec hla h
  obtain ⟨a2,hat,_,hrow⟩:=ha.nth hlt
  refine ⟨a2,hat,fun w2 hs2=>?_⟩
  have E1:=El.hst hs2
  refine ⟨_,_,_,_,E1.row hrow id,fun hd=>?_,fun hd=>?_⟩
  ·rw [fact_dec] at hd
   have hd:=of_decide_eq_true hd
   have:=hK w2 E1
   rwa [decide_eq_true (hd▸List.getElem_mem hlt)] at this
  ·rw [fact_dec] at hd
   have hd:¬ fs[j]=g:=by simpa using hd
   rw [wrap_succ hlt (by omega)]
   refine ⟨⟨j+1,rfl,hlt,E1,?_⟩,lt_dec hlt⟩
   rw [List.take_succ_eq_append_getElem hlt]
   simp only [List.mem_append,List.mem_singleton,not_or]
   exact ⟨ht,fun e=>hd e.symm⟩
 ·have hge:=eq_of_dec hla hj h
  subst hge
  rw [List.take_length] at ht
  have:=hK wl El
  rwa [decide_eq_false ht] at this
end Go.Proofs
end
