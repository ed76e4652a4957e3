import Derived.Test.YtcldldjildmdlaaGreatProg
import Derived.KernelRfl
import Derived.Test.YtcldldjildmdlaaGreatPa0
section
open Go Go.SE
open Go.IntKind renaming i64 → q6
namespace Go.Proofs
set_option maxRecDepth 100000
set_option maxHeartbeats 4000000
attribute [local irreducible] wpL wpX opE wpE Calls
def m_Y_l1 (bD bK:Sl) (i1:Int) (Hl1:NP) (wl1:World) (Kc1:Int→NP→WP) (K:Bool→WP):Prop :=
 Br (decide (i1<(bD.len:Int)))
  (∃C1:WP,C1 wl1.drew∧∀w12,w12=wl1.drew →
  ∃a1:Addr,At bD i1 6 a1 ∧
  ∃aN aO:Int,∃aP aQ:Int,∃aR:ByteArray,∃bE:Sl,(∀w',C1 w'→Row w' a1 [(vi aN),(vi aO),(vi aP),(vu aQ),(vs aR),bE.v]) ∧
  ∃a2:Addr,At bK i1 6 a2 ∧
  ∃cJ cK:Int,∃cL cM:Int,∃cN:ByteArray,∃cO:Sl,(∀w',C1 w'→Row w' a2 [(vi cJ),(vi cK),(vi cL),(vu cM),(vs cN),cO.v]) ∧
  Calls Tryz.prog 14 #[(.agg #[(vi aN),(vi aO),(vi aP),(vu aQ),(vs aR),bE.v]),(.agg #[(vi cJ),(vi cK),(vi cL),(vu cM),(vs cN),cO.v])] w12 (fun e w13=>∃r1:Bool,e=.returned (vb r1)∧C1 w13∧
   Kept Hl1 w12 w13 ∧
   Br (!r1)
    (K false w13)
    (Kc1 (q6.wrap (i1+1)) Hl1 w13)))
  (K true wl1)
def m_Y (aZ bB:Int) (bF bI:Int) (bN:ByteArray) (bD:Sl) (bA bC:Int) (bG bJ:Int) (bO:ByteArray) (bK:Sl) (w0:World) (K:Bool→WP):Prop :=
 ∀y1:Bool,y1=((((((aZ != bA) || (bB != bC)) || (bF != bG)) || (bI != bJ)) || (!(decide (bN=bO)))) || (((bD.len:Int):Int) != (bK.len:Int))) →
 Br y1
  (∀(H7:NP) (w7:World),Hst w0 None w0 H7 w7 →
  K false w7)
  (∀(H7:NP) (w7:World),Hst w0 None w0 H7 w7 →
  ∃(I1:Int→NP→WP) (mu1:Int→World→Nat),I1 0 H7 w7 ∧
   ∀(i1:Int) (Hl1:NP) (wl1:World),Hst w0 Hl1 wl1 Hl1 wl1→I1 i1 Hl1 wl1→m_Y_l1 bD bK i1 Hl1 wl1 (fun y'0 H' w'=>I1 y'0 H' w'∧mu1 y'0 w'<mu1 i1 wl1) K)
theorem w_Y (aZ bB : Int) (bF bI : Int) (bN : ByteArray) (bD : Sl) (bA bC : Int) (bG bJ : Int) (bO : ByteArray) (bK : Sl) (w0 : World) (K : Bool → WP) (h : m_Y aZ bB bF bI bN bD bA bC bG bJ bO bK w0 K) :
  Calls Tryz.prog 14 #[(.agg #[(vi aZ),(vi bB),(vi bF),(vu bI),(vs bN),bD.v]),(.agg #[(vi bA),(vi bC),(vi bG),(vu bJ),(vs bO),bK.v])] w0 (fun e w'=>∃r2:Bool,e=.returned (vb r2)∧K r2 w'):=by
 unfold m_Y at h
 refine cw (args:=[(.agg #[(vi aZ),(vi bB),(vi bF),(vu bI),(vs bN),bD.v]),(.agg #[(vi bA),(vi bC),(vi bG),(vu bJ),(vs bO),bK.v])]) Tryz.func14 Tryz.ntmps14 ?_
 have hs:=Hst.start w0
 have hb:=HB.nil None w0
 refine wpE_seq (rg (sn (O:=(.cells #[(vi aZ),(vi bB),(vi bF),(vu bI),(vs bN),bD.v] 49)) xb ?_))
 intro p1 w1 hn1
 obtain ⟨H1,hs,hb⟩:=hs.alloc hb hn1
 refine sn (O:=(.cells #[(vi bA),(vi bC),(vi bG),(vu bJ),(vs bO),bK.v] 49)) xb ?_
 intro p2 w2 hn2
 obtain ⟨H2,hs,hb⟩:=hs.alloc hb hn2
 refine q0 (vb false) (wpL_nil (th_n (wpE_seq (wpE_seq ?_))))
 refine wpE_via (fun ρ wJ=>∃b5'0 y1:Bool,∃HJ:NP,((((((aZ != bA) || (bB != bC)) || (bF != bG)) || (bI != bJ)) || (!(decide (bN=bO))))=b5'0)∧(y1=(b5'0 || (((bD.len:Int):Int) != (bK.len:Int))))∧Hst w0 None w0 HJ wJ∧HB HJ wJ [(p2,[(vi bA),(vi bC),(vi bG),(vu bJ),(vs bO),bK.v],49),(p1,[(vi aZ),(vi bB),(vi bF),(vu bI),(vs bN),bD.v],49)]∧Has ρ [(2,(vp (some p1))),(3,(vp (some p2))),(47,(vb y1))]) ?_ ?_
 ·refine rg (q0 (vp (some p1)) (q2 (vi aZ) (xl (Tryz.isAgg3 _) (hb.c0 1 (gS gZ))) (q0 (vp (some p2)) (q2 (vi bA) (xl (Tryz.isAgg3 _) (hb.c0 0 gZ)) (q0 (vb (aZ != bA)) (q0 (vb (aZ != bA)) ?_))))))
  refine wpL_join 6 (fun ρ wJ=>∃b6'0:Bool,∃HJ:NP,((aZ != bA)=b6'0)∧Hst w0 None w0 HJ wJ∧HB HJ wJ [(p2,[(vi bA),(vi bC),(vi bG),(vu bJ),(vs bO),bK.v],49),(p1,[(vi aZ),(vi bB),(vi bF),(vu bI),(vs bN),bD.v],49)]∧Has ρ [(2,(vp (some p1))),(3,(vp (some p2))),(17,(vb (b6'0 || (bB != bC))))]) ?_ ?_
  ·rintro ρ w8 ⟨b6'0,H8,he0,hs,hb,hH⟩
   subst he0
   refine wpL_has hH ?_
   refine q0 (vb ((aZ != bA) || (bB != bC))) ?_
   refine wpL_join 6 (fun ρ wJ=>∃b7'0:Bool,∃HJ:NP,(((aZ != bA) || (bB != bC))=b7'0)∧Hst w0 None w0 HJ wJ∧HB HJ wJ [(p2,[(vi bA),(vi bC),(vi bG),(vu bJ),(vs bO),bK.v],49),(p1,[(vi aZ),(vi bB),(vi bF),(vu bI),(vs bN),bD.v],49)]∧Has ρ [(2,(vp (some p1))),(3,(vp (some p2))),(24,(vb (b7'0 || (bF != bG))))]) ?_ ?_
   ·rintro ρ w9 ⟨b7'0,H9,he0,hs,hb,hH⟩
    subst he0
    refine wpL_has hH ?_
    refine q0 (vb (((aZ != bA) || (bB != bC)) || (bF != bG))) ?_
    refine wpL_join 6 (fun ρ wJ=>∃b8'0:Bool,∃HJ:NP,((((aZ != bA) || (bB != bC)) || (bF != bG))=b8'0)∧Hst w0 None w0 HJ wJ∧HB HJ wJ [(p2,[(vi bA),(vi bC),(vi bG),(vu bJ),(vs bO),bK.v],49),(p1,[(vi aZ),(vi bB),(vi bF),(vu bI),(vs bN),bD.v],49)]∧Has ρ [(2,(vp (some p1))),(3,(vp (some p2))),(31,(vb (b8'0 || (bI != bJ))))]) ?_ ?_
    ·rintro ρ w10 ⟨b8'0,H10,he0,hs,hb,hH⟩
     subst he0
     refine wpL_has hH ?_
     refine q0 (vb ((((aZ != bA) || (bB != bC)) || (bF != bG)) || (bI != bJ))) ?_
     refine wpL_join 6 (fun ρ wJ=>∃b9'0:Bool,∃HJ:NP,(((((aZ != bA) || (bB != bC)) || (bF != bG)) || (bI != bJ))=b9'0)∧Hst w0 None w0 HJ wJ∧HB HJ wJ [(p2,[(vi bA),(vi bC),(vi bG),(vu bJ),(vs bO),bK.v],49),(p1,[(vi aZ),(vi bB),(vi bF),(vu bI),(vs bN),bD.v],49)]∧Has ρ [(2,(vp (some p1))),(3,(vp (some p2))),(38,(vb (b9'0 || (!(decide (bN=bO))))))]) ?_ ?_
     ·rintro ρ w11 ⟨b9'0,H11,he0,hs,hb,hH⟩
      subst he0
      refine wpL_has hH ?_
      refine q0 (vb (((((aZ != bA) || (bB != bC)) || (bF != bG)) || (bI != bJ)) || (!(decide (bN=bO))))) ?_
      rcases Bool.eq_false_or_eq_true (((((aZ != bA) || (bB != bC)) || (bF != bG)) || (bI != bJ)) || (!(decide (bN=bO)))) with hg18 | hg18
      ·refine sk (yD 39 hg18) (sk (yD 39 hg18) (sk (yD 39 hg18) (sk (yD 39 hg18) (sk (yD 39 hg18) (sk (yD 39 hg18) (sk (yD 39 hg18) (q2 (vb true) (xT hg18) (wpL_nil (th_n ?_)))))))))
       exact ⟨true,_,_,hg18,rfl,hs,hb,hm⟩
      ·refine q1 (vp (some (p1.add 5))) (want1 rfl (yD 39 hg18)) (stp (v:=bD.v) (want1 rfl (yD 39 hg18)) (xl (Tryz.isAgg22 _) (hb.c 1 5 (gS gZ))) (q1 (vi (bD.len:Int)) (want1 rfl (yD 39 hg18)) (q1 (vp (some (p2.add 5))) (want1 rfl (yD 39 hg18)) (stp (v:=bK.v) (want1 rfl (yD 39 hg18)) (xl (Tryz.isAgg22 _) (hb.c 0 5 gZ)) (q1 (vi (bK.len:Int)) (want1 rfl (yD 39 hg18)) (q1 (vb (((bD.len:Int):Int) != (bK.len:Int))) (want1 rfl (yD 39 hg18)) (q2 (vb (((bD.len:Int):Int) != (bK.len:Int))) (xF hg18) (wpL_nil (th_n ?_)))))))))
       exact ⟨false,_,_,hg18,rfl,hs,hb,hm⟩
     ·rcases Bool.eq_false_or_eq_true ((((aZ != bA) || (bB != bC)) || (bF != bG)) || (bI != bJ)) with hg17 | hg17
      ·refine sk (yD 32 hg17) (sk (yD 32 hg17) (sk (yD 32 hg17) (sk (yD 32 hg17) (sk (yD 32 hg17) (q2 (vb true) (xT hg17) (wpL_nil ?_))))))
       exact ⟨true,_,hg17,hs,hb,hm⟩
      ·refine q1 (vp (some (p1.add 4))) (want1 rfl (yD 32 hg17)) (stp (v:=(vs bN)) (want1 rfl (yD 32 hg17)) (xl (Tryz.isAgg9 _) (hb.c 1 4 (gS gZ))) (q1 (vp (some (p2.add 4))) (want1 rfl (yD 32 hg17)) (stp (v:=(vs bO)) (want1 rfl (yD 32 hg17)) (xl (Tryz.isAgg9 _) (hb.c 0 4 gZ)) (stp (v:=(vb (!(decide (bN=bO))))) (want1 rfl (yD 32 hg17)) (x_strneq (by kernel_rfl) (by kernel_rfl)) (q2 (vb (!(decide (bN=bO)))) (xF hg17) (wpL_nil ?_))))))
       exact ⟨false,_,hg17,hs,hb,hm⟩
    ·rcases Bool.eq_false_or_eq_true (((aZ != bA) || (bB != bC)) || (bF != bG)) with hg15 | hg15
     ·refine sk (yD 25 hg15) (sk (yD 25 hg15) (sk (yD 25 hg15) (sk (yD 25 hg15) (sk (yD 25 hg15) (q2 (vb true) (xT hg15) (wpL_nil ?_))))))
      exact ⟨true,_,hg15,hs,hb,hm⟩
     ·refine q1 (vp (some (p1.add 3))) (want1 rfl (yD 25 hg15)) (stp (v:=(vu bI)) (want1 rfl (yD 25 hg15)) (xl (Tryz.isAgg47 _) (hb.c 1 3 (gS gZ))) (q1 (vp (some (p2.add 3))) (want1 rfl (yD 25 hg15)) (stp (v:=(vu bJ)) (want1 rfl (yD 25 hg15)) (xl (Tryz.isAgg47 _) (hb.c 0 3 gZ)) (q1 (vb (bI != bJ)) (want1 rfl (yD 25 hg15)) (q2 (vb (bI != bJ)) (xF hg15) (wpL_nil ?_))))))
      exact ⟨false,_,hg15,hs,hb,hm⟩
   ·rcases Bool.eq_false_or_eq_true ((aZ != bA) || (bB != bC)) with hg13 | hg13
    ·refine sk (yD 18 hg13) (sk (yD 18 hg13) (sk (yD 18 hg13) (sk (yD 18 hg13) (sk (yD 18 hg13) (q2 (vb true) (xT hg13) (wpL_nil ?_))))))
     exact ⟨true,_,hg13,hs,hb,hm⟩
    ·refine q1 (vp (some (p1.add 2))) (want1 rfl (yD 18 hg13)) (stp (v:=(vi bF)) (want1 rfl (yD 18 hg13)) (xl (Tryz.isAgg3 _) (hb.c 1 2 (gS gZ))) (q1 (vp (some (p2.add 2))) (want1 rfl (yD 18 hg13)) (stp (v:=(vi bG)) (want1 rfl (yD 18 hg13)) (xl (Tryz.isAgg3 _) (hb.c 0 2 gZ)) (q1 (vb (bF != bG)) (want1 rfl (yD 18 hg13)) (q2 (vb (bF != bG)) (xF hg13) (wpL_nil ?_))))))
     exact ⟨false,_,hg13,hs,hb,hm⟩
  ·rcases Bool.eq_false_or_eq_true (aZ != bA) with hg11 | hg11
   ·refine sk (yD 11 hg11) (sk (yD 11 hg11) (sk (yD 11 hg11) (sk (yD 11 hg11) (sk (yD 11 hg11) (q2 (vb true) (xT hg11) (wpL_nil ?_))))))
    exact ⟨true,_,hg11,hs,hb,hm⟩
   ·refine q1 (vp (some (p1.add 1))) (want1 rfl (yD 11 hg11)) (stp (v:=(vi bB)) (want1 rfl (yD 11 hg11)) (xl (Tryz.isAgg3 _) (hb.c 1 1 (gS gZ))) (q1 (vp (some (p2.add 1))) (want1 rfl (yD 11 hg11)) (stp (v:=(vi bC)) (want1 rfl (yD 11 hg11)) (xl (Tryz.isAgg3 _) (hb.c 0 1 gZ)) (q1 (vb (bB != bC)) (want1 rfl (yD 11 hg11)) (q2 (vb (bB != bC)) (xF hg11) (wpL_nil ?_))))))
    exact ⟨false,_,hg11,hs,hb,hm⟩
 ·rintro ρ w7 ⟨b5'0,y1,H7,he0,hy1,hs,hb,hH⟩
  subst he0
  have h:=h y1 hy1
  refine norm_has hH ?_
  refine th_n ?_
  refine wpE_cond (t:=y1) (by kernel_rfl) (fun hc1=>?_) (fun hc1=>?_)
  ·have h:=h.1 hc1
   refine wpE_seq (rg (q0 (vb false) (wpL_nil (th_n (wpE_ret (th_r ?_))))))
   have h:=h H7 w7 hs
   have hs:=hs.here
   refine rs1 Tryz.results14 (v:=(vb false)) ?_
   exact ⟨false,rfl,h⟩
  ·have h:=h.2 hc1
   refine wpE_skip (th_n (wpE_seq (wpE_seq (rg (q0 (vi 0) (wpL_nil (th_n (wpE_block ?_))))))))
   have h:=h H7 w7 hs
   have hs:=hs.here
   obtain ⟨I1,mu1,h0,hr⟩:=h
   refine wpE_loop (σ:=Int×NP×World) (fun s ρ w=>w=s.2.2∧Has ρ [(2,(vp (some p1))),(3,(vp (some p2))),(5,(vi s.1))]∧Hst w0 s.2.1 w s.2.1 w∧HB s.2.1 w [(p2,[(vi bA),(vi bC),(vi bG),(vu bJ),(vs bO),bK.v],49),(p1,[(vi aZ),(vi bB),(vi bF),(vu bI),(vs bN),bD.v],49)]∧I1 s.1 s.2.1 s.2.2) (fun s=>mu1 s.1 s.2.2) (0,H7,w7) ⟨rfl,hm,hs,hb,h0⟩ ?_
   rintro ⟨i1,Hl1,wl1⟩ ρ w ⟨hw,hH,hs,hb,hI⟩
   obtain rfl:wl1=w:=(show w=wl1 from hw).symm
   have hH:Has ρ [(2,(vp (some p1))),(3,(vp (some p2))),(5,(vi i1))]:=hH
   have hs:Hst w0 Hl1 wl1 Hl1 wl1:=hs
   have hb:HB Hl1 wl1 [(p2,[(vi bA),(vi bC),(vi bG),(vu bJ),(vs bO),bK.v],49),(p1,[(vi aZ),(vi bB),(vi bF),(vu bI),(vs bN),bD.v],49)]:=hb
   have h:=hr i1 Hl1 wl1 hs hI
   unfold m_Y_l1 at h
   refine wpE_has hH ?_
   refine wpE_seq (wpE_seq (rg (q0 (vi i1) (q0 (vp (some (p1.add 5))) (q2 bD.v (xl (Tryz.isAgg22 _) (hb.c 1 5 (gS gZ))) (q0 (vi (bD.len:Int)) (q0 (vb (decide (i1<(bD.len:Int)))) (wpL_nil (th_n ?_)))))))))
   refine wpE_cond (t:=(decide (i1<(bD.len:Int)))) (by kernel_rfl) (fun hc2=>?_) (fun hc2=>?_)
   ·have h:=h.1 hc2
    refine wpE_skip (th_n (wpE_seq (wpE_block (wpE_seq ?_))))
    obtain ⟨C1,hC,h⟩:=h
    refine wpE_drawnC (fun x=>C1 x∧HB Hl1 x [(p2,[(vi bA),(vi bC),(vi bG),(vu bJ),(vs bO),bK.v],49),(p1,[(vi aZ),(vi bB),(vi bF),(vu bI),(vs bN),bD.v],49)]) [10] [] (by kernel_rfl) (by kernel_rfl) (by kernel_rfl) (by kernel_rfl) ⟨hC,hb.drew⟩ ?_
    intro w12 hw12
    have h:=h w12 hw12
    have hs:Hst w0 Hl1 wl1 Hl1 w12:=by rw [hw12];exact hs.drew
    have hb:HB Hl1 w12 [(p2,[(vi bA),(vi bC),(vi bG),(vu bJ),(vs bO),bK.v],49),(p1,[(vi aZ),(vi bB),(vi bF),(vu bI),(vs bN),bD.v],49)]:=by rw [hw12];exact hb.drew
    have hs:=hs.here
    refine qx 0 (vp (some (p1.add 5))) Kp0 (qz 1 bD.v Kp1 (fun w' hw'=>(xl (Tryz.isAgg22 _) (hw'.2.cell 1 5 (gS gZ) (by kernel_rfl)))) (qx 2 (vi i1) Kp2 (qg 3 ?_)))
    obtain ⟨a1,hv4,h⟩:=h
    refine sy (v:=(vp (some a1))) Kp3 (fun _ _=>(xi (Tryz.runUnderlying22 _) (Tryz.sizeOf49 _) hv4)) (qg 4 ?_)
    obtain ⟨aN,aO,aP,aQ,aR,bE,hv3,h⟩:=h
    refine sy (v:=(.agg #[(vi aN),(vi aO),(vi aP),(vu aQ),(vs aR),bE.v])) Kp4 (fun w' hw'=>(x_loadA (a:=a1) (vs:=[(vi aN),(vi aO),(vi aP),(vu aQ),(vs aR),bE.v]) (by kernel_rfl) (Tryz.isAgg49 _) (Tryz.sizeOf49 _) rfl (hv3 w' hw'.1))) (qx 5 (vp (some (p2.add 5))) Kp5 (qz 6 bK.v Kp6 (fun w' hw'=>(xl (Tryz.isAgg22 _) (hw'.2.cell 0 5 gZ (by kernel_rfl)))) (qx 7 (vi i1) Kp7 (qg 8 ?_))))
    obtain ⟨a2,hv2,h⟩:=h
    refine sy (v:=(vp (some a2))) Kp8 (fun _ _=>(xi (Tryz.runUnderlying22 _) (Tryz.sizeOf49 _) hv2)) (qg 9 ?_)
    obtain ⟨cJ,cK,cL,cM,cN,cO,hv1,h⟩:=h
    refine sy (v:=(.agg #[(vi cJ),(vi cK),(vi cL),(vu cM),(vs cN),cO.v])) Kp9 (fun w' hw'=>(x_loadA (a:=a2) (vs:=[(vi cJ),(vi cK),(vi cL),(vu cM),(vs cN),cO.v]) (by kernel_rfl) (Tryz.isAgg49 _) (Tryz.sizeOf49 _) rfl (hv1 w' hw'.1))) (lg 10 ?_)
    refine sl_call (pickA (S8 (pickS (pickS pickZ)))) (want0 rfl) (by kernel_rfl) (xc Tryz.call14) (h.mono ?_)
    rintro e w13 ⟨r1,rfl,hC,hk,h⟩
    refine ⟨_,rfl,.inr ⟨hC,hb.kept hk⟩,?_⟩
    obtain ⟨hs,hb⟩:=hk.hh hs hb
    refine qx 11 (vb (!r1)) (pickA (S8 (pickS (pickS (pickS pickZ))))) (wn (th_n ?_))
    refine wpE_cond (t:=(!r1)) (by kernel_rfl) (fun hc3=>?_) (fun hc3=>?_)
    ·have h:=h.1 hc3
     refine wpE_seq (rg (q0 (vb false) (wpL_nil (th_n (wpE_ret (bl_r (th_r (th_r (bl_r (th_r (rs1 Tryz.results14 (v:=(vb false)) ?_)))))))))))
     exact ⟨false,rfl,h⟩
    ·have h:=h.2 hc3
     refine wpE_skip (bl_n (th_n (rg (q0 (vi i1) (q0 (vi (q6.wrap (i1+1))) (q0 (vi (q6.wrap (i1+1))) (wpL_nil (th_n ?_))))))))
     exact ⟨((q6.wrap (i1+1)),Hl1,w13),⟨rfl,hm,hs,hb,h.1⟩,h.2⟩
   ·have h:=h.2 hc2
    refine wpE_exit (th_x (th_x (bl_eq (th_n (wpE_seq (rg (q0 (vb true) (wpL_nil (th_n (wpE_ret (rs1 Tryz.results14 (v:=(vb true)) ?_)))))))))))
    exact ⟨true,rfl,h⟩
def m_Y1 (p1:Option Addr) (t1:Int) (w0:World) (K:Bool→WP):Prop :=
 Br (decide (t1≥1))
  (∃a1:Addr,p1=some a1 ∧
  ∃v1:Sl,w0.cell? a1=some v1.v ∧
  K (decide (t1≤(v1.len:Int))) w0)
  (K false w0)
theorem w_Y1 (p1 : Option Addr) (t1 : Int) (w0 : World) (K : Bool → WP) (h : m_Y1 p1 t1 w0 K) :
  Calls Tryz.prog 60 #[(vp p1),(vi t1)] w0 (fun e w'=>∃r1:Bool,e=.returned (vb r1)∧K r1 w'):=by
 unfold m_Y1 at h
 refine cw (args:=[(vp p1),(vi t1)]) Tryz.func60 Tryz.ntmps60 (wpE_seq (rg (q0 (vb false) (wpL_nil (th_n (wpE_seq (rg (q0 (vi t1) (q0 (vb (decide (t1≥1))) (q0 (vb (decide (t1≥1))) ?_))))))))))
 rcases Bool.eq_false_or_eq_true (decide (t1≥1)) with hg1 | hg1
 ·have h:=h.1 hg1
  refine q1 (vi t1) (want1 rfl (yD 7 hg1)) (q1 (vp p1) (want1 rfl (yD 7 hg1)) ?_)
  obtain ⟨a1,hp1,h⟩:=h
  refine stp (v:=(vp (some a1))) (want1 rfl (yD 7 hg1)) (x_nilCheck (p:=p1) (by kernel_rfl) hp1) (q1 (vp (some a1)) (want1 rfl (yD 7 hg1)) ?_)
  obtain ⟨v1,hv1,h⟩:=h
  refine stp (v:=v1.v) (want1 rfl (yD 7 hg1)) (xl (Tryz.isAgg42 _) hv1) (q1 (vi (v1.len:Int)) (want1 rfl (yD 7 hg1)) (q1 (vb (decide (t1≤(v1.len:Int)))) (want1 rfl (yD 7 hg1)) (q2 (vb (decide (t1≤(v1.len:Int)))) (xT hg1) (q0 (vb (decide (t1≤(v1.len:Int)))) (wpL_nil (th_n (wpE_ret (rs1 Tryz.results60 (v:=(vb (decide (t1≤(v1.len:Int))))) ?_))))))))
  exact ⟨(decide (t1≤(v1.len:Int))),rfl,h⟩
 ·have h:=h.2 hg1
  refine sk (yD 7 hg1) (sk (yD 7 hg1) (sk (yD 7 hg1) (sk (yD 7 hg1) (sk (yD 7 hg1) (sk (yD 7 hg1) (sk (yD 7 hg1) (q2 (vb false) (xF hg1) (q0 (vb false) (wpL_nil (th_n (wpE_ret ?_)))))))))))
  refine rs1 Tryz.results60 (v:=(vb false)) ?_
  exact ⟨false,rfl,h⟩
def m_Z1 (p1:Option Addr) (t1:Int) (w0:World) (K:Int→Int→Int→Int→ByteArray→Int→Int→Bool→WP):Prop :=
 ∀(H1:NP) (w1:World),Hst w0 None w0 H1 w1 →
 Calls Tryz.prog 60 #[(vp p1),(vi t1)] w1 (fun e w2=>∃r1:Bool,e=.returned (vb r1)∧
  Kept H1 w1 w2 ∧
  Br (!r1)
   (∀(w3:World),Hst w0 H1 w2 H1 w3 →
   K 0 0 0 0 ⟨#[]⟩ 0 0 false w3)
   (∃a1:Addr,p1=some a1 ∧
   ∃v1:Sl,w2.cell? a1=some v1.v ∧
   ∃a2:Addr,At v1 (q6.wrap (t1 - 1)) 7 a2 ∧
   ∃aN aO:Int,∃aP aQ:Int,∃aR:ByteArray,∃aX aY:Int,Row w2 a2 [(vi aN),(vi aO),(vi aP),(vu aQ),(vs aR),(vi aX),(vi aY)] ∧
   ∀(w4:World),Hst w0 H1 w2 H1 w4 →
   K aN aO aP aQ aR aX aY true w4))
theorem w_Z1 (p1 : Option Addr) (t1 : Int) (w0 : World) (K : Int → Int → Int → Int → ByteArray → Int → Int → Bool → WP) (h : m_Z1 p1 t1 w0 K) :
  Calls Tryz.prog 45 #[(vp p1),(vi t1)] w0 (fun e w'=>∃aS aT:Int,∃aU aV:Int,∃aW:ByteArray,∃bL bH:Int,∃r2:Bool,e=.returned (.tuple #[(.agg #[(vi aS),(vi aT),(vi aU),(vu aV),(vs aW),(vi bL),(vi bH)]),(vb r2)])∧K aS aT aU aV aW bL bH r2 w'):=by
 unfold m_Z1 at h
 refine cw (args:=[(vp p1),(vi t1)]) Tryz.func45 Tryz.ntmps45 ?_
 have hs:=Hst.start w0
 have hb:=HB.nil None w0
 refine wpE_seq (rg (sn (O:=(.cells #[(vi 0),(vi 0),(vi 0),(vu 0),(vs ⟨#[]⟩),(vi 0),(vi 0)] 86)) (x_alloc (Tryz.zeroValue86 _) rfl) ?_))
 intro p2 w1 hn1
 obtain ⟨H1,hs,hb⟩:=hs.alloc hb hn1
 refine q0 (vb false) (wpL_nil (th_n (wpE_seq (wpE_seq (rg (q0 (vp p1) (q0 (vi t1) ?_)))))))
 have h:=h H1 w1 hs
 have hs:=hs.here
 refine sc Tryz.call60 (h.mono ?_)
 rintro e w2 ⟨r1,rfl,hk,h⟩
 refine ⟨_,rfl,?_⟩
 obtain ⟨hs,hb⟩:=hk.hh hs hb
 refine q0 (vb (!r1)) (wpL_nil (th_n ?_))
 refine wpE_cond (t:=(!r1)) (by kernel_rfl) (fun hc1=>?_) (fun hc1=>?_)
 ·have h:=h.1 hc1
  refine wpE_seq (rg (q0 (.agg #[(vi 0),(vi 0),(vi 0),(vu 0),(vs ⟨#[]⟩),(vi 0),(vi 0)]) (st_set (want0 rfl) (x_storeA (a:=p2) (vs:=[(vi 0),(vi 0),(vi 0),(vu 0),(vs ⟨#[]⟩),(vi 0),(vi 0)]) (by kernel_rfl) (by kernel_rfl) rfl (Tryz.sizeOf86 _) rfl (hb.canWs0 0 7 gZ (by kernel_rfl))) ?_)))
  intro w3 hn2
  have hsb:Hst w0 H1 w2 H1 w3∧HB H1 w3 [(p2,[(vi 0),(vi 0),(vi 0),(vu 0),(vs ⟨#[]⟩),(vi 0),(vi 0)],86)]:=by
   rw [hn2]
   exact hb.store0 (i:=0) (vs:=[(vi 0),(vi 0),(vi 0),(vu 0),(vs ⟨#[]⟩),(vi 0),(vi 0)]) hs gZ (by kernel_rfl) (by kernel_rfl)
  obtain ⟨hs,hb⟩:=hsb
  refine q0 (vb false) (wpL_nil (th_n (wpE_ret (th_r ?_))))
  have h:=h w3 hs
  have hs:=hs.here
  refine resG (.inl rfl) (vs:=[(.agg #[(vi 0),(vi 0),(vi 0),(vu 0),(vs ⟨#[]⟩),(vi 0),(vi 0)]),(vb false)]) (v:=(.tuple #[(.agg #[(vi 0),(vi 0),(vi 0),(vu 0),(vs ⟨#[]⟩),(vi 0),(vi 0)]),(vb false)])) Tryz.results45 ⟨(RV.cellA (by kernel_rfl) (Tryz.isAgg86 _) (Tryz.sizeOf86 _) rfl (hb.row0 0 7 gZ (by kernel_rfl))),(rvT (by kernel_rfl)),trivial⟩ (by kernel_rfl) ?_
  exact ⟨0,0,0,0,⟨#[]⟩,0,0,false,rfl,h⟩
 ·have h:=h.2 hc1
  refine wpE_skip (th_n (wpE_seq (rg (q0 (vp p1) ?_))))
  obtain ⟨a1,hp1,h⟩:=h
  refine q2 (vp (some a1)) (x_nilCheck (p:=p1) (by kernel_rfl) hp1) (q0 (vp (some a1)) ?_)
  obtain ⟨v1,hv3,h⟩:=h
  refine q2 v1.v (xl (Tryz.isAgg42 _) hv3) (q0 (vi t1) (q0 (vi (q6.wrap (t1 - 1))) ?_))
  obtain ⟨a2,hv2,h⟩:=h
  refine q2 (vp (some a2)) (xi (Tryz.runUnderlying42 _) (Tryz.sizeOf86 _) hv2) ?_
  obtain ⟨aN,aO,aP,aQ,aR,aX,aY,hv1,h⟩:=h
  refine q2 (.agg #[(vi aN),(vi aO),(vi aP),(vu aQ),(vs aR),(vi aX),(vi aY)]) (x_loadA (a:=a2) (vs:=[(vi aN),(vi aO),(vi aP),(vu aQ),(vs aR),(vi aX),(vi aY)]) (by kernel_rfl) (Tryz.isAgg86 _) (Tryz.sizeOf86 _) rfl hv1) (st_set (want0 rfl) (x_storeA (a:=p2) (vs:=[(vi aN),(vi aO),(vi aP),(vu aQ),(vs aR),(vi aX),(vi aY)]) (by kernel_rfl) (by kernel_rfl) rfl (Tryz.sizeOf86 _) rfl (hb.canWs0 0 7 gZ (by kernel_rfl))) ?_)
  intro w4 hn3
  have hsb:Hst w0 H1 w2 H1 w4∧HB H1 w4 [(p2,[(vi aN),(vi aO),(vi aP),(vu aQ),(vs aR),(vi aX),(vi aY)],86)]:=by
   rw [hn3]
   exact hb.store0 (i:=0) (vs:=[(vi aN),(vi aO),(vi aP),(vu aQ),(vs aR),(vi aX),(vi aY)]) hs gZ (by kernel_rfl) (by kernel_rfl)
  obtain ⟨hs,hb⟩:=hsb
  refine q0 (vb true) (wpL_nil (th_n (wpE_ret ?_)))
  have h:=h w4 hs
  have hs:=hs.here
  refine resG (.inl rfl) (vs:=[(.agg #[(vi aN),(vi aO),(vi aP),(vu aQ),(vs aR),(vi aX),(vi aY)]),(vb true)]) (v:=(.tuple #[(.agg #[(vi aN),(vi aO),(vi aP),(vu aQ),(vs aR),(vi aX),(vi aY)]),(vb true)])) Tryz.results45 ⟨(RV.cellA (by kernel_rfl) (Tryz.isAgg86 _) (Tryz.sizeOf86 _) rfl (hb.row0 0 7 gZ (by kernel_rfl))),(rvT (by kernel_rfl)),trivial⟩ (by kernel_rfl) ?_
  exact ⟨aN,aO,aP,aQ,aR,aX,aY,true,rfl,h⟩
def s_A (kind1:Int):Int :=
 (cond (kind1 == 4) 2 (cond (cond (kind1 == 5) (kind1 == 5) (cond (kind1 == 7) (kind1 == 7) (cond (kind1 == 8) (kind1 == 8) (kind1 == 9)))) 1 0))
theorem pw_A (kind1 : Int) (w0 : World) :
  Calls Tryz.prog 46 #[(vi kind1)] w0 (fun e w'=>∃b'0 b'1:Bool,((kind1 == 4)=b'0∧(cond (kind1 == 5) (kind1 == 5) (cond (kind1 == 7) (kind1 == 7) (cond (kind1 == 8) (kind1 == 8) (kind1 == 9))))=b'1)∧(e=.returned (vi (cond b'0 2 (cond b'1 1 0))))∧Pure w0 w'):=by
 refine cw (args:=[(vi kind1)]) Tryz.func46 Tryz.ntmps46 (wpE_seq (rg (q0 (vi 0) (wpL_nil (th_n (wpE_seq (wpE_seq (rg (q0 (vi kind1) (wpL_nil (th_n ?_)))))))))))
 refine wpE_block (wpE_seq (rg (q0 (vb (kind1 == 4)) (q0 (vb (kind1 == 4)) (wpL_nil (th_n ?_))))))
 refine wpE_cond (t:=(kind1 == 4)) (by kernel_rfl) (fun hc1=>?_) (fun hc1=>?_)
 ·refine wpE_seq (rg (q0 (vi 2) (wpL_nil (th_n (wpE_ret (bl_r (th_r (rs1 Tryz.results46 (v:=(vi 2)) ?_))))))))
  exact ⟨true,_,⟨hc1,rfl⟩,by kernel_rfl,Ext.refl _⟩
 ·refine wpE_seq (wpE_seq (rg (q0 (vb (kind1 == 5)) (q0 (vb (kind1 == 5)) (wpL_nil (th_n ?_))))))
  refine wpE_via (fun ρ wJ=>∃b1'0 b1'1 b1'2:Bool,((kind1 == 5)=b1'0)∧((kind1 == 7)=b1'1)∧((kind1 == 8)=b1'2)∧w0=wJ∧Has ρ [(6,(vb (cond b1'0 (kind1 == 5) (cond b1'1 (kind1 == 7) (cond b1'2 (kind1 == 8) (kind1 == 9))))))]) ?_ ?_
  ·refine wpE_cond (t:=(kind1 == 5)) (by kernel_rfl) (fun hc5=>?_) (fun hc5=>?_)
   ·refine wpE_skip (th_n ?_)
    exact ⟨true,_,_,hc5,rfl,rfl,rfl,hm⟩
   ·refine wpE_seq (rg (q0 (vb (kind1 == 7)) (q0 (vb (kind1 == 7)) (wpL_nil (th_n ?_)))))
    refine wpE_cond (t:=(kind1 == 7)) (by kernel_rfl) (fun hc6=>?_) (fun hc6=>?_)
    ·refine wpE_skip (th_n ?_)
     exact ⟨false,true,_,hc5,hc6,rfl,rfl,hm⟩
    ·refine wpE_seq (rg (q0 (vb (kind1 == 8)) (q0 (vb (kind1 == 8)) (wpL_nil (th_n ?_)))))
     refine wpE_cond (t:=(kind1 == 8)) (by kernel_rfl) (fun hc7=>?_) (fun hc7=>?_)
     ·refine wpE_skip (th_n ?_)
      exact ⟨false,false,true,hc5,hc6,hc7,rfl,hm⟩
     ·refine rg (q0 (vb (kind1 == 9)) (q0 (vb (kind1 == 9)) (wpL_nil (th_n ?_))))
      exact ⟨false,false,false,hc5,hc6,hc7,rfl,hm⟩
  ·rintro ρ w1 ⟨b1'0,b1'1,b1'2,he0,he1,he2,hw,hH⟩
   subst he0
   subst he1
   subst he2
   subst hw
   refine norm_has hH ?_
   refine th_n ?_
   refine wpE_cond (t:=(cond (kind1 == 5) (kind1 == 5) (cond (kind1 == 7) (kind1 == 7) (cond (kind1 == 8) (kind1 == 8) (kind1 == 9))))) (by kernel_rfl) (fun hc8=>?_) (fun hc8=>?_)
   ·refine wpE_seq (rg (q0 (vi 1) (wpL_nil (th_n (wpE_ret (bl_r (th_r (rs1 Tryz.results46 (v:=(vi 1)) ?_))))))))
    exact ⟨false,true,⟨hc1,hc8⟩,by kernel_rfl,Ext.refl _⟩
   ·refine wpE_skip (bl_n (th_n (wpE_seq (rg (q0 (vi 0) (wpL_nil (th_n (wpE_ret (rs1 Tryz.results46 (v:=(vi 0)) ?_)))))))))
    exact ⟨false,false,⟨hc1,hc8⟩,by kernel_rfl,Ext.refl _⟩
theorem p_A (kind1:Int) (w0:World):Calls Tryz.prog 46 #[(.int .i64 kind1)] w0 (fun e w'=>e=.returned (.int .i64 (s_A kind1))∧Pure w0 w'):=by
 refine (pw_A kind1 w0).mono ?_
 rintro e w' ⟨b'0,b'1,⟨e0,e1⟩,h,E⟩
 subst e0
 subst e1
 exact ⟨h,E⟩
def m_R_j1 (p1:Option Addr) (aS bH:Int) (aD aE:Int) (aF aG:Int) (aH:ByteArray) (aI:Sl) (w0:World) (H:NP) (w:World) (K:Int→Int→Int→Int→ByteArray→Sl→WP):Prop :=
 Br (((s_A aS):Int) == 2)
  (∀(w9:World),Hst w0 H w H w9 →
  ∃C1:WP,C1 w9.drew∧∀w10,w10=w9.drew →
  Calls Tryz.prog 16 #[(vp p1),(vi bH)] w10 (fun e w11=>∃bW bX:Int,∃bY bZ:Int,∃cA:ByteArray,∃bV:Sl,e=.returned (.agg #[(vi bW),(vi bX),(vi bY),(vu bZ),(vs cA),bV.v])∧C1 w11∧
   Kept H w10 w11 ∧
   ∀(p5:Addr) (w12:World),New w11 (.cells #[(vi bW),(vi bX),(vi bY),(vu bZ),(vs cA),bV.v] 49) p5 w12→C1 w12 ∧
   ∃s1:Sl,∃w13:World,(Builtin.append_ #[22,22] 22 #[aI.v,(Sl.mk (some p5) 1 1).v]).run Tryz.prog w12=.ok s1.v w13∧C1 w13 ∧
   Kept H w12 w13 ∧
   ∀(w15:World),Hst w0 H w13 H w15 →
   K aD aE aF aG aH s1 w15))
  (∀(w16:World),Hst w0 H w H w16 →
  K aD aE aF aG aH aI w16)
def m_R (p1:Option Addr) (t1:Int) (w0:World) (K:Int→Int→Int→Int→ByteArray→Sl→WP):Prop :=
 ∀(H1:NP) (w1:World),Hst w0 None w0 H1 w1 →
 Calls Tryz.prog 45 #[(vp p1),(vi t1)] w1 (fun e w2=>∃aS aT:Int,∃aU aV:Int,∃aW:ByteArray,∃bL bH:Int,∃r1:Bool,e=.returned (.tuple #[(.agg #[(vi aS),(vi aT),(vi aU),(vu aV),(vs aW),(vi bL),(vi bH)]),(vb r1)])∧
  Kept H1 w1 w2 ∧
  Br (!r1)
   (∀(H2:NP) (w5:World),Hst w0 H1 w2 H2 w5 →
   K 0 0 0 0 ⟨#[]⟩ Sl.nil w5)
   (Br (decide ((s_A aS)≥1))
    (∀(H3:NP) (w8:World),Hst w0 H1 w2 H3 w8 →
    ∃C2:WP,C2 w8.drew∧∀w17,w17=w8.drew →
    Calls Tryz.prog 16 #[(vp p1),(vi bL)] w17 (fun e w18=>∃cP cQ:Int,∃cR cS:Int,∃cT:ByteArray,∃cB:Sl,e=.returned (.agg #[(vi cP),(vi cQ),(vi cR),(vu cS),(vs cT),cB.v])∧C2 w18∧
     Kept H3 w17 w18 ∧
     ∀(p6:Addr) (w19:World),New w18 (.cells #[(vi cP),(vi cQ),(vi cR),(vu cS),(vs cT),cB.v] 49) p6 w19→C2 w19 ∧
     ∃s2:Sl,∃w20:World,(Builtin.append_ #[22,22] 22 #[Sl.nil.v,(Sl.mk (some p6) 1 1).v]).run Tryz.prog w19=.ok s2.v w20∧C2 w20 ∧
     Kept H3 w19 w20 ∧
     ∀(w21:World),Hst w0 H3 w20 H3 w21 →
     m_R_j1 p1 aS bH aS aT aU aV aW s2 w0 H3 w21 K))
    (∀(H3:NP) (w8:World),Hst w0 H1 w2 H3 w8 →
    m_R_j1 p1 aS bH aS aT aU aV aW Sl.nil w0 H3 w8 K)))
theorem w_R (p1 : Option Addr) (t1 : Int) (w0 : World) (K : Int → Int → Int → Int → ByteArray → Sl → WP) (h : m_R p1 t1 w0 K) :
  Calls Tryz.prog 16 #[(vp p1),(vi t1)] w0 (fun e w'=>∃cU cV:Int,∃cW cX:Int,∃cY:ByteArray,∃cZ:Sl,e=.returned (.agg #[(vi cU),(vi cV),(vi cW),(vu cX),(vs cY),cZ.v])∧K cU cV cW cX cY cZ w'):=by
 unfold m_R at h
 refine cw (args:=[(vp p1),(vi t1)]) Tryz.func16 Tryz.ntmps16 ?_
 have hs:=Hst.start w0
 have hb:=HB.nil None w0
 refine wpE_seq (rg (sn (O:=(.cells #[(vi 0),(vi 0),(vi 0),(vu 0),(vs ⟨#[]⟩),Sl.nil.v] 49)) (x_alloc (Tryz.zeroValue49 _) rfl) ?_))
 intro p2 w1 hn1
 obtain ⟨H1,hs,hb⟩:=hs.alloc hb hn1
 refine wpL_nil (th_n (wpE_seq (rg (q0 (vp p1) (q0 (vi t1) ?_)))))
 have h:=h H1 w1 hs
 have hs:=hs.here
 refine sc Tryz.call45 (h.mono ?_)
 rintro e w2 ⟨aS,aT,aU,aV,aW,bL,bH,r1,rfl,hk,h⟩
 refine ⟨_,rfl,?_⟩
 obtain ⟨hs,hb⟩:=hk.hh hs hb
 refine q0 (.tuple #[(.agg #[(vi aS),(vi aT),(vi aU),(vu aV),(vs aW),(vi bL),(vi bH)]),(vb r1)]) (q0 (.agg #[(vi aS),(vi aT),(vi aU),(vu aV),(vs aW),(vi bL),(vi bH)]) (q0 (vb r1) (sn (O:=(.cells #[(vi 0),(vi 0),(vi 0),(vu 0),(vs ⟨#[]⟩),(vi 0),(vi 0)] 86)) (x_alloc (Tryz.zeroValue86 _) rfl) ?_)))
 intro p3 w3 hn2
 obtain ⟨H2,hs,hb⟩:=hs.alloc hb hn2
 refine st_set (want0 rfl) (x_storeA (a:=p3) (vs:=[(vi aS),(vi aT),(vi aU),(vu aV),(vs aW),(vi bL),(vi bH)]) (by kernel_rfl) (by kernel_rfl) rfl (Tryz.sizeOf86 _) rfl (hb.canWs0 0 7 gZ (by kernel_rfl))) ?_
 intro w4 hn3
 have hsb:Hst w0 H1 w2 H2 w4∧HB H2 w4 [(p3,[(vi aS),(vi aT),(vi aU),(vu aV),(vs aW),(vi bL),(vi bH)],86),(p2,[(vi 0),(vi 0),(vi 0),(vu 0),(vs ⟨#[]⟩),Sl.nil.v],49)]:=by
  rw [hn3]
  exact hb.store0 (i:=0) (vs:=[(vi aS),(vi aT),(vi aU),(vu aV),(vs aW),(vi bL),(vi bH)]) hs gZ (by kernel_rfl) (by kernel_rfl)
 obtain ⟨hs,hb⟩:=hsb
 refine q0 (vb r1) (wpL_nil (th_n (wpE_seq (wpE_seq (rg (q0 (vb r1) (q0 (vb (!r1)) (wpL_nil (th_n ?_)))))))))
 refine wpE_cond (t:=(!r1)) (by kernel_rfl) (fun hc1=>?_) (fun hc1=>?_)
 ·have h:=h.1 hc1
  refine wpE_seq (rg (q0 (.agg #[(vi 0),(vi 0),(vi 0),(vu 0),(vs ⟨#[]⟩),Sl.nil.v]) (st_set (want0 rfl) (x_storeA (a:=p2) (vs:=[(vi 0),(vi 0),(vi 0),(vu 0),(vs ⟨#[]⟩),Sl.nil.v]) (by kernel_rfl) (by kernel_rfl) rfl (Tryz.sizeOf49 _) rfl (hb.canWs0 1 6 (gS gZ) (by kernel_rfl))) ?_)))
  intro w5 hn4
  have hsb:Hst w0 H1 w2 H2 w5∧HB H2 w5 [(p3,[(vi aS),(vi aT),(vi aU),(vu aV),(vs aW),(vi bL),(vi bH)],86),(p2,[(vi 0),(vi 0),(vi 0),(vu 0),(vs ⟨#[]⟩),Sl.nil.v],49)]:=by
   rw [hn4]
   exact hb.store0 (i:=1) (vs:=[(vi 0),(vi 0),(vi 0),(vu 0),(vs ⟨#[]⟩),Sl.nil.v]) hs (gS gZ) (by kernel_rfl) (by kernel_rfl)
  obtain ⟨hs,hb⟩:=hsb
  refine wpL_nil (th_n (wpE_ret (th_r ?_)))
  have h:=h H2 w5 hs
  have hs:=hs.here
  refine resG (.inl rfl) (vs:=[(.agg #[(vi 0),(vi 0),(vi 0),(vu 0),(vs ⟨#[]⟩),Sl.nil.v])]) (v:=(.agg #[(vi 0),(vi 0),(vi 0),(vu 0),(vs ⟨#[]⟩),Sl.nil.v])) Tryz.results16 ⟨(RV.cellA (by kernel_rfl) (Tryz.isAgg49 _) (Tryz.sizeOf49 _) rfl (hb.row0 1 6 (gS gZ) (by kernel_rfl))),trivial⟩ (by kernel_rfl) ?_
  exact ⟨0,0,0,0,⟨#[]⟩,Sl.nil,rfl,h⟩
 ·have h:=h.2 hc1
  refine wpE_skip (th_n (wpE_seq (rg (q0 (vp (some p3)) (q2 (vi aS) (xl (Tryz.isAgg3 _) (hb.c0 0 gZ)) (q0 (vp (some (p3.add 1))) (q2 (vi aT) (xl (Tryz.isAgg3 _) (hb.c 0 1 gZ)) (q0 (vp (some (p3.add 2))) (q2 (vi aU) (xl (Tryz.isAgg3 _) (hb.c 0 2 gZ)) (q0 (vp (some (p3.add 3))) (q2 (vu aV) (xl (Tryz.isAgg47 _) (hb.c 0 3 gZ)) ?_)))))))))))
  refine q0 (vp (some (p3.add 4))) (q2 (vs aW) (xl (Tryz.isAgg9 _) (hb.c 0 4 gZ)) (q0 (.agg #[(vi aS),(vi aT),(vi aU),(vu aV),(vs aW),Sl.nil.v]) (sn (O:=(.cells #[(vi 0),(vi 0),(vi 0),(vu 0),(vs ⟨#[]⟩),Sl.nil.v] 49)) (x_alloc (Tryz.zeroValue49 _) rfl) ?_)))
  intro p4 w6 hn5
  obtain ⟨H3,hs,hb⟩:=hs.alloc hb hn5
  refine st_set (want0 rfl) (x_storeA (a:=p4) (vs:=[(vi aS),(vi aT),(vi aU),(vu aV),(vs aW),Sl.nil.v]) (by kernel_rfl) (by kernel_rfl) rfl (Tryz.sizeOf49 _) rfl (hb.canWs0 0 6 gZ (by kernel_rfl))) ?_
  intro w7 hn6
  have hsb:Hst w0 H1 w2 H3 w7∧HB H3 w7 [(p4,[(vi aS),(vi aT),(vi aU),(vu aV),(vs aW),Sl.nil.v],49),(p3,[(vi aS),(vi aT),(vi aU),(vu aV),(vs aW),(vi bL),(vi bH)],86),(p2,[(vi 0),(vi 0),(vi 0),(vu 0),(vs ⟨#[]⟩),Sl.nil.v],49)]:=by
   rw [hn6]
   exact hb.store0 (i:=0) (vs:=[(vi aS),(vi aT),(vi aU),(vu aV),(vs aW),Sl.nil.v]) hs gZ (by kernel_rfl) (by kernel_rfl)
  obtain ⟨hs,hb⟩:=hsb
  refine wpL_nil (th_n (wpE_seq (wpE_seq (rg (q0 (vp (some p3)) (q2 (vi aS) (xl (Tryz.isAgg3 _) (hb.c0 1 (gS gZ))) ?_))))))
  refine sc Tryz.call46 ((p_A aS w7).mono ?_)
  rintro e w8 ⟨he,hE⟩
  refine ⟨(vi (s_A aS)),he.trans (by kernel_rfl),?_⟩
  have hs:=hs.pure hE
  have hb:=hb.pure hE
  refine q0 (vb (decide ((s_A aS)≥1))) (wpL_nil (th_n ?_))
  refine wpE_joinT (fun ρ w=>∃aD aE:Int,∃aF aG:Int,∃aH:ByteArray,∃aI:Sl,∃H:NP,Has ρ [(0,(vp p1)),(4,(vp (some p2))),(5,(vp (some p3))),(7,(vp (some p4)))]∧Hst w0 H w H w∧HB H w [(p4,[(vi aD),(vi aE),(vi aF),(vu aG),(vs aH),aI.v],49),(p3,[(vi aS),(vi aT),(vi aU),(vu aV),(vs aW),(vi bL),(vi bH)],86),(p2,[(vi 0),(vi 0),(vi 0),(vu 0),(vs ⟨#[]⟩),Sl.nil.v],49)]∧m_R_j1 p1 aS bH aD aE aF aG aH aI w0 H w K) ?_ ?_
  ·rintro ρ w ⟨aD,aE,aF,aG,aH,aI,H,hH,hs,hb,h⟩
   unfold m_R_j1 at h
   refine wpE_has hH ?_
   refine wpE_seq (wpE_seq (rg (q0 (vp (some p3)) (q2 (vi aS) (xl (Tryz.isAgg3 _) (hb.c0 1 (gS gZ))) ?_))))
   refine sc Tryz.call46 ((p_A aS w).mono ?_)
   rintro e w9 ⟨he,hE⟩
   refine ⟨(vi (s_A aS)),he.trans (by kernel_rfl),?_⟩
   have hs:=hs.pure hE
   have hb:=hb.pure hE
   refine q0 (vb (((s_A aS):Int) == 2)) (wpL_nil (th_n ?_))
   refine wpE_cond (t:=(((s_A aS):Int) == 2)) (by kernel_rfl) (fun hc2=>?_) (fun hc2=>?_)
   ·have h:=h.1 hc2
    have h:=h w9 hs
    have hs:=hs.here
    obtain ⟨C1,hC,h⟩:=h
    refine wpE_drawnC (fun x=>C1 x∧HB H x [(p4,[(vi aD),(vi aE),(vi aF),(vu aG),(vs aH),aI.v],49),(p3,[(vi aS),(vi aT),(vi aU),(vu aV),(vs aW),(vi bL),(vi bH)],86),(p2,[(vi 0),(vi 0),(vi 0),(vu 0),(vs ⟨#[]⟩),Sl.nil.v],49)]) [5,6,7,9] [9] (by kernel_rfl) (by kernel_rfl) (by kernel_rfl) (by kernel_rfl) ⟨hC,hb.drew⟩ ?_
    intro w10 hw10
    have h:=h w10 hw10
    have hs:Hst w0 H w9 H w10:=by rw [hw10];exact hs.drew
    have hb:HB H w10 [(p4,[(vi aD),(vi aE),(vi aF),(vu aG),(vs aH),aI.v],49),(p3,[(vi aS),(vi aT),(vi aU),(vu aV),(vs aW),(vi bL),(vi bH)],86),(p2,[(vi 0),(vi 0),(vi 0),(vu 0),(vs ⟨#[]⟩),Sl.nil.v],49)]:=by rw [hw10];exact hb.drew
    have hs:=hs.here
    refine qx 0 (vp (some (p4.add 5))) Kp0 (qz 1 aI.v Kp1 (fun w' hw'=>(xl (Tryz.isAgg22 _) (hw'.2.cell 0 5 gZ (by kernel_rfl)))) (qx 2 (vp p1) Kp2 (qx 3 (vp (some (p3.add 6))) Kp3 (qz 4 (vi bH) Kp4 (fun w' hw'=>(xl (Tryz.isAgg30 _) (hw'.2.cell 1 6 (gS gZ) (by kernel_rfl)))) (lg 5 ?_)))))
    refine sl_call Kp5 (want0 rfl) (by kernel_rfl) (xc Tryz.call16) (h.mono ?_)
    rintro e w11 ⟨bW,bX,bY,bZ,cA,bV,rfl,hC,hk,h⟩
    refine ⟨_,rfl,.inr ⟨hC,hb.kept hk⟩,?_⟩
    obtain ⟨hs,hb⟩:=hk.hh hs hb
    refine lg 6 (sl_new (O:=(.cells #[(vi bW),(vi bX),(vi bY),(vu bZ),(vs cA),bV.v] 49)) (fun p=>(Sl.mk (some p) 1 1).v) Kp6 (want0 rfl) (by kernel_rfl) (x_buildSlice (vs:=#[(0,(.agg #[(vi bW),(vi bX),(vi bY),(vu bZ),(vs cA),bV.v]))]) (by kernel_rfl) (by kernel_rfl)) ?_)
    intro p5 w12 hn9
    have h:=h p5 w12 hn9
    refine ⟨.inr ⟨h.1,hb.kept (Ext.new (F:=None) hn9).keptP⟩,?_⟩
    have h:=h.2
    have hs:=hs.again (Ext.new (F:=None) hn9).keptP
    have hb:=hb.kept (Ext.new (F:=None) hn9).keptP
    refine lg 7 ?_
    obtain ⟨s1,w13,hv1,hC,hk,h⟩:=h
    refine sl (v:=s1.v) Kp7 (want0 rfl) (by kernel_rfl) (x_builtin (args:=#[aI.v,(Sl.mk (some p5) 1 1).v]) (by kernel_rfl) (fun _=>rfl) hv1) (.inr ⟨hC,hb.kept hk⟩) ?_
    obtain ⟨hs,hb⟩:=hk.hh hs hb
    refine qx 8 (vp (some (p4.add 5))) Kp8 (lg 9 (sl_t Kp9 (xs (v:=s1.v) (Tryz.sizeOf22 _) (hb.canW 0 5 gZ (by kernel_rfl))) ?_))
    intro w14 hn7
    have hsb:Hst w0 H w13 H w14∧HB H w14 [(p4,[(vi aD),(vi aE),(vi aF),(vu aG),(vs aH),s1.v],49),(p3,[(vi aS),(vi aT),(vi aU),(vu aV),(vs aW),(vi bL),(vi bH)],86),(p2,[(vi 0),(vi 0),(vi 0),(vu 0),(vs ⟨#[]⟩),Sl.nil.v],49)]:=by
     rw [hn7]
     exact hb.set (i:=0) 5 (v:=s1.v) hs gZ (by kernel_rfl)
    obtain ⟨hs,hb⟩:=hsb
    refine ⟨.inl (by kernel_rfl),?_⟩
    refine wn (th_n (wpE_seq (rg (q2 (.agg #[(vi aD),(vi aE),(vi aF),(vu aG),(vs aH),s1.v]) (x_loadA (a:=p4) (vs:=[(vi aD),(vi aE),(vi aF),(vu aG),(vs aH),s1.v]) (by kernel_rfl) (Tryz.isAgg49 _) (Tryz.sizeOf49 _) rfl (hb.row0 0 6 gZ (by kernel_rfl))) (st_set (want0 rfl) (x_storeA (a:=p2) (vs:=[(vi aD),(vi aE),(vi aF),(vu aG),(vs aH),s1.v]) (by kernel_rfl) (by kernel_rfl) rfl (Tryz.sizeOf49 _) rfl (hb.canWs0 2 6 (gS (gS gZ)) (by kernel_rfl))) ?_)))))
    intro w15 hn8
    have hsb:Hst w0 H w13 H w15∧HB H w15 [(p4,[(vi aD),(vi aE),(vi aF),(vu aG),(vs aH),s1.v],49),(p3,[(vi aS),(vi aT),(vi aU),(vu aV),(vs aW),(vi bL),(vi bH)],86),(p2,[(vi aD),(vi aE),(vi aF),(vu aG),(vs aH),s1.v],49)]:=by
     rw [hn8]
     exact hb.store0 (i:=2) (vs:=[(vi aD),(vi aE),(vi aF),(vu aG),(vs aH),s1.v]) hs (gS (gS gZ)) (by kernel_rfl) (by kernel_rfl)
    obtain ⟨hs,hb⟩:=hsb
    refine wpL_nil (th_n (wpE_ret ?_))
    have h:=h w15 hs
    have hs:=hs.here
    refine resG (.inl rfl) (vs:=[(.agg #[(vi aD),(vi aE),(vi aF),(vu aG),(vs aH),s1.v])]) (v:=(.agg #[(vi aD),(vi aE),(vi aF),(vu aG),(vs aH),s1.v])) Tryz.results16 ⟨(RV.cellA (by kernel_rfl) (Tryz.isAgg49 _) (Tryz.sizeOf49 _) rfl (hb.row0 2 6 (gS (gS gZ)) (by kernel_rfl))),trivial⟩ (by kernel_rfl) ?_
    exact ⟨aD,aE,aF,aG,aH,s1,rfl,h⟩
   ·have h:=h.2 hc2
    refine wpE_skip (th_n (wpE_seq (rg (q2 (.agg #[(vi aD),(vi aE),(vi aF),(vu aG),(vs aH),aI.v]) (x_loadA (a:=p4) (vs:=[(vi aD),(vi aE),(vi aF),(vu aG),(vs aH),aI.v]) (by kernel_rfl) (Tryz.isAgg49 _) (Tryz.sizeOf49 _) rfl (hb.row0 0 6 gZ (by kernel_rfl))) (st_set (want0 rfl) (x_storeA (a:=p2) (vs:=[(vi aD),(vi aE),(vi aF),(vu aG),(vs aH),aI.v]) (by kernel_rfl) (by kernel_rfl) rfl (Tryz.sizeOf49 _) rfl (hb.canWs0 2 6 (gS (gS gZ)) (by kernel_rfl))) ?_)))))
    intro w16 hn10
    have hsb:Hst w0 H w H w16∧HB H w16 [(p4,[(vi aD),(vi aE),(vi aF),(vu aG),(vs aH),aI.v],49),(p3,[(vi aS),(vi aT),(vi aU),(vu aV),(vs aW),(vi bL),(vi bH)],86),(p2,[(vi aD),(vi aE),(vi aF),(vu aG),(vs aH),aI.v],49)]:=by
     rw [hn10]
     exact hb.store0 (i:=2) (vs:=[(vi aD),(vi aE),(vi aF),(vu aG),(vs aH),aI.v]) hs (gS (gS gZ)) (by kernel_rfl) (by kernel_rfl)
    obtain ⟨hs,hb⟩:=hsb
    refine wpL_nil (th_n (wpE_ret ?_))
    have h:=h w16 hs
    have hs:=hs.here
    refine resG (.inl rfl) (vs:=[(.agg #[(vi aD),(vi aE),(vi aF),(vu aG),(vs aH),aI.v])]) (v:=(.agg #[(vi aD),(vi aE),(vi aF),(vu aG),(vs aH),aI.v])) Tryz.results16 ⟨(RV.cellA (by kernel_rfl) (Tryz.isAgg49 _) (Tryz.sizeOf49 _) rfl (hb.row0 2 6 (gS (gS gZ)) (by kernel_rfl))),trivial⟩ (by kernel_rfl) ?_
    exact ⟨aD,aE,aF,aG,aH,aI,rfl,h⟩
  ·refine wpE_cond (t:=(decide ((s_A aS)≥1))) (by kernel_rfl) (fun hc3=>?_) (fun hc3=>?_)
   ·have h:=h.1 hc3
    have h:=h H3 w8 hs
    have hs:=hs.here
    obtain ⟨C2,hC,h⟩:=h
    refine wpE_drawnC (fun x=>C2 x∧HB H3 x [(p4,[(vi aS),(vi aT),(vi aU),(vu aV),(vs aW),Sl.nil.v],49),(p3,[(vi aS),(vi aT),(vi aU),(vu aV),(vs aW),(vi bL),(vi bH)],86),(p2,[(vi 0),(vi 0),(vi 0),(vu 0),(vs ⟨#[]⟩),Sl.nil.v],49)]) [5,6,7,9] [9] (by kernel_rfl) (by kernel_rfl) (by kernel_rfl) (by kernel_rfl) ⟨hC,hb.drew⟩ ?_
    intro w17 hw17
    have h:=h w17 hw17
    have hs:Hst w0 H3 w8 H3 w17:=by rw [hw17];exact hs.drew
    have hb:HB H3 w17 [(p4,[(vi aS),(vi aT),(vi aU),(vu aV),(vs aW),Sl.nil.v],49),(p3,[(vi aS),(vi aT),(vi aU),(vu aV),(vs aW),(vi bL),(vi bH)],86),(p2,[(vi 0),(vi 0),(vi 0),(vu 0),(vs ⟨#[]⟩),Sl.nil.v],49)]:=by rw [hw17];exact hb.drew
    have hs:=hs.here
    refine qx 0 (vp (some (p4.add 5))) Kp0 (qz 1 Sl.nil.v Kp1 (fun w' hw'=>(xl (Tryz.isAgg22 _) (hw'.2.cell 0 5 gZ (by kernel_rfl)))) (qx 2 (vp p1) Kp2 (qx 3 (vp (some (p3.add 5))) Kp3 (qz 4 (vi bL) Kp4 (fun w' hw'=>(xl (Tryz.isAgg30 _) (hw'.2.cell 1 5 (gS gZ) (by kernel_rfl)))) (lg 5 ?_)))))
    refine sl_call Kp5 (want0 rfl) (by kernel_rfl) (xc Tryz.call16) (h.mono ?_)
    rintro e w18 ⟨cP,cQ,cR,cS,cT,cB,rfl,hC,hk,h⟩
    refine ⟨_,rfl,.inr ⟨hC,hb.kept hk⟩,?_⟩
    obtain ⟨hs,hb⟩:=hk.hh hs hb
    refine lg 6 (sl_new (O:=(.cells #[(vi cP),(vi cQ),(vi cR),(vu cS),(vs cT),cB.v] 49)) (fun p=>(Sl.mk (some p) 1 1).v) Kp6 (want0 rfl) (by kernel_rfl) (x_buildSlice (vs:=#[(0,(.agg #[(vi cP),(vi cQ),(vi cR),(vu cS),(vs cT),cB.v]))]) (by kernel_rfl) (by kernel_rfl)) ?_)
    intro p6 w19 hn12
    have h:=h p6 w19 hn12
    refine ⟨.inr ⟨h.1,hb.kept (Ext.new (F:=None) hn12).keptP⟩,?_⟩
    have h:=h.2
    have hs:=hs.again (Ext.new (F:=None) hn12).keptP
    have hb:=hb.kept (Ext.new (F:=None) hn12).keptP
    refine lg 7 ?_
    obtain ⟨s2,w20,hv2,hC,hk,h⟩:=h
    refine sl (v:=s2.v) Kp7 (want0 rfl) (by kernel_rfl) (x_builtin (args:=#[Sl.nil.v,(Sl.mk (some p6) 1 1).v]) (by kernel_rfl) (fun _=>rfl) hv2) (.inr ⟨hC,hb.kept hk⟩) ?_
    obtain ⟨hs,hb⟩:=hk.hh hs hb
    refine qx 8 (vp (some (p4.add 5))) Kp8 (lg 9 (sl_t Kp9 (xs (v:=s2.v) (Tryz.sizeOf22 _) (hb.canW 0 5 gZ (by kernel_rfl))) ?_))
    intro w21 hn11
    have hsb:Hst w0 H3 w20 H3 w21∧HB H3 w21 [(p4,[(vi aS),(vi aT),(vi aU),(vu aV),(vs aW),s2.v],49),(p3,[(vi aS),(vi aT),(vi aU),(vu aV),(vs aW),(vi bL),(vi bH)],86),(p2,[(vi 0),(vi 0),(vi 0),(vu 0),(vs ⟨#[]⟩),Sl.nil.v],49)]:=by
     rw [hn11]
     exact hb.set (i:=0) 5 (v:=s2.v) hs gZ (by kernel_rfl)
    obtain ⟨hs,hb⟩:=hsb
    refine ⟨.inl (by kernel_rfl),?_⟩
    refine wn ?_
    have h:=h w21 hs
    have hs:=hs.here
    refine th_n ?_
    exact ⟨aS,aT,aU,aV,aW,s2,H3,hm,hs,hb,h⟩
   ·have h:=h.2 hc3
    refine wpE_skip ?_
    have h:=h H3 w8 hs
    have hs:=hs.here
    refine th_n ?_
    exact ⟨aS,aT,aU,aV,aW,Sl.nil,H3,hm,hs,hb,h⟩
def m_Z_l1 (aI:Sl) (most1 n1 i1:Int) (w0:World) (Hl1:NP) (wl1:World) (Kc1:Int→Int→NP→WP) (K:Int→WP):Prop :=
 Br ((decide (i1<(aI.len:Int))) && (decide (n1≤most1)))
  (∃a1:Addr,At aI i1 6 a1 ∧
  ∀(H2:NP) (w2:World),Hst w0 Hl1 wl1 H2 w2 →
  ∃aN aO:Int,∃aP aQ:Int,∃aR:ByteArray,∃bE:Sl,Row w2 a1 [(vi aN),(vi aO),(vi aP),(vu aQ),(vs aR),bE.v] ∧
  Calls Tryz.prog 26 #[(.agg #[(vi aN),(vi aO),(vi aP),(vu aQ),(vs aR),bE.v]),(vi (q6.wrap (most1 - n1)))] w2 (fun e w3=>∃r1:Int,e=.returned (vi r1)∧
   Kept H2 w2 w3 ∧
   Kc1 (q6.wrap (n1+r1)) (q6.wrap (i1+1)) H2 w3))
  (∀(H2:NP) (w2:World),Hst w0 Hl1 wl1 H2 w2 →
  K n1 w2)
def m_Z (aD aE:Int) (aF aG:Int) (aH:ByteArray) (aI:Sl) (most1:Int) (w0:World) (K:Int→WP):Prop :=
 ∀(H1:NP) (w1:World),Hst w0 None w0 H1 w1 →
 ∃(I1:Int→Int→NP→WP) (mu1:Int→Int→World→Nat),I1 1 0 H1 w1 ∧
  ∀(n1 i1:Int) (Hl1:NP) (wl1:World),Hst w0 Hl1 wl1 Hl1 wl1→I1 n1 i1 Hl1 wl1→m_Z_l1 aI most1 n1 i1 w0 Hl1 wl1 (fun y'0 y'1 H' w'=>I1 y'0 y'1 H' w'∧mu1 y'0 y'1 w'<mu1 n1 i1 wl1) K
theorem w_Z (aD aE : Int) (aF aG : Int) (aH : ByteArray) (aI : Sl) (most1 : Int) (w0 : World) (K : Int → WP) (h : m_Z aD aE aF aG aH aI most1 w0 K) :
  Calls Tryz.prog 26 #[(.agg #[(vi aD),(vi aE),(vi aF),(vu aG),(vs aH),aI.v]),(vi most1)] w0 (fun e w'=>∃r2:Int,e=.returned (vi r2)∧K r2 w'):=by
 unfold m_Z at h
 refine cw (args:=[(.agg #[(vi aD),(vi aE),(vi aF),(vu aG),(vs aH),aI.v]),(vi most1)]) Tryz.func26 Tryz.ntmps26 ?_
 have hs:=Hst.start w0
 have hb:=HB.nil None w0
 refine wpE_seq (rg (sn (O:=(.cells #[(vi aD),(vi aE),(vi aF),(vu aG),(vs aH),aI.v] 49)) xb ?_))
 intro p1 w1 hn1
 obtain ⟨H1,hs,hb⟩:=hs.alloc hb hn1
 refine q0 (vi 0) (wpL_nil (th_n (wpE_seq (rg (q0 (vi 1) (wpL_nil (th_n (wpE_seq (wpE_seq (rg (q0 (vi 0) ?_)))))))))))
 refine wpL_nil (th_n (wpE_block ?_))
 have h:=h H1 w1 hs
 have hs:=hs.here
 obtain ⟨I1,mu1,h0,hr⟩:=h
 refine wpE_loop (σ:=Int×Int×NP×World) (fun s ρ w=>w=s.2.2.2∧Has ρ [(1,(vi most1)),(2,(vp (some p1))),(5,(vi s.1)),(6,(vi s.2.1))]∧Hst w0 s.2.2.1 w s.2.2.1 w∧HB s.2.2.1 w [(p1,[(vi aD),(vi aE),(vi aF),(vu aG),(vs aH),aI.v],49)]∧I1 s.1 s.2.1 s.2.2.1 s.2.2.2) (fun s=>mu1 s.1 s.2.1 s.2.2.2) (1,0,H1,w1) ⟨rfl,hm,hs,hb,h0⟩ ?_
 rintro ⟨n1,i1,Hl1,wl1⟩ ρ w ⟨hw,hH,hs,hb,hI⟩
 obtain rfl:wl1=w:=(show w=wl1 from hw).symm
 have hH:Has ρ [(1,(vi most1)),(2,(vp (some p1))),(5,(vi n1)),(6,(vi i1))]:=hH
 have hs:Hst w0 Hl1 wl1 Hl1 wl1:=hs
 have hb:HB Hl1 wl1 [(p1,[(vi aD),(vi aE),(vi aF),(vu aG),(vs aH),aI.v],49)]:=hb
 have h:=hr n1 i1 Hl1 wl1 hs hI
 unfold m_Z_l1 at h
 refine wpE_has hH ?_
 refine wpE_seq (wpE_seq ?_)
 refine wpE_via (fun ρ wJ=>∃b1'0:Bool,∃HJ:NP,((decide (i1<(aI.len:Int)))=b1'0)∧Hst w0 Hl1 wl1 HJ wJ∧HB HJ wJ [(p1,[(vi aD),(vi aE),(vi aF),(vu aG),(vs aH),aI.v],49)]∧Has ρ [(1,(vi most1)),(2,(vp (some p1))),(5,(vi n1)),(6,(vi i1)),(16,(vb (b1'0 && (decide (n1≤most1)))))]) ?_ ?_
 ·refine rg (q0 (vi i1) (q0 (vp (some (p1.add 5))) (q2 aI.v (xl (Tryz.isAgg22 _) (hb.c 0 5 gZ)) (q0 (vi (aI.len:Int)) (q0 (vb (decide (i1<(aI.len:Int)))) (q0 (vb (decide (i1<(aI.len:Int)))) ?_))))))
  rcases Bool.eq_false_or_eq_true (decide (i1<(aI.len:Int))) with hg2 | hg2
  ·refine q1 (vi n1) (want1 rfl (yD 12 hg2)) (q1 (vi most1) (want1 rfl (yD 12 hg2)) (q1 (vb (decide (n1≤most1))) (want1 rfl (yD 12 hg2)) (q2 (vb (decide (n1≤most1))) (xT hg2) (wpL_nil (th_n ?_)))))
   exact ⟨true,_,hg2,hs,hb,hm⟩
  ·refine sk (yD 12 hg2) (sk (yD 12 hg2) (sk (yD 12 hg2) (q2 (vb false) (xF hg2) (wpL_nil (th_n ?_)))))
   exact ⟨false,_,hg2,hs,hb,hm⟩
 ·rintro ρ w2 ⟨b1'0,H2,he0,hs,hb,hH⟩
  subst he0
  refine norm_has hH ?_
  refine th_n ?_
  refine wpE_cond (t:=((decide (i1<(aI.len:Int))) && (decide (n1≤most1)))) (by kernel_rfl) (fun hc1=>?_) (fun hc1=>?_)
  ·have h:=h.1 hc1
   refine wpE_skip (th_n (wpE_seq (wpE_block (rg (q0 (vi n1) (q0 (vp (some (p1.add 5))) (q2 aI.v (xl (Tryz.isAgg22 _) (hb.c 0 5 gZ)) (q0 (vi i1) ?_))))))))
   obtain ⟨a1,hv2,h⟩:=h
   refine q2 (vp (some a1)) (xi (Tryz.runUnderlying22 _) (Tryz.sizeOf49 _) hv2) ?_
   have h:=h H2 w2 hs
   have hs:=hs.here
   obtain ⟨aN,aO,aP,aQ,aR,bE,hv1,h⟩:=h
   refine q2 (.agg #[(vi aN),(vi aO),(vi aP),(vu aQ),(vs aR),bE.v]) (x_loadA (a:=a1) (vs:=[(vi aN),(vi aO),(vi aP),(vu aQ),(vs aR),bE.v]) (by kernel_rfl) (Tryz.isAgg49 _) (Tryz.sizeOf49 _) rfl hv1) (q0 (vi most1) (q0 (vi n1) (q0 (vi (q6.wrap (most1 - n1))) ?_)))
   refine sc Tryz.call26 (h.mono ?_)
   rintro e w3 ⟨r1,rfl,hk,h⟩
   refine ⟨_,rfl,?_⟩
   obtain ⟨hs,hb⟩:=hk.hh hs hb
   refine q0 (vi (q6.wrap (n1+r1))) (q0 (vi (q6.wrap (n1+r1))) (wpL_nil (bl_n (th_n (rg (q0 (vi i1) (q0 (vi (q6.wrap (i1+1))) (q0 (vi (q6.wrap (i1+1))) (wpL_nil (th_n ?_))))))))))
   exact ⟨((q6.wrap (n1+r1)),(q6.wrap (i1+1)),H2,w3),⟨rfl,hm,hs,hb,h.1⟩,h.2⟩
  ·have h:=h.2 hc1
   refine wpE_exit (th_x (th_x (bl_eq (th_n (wpE_seq (rg (q0 (vi n1) (q0 (vi n1) (wpL_nil (th_n (wpE_ret ?_)))))))))))
   have h:=h H2 w2 hs
   have hs:=hs.here
   refine rs1 Tryz.results26 (v:=(vi n1)) ?_
   exact ⟨n1,rfl,h⟩
def m_A2  (w0:World) (K:(Option Addr)→WP):Prop :=
 ∀(p1:Addr) (w1:World),New w0 (.cells #[Sl.nil.v,Sl.nil.v,Sl.nil.v] 45) p1 w1 →
 K (some p1) w1
theorem w_A2  (w0 : World) (K : (Option Addr) → WP) (h : m_A2  w0 K) :
  Calls Tryz.prog 31 #[] w0 (fun e w'=>∃r1:Option Addr,e=.returned (vp r1)∧K r1 w'):=by
 unfold m_A2 at h
 refine cw (args:=[]) Tryz.func31 Tryz.ntmps31 (wpE_seq (rg (q0 (vp none) (wpL_nil (th_n (wpE_seq (rg (q0 (.agg #[Sl.nil.v,Sl.nil.v,Sl.nil.v]) (sn (O:=(.cells #[Sl.nil.v,Sl.nil.v,Sl.nil.v] 45)) xb ?_)))))))))
 intro p1 w1 hn1
 have h:=h p1 w1 hn1
 refine q0 (vp (some p1)) (wpL_nil (th_n (wpE_ret (rs1 Tryz.results31 (v:=(vp (some p1))) ?_))))
 exact ⟨(some p1),rfl,h⟩
def m_A1_l1 (aD aE:Int) (aF aG:Int) (aH:ByteArray) (aI:Sl) (i1 bQ:Int) (bR bS bT:Int) (bU:ByteArray) (bM:Sl) (w0:World) (Hl1:NP) (wl1:World) (Kc1:Int→Int→Int→Int→Int→ByteArray→Sl→NP→WP) (K:Int→Int→Int→Int→ByteArray→Sl→WP):Prop :=
 Br (decide (i1<(aI.len:Int)))
  (∃C1:WP,C1 wl1.drew∧∀w6,w6=wl1.drew →
  ∃a1:Addr,At aI i1 6 a1 ∧
  ∃aN aO:Int,∃aP aQ:Int,∃aR:ByteArray,∃bE:Sl,(∀w',C1 w'→Row w' a1 [(vi aN),(vi aO),(vi aP),(vu aQ),(vs aR),bE.v]) ∧
  Calls Tryz.prog 33 #[(.agg #[(vi aN),(vi aO),(vi aP),(vu aQ),(vs aR),bE.v])] w6 (fun e w7=>∃aS aT:Int,∃aU aV:Int,∃aW:ByteArray,∃bV:Sl,e=.returned (.agg #[(vi aS),(vi aT),(vi aU),(vu aV),(vs aW),bV.v])∧C1 w7∧
   Kept Hl1 w6 w7 ∧
   ∀(p4:Addr) (w8:World),New w7 (.cells #[(vi aS),(vi aT),(vi aU),(vu aV),(vs aW),bV.v] 49) p4 w8→C1 w8 ∧
   ∃s1:Sl,∃w9:World,(Builtin.append_ #[22,22] 22 #[bM.v,(Sl.mk (some p4) 1 1).v]).run Tryz.prog w8=.ok s1.v w9∧C1 w9 ∧
   Kept Hl1 w8 w9 ∧
   ∀(w10:World),Hst w0 Hl1 w9 Hl1 w10 →
   Kc1 (q6.wrap (i1+1)) bQ bR bS bT bU s1 Hl1 w10))
  (∃C2:WP,C2 wl1.drew∧∀w11,w11=wl1.drew →
  ∀(p5:Addr) (w12:World),New w11 (.cells #[(vi (-1)),(vi 0),(vi 0),(vu 0),(vs ⟨#[]⟩),Sl.nil.v] 49) p5 w12→C2 w12 ∧
  ∃s2:Sl,∃w13:World,(Builtin.append_ #[22,22] 22 #[bM.v,(Sl.mk (some p5) 1 1).v]).run Tryz.prog w12=.ok s2.v w13∧C2 w13 ∧
  Kept Hl1 w12 w13 ∧
  ∃s3:Sl,(∀w',C2 w'→(Instr.sliceAt 22 s2.v none (some (vi (bM.len:Int))) none).run Tryz.prog w'=.ok s3.v w') ∧
  ∀(w14:World),Hst w0 Hl1 w13 Hl1 w14 →
  K aD aE aF aG aH s3 w14)
def m_A1 (aD aE:Int) (aF aG:Int) (aH:ByteArray) (aI:Sl) (w0:World) (K:Int→Int→Int→Int→ByteArray→Sl→WP):Prop :=
 ∀(H3:NP) (w5:World),Hst w0 None w0 H3 w5 →
 ∃(I1:Int→Int→Int→Int→Int→ByteArray→Sl→NP→WP) (mu1:Int→Int→Int→Int→Int→ByteArray→Sl→World→Nat),I1 0 aD aE aF aG aH Sl.nil H3 w5 ∧
  ∀(i1 bQ:Int) (bR bS bT:Int) (bU:ByteArray) (bM:Sl) (Hl1:NP) (wl1:World),Hst w0 Hl1 wl1 Hl1 wl1→I1 i1 bQ bR bS bT bU bM Hl1 wl1→m_A1_l1 aD aE aF aG aH aI i1 bQ bR bS bT bU bM w0 Hl1 wl1 (fun y'0 y'1 y'2 y'3 y'4 y'5 y'6 H' w'=>I1 y'0 y'1 y'2 y'3 y'4 y'5 y'6 H' w'∧mu1 y'0 y'1 y'2 y'3 y'4 y'5 y'6 w'<mu1 i1 bQ bR bS bT bU bM wl1) K
theorem w_A1 (aD aE : Int) (aF aG : Int) (aH : ByteArray) (aI : Sl) (w0 : World) (K : Int → Int → Int → Int → ByteArray → Sl → WP) (h : m_A1 aD aE aF aG aH aI w0 K) :
  Calls Tryz.prog 33 #[(.agg #[(vi aD),(vi aE),(vi aF),(vu aG),(vs aH),aI.v])] w0 (fun e w'=>∃bW bX:Int,∃bY bZ:Int,∃cA:ByteArray,∃cB:Sl,e=.returned (.agg #[(vi bW),(vi bX),(vi bY),(vu bZ),(vs cA),cB.v])∧K bW bX bY bZ cA cB w'):=by
 unfold m_A1 at h
 refine cw (args:=[(.agg #[(vi aD),(vi aE),(vi aF),(vu aG),(vs aH),aI.v])]) Tryz.func33 Tryz.ntmps33 ?_
 have hs:=Hst.start w0
 have hb:=HB.nil None w0
 refine wpE_seq (rg (sn (O:=(.cells #[(vi aD),(vi aE),(vi aF),(vu aG),(vs aH),aI.v] 49)) xb ?_))
 intro p1 w1 hn1
 obtain ⟨H1,hs,hb⟩:=hs.alloc hb hn1
 refine sn (O:=(.cells #[(vi 0),(vi 0),(vi 0),(vu 0),(vs ⟨#[]⟩),Sl.nil.v] 49)) (x_alloc (Tryz.zeroValue49 _) rfl) ?_
 intro p2 w2 hn2
 obtain ⟨H2,hs,hb⟩:=hs.alloc hb hn2
 refine wpL_nil (th_n (wpE_seq (rg (q2 (.agg #[(vi aD),(vi aE),(vi aF),(vu aG),(vs aH),aI.v]) (x_loadA (a:=p1) (vs:=[(vi aD),(vi aE),(vi aF),(vu aG),(vs aH),aI.v]) (by kernel_rfl) (Tryz.isAgg49 _) (Tryz.sizeOf49 _) rfl (hb.row0 1 6 (gS gZ) (by kernel_rfl))) (sn (O:=(.cells #[(vi 0),(vi 0),(vi 0),(vu 0),(vs ⟨#[]⟩),Sl.nil.v] 49)) (x_alloc (Tryz.zeroValue49 _) rfl) ?_)))))
 intro p3 w3 hn3
 obtain ⟨H3,hs,hb⟩:=hs.alloc hb hn3
 refine st_set (want0 rfl) (x_storeA (a:=p3) (vs:=[(vi aD),(vi aE),(vi aF),(vu aG),(vs aH),aI.v]) (by kernel_rfl) (by kernel_rfl) rfl (Tryz.sizeOf49 _) rfl (hb.canWs0 0 6 gZ (by kernel_rfl))) ?_
 intro w4 hn4
 have hsb:Hst w0 None w0 H3 w4∧HB H3 w4 [(p3,[(vi aD),(vi aE),(vi aF),(vu aG),(vs aH),aI.v],49),(p2,[(vi 0),(vi 0),(vi 0),(vu 0),(vs ⟨#[]⟩),Sl.nil.v],49),(p1,[(vi aD),(vi aE),(vi aF),(vu aG),(vs aH),aI.v],49)]:=by
  rw [hn4]
  exact hb.store0 (i:=0) (vs:=[(vi aD),(vi aE),(vi aF),(vu aG),(vs aH),aI.v]) hs gZ (by kernel_rfl) (by kernel_rfl)
 obtain ⟨hs,hb⟩:=hsb
 refine wpL_nil (th_n (wpE_seq (rg (q0 (vp (some (p3.add 5))) (st_set (want0 rfl) (x_store (a:=(p3.add 5)) (v:=Sl.nil.v) (by kernel_rfl) (by kernel_rfl) rfl (Tryz.sizeOf22 _) (hb.canW 0 5 gZ (by kernel_rfl))) ?_)))))
 intro w5 hn5
 have hsb:Hst w0 None w0 H3 w5∧HB H3 w5 [(p3,[(vi aD),(vi aE),(vi aF),(vu aG),(vs aH),Sl.nil.v],49),(p2,[(vi 0),(vi 0),(vi 0),(vu 0),(vs ⟨#[]⟩),Sl.nil.v],49),(p1,[(vi aD),(vi aE),(vi aF),(vu aG),(vs aH),aI.v],49)]:=by
  rw [hn5]
  exact hb.set (i:=0) 5 (v:=Sl.nil.v) hs gZ (by kernel_rfl)
 obtain ⟨hs,hb⟩:=hsb
 refine wpL_nil (th_n (wpE_seq (wpE_seq (rg (q0 (vi 0) (wpL_nil (th_n (wpE_block ?_))))))))
 have h:=h H3 w5 hs
 have hs:=hs.here
 obtain ⟨I1,mu1,h0,hr⟩:=h
 refine wpE_loop (σ:=Int×Int×Int×Int×Int×ByteArray×Sl×NP×World) (fun s ρ w=>w=s.2.2.2.2.2.2.2.2∧Has ρ [(1,(vp (some p1))),(2,(vp (some p2))),(3,(vp (some p3))),(4,(vi s.1))]∧Hst w0 s.2.2.2.2.2.2.2.1 w s.2.2.2.2.2.2.2.1 w∧HB s.2.2.2.2.2.2.2.1 w [(p3,[(vi s.2.1),(vi s.2.2.1),(vi s.2.2.2.1),(vu s.2.2.2.2.1),(vs s.2.2.2.2.2.1),s.2.2.2.2.2.2.1.v],49),(p2,[(vi 0),(vi 0),(vi 0),(vu 0),(vs ⟨#[]⟩),Sl.nil.v],49),(p1,[(vi aD),(vi aE),(vi aF),(vu aG),(vs aH),aI.v],49)]∧I1 s.1 s.2.1 s.2.2.1 s.2.2.2.1 s.2.2.2.2.1 s.2.2.2.2.2.1 s.2.2.2.2.2.2.1 s.2.2.2.2.2.2.2.1 s.2.2.2.2.2.2.2.2) (fun s=>mu1 s.1 s.2.1 s.2.2.1 s.2.2.2.1 s.2.2.2.2.1 s.2.2.2.2.2.1 s.2.2.2.2.2.2.1 s.2.2.2.2.2.2.2.2) (0,aD,aE,aF,aG,aH,Sl.nil,H3,w5) ⟨rfl,hm,hs,hb,h0⟩ ?_
 rintro ⟨i1,bQ,bR,bS,bT,bU,bM,Hl1,wl1⟩ ρ w ⟨hw,hH,hs,hb,hI⟩
 obtain rfl:wl1=w:=(show w=wl1 from hw).symm
 have hH:Has ρ [(1,(vp (some p1))),(2,(vp (some p2))),(3,(vp (some p3))),(4,(vi i1))]:=hH
 have hs:Hst w0 Hl1 wl1 Hl1 wl1:=hs
 have hb:HB Hl1 wl1 [(p3,[(vi bQ),(vi bR),(vi bS),(vu bT),(vs bU),bM.v],49),(p2,[(vi 0),(vi 0),(vi 0),(vu 0),(vs ⟨#[]⟩),Sl.nil.v],49),(p1,[(vi aD),(vi aE),(vi aF),(vu aG),(vs aH),aI.v],49)]:=hb
 have h:=hr i1 bQ bR bS bT bU bM Hl1 wl1 hs hI
 unfold m_A1_l1 at h
 refine wpE_has hH ?_
 refine wpE_seq (wpE_seq (rg (q0 (vi i1) (q0 (vp (some (p1.add 5))) (q2 aI.v (xl (Tryz.isAgg22 _) (hb.c 2 5 (gS (gS gZ)))) (q0 (vi (aI.len:Int)) (q0 (vb (decide (i1<(aI.len:Int)))) (wpL_nil (th_n ?_)))))))))
 refine wpE_cond (t:=(decide (i1<(aI.len:Int)))) (by kernel_rfl) (fun hc1=>?_) (fun hc1=>?_)
 ·have h:=h.1 hc1
  refine wpE_skip (th_n (wpE_seq (wpE_block ?_)))
  obtain ⟨C1,hC,h⟩:=h
  refine wpE_drawnC (fun x=>C1 x∧HB Hl1 x [(p3,[(vi bQ),(vi bR),(vi bS),(vu bT),(vs bU),bM.v],49),(p2,[(vi 0),(vi 0),(vi 0),(vu 0),(vs ⟨#[]⟩),Sl.nil.v],49),(p1,[(vi aD),(vi aE),(vi aF),(vu aG),(vs aH),aI.v],49)]) [7,8,9,11] [11] (by kernel_rfl) (by kernel_rfl) (by kernel_rfl) (by kernel_rfl) ⟨hC,hb.drew⟩ ?_
  intro w6 hw6
  have h:=h w6 hw6
  have hs:Hst w0 Hl1 wl1 Hl1 w6:=by rw [hw6];exact hs.drew
  have hb:HB Hl1 w6 [(p3,[(vi bQ),(vi bR),(vi bS),(vu bT),(vs bU),bM.v],49),(p2,[(vi 0),(vi 0),(vi 0),(vu 0),(vs ⟨#[]⟩),Sl.nil.v],49),(p1,[(vi aD),(vi aE),(vi aF),(vu aG),(vs aH),aI.v],49)]:=by rw [hw6];exact hb.drew
  have hs:=hs.here
  refine qx 0 (vp (some (p3.add 5))) Kp0 (qz 1 bM.v Kp1 (fun w' hw'=>(xl (Tryz.isAgg22 _) (hw'.2.cell 0 5 gZ (by kernel_rfl)))) (qx 2 (vp (some (p1.add 5))) Kp2 (qz 3 aI.v Kp3 (fun w' hw'=>(xl (Tryz.isAgg22 _) (hw'.2.cell 2 5 (gS (gS gZ)) (by kernel_rfl)))) (qx 4 (vi i1) Kp4 (qg 5 ?_)))))
  obtain ⟨a1,hv3,h⟩:=h
  refine sy (v:=(vp (some a1))) Kp5 (fun _ _=>(xi (Tryz.runUnderlying22 _) (Tryz.sizeOf49 _) hv3)) (qg 6 ?_)
  obtain ⟨aN,aO,aP,aQ,aR,bE,hv2,h⟩:=h
  refine sy (v:=(.agg #[(vi aN),(vi aO),(vi aP),(vu aQ),(vs aR),bE.v])) Kp6 (fun w' hw'=>(x_loadA (a:=a1) (vs:=[(vi aN),(vi aO),(vi aP),(vu aQ),(vs aR),bE.v]) (by kernel_rfl) (Tryz.isAgg49 _) (Tryz.sizeOf49 _) rfl (hv2 w' hw'.1))) (lg 7 ?_)
  refine sl_call Kp7 (want0 rfl) (by kernel_rfl) (xc Tryz.call33) (h.mono ?_)
  rintro e w7 ⟨aS,aT,aU,aV,aW,bV,rfl,hC,hk,h⟩
  refine ⟨_,rfl,.inr ⟨hC,hb.kept hk⟩,?_⟩
  obtain ⟨hs,hb⟩:=hk.hh hs hb
  refine lg 8 (sl_new (O:=(.cells #[(vi aS),(vi aT),(vi aU),(vu aV),(vs aW),bV.v] 49)) (fun p=>(Sl.mk (some p) 1 1).v) Kp8 (want0 rfl) (by kernel_rfl) (x_buildSlice (vs:=#[(0,(.agg #[(vi aS),(vi aT),(vi aU),(vu aV),(vs aW),bV.v]))]) (by kernel_rfl) (by kernel_rfl)) ?_)
  intro p4 w8 hn7
  have h:=h p4 w8 hn7
  refine ⟨.inr ⟨h.1,hb.kept (Ext.new (F:=None) hn7).keptP⟩,?_⟩
  have h:=h.2
  have hs:=hs.again (Ext.new (F:=None) hn7).keptP
  have hb:=hb.kept (Ext.new (F:=None) hn7).keptP
  refine lg 9 ?_
  obtain ⟨s1,w9,hv1,hC,hk,h⟩:=h
  refine sl (v:=s1.v) Kp9 (want0 rfl) (by kernel_rfl) (x_builtin (args:=#[bM.v,(Sl.mk (some p4) 1 1).v]) (by kernel_rfl) (fun _=>rfl) hv1) (.inr ⟨hC,hb.kept hk⟩) ?_
  obtain ⟨hs,hb⟩:=hk.hh hs hb
  refine qx 10 (vp (some (p3.add 5))) (pickA (S8 (pickS (pickS pickZ)))) (lg 11 (sl_t (pickA (S8 (pickS (pickS (pickS pickZ))))) (xs (v:=s1.v) (Tryz.sizeOf22 _) (hb.canW 0 5 gZ (by kernel_rfl))) ?_))
  intro w10 hn6
  have hsb:Hst w0 Hl1 w9 Hl1 w10∧HB Hl1 w10 [(p3,[(vi bQ),(vi bR),(vi bS),(vu bT),(vs bU),s1.v],49),(p2,[(vi 0),(vi 0),(vi 0),(vu 0),(vs ⟨#[]⟩),Sl.nil.v],49),(p1,[(vi aD),(vi aE),(vi aF),(vu aG),(vs aH),aI.v],49)]:=by
   rw [hn6]
   exact hb.set (i:=0) 5 (v:=s1.v) hs gZ (by kernel_rfl)
  obtain ⟨hs,hb⟩:=hsb
  refine ⟨.inl (by kernel_rfl),?_⟩
  refine wn (bl_n (th_n (rg (q0 (vi i1) (q0 (vi (q6.wrap (i1+1))) (q0 (vi (q6.wrap (i1+1))) (wpL_nil ?_)))))))
  have h:=h w10 hs
  have hs:=hs.here
  refine th_n ?_
  exact ⟨((q6.wrap (i1+1)),bQ,bR,bS,bT,bU,s1,Hl1,w10),⟨rfl,hm,hs,hb,h.1⟩,h.2⟩
 ·have h:=h.2 hc1
  refine wpE_exit (th_x (th_x (bl_eq (th_n (wpE_seq (rg (q0 (vp (some (p3.add 5))) (q2 bM.v (xl (Tryz.isAgg22 _) (hb.c 0 5 gZ)) (q0 (vi (bM.len:Int)) (q0 (vi (bM.len:Int)) (wpL_nil ?_)))))))))))
  refine th_n (wpE_seq ?_)
  obtain ⟨C2,hC,h⟩:=h
  refine wpE_drawnC (fun x=>C2 x∧HB Hl1 x [(p3,[(vi bQ),(vi bR),(vi bS),(vu bT),(vs bU),bM.v],49),(p2,[(vi 0),(vi 0),(vi 0),(vu 0),(vs ⟨#[]⟩),Sl.nil.v],49),(p1,[(vi aD),(vi aE),(vi aF),(vu aG),(vs aH),aI.v],49)]) [13,14,18] [18] (by kernel_rfl) (by kernel_rfl) (by kernel_rfl) (by kernel_rfl) ⟨hC,hb.drew⟩ ?_
  intro w11 hw11
  have h:=h w11 hw11
  have hs:Hst w0 Hl1 wl1 Hl1 w11:=by rw [hw11];exact hs.drew
  have hb:HB Hl1 w11 [(p3,[(vi bQ),(vi bR),(vi bS),(vu bT),(vs bU),bM.v],49),(p2,[(vi 0),(vi 0),(vi 0),(vu 0),(vs ⟨#[]⟩),Sl.nil.v],49),(p1,[(vi aD),(vi aE),(vi aF),(vu aG),(vs aH),aI.v],49)]:=by rw [hw11];exact hb.drew
  have hs:=hs.here
  refine qx 0 (vp (some p1)) Kp0 (qz 1 (vi aD) Kp1 (fun w' hw'=>(xl (Tryz.isAgg3 _) (hw'.2.cell0 2 (gS (gS gZ)) (by kernel_rfl)))) (qx 2 (vp (some (p1.add 1))) Kp2 (qz 3 (vi aE) Kp3 (fun w' hw'=>(xl (Tryz.isAgg3 _) (hw'.2.cell 2 1 (gS (gS gZ)) (by kernel_rfl)))) (qx 4 (vp (some (p1.add 2))) Kp4 (qz 5 (vi aF) Kp5 (fun w' hw'=>(xl (Tryz.isAgg3 _) (hw'.2.cell 2 2 (gS (gS gZ)) (by kernel_rfl)))) (qx 6 (vp (some (p1.add 3))) Kp6 (qz 7 (vu aG) Kp7 (fun w' hw'=>(xl (Tryz.isAgg47 _) (hw'.2.cell 2 3 (gS (gS gZ)) (by kernel_rfl)))) (qx 8 (vp (some (p1.add 4))) Kp8 (qz 9 (vs aH) Kp9 (fun w' hw'=>(xl (Tryz.isAgg9 _) (hw'.2.cell 2 4 (gS (gS gZ)) (by kernel_rfl)))) (qx 10 (vp (some (p3.add 5))) (pickA (S8 (pickS (pickS pickZ)))) (qz 11 bM.v (pickA (S8 (pickS (pickS (pickS pickZ))))) (fun w' hw'=>(xl (Tryz.isAgg22 _) (hw'.2.cell 0 5 gZ (by kernel_rfl)))) ?_)))))))))))
  refine qx 12 (.agg #[(vi (-1)),(vi 0),(vi 0),(vu 0),(vs ⟨#[]⟩),Sl.nil.v]) (pickA (S8 (S4 pickZ))) (qx 15 (vi (bM.len:Int)) (pickA (S8 (S4 (pickS (pickS (pickS pickZ)))))) (lg 13 (sl_new (O:=(.cells #[(vi (-1)),(vi 0),(vi 0),(vu 0),(vs ⟨#[]⟩),Sl.nil.v] 49)) (fun p=>(Sl.mk (some p) 1 1).v) (pickA (S8 (S4 (pickS pickZ)))) (want0 rfl) (by kernel_rfl) (x_buildSlice (vs:=#[(0,(.agg #[(vi (-1)),(vi 0),(vi 0),(vu 0),(vs ⟨#[]⟩),Sl.nil.v]))]) (by kernel_rfl) (by kernel_rfl)) ?_)))
  intro p5 w12 hn9
  have h:=h p5 w12 hn9
  refine ⟨.inr ⟨h.1,hb.kept (Ext.new (F:=None) hn9).keptP⟩,?_⟩
  have h:=h.2
  have hs:=hs.again (Ext.new (F:=None) hn9).keptP
  have hb:=hb.kept (Ext.new (F:=None) hn9).keptP
  refine lg 14 ?_
  obtain ⟨s2,w13,hv5,hC,hk,h⟩:=h
  refine sl (v:=s2.v) (pickA (S8 (S4 (pickS (pickS pickZ))))) (want0 rfl) (by kernel_rfl) (x_builtin (args:=#[bM.v,(Sl.mk (some p5) 1 1).v]) (by kernel_rfl) (fun _=>rfl) hv5) (.inr ⟨hC,hb.kept hk⟩) ?_
  obtain ⟨hs,hb⟩:=hk.hh hs hb
  refine qg 16 ?_
  obtain ⟨s3,hv4,h⟩:=h
  refine sy (v:=s3.v) (pickA (S8 (S8 pickZ))) (fun w' hw'=>(x_slice (by kernel_rfl) (by kernel_rfl) (by kernel_rfl) (by kernel_rfl) (hv4 w' hw'.1))) (qx 17 (.agg #[(vi aD),(vi aE),(vi aF),(vu aG),(vs aH),s3.v]) (pickA (S8 (S8 (pickS pickZ)))) (lg 18 (sl_set (pickA (S8 (S8 (pickS (pickS pickZ))))) (want0 rfl) (by kernel_rfl) (x_storeA (a:=p2) (vs:=[(vi aD),(vi aE),(vi aF),(vu aG),(vs aH),s3.v]) (by kernel_rfl) (by kernel_rfl) rfl (Tryz.sizeOf49 _) rfl (hb.canWs0 1 6 (gS gZ) (by kernel_rfl))) ?_)))
  intro w14 hn8
  have hsb:Hst w0 Hl1 w13 Hl1 w14∧HB Hl1 w14 [(p3,[(vi bQ),(vi bR),(vi bS),(vu bT),(vs bU),bM.v],49),(p2,[(vi aD),(vi aE),(vi aF),(vu aG),(vs aH),s3.v],49),(p1,[(vi aD),(vi aE),(vi aF),(vu aG),(vs aH),aI.v],49)]:=by
   rw [hn8]
   exact hb.store0 (i:=1) (vs:=[(vi aD),(vi aE),(vi aF),(vu aG),(vs aH),s3.v]) hs (gS gZ) (by kernel_rfl) (by kernel_rfl)
  obtain ⟨hs,hb⟩:=hsb
  refine ⟨.inl (by kernel_rfl),?_⟩
  refine wn (th_n (wpE_ret ?_))
  have h:=h w14 hs
  have hs:=hs.here
  refine resG (.inl rfl) (vs:=[(.agg #[(vi aD),(vi aE),(vi aF),(vu aG),(vs aH),s3.v])]) (v:=(.agg #[(vi aD),(vi aE),(vi aF),(vu aG),(vs aH),s3.v])) Tryz.results33 ⟨(RV.cellA (by kernel_rfl) (Tryz.isAgg49 _) (Tryz.sizeOf49 _) rfl (hb.row0 1 6 (gS gZ) (by kernel_rfl))),trivial⟩ (by kernel_rfl) ?_
  exact ⟨aD,aE,aF,aG,aH,s3,rfl,h⟩
def s_U (aD aE:Int) (aF aG:Int) (aH:ByteArray) (aI:Sl):Int×Int×Int×Int×ByteArray×Int×Int :=
 (aD,aE,aF,aG,aH,0,0)
theorem pw_U (aD aE : Int) (aF aG : Int) (aH : ByteArray) (aI : Sl) (w0 : World) :
  Calls Tryz.prog 107 #[(.agg #[(vi aD),(vi aE),(vi aF),(vu aG),(vs aH),aI.v])] w0 (fun e w'=>(e=.returned (.agg #[(vi aD),(vi aE),(vi aF),(vu aG),(vs aH),(vi 0),(vi 0)]))∧Pure w0 w'):=by
 refine cw (args:=[(.agg #[(vi aD),(vi aE),(vi aF),(vu aG),(vs aH),aI.v])]) Tryz.func107 Tryz.ntmps107 ?_
 have hs:=Hst.start w0
 have hb:=HB.nil None w0
 refine wpE_seq (rg (sn (O:=(.cells #[(vi aD),(vi aE),(vi aF),(vu aG),(vs aH),aI.v] 49)) xb ?_))
 intro p1 w1 hn1
 obtain ⟨H1,hs,hb⟩:=hs.alloc hb hn1
 refine sn (O:=(.cells #[(vi 0),(vi 0),(vi 0),(vu 0),(vs ⟨#[]⟩),(vi 0),(vi 0)] 86)) (x_alloc (Tryz.zeroValue86 _) rfl) ?_
 intro p2 w2 hn2
 obtain ⟨H2,hs,hb⟩:=hs.alloc hb hn2
 refine wpL_nil (th_n (wpE_seq (rg (q0 (vp (some p1)) (q2 (vi aD) (xl (Tryz.isAgg3 _) (hb.c0 1 (gS gZ))) (q0 (vp (some (p1.add 1))) (q2 (vi aE) (xl (Tryz.isAgg3 _) (hb.c 1 1 (gS gZ))) (q0 (vp (some (p1.add 2))) (q2 (vi aF) (xl (Tryz.isAgg3 _) (hb.c 1 2 (gS gZ))) (q0 (vp (some (p1.add 3))) (q2 (vu aG) (xl (Tryz.isAgg47 _) (hb.c 1 3 (gS gZ))) ?_)))))))))))
 refine q0 (vp (some (p1.add 4))) (q2 (vs aH) (xl (Tryz.isAgg9 _) (hb.c 1 4 (gS gZ))) (q0 (.agg #[(vi aD),(vi aE),(vi aF),(vu aG),(vs aH),(vi 0),(vi 0)]) (st_set (want0 rfl) (x_storeA (a:=p2) (vs:=[(vi aD),(vi aE),(vi aF),(vu aG),(vs aH),(vi 0),(vi 0)]) (by kernel_rfl) (by kernel_rfl) rfl (Tryz.sizeOf86 _) rfl (hb.canWs0 0 7 gZ (by kernel_rfl))) ?_)))
 intro w3 hn3
 have hsb:Hst w0 None w0 H2 w3∧HB H2 w3 [(p2,[(vi aD),(vi aE),(vi aF),(vu aG),(vs aH),(vi 0),(vi 0)],86),(p1,[(vi aD),(vi aE),(vi aF),(vu aG),(vs aH),aI.v],49)]:=by
  rw [hn3]
  exact hb.store0 (i:=0) (vs:=[(vi aD),(vi aE),(vi aF),(vu aG),(vs aH),(vi 0),(vi 0)]) hs gZ (by kernel_rfl) (by kernel_rfl)
 obtain ⟨hs,hb⟩:=hsb
 refine wpL_nil (th_n (wpE_ret (resG (.inl rfl) (vs:=[(.agg #[(vi aD),(vi aE),(vi aF),(vu aG),(vs aH),(vi 0),(vi 0)])]) (v:=(.agg #[(vi aD),(vi aE),(vi aF),(vu aG),(vs aH),(vi 0),(vi 0)])) Tryz.results107 ⟨(RV.cellA (by kernel_rfl) (Tryz.isAgg86 _) (Tryz.sizeOf86 _) rfl (hb.row0 0 7 gZ (by kernel_rfl))),trivial⟩ (by kernel_rfl) ?_)))
 exact ⟨by kernel_rfl,(Ext.refl (F:=None) _).hst hs⟩
theorem p_U (aD aE:Int) (aF aG:Int) (aH:ByteArray) (aI:Sl) (w0:World):Calls Tryz.prog 107 #[(.agg #[(.int .i64 aD),(.int .i64 aE),(.int .i64 aF),(.int .u64 aG),(.string aH),aI.v])] w0 (fun e w'=>e=.returned (.agg #[(.int .i64 (s_U aD aE aF aG aH aI).1),(.int .i64 (s_U aD aE aF aG aH aI).2.1),(.int .i64 (s_U aD aE aF aG aH aI).2.2.1),(.int .u64 (s_U aD aE aF aG aH aI).2.2.2.1),(.string (s_U aD aE aF aG aH aI).2.2.2.2.1),(.int .i64 (s_U aD aE aF aG aH aI).2.2.2.2.2.1),(.int .i64 (s_U aD aE aF aG aH aI).2.2.2.2.2.2)])∧Pure w0 w'):=pw_U aD aE aF aG aH aI w0
def s_R1 (kind1:Int):Bool :=
 ((kind1 == 8) || (kind1 == 9))
theorem pw_R1 (kind1 : Int) (w0 : World) :
  Calls Tryz.prog 136 #[(vi kind1)] w0 (fun e w'=>(e=.returned (vb ((kind1 == 8) || (kind1 == 9))))∧Pure w0 w'):=by
 refine cw (args:=[(vi kind1)]) Tryz.func136 Tryz.ntmps136 (wpE_seq (rg (q0 (vb false) (wpL_nil (th_n (wpE_seq ?_))))))
 refine wpE_via (fun ρ wJ=>w0=wJ∧Has ρ [(2,(vb ((kind1 == 8) || (kind1 == 9))))]) ?_ ?_
 ·refine rg (q0 (vi kind1) (q0 (vb (kind1 == 8)) (q0 (vb (kind1 == 8)) ?_)))
  refine wpL_join 3 (fun ρ wJ=>∃b3'0:Bool,((kind1 == 8)=b3'0)∧w0=wJ∧Has ρ [(8,(vb (b3'0 || (kind1 == 9))))]) ?_ ?_
  ·rintro ρ w3 ⟨b3'0,he0,hw,hH⟩
   subst he0
   subst hw
   refine wpL_has hH ?_
   refine q0 (vb ((kind1 == 8) || (kind1 == 9))) (wpL_nil (th_n ?_))
   exact ⟨rfl,hm⟩
  ·rcases Bool.eq_false_or_eq_true (kind1 == 8) with hg4 | hg4
   ·refine sk (yD 5 hg4) (sk (yD 5 hg4) (q2 (vb true) (xT hg4) (wpL_nil ?_)))
    exact ⟨true,hg4,rfl,hm⟩
   ·refine q1 (vi kind1) (want1 rfl (yD 5 hg4)) (q1 (vb (kind1 == 9)) (want1 rfl (yD 5 hg4)) (q2 (vb (kind1 == 9)) (xF hg4) (wpL_nil ?_)))
    exact ⟨false,hg4,rfl,hm⟩
 ·rintro ρ w2 ⟨hw,hH⟩
  subst hw
  refine norm_has hH ?_
  refine th_n (wpE_ret (rs1 Tryz.results136 (v:=(vb ((kind1 == 8) || (kind1 == 9)))) ?_))
  exact ⟨by kernel_rfl,Ext.refl _⟩
theorem p_R1 (kind1:Int) (w0:World):Calls Tryz.prog 136 #[(.int .i64 kind1)] w0 (fun e w'=>e=.returned (.bool (s_R1 kind1))∧Pure w0 w'):=pw_R1 kind1 w0
def s_C (kind1:Int):Bool :=
 ((((kind1 == 1) || (kind1 == 6)) || (kind1 == 7)) || ((kind1 == 8) || (kind1 == 9)))
theorem pw_C (kind1 : Int) (w0 : World) :
  Calls Tryz.prog 134 #[(vi kind1)] w0 (fun e w'=>(e=.returned (vb ((((kind1 == 1) || (kind1 == 6)) || (kind1 == 7)) || ((kind1 == 8) || (kind1 == 9)))))∧Pure w0 w'):=by
 refine cw (args:=[(vi kind1)]) Tryz.func134 Tryz.ntmps134 ?_
 have hs:=Hst.start w0
 have hb:=HB.nil None w0
 refine wpE_seq (rg (q0 (vb false) (wpL_nil (th_n (wpE_seq ?_)))))
 refine wpE_via (fun ρ wJ=>∃HJ:NP,Hst w0 None w0 HJ wJ∧HB HJ wJ []∧Has ρ [(2,(vb ((((kind1 == 1) || (kind1 == 6)) || (kind1 == 7)) || ((kind1 == 8) || (kind1 == 9)))))]) ?_ ?_
 ·refine rg (q0 (vi kind1) (q0 (vb (kind1 == 1)) (q0 (vb (kind1 == 1)) ?_)))
  refine wpL_join 3 (fun ρ wJ=>∃b5'0:Bool,∃HJ:NP,((kind1 == 1)=b5'0)∧Hst w0 None w0 HJ wJ∧HB HJ wJ []∧Has ρ [(0,(vi kind1)),(8,(vb (b5'0 || (kind1 == 6))))]) ?_ ?_
  ·rintro ρ w7 ⟨b5'0,H5,he0,hs,hb,hH⟩
   subst he0
   refine wpL_has hH ?_
   refine q0 (vb ((kind1 == 1) || (kind1 == 6))) ?_
   refine wpL_join 3 (fun ρ wJ=>∃b6'0:Bool,∃HJ:NP,(((kind1 == 1) || (kind1 == 6))=b6'0)∧Hst w0 None w0 HJ wJ∧HB HJ wJ []∧Has ρ [(0,(vi kind1)),(12,(vb (b6'0 || (kind1 == 7))))]) ?_ ?_
   ·rintro ρ w8 ⟨b6'0,H6,he0,hs,hb,hH⟩
    subst he0
    refine wpL_has hH ?_
    refine q0 (vb (((kind1 == 1) || (kind1 == 6)) || (kind1 == 7))) ?_
    refine wpL_join 3 (fun ρ wJ=>∃b7'0:Bool,∃HJ:NP,((((kind1 == 1) || (kind1 == 6)) || (kind1 == 7))=b7'0)∧Hst w0 None w0 HJ wJ∧HB HJ wJ []∧Has ρ [(16,(vb (b7'0 || ((kind1 == 8) || (kind1 == 9)))))]) ?_ ?_
    ·rintro ρ w10 ⟨b7'0,H7,he0,hs,hb,hH⟩
     subst he0
     refine wpL_has hH ?_
     refine q0 (vb ((((kind1 == 1) || (kind1 == 6)) || (kind1 == 7)) || ((kind1 == 8) || (kind1 == 9)))) (wpL_nil (th_n ?_))
     exact ⟨_,hs,hb,hm⟩
    ·rcases Bool.eq_false_or_eq_true (((kind1 == 1) || (kind1 == 6)) || (kind1 == 7)) with hg12 | hg12
     ·refine sk (yD 13 hg12) (sk (yD 13 hg12) (q2 (vb true) (xT hg12) (wpL_nil ?_)))
      exact ⟨true,_,hg12,hs,hb,hm⟩
     ·refine q1 (vi kind1) (want1 rfl (yD 13 hg12)) ?_
      refine st_call (want1 rfl (yD 13 hg12)) (xc Tryz.call136) ((p_R1 kind1 w8).mono ?_)
      rintro e w11 ⟨he,hE⟩
      refine ⟨(vb ((kind1 == 8) || (kind1 == 9))),he.trans (by kernel_rfl),?_⟩
      have hs:=hs.pure hE
      have hb:=hb.pure hE
      refine q2 (vb ((kind1 == 8) || (kind1 == 9))) (xF hg12) (wpL_nil ?_)
      exact ⟨false,_,hg12,hs,hb,hm⟩
   ·rcases Bool.eq_false_or_eq_true ((kind1 == 1) || (kind1 == 6)) with hg10 | hg10
    ·refine sk (yD 9 hg10) (sk (yD 9 hg10) (q2 (vb true) (xT hg10) (wpL_nil ?_)))
     exact ⟨true,_,hg10,hs,hb,hm⟩
    ·refine q1 (vi kind1) (want1 rfl (yD 9 hg10)) (q1 (vb (kind1 == 7)) (want1 rfl (yD 9 hg10)) (q2 (vb (kind1 == 7)) (xF hg10) (wpL_nil ?_)))
     exact ⟨false,_,hg10,hs,hb,hm⟩
  ·rcases Bool.eq_false_or_eq_true (kind1 == 1) with hg8 | hg8
   ·refine sk (yD 5 hg8) (sk (yD 5 hg8) (q2 (vb true) (xT hg8) (wpL_nil ?_)))
    exact ⟨true,_,hg8,hs,hb,hm⟩
   ·refine q1 (vi kind1) (want1 rfl (yD 5 hg8)) (q1 (vb (kind1 == 6)) (want1 rfl (yD 5 hg8)) (q2 (vb (kind1 == 6)) (xF hg8) (wpL_nil ?_)))
    exact ⟨false,_,hg8,hs,hb,hm⟩
 ·rintro ρ w6 ⟨H4,hs,hb,hH⟩
  refine norm_has hH ?_
  refine th_n (wpE_ret (rs1 Tryz.results134 (v:=(vb ((((kind1 == 1) || (kind1 == 6)) || (kind1 == 7)) || ((kind1 == 8) || (kind1 == 9))))) ?_))
  exact ⟨by kernel_rfl,(Ext.refl (F:=None) _).hst hs⟩
theorem p_C (kind1:Int) (w0:World):Calls Tryz.prog 134 #[(.int .i64 kind1)] w0 (fun e w'=>e=.returned (.bool (s_C kind1))∧Pure w0 w'):=pw_C kind1 w0
def s_V (aA aB:Int) (aC aK:Int) (aJ:ByteArray) (aL aM:Int):Bool :=
 (!((decide (aA<1)) || (decide (aA>9))) && (((((((s_C aA) || (aB == 0)) && (((aA == 8) || (aA == 9)) || (aC == 0))) && ((aA == 2) || (aK == 0))) && ((aA == 3) || (decide (aJ=⟨#[]⟩)))) && ((decide ((s_A aA)≥1)) || (aL == 0))) && ((((s_A aA):Int) == 2) || (aM == 0))))
theorem pw_V (aA aB : Int) (aC aK : Int) (aJ : ByteArray) (aL aM : Int) (w0 : World) :
  Calls Tryz.prog 133 #[(.agg #[(vi aA),(vi aB),(vi aC),(vu aK),(vs aJ),(vi aL),(vi aM)])] w0 (fun e w'=>∃b'0:Bool,(((decide (aA<1)) || (decide (aA>9)))=b'0)∧(e=.returned (vb (!b'0 && (((((((s_C aA) || (aB == 0)) && (((aA == 8) || (aA == 9)) || (aC == 0))) && ((aA == 2) || (aK == 0))) && ((aA == 3) || (decide (aJ=⟨#[]⟩)))) && ((decide ((s_A aA)≥1)) || (aL == 0))) && ((((s_A aA):Int) == 2) || (aM == 0))))))∧Pure w0 w'):=by
 refine cw (args:=[(.agg #[(vi aA),(vi aB),(vi aC),(vu aK),(vs aJ),(vi aL),(vi aM)])]) Tryz.func133 Tryz.ntmps133 ?_
 have hs:=Hst.start w0
 have hb:=HB.nil None w0
 refine wpE_seq (rg (sn (O:=(.cells #[(vi aA),(vi aB),(vi aC),(vu aK),(vs aJ),(vi aL),(vi aM)] 86)) xb ?_))
 intro p1 w1 hn1
 obtain ⟨H1,hs,hb⟩:=hs.alloc hb hn1
 refine q0 (vb false) (wpL_nil (th_n (wpE_seq (wpE_seq ?_))))
 refine wpE_via (fun ρ wJ=>∃b1'0:Bool,∃HJ:NP,((decide (aA<1))=b1'0)∧Hst w0 None w0 HJ wJ∧HB HJ wJ [(p1,[(vi aA),(vi aB),(vi aC),(vu aK),(vs aJ),(vi aL),(vi aM)],86)]∧Has ρ [(1,(vp (some p1))),(10,(vb (b1'0 || (decide (aA>9)))))]) ?_ ?_
 ·refine rg (q0 (vp (some p1)) (q2 (vi aA) (xl (Tryz.isAgg3 _) (hb.c0 0 gZ)) (q0 (vb (decide (aA<1))) (q0 (vb (decide (aA<1))) ?_))))
  rcases Bool.eq_false_or_eq_true (decide (aA<1)) with hg2 | hg2
  ·refine sk (yD 6 hg2) (sk (yD 6 hg2) (sk (yD 6 hg2) (q2 (vb true) (xT hg2) (wpL_nil (th_n ?_)))))
   exact ⟨true,_,hg2,hs,hb,hm⟩
  ·refine q1 (vp (some p1)) (want1 rfl (yD 6 hg2)) (stp (v:=(vi aA)) (want1 rfl (yD 6 hg2)) (xl (Tryz.isAgg3 _) (hb.c0 0 gZ)) (q1 (vb (decide (aA>9))) (want1 rfl (yD 6 hg2)) (q2 (vb (decide (aA>9))) (xF hg2) (wpL_nil (th_n ?_)))))
   exact ⟨false,_,hg2,hs,hb,hm⟩
 ·rintro ρ w2 ⟨b1'0,H2,he0,hs,hb,hH⟩
  subst he0
  refine norm_has hH ?_
  refine th_n ?_
  refine wpE_cond (t:=((decide (aA<1)) || (decide (aA>9)))) (by kernel_rfl) (fun hc1=>?_) (fun hc1=>?_)
  ·refine wpE_seq (rg (q0 (vb false) (wpL_nil (th_n (wpE_ret (th_r (rs1 Tryz.results133 (v:=(vb false)) ?_)))))))
   exact ⟨true,hc1,by kernel_rfl,(Ext.refl (F:=None) _).hst hs⟩
  ·refine wpE_skip (th_n (wpE_seq ?_))
   refine wpE_via (fun ρ wJ=>∃HJ:NP,Hst w0 None w0 HJ wJ∧HB HJ wJ [(p1,[(vi aA),(vi aB),(vi aC),(vu aK),(vs aJ),(vi aL),(vi aM)],86)]∧Has ρ [(2,(vb (((((((s_C aA) || (aB == 0)) && (((aA == 8) || (aA == 9)) || (aC == 0))) && ((aA == 2) || (aK == 0))) && ((aA == 3) || (decide (aJ=⟨#[]⟩)))) && ((decide ((s_A aA)≥1)) || (aL == 0))) && ((((s_A aA):Int) == 2) || (aM == 0)))))]) ?_ ?_
   ·refine rg (q0 (vp (some p1)) (q2 (vi aA) (xl (Tryz.isAgg3 _) (hb.c0 0 gZ)) ?_))
    refine sc Tryz.call134 ((p_C aA w2).mono ?_)
    rintro e w27 ⟨he,hE⟩
    refine ⟨(vb (s_C aA)),he.trans (by kernel_rfl),?_⟩
    have hs:=hs.pure hE
    have hb:=hb.pure hE
    refine q0 (vb (s_C aA)) ?_
    refine wpL_join 4 (fun ρ wJ=>∃b19'0:Bool,∃HJ:NP,((s_C aA)=b19'0)∧Hst w0 None w0 HJ wJ∧HB HJ wJ [(p1,[(vi aA),(vi aB),(vi aC),(vu aK),(vs aJ),(vi aL),(vi aM)],86)]∧Has ρ [(1,(vp (some p1))),(18,(vb (b19'0 || (aB == 0))))]) ?_ ?_
    ·rintro ρ w28 ⟨b19'0,H20,he0,hs,hb,hH⟩
     subst he0
     refine wpL_has hH ?_
     refine q0 (vb ((s_C aA) || (aB == 0))) ?_
     refine wpL_join 9 (fun ρ wJ=>∃b21'0:Bool,∃HJ:NP,(((s_C aA) || (aB == 0))=b21'0)∧Hst w0 None w0 HJ wJ∧HB HJ wJ [(p1,[(vi aA),(vi aB),(vi aC),(vu aK),(vs aJ),(vi aL),(vi aM)],86)]∧Has ρ [(1,(vp (some p1))),(28,(vb (b21'0 && (((aA == 8) || (aA == 9)) || (aC == 0)))))]) ?_ ?_
     ·rintro ρ w31 ⟨b21'0,H22,he0,hs,hb,hH⟩
      subst he0
      refine wpL_has hH ?_
      refine q0 (vb (((s_C aA) || (aB == 0)) && (((aA == 8) || (aA == 9)) || (aC == 0)))) ?_
      refine wpL_join 9 (fun ρ wJ=>∃b24'0:Bool,∃HJ:NP,((((s_C aA) || (aB == 0)) && (((aA == 8) || (aA == 9)) || (aC == 0)))=b24'0)∧Hst w0 None w0 HJ wJ∧HB HJ wJ [(p1,[(vi aA),(vi aB),(vi aC),(vu aK),(vs aJ),(vi aL),(vi aM)],86)]∧Has ρ [(1,(vp (some p1))),(38,(vb (b24'0 && ((aA == 2) || (aK == 0)))))]) ?_ ?_
      ·rintro ρ w35 ⟨b24'0,H25,he0,hs,hb,hH⟩
       subst he0
       refine wpL_has hH ?_
       refine q0 (vb ((((s_C aA) || (aB == 0)) && (((aA == 8) || (aA == 9)) || (aC == 0))) && ((aA == 2) || (aK == 0)))) ?_
       refine wpL_join 9 (fun ρ wJ=>∃b27'0:Bool,∃HJ:NP,(((((s_C aA) || (aB == 0)) && (((aA == 8) || (aA == 9)) || (aC == 0))) && ((aA == 2) || (aK == 0)))=b27'0)∧Hst w0 None w0 HJ wJ∧HB HJ wJ [(p1,[(vi aA),(vi aB),(vi aC),(vu aK),(vs aJ),(vi aL),(vi aM)],86)]∧Has ρ [(1,(vp (some p1))),(48,(vb (b27'0 && ((aA == 3) || (decide (aJ=⟨#[]⟩))))))]) ?_ ?_
       ·rintro ρ w38 ⟨b27'0,H28,he0,hs,hb,hH⟩
        subst he0
        refine wpL_has hH ?_
        refine q0 (vb (((((s_C aA) || (aB == 0)) && (((aA == 8) || (aA == 9)) || (aC == 0))) && ((aA == 2) || (aK == 0))) && ((aA == 3) || (decide (aJ=⟨#[]⟩))))) ?_
        refine wpL_join 10 (fun ρ wJ=>∃b30'0:Bool,∃HJ:NP,((((((s_C aA) || (aB == 0)) && (((aA == 8) || (aA == 9)) || (aC == 0))) && ((aA == 2) || (aK == 0))) && ((aA == 3) || (decide (aJ=⟨#[]⟩))))=b30'0)∧Hst w0 None w0 HJ wJ∧HB HJ wJ [(p1,[(vi aA),(vi aB),(vi aC),(vu aK),(vs aJ),(vi aL),(vi aM)],86)]∧Has ρ [(1,(vp (some p1))),(59,(vb (b30'0 && ((decide ((s_A aA)≥1)) || (aL == 0)))))]) ?_ ?_
        ·rintro ρ w42 ⟨b30'0,H31,he0,hs,hb,hH⟩
         subst he0
         refine wpL_has hH ?_
         refine q0 (vb ((((((s_C aA) || (aB == 0)) && (((aA == 8) || (aA == 9)) || (aC == 0))) && ((aA == 2) || (aK == 0))) && ((aA == 3) || (decide (aJ=⟨#[]⟩)))) && ((decide ((s_A aA)≥1)) || (aL == 0)))) ?_
         refine wpL_join 10 (fun ρ wJ=>∃b33'0:Bool,∃HJ:NP,(((((((s_C aA) || (aB == 0)) && (((aA == 8) || (aA == 9)) || (aC == 0))) && ((aA == 2) || (aK == 0))) && ((aA == 3) || (decide (aJ=⟨#[]⟩)))) && ((decide ((s_A aA)≥1)) || (aL == 0)))=b33'0)∧Hst w0 None w0 HJ wJ∧HB HJ wJ [(p1,[(vi aA),(vi aB),(vi aC),(vu aK),(vs aJ),(vi aL),(vi aM)],86)]∧Has ρ [(70,(vb (b33'0 && ((((s_A aA):Int) == 2) || (aM == 0)))))]) ?_ ?_
         ·rintro ρ w47 ⟨b33'0,H34,he0,hs,hb,hH⟩
          subst he0
          refine wpL_has hH ?_
          refine q0 (vb (((((((s_C aA) || (aB == 0)) && (((aA == 8) || (aA == 9)) || (aC == 0))) && ((aA == 2) || (aK == 0))) && ((aA == 3) || (decide (aJ=⟨#[]⟩)))) && ((decide ((s_A aA)≥1)) || (aL == 0))) && ((((s_A aA):Int) == 2) || (aM == 0)))) (wpL_nil (th_n ?_))
          exact ⟨_,hs,hb,hm⟩
         ·rcases Bool.eq_false_or_eq_true ((((((s_C aA) || (aB == 0)) && (((aA == 8) || (aA == 9)) || (aC == 0))) && ((aA == 2) || (aK == 0))) && ((aA == 3) || (decide (aJ=⟨#[]⟩)))) && ((decide ((s_A aA)≥1)) || (aL == 0))) with hg64 | hg64
          ·refine q1 (vp (some p1)) (want1 rfl (yD 60 hg64)) (stp (v:=(vi aA)) (want1 rfl (yD 60 hg64)) (xl (Tryz.isAgg3 _) (hb.c0 0 gZ)) ?_)
           refine st_call (want1 rfl (yD 60 hg64)) (xc Tryz.call46) ((p_A aA w42).mono ?_)
           rintro e w48 ⟨he,hE⟩
           refine ⟨(vi (s_A aA)),he.trans (by kernel_rfl),?_⟩
           have hs:=hs.pure hE
           have hb:=hb.pure hE
           refine q1 (vb (((s_A aA):Int) == 2)) (want1 rfl (yD 60 hg64)) (q1 (vb (((s_A aA):Int) == 2)) (want1 rfl (yD 60 hg64)) ?_)
           refine wpL_join 4 (fun ρ wJ=>∃b34'0:Bool,∃HJ:NP,((((s_A aA):Int) == 2)=b34'0)∧Hst w0 None w0 HJ wJ∧HB HJ wJ [(p1,[(vi aA),(vi aB),(vi aC),(vu aK),(vs aJ),(vi aL),(vi aM)],86)]∧Has ρ [(60,(vb ((((((s_C aA) || (aB == 0)) && (((aA == 8) || (aA == 9)) || (aC == 0))) && ((aA == 2) || (aK == 0))) && ((aA == 3) || (decide (aJ=⟨#[]⟩)))) && ((decide ((s_A aA)≥1)) || (aL == 0))))),(69,(vb (b34'0 || (aM == 0))))]) ?_ ?_
           ·rintro ρ w49 ⟨b34'0,H35,he0,hs,hb,hH⟩
            subst he0
            refine wpL_has hH ?_
            refine q2 (vb ((((s_A aA):Int) == 2) || (aM == 0))) (xT hg64) (wpL_nil ?_)
            exact ⟨true,_,hg64,hs,hb,hm⟩
           ·rcases Bool.eq_false_or_eq_true (((s_A aA):Int) == 2) with hg66 | hg66
            ·refine sk (yD 65 hg66) (sk (yD 65 hg66) (sk (yD 65 hg66) (stp (v:=(vb true)) (want1 rfl (yD 60 hg64)) (xT hg66) (wpL_nil ?_))))
             exact ⟨true,_,hg66,hs,hb,hm⟩
            ·refine q1 (vp (some (p1.add 6))) (want1 rfl (yD 65 hg66)) (stp (v:=(vi aM)) (want1 rfl (yD 65 hg66)) (xl (Tryz.isAgg30 _) (hb.c 0 6 gZ)) (q1 (vb (aM == 0)) (want1 rfl (yD 65 hg66)) (stp (v:=(vb (aM == 0))) (want1 rfl (yD 60 hg64)) (xF hg66) (wpL_nil ?_))))
             exact ⟨false,_,hg66,hs,hb,hm⟩
          ·refine sk (yD 60 hg64) (sk (yD 60 hg64) (sk (yD 60 hg64) (sk (yD 60 hg64) (sk (yD 60 hg64) (sm (sm (sm (sk (yD 60 hg64) (q2 (vb false) (xF hg64) (wpL_nil ?_))))))))))
           exact ⟨false,_,hg64,hs,hb,hm⟩
        ·rcases Bool.eq_false_or_eq_true (((((s_C aA) || (aB == 0)) && (((aA == 8) || (aA == 9)) || (aC == 0))) && ((aA == 2) || (aK == 0))) && ((aA == 3) || (decide (aJ=⟨#[]⟩)))) with hg58 | hg58
         ·refine q1 (vp (some p1)) (want1 rfl (yD 49 hg58)) (stp (v:=(vi aA)) (want1 rfl (yD 49 hg58)) (xl (Tryz.isAgg3 _) (hb.c0 0 gZ)) ?_)
          refine st_call (want1 rfl (yD 49 hg58)) (xc Tryz.call46) ((p_A aA w38).mono ?_)
          rintro e w43 ⟨he,hE⟩
          refine ⟨(vi (s_A aA)),he.trans (by kernel_rfl),?_⟩
          have hs:=hs.pure hE
          have hb:=hb.pure hE
          refine q1 (vb (decide ((s_A aA)≥1))) (want1 rfl (yD 49 hg58)) (q1 (vb (decide ((s_A aA)≥1))) (want1 rfl (yD 49 hg58)) ?_)
          refine wpL_join 4 (fun ρ wJ=>∃b31'0:Bool,∃HJ:NP,((decide ((s_A aA)≥1))=b31'0)∧Hst w0 None w0 HJ wJ∧HB HJ wJ [(p1,[(vi aA),(vi aB),(vi aC),(vu aK),(vs aJ),(vi aL),(vi aM)],86)]∧Has ρ [(1,(vp (some p1))),(49,(vb (((((s_C aA) || (aB == 0)) && (((aA == 8) || (aA == 9)) || (aC == 0))) && ((aA == 2) || (aK == 0))) && ((aA == 3) || (decide (aJ=⟨#[]⟩)))))),(58,(vb (b31'0 || (aL == 0))))]) ?_ ?_
          ·rintro ρ w44 ⟨b31'0,H32,he0,hs,hb,hH⟩
           subst he0
           refine wpL_has hH ?_
           refine q2 (vb ((decide ((s_A aA)≥1)) || (aL == 0))) (xT hg58) (wpL_nil ?_)
           exact ⟨true,_,hg58,hs,hb,hm⟩
          ·rcases Bool.eq_false_or_eq_true (decide ((s_A aA)≥1)) with hg60 | hg60
           ·refine sk (yD 54 hg60) (sk (yD 54 hg60) (sk (yD 54 hg60) (stp (v:=(vb true)) (want1 rfl (yD 49 hg58)) (xT hg60) (wpL_nil ?_))))
            exact ⟨true,_,hg60,hs,hb,hm⟩
           ·refine q1 (vp (some (p1.add 5))) (want1 rfl (yD 54 hg60)) (stp (v:=(vi aL)) (want1 rfl (yD 54 hg60)) (xl (Tryz.isAgg30 _) (hb.c 0 5 gZ)) (q1 (vb (aL == 0)) (want1 rfl (yD 54 hg60)) (stp (v:=(vb (aL == 0))) (want1 rfl (yD 49 hg58)) (xF hg60) (wpL_nil ?_))))
            exact ⟨false,_,hg60,hs,hb,hm⟩
         ·refine sk (yD 49 hg58) (sk (yD 49 hg58) (sk (yD 49 hg58) (sk (yD 49 hg58) (sk (yD 49 hg58) (sm (sm (sm (sk (yD 49 hg58) (q2 (vb false) (xF hg58) (wpL_nil ?_))))))))))
          exact ⟨false,_,hg58,hs,hb,hm⟩
       ·rcases Bool.eq_false_or_eq_true ((((s_C aA) || (aB == 0)) && (((aA == 8) || (aA == 9)) || (aC == 0))) && ((aA == 2) || (aK == 0))) with hg52 | hg52
        ·refine q1 (vp (some p1)) (want1 rfl (yD 39 hg52)) (stp (v:=(vi aA)) (want1 rfl (yD 39 hg52)) (xl (Tryz.isAgg3 _) (hb.c0 0 gZ)) (q1 (vb (aA == 3)) (want1 rfl (yD 39 hg52)) (q1 (vb (aA == 3)) (want1 rfl (yD 39 hg52)) ?_)))
         refine wpL_join 4 (fun ρ wJ=>∃b28'0:Bool,∃HJ:NP,((aA == 3)=b28'0)∧Hst w0 None w0 HJ wJ∧HB HJ wJ [(p1,[(vi aA),(vi aB),(vi aC),(vu aK),(vs aJ),(vi aL),(vi aM)],86)]∧Has ρ [(1,(vp (some p1))),(39,(vb ((((s_C aA) || (aB == 0)) && (((aA == 8) || (aA == 9)) || (aC == 0))) && ((aA == 2) || (aK == 0))))),(47,(vb (b28'0 || (decide (aJ=⟨#[]⟩)))))]) ?_ ?_
         ·rintro ρ w39 ⟨b28'0,H29,he0,hs,hb,hH⟩
          subst he0
          refine wpL_has hH ?_
          refine q2 (vb ((aA == 3) || (decide (aJ=⟨#[]⟩)))) (xT hg52) (wpL_nil ?_)
          exact ⟨true,_,hg52,hs,hb,hm⟩
         ·rcases Bool.eq_false_or_eq_true (aA == 3) with hg54 | hg54
          ·refine sk (yD 43 hg54) (sk (yD 43 hg54) (sk (yD 43 hg54) (stp (v:=(vb true)) (want1 rfl (yD 39 hg52)) (xT hg54) (wpL_nil ?_))))
           exact ⟨true,_,hg54,hs,hb,hm⟩
          ·refine q1 (vp (some (p1.add 4))) (want1 rfl (yD 43 hg54)) (stp (v:=(vs aJ)) (want1 rfl (yD 43 hg54)) (xl (Tryz.isAgg9 _) (hb.c 0 4 gZ)) (stp (v:=(vb (decide (aJ=⟨#[]⟩)))) (want1 rfl (yD 43 hg54)) (x_streq (by kernel_rfl) (by kernel_rfl)) (stp (v:=(vb (decide (aJ=⟨#[]⟩)))) (want1 rfl (yD 39 hg52)) (xF hg54) (wpL_nil ?_))))
           exact ⟨false,_,hg54,hs,hb,hm⟩
        ·refine sk (yD 39 hg52) (sk (yD 39 hg52) (sk (yD 39 hg52) (sk (yD 39 hg52) (sm (sm (sm (sk (yD 39 hg52) (q2 (vb false) (xF hg52) (wpL_nil ?_)))))))))
         exact ⟨false,_,hg52,hs,hb,hm⟩
      ·rcases Bool.eq_false_or_eq_true (((s_C aA) || (aB == 0)) && (((aA == 8) || (aA == 9)) || (aC == 0))) with hg46 | hg46
       ·refine q1 (vp (some p1)) (want1 rfl (yD 29 hg46)) (stp (v:=(vi aA)) (want1 rfl (yD 29 hg46)) (xl (Tryz.isAgg3 _) (hb.c0 0 gZ)) (q1 (vb (aA == 2)) (want1 rfl (yD 29 hg46)) (q1 (vb (aA == 2)) (want1 rfl (yD 29 hg46)) ?_)))
        refine wpL_join 4 (fun ρ wJ=>∃b25'0:Bool,∃HJ:NP,((aA == 2)=b25'0)∧Hst w0 None w0 HJ wJ∧HB HJ wJ [(p1,[(vi aA),(vi aB),(vi aC),(vu aK),(vs aJ),(vi aL),(vi aM)],86)]∧Has ρ [(1,(vp (some p1))),(29,(vb (((s_C aA) || (aB == 0)) && (((aA == 8) || (aA == 9)) || (aC == 0))))),(37,(vb (b25'0 || (aK == 0))))]) ?_ ?_
        ·rintro ρ w36 ⟨b25'0,H26,he0,hs,hb,hH⟩
         subst he0
         refine wpL_has hH ?_
         refine q2 (vb ((aA == 2) || (aK == 0))) (xT hg46) (wpL_nil ?_)
         exact ⟨true,_,hg46,hs,hb,hm⟩
        ·rcases Bool.eq_false_or_eq_true (aA == 2) with hg48 | hg48
         ·refine sk (yD 33 hg48) (sk (yD 33 hg48) (sk (yD 33 hg48) (stp (v:=(vb true)) (want1 rfl (yD 29 hg46)) (xT hg48) (wpL_nil ?_))))
          exact ⟨true,_,hg48,hs,hb,hm⟩
         ·refine q1 (vp (some (p1.add 3))) (want1 rfl (yD 33 hg48)) (stp (v:=(vu aK)) (want1 rfl (yD 33 hg48)) (xl (Tryz.isAgg47 _) (hb.c 0 3 gZ)) (q1 (vb (aK == 0)) (want1 rfl (yD 33 hg48)) (stp (v:=(vb (aK == 0))) (want1 rfl (yD 29 hg46)) (xF hg48) (wpL_nil ?_))))
          exact ⟨false,_,hg48,hs,hb,hm⟩
       ·refine sk (yD 29 hg46) (sk (yD 29 hg46) (sk (yD 29 hg46) (sk (yD 29 hg46) (sm (sm (sm (sk (yD 29 hg46) (q2 (vb false) (xF hg46) (wpL_nil ?_)))))))))
        exact ⟨false,_,hg46,hs,hb,hm⟩
     ·rcases Bool.eq_false_or_eq_true ((s_C aA) || (aB == 0)) with hg40 | hg40
      ·refine q1 (vp (some p1)) (want1 rfl (yD 19 hg40)) (stp (v:=(vi aA)) (want1 rfl (yD 19 hg40)) (xl (Tryz.isAgg3 _) (hb.c0 0 gZ)) ?_)
       refine st_call (want1 rfl (yD 19 hg40)) (xc Tryz.call136) ((p_R1 aA w28).mono ?_)
       rintro e w32 ⟨he,hE⟩
       refine ⟨(vb ((aA == 8) || (aA == 9))),he.trans (by kernel_rfl),?_⟩
       have hs:=hs.pure hE
       have hb:=hb.pure hE
       refine q1 (vb ((aA == 8) || (aA == 9))) (want1 rfl (yD 19 hg40)) ?_
       refine wpL_join 4 (fun ρ wJ=>∃b22'0:Bool,∃HJ:NP,(((aA == 8) || (aA == 9))=b22'0)∧Hst w0 None w0 HJ wJ∧HB HJ wJ [(p1,[(vi aA),(vi aB),(vi aC),(vu aK),(vs aJ),(vi aL),(vi aM)],86)]∧Has ρ [(1,(vp (some p1))),(19,(vb ((s_C aA) || (aB == 0)))),(27,(vb (b22'0 || (aC == 0))))]) ?_ ?_
       ·rintro ρ w33 ⟨b22'0,H23,he0,hs,hb,hH⟩
        subst he0
        refine wpL_has hH ?_
        refine q2 (vb (((aA == 8) || (aA == 9)) || (aC == 0))) (xT hg40) (wpL_nil ?_)
        exact ⟨true,_,hg40,hs,hb,hm⟩
       ·rcases Bool.eq_false_or_eq_true ((aA == 8) || (aA == 9)) with hg42 | hg42
        ·refine sk (yD 23 hg42) (sk (yD 23 hg42) (sk (yD 23 hg42) (stp (v:=(vb true)) (want1 rfl (yD 19 hg40)) (xT hg42) (wpL_nil ?_))))
         exact ⟨true,_,hg42,hs,hb,hm⟩
        ·refine q1 (vp (some (p1.add 2))) (want1 rfl (yD 23 hg42)) (stp (v:=(vi aC)) (want1 rfl (yD 23 hg42)) (xl (Tryz.isAgg3 _) (hb.c 0 2 gZ)) (q1 (vb (aC == 0)) (want1 rfl (yD 23 hg42)) (stp (v:=(vb (aC == 0))) (want1 rfl (yD 19 hg40)) (xF hg42) (wpL_nil ?_))))
         exact ⟨false,_,hg42,hs,hb,hm⟩
      ·refine sk (yD 19 hg40) (sk (yD 19 hg40) (sk (yD 19 hg40) (sk (yD 19 hg40) (sm (sm (sm (sk (yD 19 hg40) (q2 (vb false) (xF hg40) (wpL_nil ?_)))))))))
       exact ⟨false,_,hg40,hs,hb,hm⟩
    ·rcases Bool.eq_false_or_eq_true (s_C aA) with hg36 | hg36
     ·refine sk (yD 14 hg36) (sk (yD 14 hg36) (sk (yD 14 hg36) (q2 (vb true) (xT hg36) (wpL_nil ?_))))
      exact ⟨true,_,hg36,hs,hb,hm⟩
     ·refine q1 (vp (some (p1.add 1))) (want1 rfl (yD 14 hg36)) (stp (v:=(vi aB)) (want1 rfl (yD 14 hg36)) (xl (Tryz.isAgg3 _) (hb.c 0 1 gZ)) (q1 (vb (aB == 0)) (want1 rfl (yD 14 hg36)) (q2 (vb (aB == 0)) (xF hg36) (wpL_nil ?_))))
      exact ⟨false,_,hg36,hs,hb,hm⟩
   ·rintro ρ w26 ⟨H19,hs,hb,hH⟩
    refine norm_has hH ?_
    refine th_n (wpE_ret (rs1 Tryz.results133 (v:=(vb (((((((s_C aA) || (aB == 0)) && (((aA == 8) || (aA == 9)) || (aC == 0))) && ((aA == 2) || (aK == 0))) && ((aA == 3) || (decide (aJ=⟨#[]⟩)))) && ((decide ((s_A aA)≥1)) || (aL == 0))) && ((((s_A aA):Int) == 2) || (aM == 0))))) ?_))
    exact ⟨false,hc1,by kernel_rfl,(Ext.refl (F:=None) _).hst hs⟩
theorem p_V (aA aB:Int) (aC aK:Int) (aJ:ByteArray) (aL aM:Int) (w0:World):Calls Tryz.prog 133 #[(.agg #[(.int .i64 aA),(.int .i64 aB),(.int .i64 aC),(.int .u64 aK),(.string aJ),(.int .i64 aL),(.int .i64 aM)])] w0 (fun e w'=>e=.returned (.bool (s_V aA aB aC aK aJ aL aM))∧Pure w0 w'):=by
 refine (pw_V aA aB aC aK aJ aL aM w0).mono ?_
 rintro e w' ⟨b'0,e0,h,E⟩
 subst e0
 exact ⟨h,E⟩
def s_S1 (n1:Int):Bool :=
 ((decide (n1≥0)) && (decide (n1<16)))
theorem pw_S1 (n1 : Int) (w0 : World) :
  Calls Tryz.prog 135 #[(vi n1)] w0 (fun e w'=>(e=.returned (vb ((decide (n1≥0)) && (decide (n1<16)))))∧Pure w0 w'):=by
 refine cw (args:=[(vi n1)]) Tryz.func135 Tryz.ntmps135 (wpE_seq (rg (q0 (vb false) (wpL_nil (th_n (wpE_seq ?_))))))
 refine wpE_via (fun ρ wJ=>w0=wJ∧Has ρ [(2,(vb ((decide (n1≥0)) && (decide (n1<16)))))]) ?_ ?_
 ·refine rg (q0 (vi n1) (q0 (vb (decide (n1≥0))) (q0 (vb (decide (n1≥0))) ?_)))
  refine wpL_join 3 (fun ρ wJ=>∃b3'0:Bool,((decide (n1≥0))=b3'0)∧w0=wJ∧Has ρ [(8,(vb (b3'0 && (decide (n1<16)))))]) ?_ ?_
  ·rintro ρ w3 ⟨b3'0,he0,hw,hH⟩
   subst he0
   subst hw
   refine wpL_has hH ?_
   refine q0 (vb ((decide (n1≥0)) && (decide (n1<16)))) (wpL_nil (th_n ?_))
   exact ⟨rfl,hm⟩
  ·rcases Bool.eq_false_or_eq_true (decide (n1≥0)) with hg4 | hg4
   ·refine q1 (vi n1) (want1 rfl (yD 5 hg4)) (q1 (vb (decide (n1<16))) (want1 rfl (yD 5 hg4)) (q2 (vb (decide (n1<16))) (xT hg4) (wpL_nil ?_)))
    exact ⟨true,hg4,rfl,hm⟩
   ·refine sk (yD 5 hg4) (sk (yD 5 hg4) (q2 (vb false) (xF hg4) (wpL_nil ?_)))
    exact ⟨false,hg4,rfl,hm⟩
 ·rintro ρ w2 ⟨hw,hH⟩
  subst hw
  refine norm_has hH ?_
  refine th_n (wpE_ret (rs1 Tryz.results135 (v:=(vb ((decide (n1≥0)) && (decide (n1<16))))) ?_))
  exact ⟨by kernel_rfl,Ext.refl _⟩
theorem p_S1 (n1:Int) (w0:World):Calls Tryz.prog 135 #[(.int .i64 n1)] w0 (fun e w'=>e=.returned (.bool (s_S1 n1))∧Pure w0 w'):=pw_S1 n1 w0
def s_H (aA aB:Int) (aC aK:Int) (aJ:ByteArray) (aL aM:Int):Int :=
 (cond (!(s_V aA aB aC aK aJ aL aM)) 53 (cond (((s_C aA) && (!((decide (aB≥0)) && (decide (aB<16))))) || (((aA == 8) || (aA == 9)) && ((!((decide (aC≥0)) && (decide (aC<16)))) || (aB == aC)))) 50 (cond (decide ((aJ.size:Int)>64)) 1 0)))
theorem pw_H (aA aB : Int) (aC aK : Int) (aJ : ByteArray) (aL aM : Int) (w0 : World) :
  Calls Tryz.prog 86 #[(.agg #[(vi aA),(vi aB),(vi aC),(vu aK),(vs aJ),(vi aL),(vi aM)])] w0 (fun e w'=>∃b'0 b'1 b'2:Bool,((!(s_V aA aB aC aK aJ aL aM))=b'0∧(((s_C aA) && (!((decide (aB≥0)) && (decide (aB<16))))) || (((aA == 8) || (aA == 9)) && ((!((decide (aC≥0)) && (decide (aC<16)))) || (aB == aC))))=b'1∧(decide ((aJ.size:Int)>64))=b'2)∧(e=.returned (vi (cond b'0 53 (cond b'1 50 (cond b'2 1 0)))))∧Pure w0 w'):=by
 refine cw (args:=[(.agg #[(vi aA),(vi aB),(vi aC),(vu aK),(vs aJ),(vi aL),(vi aM)])]) Tryz.func86 Tryz.ntmps86 ?_
 have hs:=Hst.start w0
 have hb:=HB.nil None w0
 refine wpE_seq (rg (sn (O:=(.cells #[(vi aA),(vi aB),(vi aC),(vu aK),(vs aJ),(vi aL),(vi aM)] 86)) xb ?_))
 intro p1 w1 hn1
 obtain ⟨H1,hs,hb⟩:=hs.alloc hb hn1
 refine q0 (vi 0) (wpL_nil (th_n (wpE_seq (wpE_seq (rg (q2 (.agg #[(vi aA),(vi aB),(vi aC),(vu aK),(vs aJ),(vi aL),(vi aM)]) (x_loadA (a:=p1) (vs:=[(vi aA),(vi aB),(vi aC),(vu aK),(vs aJ),(vi aL),(vi aM)]) (by kernel_rfl) (Tryz.isAgg86 _) (Tryz.sizeOf86 _) rfl (hb.row0 0 7 gZ (by kernel_rfl))) ?_))))))
 refine sc Tryz.call133 ((p_V aA aB aC aK aJ aL aM w1).mono ?_)
 rintro e w2 ⟨he,hE⟩
 refine ⟨(vb (s_V aA aB aC aK aJ aL aM)),he.trans (by kernel_rfl),?_⟩
 have hs:=hs.pure hE
 have hb:=hb.pure hE
 refine q0 (vb (!(s_V aA aB aC aK aJ aL aM))) (wpL_nil (th_n ?_))
 refine wpE_cond (t:=(!(s_V aA aB aC aK aJ aL aM))) (by kernel_rfl) (fun hc1=>?_) (fun hc1=>?_)
 ·refine wpE_seq (rg (q0 (vi 53) (wpL_nil (th_n (wpE_ret (th_r (rs1 Tryz.results86 (v:=(vi 53)) ?_)))))))
  exact ⟨true,_,_,⟨hc1,rfl,rfl⟩,by kernel_rfl,(Ext.refl (F:=None) _).hst hs⟩
 ·refine wpE_skip (th_n (wpE_seq (wpE_seq ?_)))
  refine wpE_via (fun ρ wJ=>∃b5'0:Bool,∃HJ:NP,(((s_C aA) && (!((decide (aB≥0)) && (decide (aB<16)))))=b5'0)∧Hst w0 None w0 HJ wJ∧HB HJ wJ [(p1,[(vi aA),(vi aB),(vi aC),(vu aK),(vs aJ),(vi aL),(vi aM)],86)]∧Has ρ [(1,(vp (some p1))),(32,(vb (b5'0 || (((aA == 8) || (aA == 9)) && ((!((decide (aC≥0)) && (decide (aC<16)))) || (aB == aC))))))]) ?_ ?_
  ·refine rg (q0 (vp (some p1)) (q2 (vi aA) (xl (Tryz.isAgg3 _) (hb.c0 0 gZ)) ?_))
   refine sc Tryz.call134 ((p_C aA w2).mono ?_)
   rintro e w14 ⟨he,hE⟩
   refine ⟨(vb (s_C aA)),he.trans (by kernel_rfl),?_⟩
   have hs:=hs.pure hE
   have hb:=hb.pure hE
   refine q0 (vb (s_C aA)) ?_
   refine wpL_join 5 (fun ρ wJ=>∃b6'0:Bool,∃HJ:NP,((s_C aA)=b6'0)∧Hst w0 None w0 HJ wJ∧HB HJ wJ [(p1,[(vi aA),(vi aB),(vi aC),(vu aK),(vs aJ),(vi aL),(vi aM)],86)]∧Has ρ [(1,(vp (some p1))),(14,(vb (b6'0 && (!((decide (aB≥0)) && (decide (aB<16)))))))]) ?_ ?_
   ·rintro ρ w16 ⟨b6'0,H7,he0,hs,hb,hH⟩
    subst he0
    refine wpL_has hH ?_
    refine q0 (vb ((s_C aA) && (!((decide (aB≥0)) && (decide (aB<16)))))) ?_
    rcases Bool.eq_false_or_eq_true ((s_C aA) && (!((decide (aB≥0)) && (decide (aB<16))))) with hg12 | hg12
    ·refine sk (yD 15 hg12) (sk (yD 15 hg12) (sk (yD 15 hg12) (sk (yD 15 hg12) (sm (sm (sm (sm (sm (sm (sm (sm ?_)))))))))))
     refine sm (sm (sm (sk (yD 15 hg12) (q2 (vb true) (xT hg12) (wpL_nil (th_n ?_))))))
     exact ⟨true,_,hg12,hs,hb,hm⟩
    ·refine q1 (vp (some p1)) (want1 rfl (yD 15 hg12)) (stp (v:=(vi aA)) (want1 rfl (yD 15 hg12)) (xl (Tryz.isAgg3 _) (hb.c0 0 gZ)) ?_)
     refine st_call (want1 rfl (yD 15 hg12)) (xc Tryz.call136) ((p_R1 aA w16).mono ?_)
     rintro e w18 ⟨he,hE⟩
     refine ⟨(vb ((aA == 8) || (aA == 9))),he.trans (by kernel_rfl),?_⟩
     have hs:=hs.pure hE
     have hb:=hb.pure hE
     refine q1 (vb ((aA == 8) || (aA == 9))) (want1 rfl (yD 15 hg12)) ?_
     refine wpL_join 12 (fun ρ wJ=>∃b8'0:Bool,∃HJ:NP,(((aA == 8) || (aA == 9))=b8'0)∧Hst w0 None w0 HJ wJ∧HB HJ wJ [(p1,[(vi aA),(vi aB),(vi aC),(vu aK),(vs aJ),(vi aL),(vi aM)],86)]∧Has ρ [(1,(vp (some p1))),(15,(vb ((s_C aA) && (!((decide (aB≥0)) && (decide (aB<16))))))),(31,(vb (b8'0 && ((!((decide (aC≥0)) && (decide (aC<16)))) || (aB == aC)))))]) ?_ ?_
     ·rintro ρ w21 ⟨b8'0,H9,he0,hs,hb,hH⟩
      subst he0
      refine wpL_has hH ?_
      refine q2 (vb (((aA == 8) || (aA == 9)) && ((!((decide (aC≥0)) && (decide (aC<16)))) || (aB == aC)))) (xF hg12) (wpL_nil (th_n ?_))
      exact ⟨false,_,hg12,hs,hb,hm⟩
     ·rcases Bool.eq_false_or_eq_true ((aA == 8) || (aA == 9)) with hg16 | hg16
      ·refine q1 (vp (some (p1.add 2))) (want1 rfl (yD 19 hg16)) (stp (v:=(vi aC)) (want1 rfl (yD 19 hg16)) (xl (Tryz.isAgg3 _) (hb.c 0 2 gZ)) ?_)
       refine st_call (want1 rfl (yD 19 hg16)) (xc Tryz.call135) ((p_S1 aC w18).mono ?_)
       rintro e w22 ⟨he,hE⟩
       refine ⟨(vb ((decide (aC≥0)) && (decide (aC<16)))),he.trans (by kernel_rfl),?_⟩
       have hs:=hs.pure hE
       have hb:=hb.pure hE
       refine q1 (vb (!((decide (aC≥0)) && (decide (aC<16))))) (want1 rfl (yD 19 hg16)) (q1 (vb (!((decide (aC≥0)) && (decide (aC<16))))) (want1 rfl (yD 19 hg16)) ?_)
       refine wpL_join 6 (fun ρ wJ=>∃b9'0:Bool,∃HJ:NP,((!((decide (aC≥0)) && (decide (aC<16))))=b9'0)∧Hst w0 None w0 HJ wJ∧HB HJ wJ [(p1,[(vi aA),(vi aB),(vi aC),(vu aK),(vs aJ),(vi aL),(vi aM)],86)]∧Has ρ [(1,(vp (some p1))),(15,(vb ((s_C aA) && (!((decide (aB≥0)) && (decide (aB<16))))))),(19,(vb ((aA == 8) || (aA == 9)))),(30,(vb (b9'0 || (aB == aC))))]) ?_ ?_
       ·rintro ρ w23 ⟨b9'0,H10,he0,hs,hb,hH⟩
        subst he0
        refine wpL_has hH ?_
        refine stp (v:=(vb ((!((decide (aC≥0)) && (decide (aC<16)))) || (aB == aC)))) (want1 rfl (yD 15 hg12)) (xT hg16) (wpL_nil ?_)
        exact ⟨true,_,hg16,hs,hb,hm⟩
       ·rcases Bool.eq_false_or_eq_true (!((decide (aC≥0)) && (decide (aC<16)))) with hg18 | hg18
        ·refine sk (yD 24 hg18) (sk (yD 24 hg18) (sk (yD 24 hg18) (sk (yD 24 hg18) (sk (yD 24 hg18) (stp (v:=(vb true)) (want1 rfl (yD 19 hg16)) (xT hg18) (wpL_nil ?_))))))
         exact ⟨true,_,hg18,hs,hb,hm⟩
        ·refine q1 (vp (some (p1.add 1))) (want1 rfl (yD 24 hg18)) (stp (v:=(vi aB)) (want1 rfl (yD 24 hg18)) (xl (Tryz.isAgg3 _) (hb.c 0 1 gZ)) (q1 (vp (some (p1.add 2))) (want1 rfl (yD 24 hg18)) (stp (v:=(vi aC)) (want1 rfl (yD 24 hg18)) (xl (Tryz.isAgg3 _) (hb.c 0 2 gZ)) (q1 (vb (aB == aC)) (want1 rfl (yD 24 hg18)) (stp (v:=(vb (aB == aC))) (want1 rfl (yD 19 hg16)) (xF hg18) (wpL_nil ?_))))))
         exact ⟨false,_,hg18,hs,hb,hm⟩
      ·refine sk (yD 19 hg16) (sk (yD 19 hg16) (sk (yD 19 hg16) (sk (yD 19 hg16) (sk (yD 19 hg16) (sm (sm (sm (sm (sm (sk (yD 19 hg16) (stp (v:=(vb false)) (want1 rfl (yD 15 hg12)) (xF hg16) ?_)))))))))))
       refine wpL_nil ?_
       exact ⟨false,_,hg16,hs,hb,hm⟩
   ·rcases Bool.eq_false_or_eq_true (s_C aA) with hg11 | hg11
    ·refine q1 (vp (some (p1.add 1))) (want1 rfl (yD 9 hg11)) (stp (v:=(vi aB)) (want1 rfl (yD 9 hg11)) (xl (Tryz.isAgg3 _) (hb.c 0 1 gZ)) ?_)
     refine st_call (want1 rfl (yD 9 hg11)) (xc Tryz.call135) ((p_S1 aB w14).mono ?_)
     rintro e w17 ⟨he,hE⟩
     refine ⟨(vb ((decide (aB≥0)) && (decide (aB<16)))),he.trans (by kernel_rfl),?_⟩
     have hs:=hs.pure hE
     have hb:=hb.pure hE
     refine q1 (vb (!((decide (aB≥0)) && (decide (aB<16))))) (want1 rfl (yD 9 hg11)) (q2 (vb (!((decide (aB≥0)) && (decide (aB<16))))) (xT hg11) (wpL_nil ?_))
     exact ⟨true,_,hg11,hs,hb,hm⟩
    ·refine sk (yD 9 hg11) (sk (yD 9 hg11) (sk (yD 9 hg11) (sk (yD 9 hg11) (q2 (vb false) (xF hg11) (wpL_nil ?_)))))
     exact ⟨false,_,hg11,hs,hb,hm⟩
  ·rintro ρ w13 ⟨b5'0,H6,he0,hs,hb,hH⟩
   subst he0
   refine norm_has hH ?_
   refine th_n ?_
   refine wpE_cond (t:=(((s_C aA) && (!((decide (aB≥0)) && (decide (aB<16))))) || (((aA == 8) || (aA == 9)) && ((!((decide (aC≥0)) && (decide (aC<16)))) || (aB == aC))))) (by kernel_rfl) (fun hc2=>?_) (fun hc2=>?_)
   ·refine wpE_seq (rg (q0 (vi 50) (wpL_nil (th_n (wpE_ret (th_r (rs1 Tryz.results86 (v:=(vi 50)) ?_)))))))
    exact ⟨false,true,_,⟨hc1,hc2,rfl⟩,by kernel_rfl,(Ext.refl (F:=None) _).hst hs⟩
   ·refine wpE_skip (th_n (wpE_seq (wpE_seq (rg (q0 (vp (some (p1.add 4))) (q2 (vs aJ) (xl (Tryz.isAgg9 _) (hb.c 0 4 gZ)) (q0 (vi (aJ.size:Int)) (q0 (vb (decide ((aJ.size:Int)>64))) (wpL_nil (th_n ?_))))))))))
    refine wpE_cond (t:=(decide ((aJ.size:Int)>64))) (by kernel_rfl) (fun hc3=>?_) (fun hc3=>?_)
    ·refine wpE_seq (rg (q0 (vi 1) (wpL_nil (th_n (wpE_ret (th_r (rs1 Tryz.results86 (v:=(vi 1)) ?_)))))))
     exact ⟨false,false,true,⟨hc1,hc2,hc3⟩,by kernel_rfl,(Ext.refl (F:=None) _).hst hs⟩
    ·refine wpE_skip (th_n (wpE_seq (rg (q0 (vi 0) (wpL_nil (th_n (wpE_ret (rs1 Tryz.results86 (v:=(vi 0)) ?_))))))))
     exact ⟨false,false,false,⟨hc1,hc2,hc3⟩,by kernel_rfl,(Ext.refl (F:=None) _).hst hs⟩
theorem p_H (aA aB:Int) (aC aK:Int) (aJ:ByteArray) (aL aM:Int) (w0:World):Calls Tryz.prog 86 #[(.agg #[(.int .i64 aA),(.int .i64 aB),(.int .i64 aC),(.int .u64 aK),(.string aJ),(.int .i64 aL),(.int .i64 aM)])] w0 (fun e w'=>e=.returned (.int .i64 (s_H aA aB aC aK aJ aL aM))∧Pure w0 w'):=by
 refine (pw_H aA aB aC aK aJ aL aM w0).mono ?_
 rintro e w' ⟨b'0,b'1,b'2,⟨e0,e1,e2⟩,h,E⟩
 subst e0
 subst e1
 subst e2
 exact ⟨h,E⟩
def m_P_l2 (aI:Sl) (deep1:Int) (seen1:Option Addr) (e1 i1:Int) (w0:World) (Hl1:NP) (wl1:World) (Kc2:Int→Int→NP→WP) (K:Int→WP):Prop :=
 Br ((e1 == 0) && (decide (i1<(aI.len:Int))))
  (∃a3:Addr,At aI i1 6 a3 ∧
  ∀(H4:NP) (w11:World),Hst w0 Hl1 wl1 H4 w11 →
  ∃aN aO:Int,∃aP aQ:Int,∃aR:ByteArray,∃bE:Sl,Row w11 a3 [(vi aN),(vi aO),(vi aP),(vu aQ),(vs aR),bE.v] ∧
  Calls Tryz.prog 106 #[(.agg #[(vi aN),(vi aO),(vi aP),(vu aQ),(vs aR),bE.v]),(vi (q6.wrap (deep1+1))),(vp seen1)] w11 (fun e w12=>∃r1:Int,e=.returned (vi r1)∧
   Kept H4 w11 w12 ∧
   Kc2 r1 (q6.wrap (i1+1)) H4 w12))
  (∀(H4:NP) (w11:World),Hst w0 Hl1 wl1 H4 w11 →
  K e1 w11)
def m_P_j1 (aD aE:Int) (aF aG:Int) (aH:ByteArray) (aI:Sl) (deep1:Int) (seen1:Option Addr) (x1:Bool) (w0:World) (H:NP) (w:World) (K:Int→WP):Prop :=
 Br x1
  (K 52 w)
  (∃a1:Addr,seen1=some a1 ∧
  ∃v1:Int,w.cell? a1=some (vi v1) ∧
  ∃a2:Addr,seen1=some a2 ∧
  CanW w a2∧¬ H a2.block∧∀w2:World,w2=w.setCell a2 (vi (q6.wrap (v1+1))) →
  ∀y1:Bool,y1=((((s_H aD aE aF aG aH 0 0):Int) != 53) && (((aI.len:Int):Int) != (s_A aD))) →
  ∀(H3:NP) (w10:World),Hst w0 H w2 H3 w10 →
  ∃(I1:Int→Int→NP→WP) (mu1:Int→Int→World→Nat),I1 (cond y1 53 (s_H aD aE aF aG aH 0 0)) 0 H3 w10 ∧
   ∀(e1 i1:Int) (Hl1:NP) (wl1:World),Hst w0 Hl1 wl1 Hl1 wl1→I1 e1 i1 Hl1 wl1→m_P_l2 aI deep1 seen1 e1 i1 w0 Hl1 wl1 (fun y'0 y'1 H' w'=>I1 y'0 y'1 H' w'∧mu1 y'0 y'1 w'<mu1 e1 i1 wl1) K)
def m_P (aD aE:Int) (aF aG:Int) (aH:ByteArray) (aI:Sl) (deep1:Int) (seen1:Option Addr) (w0:World) (K:Int→WP):Prop :=
 ∃a4:Addr,seen1=some a4 ∧
 ∀(H1:NP) (w1:World),Hst w0 None w0 H1 w1 →
 ∃v2:Int,w1.cell? a4=some (vi v2) ∧
 ∀(H5:NP) (w13:World),Hst w0 H1 w1 H5 w13 →
 m_P_j1 aD aE aF aG aH aI deep1 seen1 ((decide (v2≥4096)) || (decide (deep1≥64))) w0 H5 w13 K
theorem w_P (aD aE : Int) (aF aG : Int) (aH : ByteArray) (aI : Sl) (deep1 : Int) (seen1 : Option Addr) (w0 : World) (K : Int → WP) (h : m_P aD aE aF aG aH aI deep1 seen1 w0 K) :
  Calls Tryz.prog 106 #[(.agg #[(vi aD),(vi aE),(vi aF),(vu aG),(vs aH),aI.v]),(vi deep1),(vp seen1)] w0 (fun e w'=>∃r2:Int,e=.returned (vi r2)∧K r2 w'):=by
 unfold m_P at h
 refine cw (args:=[(.agg #[(vi aD),(vi aE),(vi aF),(vu aG),(vs aH),aI.v]),(vi deep1),(vp seen1)]) Tryz.func106 Tryz.ntmps106 ?_
 have hs:=Hst.start w0
 have hb:=HB.nil None w0
 refine wpE_seq (rg (sn (O:=(.cells #[(vi aD),(vi aE),(vi aF),(vu aG),(vs aH),aI.v] 49)) xb ?_))
 intro p1 w1 hn1
 obtain ⟨H1,hs,hb⟩:=hs.alloc hb hn1
 refine q0 (vi 0) (wpL_nil (th_n (wpE_seq (wpE_seq ?_))))
 refine wpE_joinT (fun ρ w=>∃x1:Bool,∃H:NP,Has ρ [(1,(vi deep1)),(2,(vp seen1)),(3,(vp (some p1))),(16,(vb x1))]∧Hst w0 H w H w∧HB H w [(p1,[(vi aD),(vi aE),(vi aF),(vu aG),(vs aH),aI.v],49)]∧m_P_j1 aD aE aF aG aH aI deep1 seen1 x1 w0 H w K) ?_ ?_
 ·rintro ρ w ⟨x1,H,hH,hs,hb,h⟩
  unfold m_P_j1 at h
  refine wpE_has hH ?_
  refine wpE_cond (t:=x1) (by kernel_rfl) (fun hc1=>?_) (fun hc1=>?_)
  ·have h:=h.1 hc1
   refine wpE_seq (rg (q0 (vi 52) (wpL_nil (th_n (wpE_ret (th_r (rs1 Tryz.results106 (v:=(vi 52)) ?_)))))))
   exact ⟨52,rfl,h⟩
  ·have h:=h.2 hc1
   refine wpE_skip (th_n (wpE_seq (rg (q0 (vp seen1) (q0 (vp seen1) ?_)))))
   obtain ⟨a1,hp1,h⟩:=h
   refine q2 (vp (some a1)) (x_nilCheck (p:=seen1) (by kernel_rfl) hp1) ?_
   obtain ⟨v1,hv3,h⟩:=h
   refine q2 (vi v1) (xl (Tryz.isAgg3 _) hv3) (q0 (vi (q6.wrap (v1+1))) ?_)
   obtain ⟨a2,hp2,h⟩:=h
   refine q2 (vp (some a2)) (x_nilCheck (p:=seen1) (by kernel_rfl) hp2) ?_
   obtain ⟨hp3,hnh,h⟩:=h
   refine st_set (want0 rfl) (x_store (a:=a2) (v:=(vi (q6.wrap (v1+1)))) (by kernel_rfl) (by kernel_rfl) rfl (Tryz.sizeOf3 _) hp3) ?_
   intro w2 hn2
   have h:=h w2 hn2
   have hk:=Kept.sc hnh hn2
   obtain ⟨hs,hb⟩:=hk.hh hs hb
   refine wpL_nil (th_n (wpE_seq (rg (q2 (.agg #[(vi aD),(vi aE),(vi aF),(vu aG),(vs aH),aI.v]) (x_loadA (a:=p1) (vs:=[(vi aD),(vi aE),(vi aF),(vu aG),(vs aH),aI.v]) (by kernel_rfl) (Tryz.isAgg49 _) (Tryz.sizeOf49 _) rfl (hb.row0 0 6 gZ (by kernel_rfl))) ?_))))
   refine sc Tryz.call107 ((p_U aD aE aF aG aH aI w2).mono ?_)
   rintro e w3 ⟨he,hE⟩
   refine ⟨(.agg #[(vi aD),(vi aE),(vi aF),(vu aG),(vs aH),(vi 0),(vi 0)]),he.trans (by kernel_rfl),?_⟩
   have hs:=hs.pure hE
   have hb:=hb.pure hE
   refine sc Tryz.call86 ((p_H aD aE aF aG aH 0 0 w3).mono ?_)
   rintro e w4 ⟨he,hE⟩
   refine ⟨(vi (s_H aD aE aF aG aH 0 0)),he.trans (by kernel_rfl),?_⟩
   have hs:=hs.pure hE
   have hb:=hb.pure hE
   refine q0 (vi (s_H aD aE aF aG aH 0 0)) (wpL_nil (th_n (wpE_seq (wpE_seq ?_))))
   refine wpE_via (fun ρ wJ=>∃b1'0 y1:Bool,∃HJ:NP,((((s_H aD aE aF aG aH 0 0):Int) != 53)=b1'0)∧(y1=(b1'0 && (((aI.len:Int):Int) != (s_A aD))))∧Hst w0 H w2 HJ wJ∧HB HJ wJ [(p1,[(vi aD),(vi aE),(vi aF),(vu aG),(vs aH),aI.v],49)]∧Has ρ [(1,(vi deep1)),(2,(vp seen1)),(3,(vp (some p1))),(7,(vi (s_H aD aE aF aG aH 0 0))),(36,(vb y1))]) ?_ ?_
   ·refine wpE_drawnC (fun x=>∃H',Hst w0 H w2 H' x∧HB H' x [(p1,[(vi aD),(vi aE),(vi aF),(vu aG),(vs aH),aI.v],49)]) [8] [] (by kernel_rfl) (by kernel_rfl) (by kernel_rfl) (by kernel_rfl) ⟨_,hs.drew,hb.drew⟩ ?_
    intro w8 hw8
    have hs:Hst w0 H w2 H w8:=by rw [hw8];exact hs.drew
    have hb:HB H w8 [(p1,[(vi aD),(vi aE),(vi aF),(vu aG),(vs aH),aI.v],49)]:=by rw [hw8];exact hb.drew
    refine qx 0 (vi (s_H aD aE aF aG aH 0 0)) Kp0 (qx 1 (vb (((s_H aD aE aF aG aH 0 0):Int) != 53)) Kp1 (qx 2 (vb (((s_H aD aE aF aG aH 0 0):Int) != 53)) Kp2 (qg 3 ?_)))
    rcases Bool.eq_false_or_eq_true (((s_H aD aE aF aG aH 0 0):Int) != 53) with hg2 | hg2
    ·refine sz (v:=(vp (some (p1.add 5)))) Kp3 (want1 rfl (yD 28 hg2)) (fun _ _=>(by kernel_rfl)) (qg 4 (sz (v:=aI.v) Kp4 (want1 rfl (yD 28 hg2)) (fun w' hw'=>(by obtain ⟨H',hs',hb'⟩:=hw';exact (xl (Tryz.isAgg22 _) (hb'.cell 0 5 gZ (by kernel_rfl))))) (qw 5 (vi (aI.len:Int)) Kp5 (want1 rfl (yD 28 hg2)) (qw 6 (vp (some p1)) Kp6 (want1 rfl (yD 28 hg2)) (qg 7 (sz (v:=(vi aD)) Kp7 (want1 rfl (yD 28 hg2)) (fun w' hw'=>(by obtain ⟨H',hs',hb'⟩:=hw';exact (xl (Tryz.isAgg3 _) (hb'.cell0 0 gZ (by kernel_rfl))))) (lg 8 ?_)))))))
     refine sl_call Kp8 (want1 rfl (yD 28 hg2)) (by kernel_rfl) (xc Tryz.call46) ((p_A aD w8).mono ?_)
     rintro e w9 ⟨he,hE⟩
     have hs:=hs.pure hE
     have hb:=hb.pure hE
     refine ⟨(vi (s_A aD)),he.trans (by kernel_rfl),.inr ⟨_,hs,hb⟩,?_⟩
     refine qw 9 (vb (((aI.len:Int):Int) != (s_A aD))) Kp9 (want1 rfl (yD 28 hg2)) (qz 10 (vb (((aI.len:Int):Int) != (s_A aD))) (pickA (S8 (pickS (pickS pickZ)))) (fun _ _=>(xT hg2)) (wn (th_n ?_)))
     exact ⟨true,_,_,hg2,rfl,hs,hb,hm⟩
    ·refine sx_not Kp3 (unwant rfl (yD 28 hg2) rfl) (qn 4 Kp4 (unwant rfl (yD 28 hg2) rfl) (qn 5 Kp5 (unwant rfl (yD 28 hg2) rfl) (qn 6 Kp6 (unwant rfl (yD 28 hg2) rfl) (qn 7 Kp7 (unwant rfl (yD 28 hg2) rfl) (lg 8 (sx_not Kp8 (unwant rfl (yD 28 hg2) rfl) (qn 9 Kp9 (unwant rfl (yD 28 hg2) rfl) (qz 10 (vb false) (pickA (S8 (pickS (pickS pickZ)))) (fun _ _=>(xF hg2)) (wn (th_n ?_))))))))))
     exact ⟨false,_,_,hg2,rfl,hs,hb,hm⟩
   ·rintro ρ w7 ⟨b1'0,y1,H2,he0,hy1,hs,hb,hH⟩
    subst he0
    have h:=h y1 hy1
    refine norm_has hH ?_
    refine th_n ?_
    refine wpE_via (fun ρ wJ=>∃b2'0:Bool,∃HJ:NP,(y1=b2'0)∧Hst w0 H w2 HJ wJ∧HB HJ wJ [(p1,[(vi aD),(vi aE),(vi aF),(vu aG),(vs aH),aI.v],49)]∧Has ρ [(1,(vi deep1)),(2,(vp seen1)),(3,(vp (some p1))),(7,(vi (cond b2'0 53 (s_H aD aE aF aG aH 0 0))))]) ?_ ?_
    ·refine wpE_cond (t:=y1) (by kernel_rfl) (fun hc3=>?_) (fun hc3=>?_)
     ·refine rg (q0 (vi 53) (wpL_nil (th_n ?_)))
      exact ⟨true,_,hc3,hs,hb,hm⟩
     ·refine wpE_skip (th_n ?_)
      exact ⟨false,_,hc3,hs,hb,hm⟩
    ·rintro ρ w10 ⟨b2'0,H3,he0,hs,hb,hH⟩
     subst he0
     refine norm_has hH ?_
     refine th_n (wpE_seq (wpE_seq (rg (q0 (vi 0) (wpL_nil (th_n (wpE_block ?_)))))))
     have h:=h H3 w10 hs
     have hs:=hs.here
     obtain ⟨I1,mu1,h0,hr⟩:=h
     refine wpE_loop (σ:=Int×Int×NP×World) (fun s ρ w=>w=s.2.2.2∧Has ρ [(1,(vi deep1)),(2,(vp seen1)),(3,(vp (some p1))),(7,(vi s.1)),(8,(vi s.2.1))]∧Hst w0 s.2.2.1 w s.2.2.1 w∧HB s.2.2.1 w [(p1,[(vi aD),(vi aE),(vi aF),(vu aG),(vs aH),aI.v],49)]∧I1 s.1 s.2.1 s.2.2.1 s.2.2.2) (fun s=>mu1 s.1 s.2.1 s.2.2.2) ((cond y1 53 (s_H aD aE aF aG aH 0 0)),0,H3,w10) ⟨rfl,hm,hs,hb,h0⟩ ?_
     rintro ⟨e1,i1,Hl1,wl1⟩ ρ w ⟨hw,hH,hs,hb,hI⟩
     obtain rfl:wl1=w:=(show w=wl1 from hw).symm
     have hH:Has ρ [(1,(vi deep1)),(2,(vp seen1)),(3,(vp (some p1))),(7,(vi e1)),(8,(vi i1))]:=hH
     have hs:Hst w0 Hl1 wl1 Hl1 wl1:=hs
     have hb:HB Hl1 wl1 [(p1,[(vi aD),(vi aE),(vi aF),(vu aG),(vs aH),aI.v],49)]:=hb
     have h:=hr e1 i1 Hl1 wl1 hs hI
     unfold m_P_l2 at h
     refine wpE_has hH ?_
     refine wpE_seq (wpE_seq ?_)
     refine wpE_via (fun ρ wJ=>∃b3'0:Bool,∃HJ:NP,((e1 == 0)=b3'0)∧Hst w0 Hl1 wl1 HJ wJ∧HB HJ wJ [(p1,[(vi aD),(vi aE),(vi aF),(vu aG),(vs aH),aI.v],49)]∧Has ρ [(1,(vi deep1)),(2,(vp seen1)),(3,(vp (some p1))),(7,(vi e1)),(8,(vi i1)),(45,(vb (b3'0 && (decide (i1<(aI.len:Int))))))]) ?_ ?_
     ·refine rg (q0 (vi e1) (q0 (vb (e1 == 0)) (q0 (vb (e1 == 0)) ?_)))
      rcases Bool.eq_false_or_eq_true (e1 == 0) with hg4 | hg4
      ·refine q1 (vi i1) (want1 rfl (yD 39 hg4)) (q1 (vp (some (p1.add 5))) (want1 rfl (yD 39 hg4)) (stp (v:=aI.v) (want1 rfl (yD 39 hg4)) (xl (Tryz.isAgg22 _) (hb.c 0 5 gZ)) (q1 (vi (aI.len:Int)) (want1 rfl (yD 39 hg4)) (q1 (vb (decide (i1<(aI.len:Int)))) (want1 rfl (yD 39 hg4)) (q2 (vb (decide (i1<(aI.len:Int)))) (xT hg4) (wpL_nil (th_n ?_)))))))
       exact ⟨true,_,hg4,hs,hb,hm⟩
      ·refine sk (yD 39 hg4) (sk (yD 39 hg4) (sk (yD 39 hg4) (sk (yD 39 hg4) (sk (yD 39 hg4) (q2 (vb false) (xF hg4) (wpL_nil (th_n ?_)))))))
       exact ⟨false,_,hg4,hs,hb,hm⟩
     ·rintro ρ w11 ⟨b3'0,H4,he0,hs,hb,hH⟩
      subst he0
      refine norm_has hH ?_
      refine th_n ?_
      refine wpE_cond (t:=((e1 == 0) && (decide (i1<(aI.len:Int))))) (by kernel_rfl) (fun hc4=>?_) (fun hc4=>?_)
      ·have h:=h.1 hc4
       refine wpE_skip (th_n (wpE_seq (wpE_block (rg (q0 (vp (some (p1.add 5))) (q2 aI.v (xl (Tryz.isAgg22 _) (hb.c 0 5 gZ)) (q0 (vi i1) ?_)))))))
       obtain ⟨a3,hv2,h⟩:=h
       refine q2 (vp (some a3)) (xi (Tryz.runUnderlying22 _) (Tryz.sizeOf49 _) hv2) ?_
       have h:=h H4 w11 hs
       have hs:=hs.here
       obtain ⟨aN,aO,aP,aQ,aR,bE,hv1,h⟩:=h
       refine q2 (.agg #[(vi aN),(vi aO),(vi aP),(vu aQ),(vs aR),bE.v]) (x_loadA (a:=a3) (vs:=[(vi aN),(vi aO),(vi aP),(vu aQ),(vs aR),bE.v]) (by kernel_rfl) (Tryz.isAgg49 _) (Tryz.sizeOf49 _) rfl hv1) (q0 (vi deep1) (q0 (vi (q6.wrap (deep1+1))) (q0 (vp seen1) ?_)))
       refine sc Tryz.call106 (h.mono ?_)
       rintro e w12 ⟨r1,rfl,hk,h⟩
       refine ⟨_,rfl,?_⟩
       obtain ⟨hs,hb⟩:=hk.hh hs hb
       refine q0 (vi r1) (wpL_nil (bl_n (th_n (rg (q0 (vi i1) (q0 (vi (q6.wrap (i1+1))) (q0 (vi (q6.wrap (i1+1))) (wpL_nil (th_n ?_)))))))))
       exact ⟨(r1,(q6.wrap (i1+1)),H4,w12),⟨rfl,hm,hs,hb,h.1⟩,h.2⟩
      ·have h:=h.2 hc4
       refine wpE_exit (th_x (th_x (bl_eq (th_n (wpE_seq (rg (q0 (vi e1) (q0 (vi e1) (wpL_nil (th_n (wpE_ret ?_)))))))))))
       have h:=h H4 w11 hs
       have hs:=hs.here
       refine rs1 Tryz.results106 (v:=(vi e1)) ?_
       exact ⟨e1,rfl,h⟩
 ·refine rg (q0 (vp seen1) ?_)
  obtain ⟨a4,hp4,h⟩:=h
  refine q2 (vp (some a4)) (x_nilCheck (p:=seen1) (by kernel_rfl) hp4) ?_
  have h:=h H1 w1 hs
  have hs:=hs.here
  obtain ⟨v2,hv4,h⟩:=h
  refine q2 (vi v2) (xl (Tryz.isAgg3 _) hv4) (q0 (vb (decide (v2≥4096))) (q0 (vb (decide (v2≥4096))) ?_))
  refine wpL_join 3 (fun ρ wJ=>∃b4'0:Bool,∃HJ:NP,((decide (v2≥4096))=b4'0)∧Hst w0 H1 w1 HJ wJ∧HB HJ wJ [(p1,[(vi aD),(vi aE),(vi aF),(vu aG),(vs aH),aI.v],49)]∧Has ρ [(1,(vi deep1)),(2,(vp seen1)),(3,(vp (some p1))),(16,(vb (b4'0 || (decide (deep1≥64)))))]) ?_ ?_
  ·rintro ρ w13 ⟨b4'0,H5,he0,hs,hb,hH⟩
   subst he0
   refine wpL_has hH ?_
   refine wpL_nil ?_
   have h:=h H5 w13 hs
   have hs:=hs.here
   refine th_n ?_
   exact ⟨((decide (v2≥4096)) || (decide (deep1≥64))),H5,hm,hs,hb,h⟩
  ·rcases Bool.eq_false_or_eq_true (decide (v2≥4096)) with hg6 | hg6
   ·refine sk (yD 13 hg6) (sk (yD 13 hg6) (q2 (vb true) (xT hg6) (wpL_nil ?_)))
    exact ⟨true,_,hg6,hs,hb,hm⟩
   ·refine q1 (vi deep1) (want1 rfl (yD 13 hg6)) (q1 (vb (decide (deep1≥64))) (want1 rfl (yD 13 hg6)) (q2 (vb (decide (deep1≥64))) (xF hg6) (wpL_nil ?_)))
    exact ⟨false,_,hg6,hs,hb,hm⟩
def m_B2 (aD aE:Int) (aF aG:Int) (aH:ByteArray) (aI:Sl) (w0:World) (K:Int→WP):Prop :=
 ∀(H1:NP) (w1:World),Hst w0 None w0 H1 w1 →
 ∀(p2:Addr) (w2:World),New w1 (.cells #[(vi 0)] 3) p2 w2 →
 CanW w2 p2∧¬ H1 p2.block∧∀w3:World,w3=w2.setCell p2 (vi 0) →
 Calls Tryz.prog 106 #[(.agg #[(vi aD),(vi aE),(vi aF),(vu aG),(vs aH),aI.v]),(vi 0),(vp (some p2))] w3 (fun e w4=>∃r1:Int,e=.returned (vi r1)∧
  Kept H1 w3 w4 ∧
  K r1 w4)
theorem w_B2 (aD aE : Int) (aF aG : Int) (aH : ByteArray) (aI : Sl) (w0 : World) (K : Int → WP) (h : m_B2 aD aE aF aG aH aI w0 K) :
  Calls Tryz.prog 71 #[(.agg #[(vi aD),(vi aE),(vi aF),(vu aG),(vs aH),aI.v])] w0 (fun e w'=>∃r2:Int,e=.returned (vi r2)∧K r2 w'):=by
 unfold m_B2 at h
 refine cw (args:=[(.agg #[(vi aD),(vi aE),(vi aF),(vu aG),(vs aH),aI.v])]) Tryz.func71 Tryz.ntmps71 ?_
 have hs:=Hst.start w0
 have hb:=HB.nil None w0
 refine wpE_seq (rg (sn (O:=(.cells #[(vi aD),(vi aE),(vi aF),(vu aG),(vs aH),aI.v] 49)) xb ?_))
 intro p1 w1 hn1
 obtain ⟨H1,hs,hb⟩:=hs.alloc hb hn1
 refine q0 (vi 0) (wpL_nil (th_n (wpE_seq (rg ?_))))
 have h:=h H1 w1 hs
 have hs:=hs.here
 refine sn (O:=(.cells #[(vi 0)] 3)) (x_alloc (Tryz.zeroValue3 _) rfl) ?_
 intro p2 w2 hn3
 have h:=h p2 w2 hn3
 have hs:=hs.again (Ext.new (F:=None) hn3).keptP
 have hb:=hb.kept (Ext.new (F:=None) hn3).keptP
 obtain ⟨hp1,hnh,h⟩:=h
 refine st_set (want0 rfl) (x_store (a:=p2) (v:=(vi 0)) (by kernel_rfl) (by kernel_rfl) rfl (Tryz.sizeOf3 _) hp1) ?_
 intro w3 hn2
 have h:=h w3 hn2
 have hk:=Kept.sc hnh hn2
 obtain ⟨hs,hb⟩:=hk.hh hs hb
 refine wpL_nil (th_n (wpE_seq (rg (q2 (.agg #[(vi aD),(vi aE),(vi aF),(vu aG),(vs aH),aI.v]) (x_loadA (a:=p1) (vs:=[(vi aD),(vi aE),(vi aF),(vu aG),(vs aH),aI.v]) (by kernel_rfl) (Tryz.isAgg49 _) (Tryz.sizeOf49 _) rfl (hb.row0 0 6 gZ (by kernel_rfl))) ?_))))
 refine sc Tryz.call106 (h.mono ?_)
 rintro e w4 ⟨r1,rfl,hk,h⟩
 refine ⟨_,rfl,?_⟩
 obtain ⟨hs,hb⟩:=hk.hh hs hb
 refine q0 (vi r1) (wpL_nil (th_n (wpE_ret (rs1 Tryz.results71 (v:=(vi r1)) ?_))))
 exact ⟨r1,rfl,h⟩
def m_C2 (p1:Option Addr) (t1:Int) (w0:World) (K:Int→WP):Prop :=
 Calls Tryz.prog 60 #[(vp p1),(vi t1)] w0 (fun e w1=>∃r1:Bool,e=.returned (vb r1)∧
  Br (!r1)
   (K 0 w1)
   (∃a1:Addr,p1=some a1 ∧
   ∃v1:Sl,w1.cell? (a1.add 1)=some v1.v ∧
   ∃a2:Addr,At v1 (q6.wrap (t1 - 1)) 1 a2 ∧
   ∃v2:Int,w1.cell? a2=some (vi v2) ∧
   K v2 w1))
theorem w_C2 (p1 : Option Addr) (t1 : Int) (w0 : World) (K : Int → WP) (h : m_C2 p1 t1 w0 K) :
  Calls Tryz.prog 87 #[(vp p1),(vi t1)] w0 (fun e w'=>∃r2:Int,e=.returned (vi r2)∧K r2 w'):=by
 unfold m_C2 at h
 refine cw (args:=[(vp p1),(vi t1)]) Tryz.func87 Tryz.ntmps87 (wpE_seq (rg (q0 (vi 0) (wpL_nil (th_n (wpE_seq (wpE_seq (rg (q0 (vp p1) (q0 (vi t1) ?_))))))))))
 refine sc Tryz.call60 (h.mono ?_)
 rintro e w1 ⟨r1,rfl,h⟩
 refine ⟨_,rfl,?_⟩
 refine q0 (vb (!r1)) (wpL_nil (th_n ?_))
 refine wpE_cond (t:=(!r1)) (by kernel_rfl) (fun hc1=>?_) (fun hc1=>?_)
 ·have h:=h.1 hc1
  refine wpE_seq (rg (q0 (vi 0) (wpL_nil (th_n (wpE_ret (th_r (rs1 Tryz.results87 (v:=(vi 0)) ?_)))))))
  exact ⟨0,rfl,h⟩
 ·have h:=h.2 hc1
  refine wpE_skip (th_n (wpE_seq (rg (q0 (vp p1) ?_))))
  obtain ⟨a1,hp1,h⟩:=h
  refine q2 (vp (some a1)) (x_nilCheck (p:=p1) (by kernel_rfl) hp1) (q0 (vp (some (a1.add 1))) ?_)
  obtain ⟨v1,hv3,h⟩:=h
  refine q2 v1.v (xl (Tryz.isAgg43 _) hv3) (q0 (vi t1) (q0 (vi (q6.wrap (t1 - 1))) ?_))
  obtain ⟨a2,hv2,h⟩:=h
  refine q2 (vp (some a2)) (xi (Tryz.runUnderlying43 _) (Tryz.sizeOf3 _) hv2) ?_
  obtain ⟨v2,hv1,h⟩:=h
  refine q2 (vi v2) (xl (Tryz.isAgg3 _) hv1) (q0 (vi v2) (wpL_nil (th_n (wpE_ret (rs1 Tryz.results87 (v:=(vi v2)) ?_)))))
  exact ⟨v2,rfl,h⟩
def m_D2 (p1:Option Addr) (t1:Int) (w0:World) (K:Int→WP):Prop :=
 Calls Tryz.prog 60 #[(vp p1),(vi t1)] w0 (fun e w1=>∃r1:Bool,e=.returned (vb r1)∧
  Br (!r1)
   (K 0 w1)
   (∃a1:Addr,p1=some a1 ∧
   ∃v1:Sl,w1.cell? (a1.add 2)=some v1.v ∧
   ∃a2:Addr,At v1 (q6.wrap (t1 - 1)) 1 a2 ∧
   ∃v2:Int,w1.cell? a2=some (vi v2) ∧
   K v2 w1))
theorem w_D2 (p1 : Option Addr) (t1 : Int) (w0 : World) (K : Int → WP) (h : m_D2 p1 t1 w0 K) :
  Calls Tryz.prog 88 #[(vp p1),(vi t1)] w0 (fun e w'=>∃r2:Int,e=.returned (vi r2)∧K r2 w'):=by
 unfold m_D2 at h
 refine cw (args:=[(vp p1),(vi t1)]) Tryz.func88 Tryz.ntmps88 (wpE_seq (rg (q0 (vi 0) (wpL_nil (th_n (wpE_seq (wpE_seq (rg (q0 (vp p1) (q0 (vi t1) ?_))))))))))
 refine sc Tryz.call60 (h.mono ?_)
 rintro e w1 ⟨r1,rfl,h⟩
 refine ⟨_,rfl,?_⟩
 refine q0 (vb (!r1)) (wpL_nil (th_n ?_))
 refine wpE_cond (t:=(!r1)) (by kernel_rfl) (fun hc1=>?_) (fun hc1=>?_)
 ·have h:=h.1 hc1
  refine wpE_seq (rg (q0 (vi 0) (wpL_nil (th_n (wpE_ret (th_r (rs1 Tryz.results88 (v:=(vi 0)) ?_)))))))
  exact ⟨0,rfl,h⟩
 ·have h:=h.2 hc1
  refine wpE_skip (th_n (wpE_seq (rg (q0 (vp p1) ?_))))
  obtain ⟨a1,hp1,h⟩:=h
  refine q2 (vp (some a1)) (x_nilCheck (p:=p1) (by kernel_rfl) hp1) (q0 (vp (some (a1.add 2))) ?_)
  obtain ⟨v1,hv3,h⟩:=h
  refine q2 v1.v (xl (Tryz.isAgg43 _) hv3) (q0 (vi t1) (q0 (vi (q6.wrap (t1 - 1))) ?_))
  obtain ⟨a2,hv2,h⟩:=h
  refine q2 (vp (some a2)) (xi (Tryz.runUnderlying43 _) (Tryz.sizeOf3 _) hv2) ?_
  obtain ⟨v2,hv1,h⟩:=h
  refine q2 (vi v2) (xl (Tryz.isAgg3 _) hv1) (q0 (vi v2) (wpL_nil (th_n (wpE_ret (rs1 Tryz.results88 (v:=(vi v2)) ?_)))))
  exact ⟨v2,rfl,h⟩
theorem eqt_ref05_Pool_Has_eql_86 (a0 a1:Int) (a2 a3:Int) (a4:ByteArray) (a5 a6:Int) (b0 b1:Int) (b2 b3:Int) (b4:ByteArray) (b5 b6:Int) (w:World):(Go.binOp .eql 86 (.agg #[(.int .i64 a0),(.int .i64 a1),(.int .i64 a2),(.int .u64 a3),(.string a4),(.int .i64 a5),(.int .i64 a6)]) (.agg #[(.int .i64 b0),(.int .i64 b1),(.int .i64 b2),(.int .u64 b3),(.string b4),(.int .i64 b5),(.int .i64 b6)])).run Tryz.prog w=.ok (.bool ((a0 == b0) && ((a1 == b1) && ((a2 == b2) && ((a3 == b3) && ((decide (a4=b4)) && ((a5 == b5) && (a6 == b6)))))))) w:=by
 simp [Go.binOp,Op.equal,Op.maxDepth,go_sem,streq,bne]
 repeat' split
 all_goals simp_all
def m_B1_l1 (p1:Option Addr) (aA aB:Int) (aC aK:Int) (aJ:ByteArray) (aL aM i1:Int) (w0:World) (Hl1:NP) (wl1:World) (Kc1:Int→NP→WP) (K:Int→Bool→WP):Prop :=
 ∃a1:Addr,p1=some a1 ∧
 ∃v1:Sl,wl1.cell? a1=some v1.v ∧
 Br (decide (i1<(v1.len:Int)))
  (∃a2:Addr,p1=some a2 ∧
  ∀(w2:World),Hst w0 Hl1 wl1 Hl1 w2 →
  ∃v2:Sl,w2.cell? a2=some v2.v ∧
  ∃a3:Addr,At v2 i1 7 a3 ∧
  ∃aN aO:Int,∃aP aQ:Int,∃aR:ByteArray,∃aX aY:Int,Row w2 a3 [(vi aN),(vi aO),(vi aP),(vu aQ),(vs aR),(vi aX),(vi aY)] ∧
  Br ((aN == aA) && ((aO == aB) && ((aP == aC) && ((aQ == aK) && ((decide (aR=aJ)) && ((aX == aL) && (aY == aM)))))))
   (K (q6.wrap (i1+1)) true w2)
   (Kc1 (q6.wrap (i1+1)) Hl1 w2))
  (K 0 false wl1)
def m_B1 (p1:Option Addr) (aA aB:Int) (aC aK:Int) (aJ:ByteArray) (aL aM:Int) (w0:World) (K:Int→Bool→WP):Prop :=
 ∀(H1:NP) (w1:World),Hst w0 None w0 H1 w1 →
 ∃(I1:Int→NP→WP) (mu1:Int→World→Nat),I1 0 H1 w1 ∧
  ∀(i1:Int) (Hl1:NP) (wl1:World),Hst w0 Hl1 wl1 Hl1 wl1→I1 i1 Hl1 wl1→m_B1_l1 p1 aA aB aC aK aJ aL aM i1 w0 Hl1 wl1 (fun y'0 H' w'=>I1 y'0 H' w'∧mu1 y'0 w'<mu1 i1 wl1) K
theorem w_B1 (p1 : Option Addr) (aA aB : Int) (aC aK : Int) (aJ : ByteArray) (aL aM : Int) (w0 : World) (K : Int → Bool → WP) (h : m_B1 p1 aA aB aC aK aJ aL aM w0 K) :
  Calls Tryz.prog 89 #[(vp p1),(.agg #[(vi aA),(vi aB),(vi aC),(vu aK),(vs aJ),(vi aL),(vi aM)])] w0 (fun e w'=>∃r1:Int,∃r2:Bool,e=.returned (.tuple #[(vi r1),(vb r2)])∧K r1 r2 w'):=by
 unfold m_B1 at h
 refine cw (args:=[(vp p1),(.agg #[(vi aA),(vi aB),(vi aC),(vu aK),(vs aJ),(vi aL),(vi aM)])]) Tryz.func89 Tryz.ntmps89 ?_
 have hs:=Hst.start w0
 have hb:=HB.nil None w0
 refine wpE_seq (rg (sn (O:=(.cells #[(vi aA),(vi aB),(vi aC),(vu aK),(vs aJ),(vi aL),(vi aM)] 86)) xb ?_))
 intro p2 w1 hn1
 obtain ⟨H1,hs,hb⟩:=hs.alloc hb hn1
 refine q0 (vi 0) (q0 (vb false) (wpL_nil (th_n (wpE_seq (wpE_seq (rg (q0 (vi 0) (wpL_nil (th_n (wpE_block ?_))))))))))
 have h:=h H1 w1 hs
 have hs:=hs.here
 obtain ⟨I1,mu1,h0,hr⟩:=h
 refine wpE_loop (σ:=Int×NP×World) (fun s ρ w=>w=s.2.2∧Has ρ [(0,(vp p1)),(3,(vp (some p2))),(6,(vi s.1))]∧Hst w0 s.2.1 w s.2.1 w∧HB s.2.1 w [(p2,[(vi aA),(vi aB),(vi aC),(vu aK),(vs aJ),(vi aL),(vi aM)],86)]∧I1 s.1 s.2.1 s.2.2) (fun s=>mu1 s.1 s.2.2) (0,H1,w1) ⟨rfl,hm,hs,hb,h0⟩ ?_
 rintro ⟨i1,Hl1,wl1⟩ ρ w ⟨hw,hH,hs,hb,hI⟩
 obtain rfl:wl1=w:=(show w=wl1 from hw).symm
 have hH:Has ρ [(0,(vp p1)),(3,(vp (some p2))),(6,(vi i1))]:=hH
 have hs:Hst w0 Hl1 wl1 Hl1 wl1:=hs
 have hb:HB Hl1 wl1 [(p2,[(vi aA),(vi aB),(vi aC),(vu aK),(vs aJ),(vi aL),(vi aM)],86)]:=hb
 have h:=hr i1 Hl1 wl1 hs hI
 unfold m_B1_l1 at h
 refine wpE_has hH ?_
 refine wpE_seq (wpE_seq (rg (q0 (vi i1) (q0 (vp p1) ?_))))
 obtain ⟨a1,hp1,h⟩:=h
 refine q2 (vp (some a1)) (x_nilCheck (p:=p1) (by kernel_rfl) hp1) (q0 (vp (some a1)) ?_)
 obtain ⟨v1,hv4,h⟩:=h
 refine q2 v1.v (xl (Tryz.isAgg42 _) hv4) (q0 (vi (v1.len:Int)) (q0 (vb (decide (i1<(v1.len:Int)))) (wpL_nil (th_n ?_))))
 refine wpE_cond (t:=(decide (i1<(v1.len:Int)))) (by kernel_rfl) (fun hc1=>?_) (fun hc1=>?_)
 ·have h:=h.1 hc1
  refine wpE_skip (th_n (wpE_seq (wpE_block (wpE_seq (wpE_drawnQ (by kernel_rfl) (by kernel_rfl) (by kernel_rfl) (by kernel_rfl) ?_)))))
  intro w2 hw2
  have hs:Hst w0 Hl1 wl1 Hl1 w2:=by rw [hw2];exact hs.drew
  have hb:HB Hl1 w2 [(p2,[(vi aA),(vi aB),(vi aC),(vu aK),(vs aJ),(vi aL),(vi aM)],86)]:=by rw [hw2];exact hb.drew
  refine qq 0 (vp p1) Kp0 (qg 1 ?_)
  obtain ⟨a2,hp2,h⟩:=h
  refine sxQ (v:=(vp (some a2))) Kp1 (want0 rfl) rfl (x_nilCheck (p:=p1) (by kernel_rfl) hp2) (qq 2 (vp (some a2)) Kp2 (qg 3 ?_))
  have h:=h w2 hs
  have hs:=hs.here
  obtain ⟨v2,hv3,h⟩:=h
  refine sxQ (v:=v2.v) Kp3 (want0 rfl) rfl (xl (Tryz.isAgg42 _) hv3) (qq 4 (vi i1) Kp4 (qg 5 ?_))
  obtain ⟨a3,hv2,h⟩:=h
  refine sxQ (v:=(vp (some a3))) Kp5 (want0 rfl) rfl (xi (Tryz.runUnderlying42 _) (Tryz.sizeOf86 _) hv2) (qg 6 ?_)
  obtain ⟨aN,aO,aP,aQ,aR,aX,aY,hv1,h⟩:=h
  refine sxQ (v:=(.agg #[(vi aN),(vi aO),(vi aP),(vu aQ),(vs aR),(vi aX),(vi aY)])) Kp6 (want0 rfl) rfl (x_loadA (a:=a3) (vs:=[(vi aN),(vi aO),(vi aP),(vu aQ),(vs aR),(vi aX),(vi aY)]) (by kernel_rfl) (Tryz.isAgg86 _) (Tryz.sizeOf86 _) rfl hv1) (qr 7 (.agg #[(vi aA),(vi aB),(vi aC),(vu aK),(vs aJ),(vi aL),(vi aM)]) Kp7 (x_loadA (a:=p2) (vs:=[(vi aA),(vi aB),(vi aC),(vu aK),(vs aJ),(vi aL),(vi aM)]) (by kernel_rfl) (Tryz.isAgg86 _) (Tryz.sizeOf86 _) rfl (hb.row0 0 7 gZ (by kernel_rfl))) (qr 8 (vb ((aN == aA) && ((aO == aB) && ((aP == aC) && ((aQ == aK) && ((decide (aR=aJ)) && ((aX == aL) && (aY == aM)))))))) Kp8 (x_aggeq (by kernel_rfl) (by kernel_rfl) (by kernel_rfl) (eqt_ref05_Pool_Has_eql_86 aN aO aP aQ aR aX aY aA aB aC aK aJ aL aM _)) (wn (th_n ?_))))
  refine wpE_cond (t:=((aN == aA) && ((aO == aB) && ((aP == aC) && ((aQ == aK) && ((decide (aR=aJ)) && ((aX == aL) && (aY == aM)))))))) (by kernel_rfl) (fun hc2=>?_) (fun hc2=>?_)
  ·have h:=h.1 hc2
   refine wpE_seq (rg (q0 (vi i1) (q0 (vi (q6.wrap (i1+1))) (q0 (vi (q6.wrap (i1+1))) (q0 (vb true) (wpL_nil (th_n (wpE_ret (bl_r (th_r (th_r ?_)))))))))))
   refine bl_r (th_r (res2 (.inl rfl) Tryz.results89 (v:=(vi (q6.wrap (i1+1)))) (by kernel_rfl) (v':=(vb true)) (by kernel_rfl) ?_))
   exact ⟨(q6.wrap (i1+1)),true,rfl,h⟩
  ·have h:=h.2 hc2
   refine wpE_skip (bl_n (th_n (rg (q0 (vi i1) (q0 (vi (q6.wrap (i1+1))) (q0 (vi (q6.wrap (i1+1))) (wpL_nil (th_n ?_))))))))
   exact ⟨((q6.wrap (i1+1)),Hl1,w2),⟨rfl,hm,hs,hb,h.1⟩,h.2⟩
 ·have h:=h.2 hc1
  refine wpE_exit (th_x (th_x (bl_eq (th_n (wpE_seq (rg (q0 (vi 0) (q0 (vb false) (wpL_nil (th_n (wpE_ret ?_)))))))))))
  refine res2 (.inl rfl) Tryz.results89 (v:=(vi 0)) (by kernel_rfl) (v':=(vb false)) (by kernel_rfl) ?_
  exact ⟨0,false,rfl,h⟩
def m_M_j1 (p1:Option Addr) (aA aB:Int) (aC aK:Int) (aJ:ByteArray) (aL aM:Int) (x1:Bool) (w0:World) (H:NP) (w:World) (K:Int→Int→WP):Prop :=
 Br x1
  (K 0 51 w)
  (∃C1:WP,C1 w.drew∧∀w4,w4=w.drew →
  Calls Tryz.prog 87 #[(vp p1),(vi aL)] w4 (fun e w5=>∃r1:Int,e=.returned (vi r1)∧C1 w5∧
   Kept H w4 w5 ∧
   Calls Tryz.prog 87 #[(vp p1),(vi aM)] w5 (fun e w6=>∃r2:Int,e=.returned (vi r2)∧C1 w6∧
    Kept H w5 w6 ∧
    ∃C2:WP,C2 w6.drew∧∀w7,w7=w6.drew →
    Calls Tryz.prog 88 #[(vp p1),(vi aL)] w7 (fun e w8=>∃r3:Int,e=.returned (vi r3)∧C2 w8∧
     Kept H w7 w8 ∧
     Calls Tryz.prog 88 #[(vp p1),(vi aM)] w8 (fun e w9=>∃r4:Int,e=.returned (vi r4)∧C2 w9∧
      Kept H w8 w9 ∧
      ∃z1:Int,(∀w',C2 w'→(Builtin.max_ #[3,3] 3 #[(vi r3),(vi r4)]).run Tryz.prog w'=.ok (vi z1) w') ∧
      ∀y1:Bool,y1=((decide ((q6.wrap ((q6.wrap (1+r1))+r2))>4096)) || (decide ((q6.wrap (1+z1))>64))) →
      Br y1
       (∀(H2:NP) (w10:World),Hst w0 H w9 H2 w10 →
       K 0 52 w10)
       (∀(H2:NP) (w10:World),Hst w0 H w9 H2 w10 →
       Calls Tryz.prog 89 #[(vp p1),(.agg #[(vi aA),(vi aB),(vi aC),(vu aK),(vs aJ),(vi aL),(vi aM)])] w10 (fun e w11=>∃r5:Int,∃r6:Bool,e=.returned (.tuple #[(vi r5),(vb r6)])∧
        Kept H2 w10 w11 ∧
        Br r6
         (K r5 0 w11)
         (∃a1:Addr,p1=some a1 ∧
         ∃v1:Sl,w11.cell? a1=some v1.v ∧
         Br (decide ((v1.len:Int)≥65536))
          (K 0 6 w11)
          (∃C3:WP,C3 w11.drew∧∀w12,w12=w11.drew →
          ∃a2:Addr,p1=some a2 ∧
          ∃v2:Sl,(∀w',C3 w'→w'.cell? a2=some v2.v) ∧
          ∀(p3:Addr) (w13:World),New w12 (.cells #[(vi aA),(vi aB),(vi aC),(vu aK),(vs aJ),(vi aL),(vi aM)] 86) p3 w13→C3 w13 ∧
          ∃s1:Sl,∃w14:World,(Builtin.append_ #[42,42] 42 #[v2.v,(Sl.mk (some p3) 1 1).v]).run Tryz.prog w13=.ok s1.v w14∧C3 w14 ∧
          Kept H2 w13 w14 ∧
          ∃a3:Addr,p1=some a3 ∧
          CanW w14 a3∧¬ H2 a3.block∧∀w15:World,w15=w14.setCell a3 s1.v →
          ∃a4:Addr,p1=some a4 ∧
          ∃v3:Sl,w15.cell? (a4.add 1)=some v3.v ∧
          ∀(p4:Addr) (w16:World),New w15 (.cells #[(vi (q6.wrap ((q6.wrap (1+r1))+r2)))] 3) p4 w16 →
          ∃s2:Sl,∃w17:World,(Builtin.append_ #[43,43] 43 #[v3.v,(Sl.mk (some p4) 1 1).v]).run Tryz.prog w16=.ok s2.v w17 ∧
          Kept H2 w16 w17 ∧
          ∃a5:Addr,p1=some a5 ∧
          CanW w17 (a5.add 1)∧¬ H2 (a5.add 1).block∧∀w18:World,w18=w17.setCell (a5.add 1) s2.v →
          ∃a6:Addr,p1=some a6 ∧
          ∃v4:Sl,w18.cell? (a6.add 2)=some v4.v ∧
          ∀(p5:Addr) (w19:World),New w18 (.cells #[(vi (q6.wrap (1+z1)))] 3) p5 w19 →
          ∃s3:Sl,∃w20:World,(Builtin.append_ #[43,43] 43 #[v4.v,(Sl.mk (some p5) 1 1).v]).run Tryz.prog w19=.ok s3.v w20 ∧
          Kept H2 w19 w20 ∧
          ∃a7:Addr,p1=some a7 ∧
          CanW w20 (a7.add 2)∧¬ H2 (a7.add 2).block∧∀w21:World,w21=w20.setCell (a7.add 2) s3.v →
          ∃a8:Addr,p1=some a8 ∧
          ∃v5:Sl,w21.cell? a8=some v5.v ∧
          K (v5.len:Int) 0 w21)))))))))
def m_M_j2 (p1:Option Addr) (aA aB:Int) (aC aK:Int) (aJ:ByteArray) (aL aM:Int) (x2:Bool) (w0:World) (H:NP) (w:World) (K:Int→Int→WP):Prop :=
 Br x2
  (m_M_j1 p1 aA aB aC aK aJ aL aM true w0 H w K)
  (Br (((s_A aA):Int) == 2)
   (Calls Tryz.prog 60 #[(vp p1),(vi aM)] w (fun e w22=>∃r7:Bool,e=.returned (vb r7)∧
    Kept H w w22 ∧
    m_M_j1 p1 aA aB aC aK aJ aL aM (!r7) w0 H w22 K))
   (m_M_j1 p1 aA aB aC aK aJ aL aM false w0 H w K))
def m_M (p1:Option Addr) (aA aB:Int) (aC aK:Int) (aJ:ByteArray) (aL aM:Int) (w0:World) (K:Int→Int→WP):Prop :=
 Br (((s_H aA aB aC aK aJ aL aM):Int) != 0)
  (∀(H1:NP) (w2:World),Hst w0 None w0 H1 w2 →
  K 0 (s_H aA aB aC aK aJ aL aM) w2)
  (Br (decide ((s_A aA)≥1))
   (∀(H1:NP) (w3:World),Hst w0 None w0 H1 w3 →
   Calls Tryz.prog 60 #[(vp p1),(vi aL)] w3 (fun e w23=>∃r8:Bool,e=.returned (vb r8)∧
    Kept H1 w3 w23 ∧
    m_M_j2 p1 aA aB aC aK aJ aL aM (!r8) w0 H1 w23 K))
   (∀(H1:NP) (w3:World),Hst w0 None w0 H1 w3 →
   m_M_j2 p1 aA aB aC aK aJ aL aM false w0 H1 w3 K))
theorem w_M (p1 : Option Addr) (aA aB : Int) (aC aK : Int) (aJ : ByteArray) (aL aM : Int) (w0 : World) (K : Int → Int → WP) (h : m_M p1 aA aB aC aK aJ aL aM w0 K) :
  Calls Tryz.prog 41 #[(vp p1),(.agg #[(vi aA),(vi aB),(vi aC),(vu aK),(vs aJ),(vi aL),(vi aM)])] w0 (fun e w'=>∃r9 r10:Int,e=.returned (.tuple #[(vi r9),(vi r10)])∧K r9 r10 w'):=by
 unfold m_M at h
 refine cw (args:=[(vp p1),(.agg #[(vi aA),(vi aB),(vi aC),(vu aK),(vs aJ),(vi aL),(vi aM)])]) Tryz.func41 Tryz.ntmps41 ?_
 have hs:=Hst.start w0
 have hb:=HB.nil None w0
 refine wpE_seq (rg (sn (O:=(.cells #[(vi aA),(vi aB),(vi aC),(vu aK),(vs aJ),(vi aL),(vi aM)] 86)) xb ?_))
 intro p2 w1 hn1
 obtain ⟨H1,hs,hb⟩:=hs.alloc hb hn1
 refine q0 (vi 0) (q0 (vi 0) (wpL_nil (th_n (wpE_seq (rg (q2 (.agg #[(vi aA),(vi aB),(vi aC),(vu aK),(vs aJ),(vi aL),(vi aM)]) (x_loadA (a:=p2) (vs:=[(vi aA),(vi aB),(vi aC),(vu aK),(vs aJ),(vi aL),(vi aM)]) (by kernel_rfl) (Tryz.isAgg86 _) (Tryz.sizeOf86 _) rfl (hb.row0 0 7 gZ (by kernel_rfl))) ?_))))))
 refine sc Tryz.call86 ((p_H aA aB aC aK aJ aL aM w1).mono ?_)
 rintro e w2 ⟨he,hE⟩
 refine ⟨(vi (s_H aA aB aC aK aJ aL aM)),he.trans (by kernel_rfl),?_⟩
 have hs:=hs.pure hE
 have hb:=hb.pure hE
 refine q0 (vi (s_H aA aB aC aK aJ aL aM)) (wpL_nil (th_n (wpE_seq (wpE_seq (rg (q0 (vi (s_H aA aB aC aK aJ aL aM)) (q0 (vb (((s_H aA aB aC aK aJ aL aM):Int) != 0)) (wpL_nil (th_n ?_)))))))))
 refine wpE_cond (t:=(((s_H aA aB aC aK aJ aL aM):Int) != 0)) (by kernel_rfl) (fun hc1=>?_) (fun hc1=>?_)
 ·have h:=h.1 hc1
  refine wpE_seq (rg (q0 (vi (s_H aA aB aC aK aJ aL aM)) (q0 (vi 0) (q0 (vi (s_H aA aB aC aK aJ aL aM)) (wpL_nil (th_n (wpE_ret (th_r ?_))))))))
  have h:=h H1 w2 hs
  have hs:=hs.here
  refine res2 (.inl rfl) Tryz.results41 (v:=(vi 0)) (by kernel_rfl) (v':=(vi (s_H aA aB aC aK aJ aL aM))) (by kernel_rfl) ?_
  exact ⟨0,(s_H aA aB aC aK aJ aL aM),rfl,h⟩
 ·have h:=h.2 hc1
  refine wpE_skip (th_n (wpE_seq (rg (q0 (vp (some p2)) (q2 (vi aA) (xl (Tryz.isAgg3 _) (hb.c0 0 gZ)) ?_)))))
  refine sc Tryz.call46 ((p_A aA w2).mono ?_)
  rintro e w3 ⟨he,hE⟩
  refine ⟨(vi (s_A aA)),he.trans (by kernel_rfl),?_⟩
  have hs:=hs.pure hE
  have hb:=hb.pure hE
  refine q0 (vi (s_A aA)) (wpL_nil (th_n (wpE_seq (wpE_seq ?_))))
  refine wpE_joinT (fun ρ w=>∃x1:Bool,∃H:NP,Has ρ [(0,(vp p1)),(3,(vp (some p2))),(39,(vb x1))]∧Hst w0 H w H w∧HB H w [(p2,[(vi aA),(vi aB),(vi aC),(vu aK),(vs aJ),(vi aL),(vi aM)],86)]∧m_M_j1 p1 aA aB aC aK aJ aL aM x1 w0 H w K) ?_ ?_
  ·rintro ρ w ⟨x1,H,hH,hs,hb,h⟩
   unfold m_M_j1 at h
   refine wpE_has hH ?_
   refine wpE_cond (t:=x1) (by kernel_rfl) (fun hc2=>?_) (fun hc2=>?_)
   ·have h:=h.1 hc2
    refine wpE_seq (rg (q0 (vi 0) (q0 (vi 51) (wpL_nil (th_n (wpE_ret (th_r (res2 (.inl rfl) Tryz.results41 (v:=(vi 0)) (by kernel_rfl) (v':=(vi 51)) (by kernel_rfl) ?_))))))))
    exact ⟨0,51,rfl,h⟩
   ·have h:=h.2 hc2
    refine wpE_skip (th_n (wpE_seq ?_))
    obtain ⟨C1,hC,h⟩:=h
    refine wpE_drawnC (fun x=>C1 x∧HB H x [(p2,[(vi aA),(vi aB),(vi aC),(vu aK),(vs aJ),(vi aL),(vi aM)],86)]) [3,8] [] (by kernel_rfl) (by kernel_rfl) (by kernel_rfl) (by kernel_rfl) ⟨hC,hb.drew⟩ ?_
    intro w4 hw4
    have h:=h w4 hw4
    have hs:Hst w0 H w H w4:=by rw [hw4];exact hs.drew
    have hb:HB H w4 [(p2,[(vi aA),(vi aB),(vi aC),(vu aK),(vs aJ),(vi aL),(vi aM)],86)]:=by rw [hw4];exact hb.drew
    have hs:=hs.here
    refine qx 0 (vp p1) Kp0 (qx 1 (vp (some (p2.add 5))) Kp1 (qz 2 (vi aL) Kp2 (fun w' hw'=>(xl (Tryz.isAgg30 _) (hw'.2.cell 0 5 gZ (by kernel_rfl)))) (qx 5 (vp p1) Kp5 (qx 6 (vp (some (p2.add 6))) Kp6 (qz 7 (vi aM) Kp7 (fun w' hw'=>(xl (Tryz.isAgg30 _) (hw'.2.cell 0 6 gZ (by kernel_rfl)))) (lg 3 ?_))))))
    refine sl_call Kp3 (want0 rfl) (by kernel_rfl) (xc Tryz.call87) (h.mono ?_)
    rintro e w5 ⟨r1,rfl,hC,hk,h⟩
    refine ⟨_,rfl,.inr ⟨hC,hb.kept hk⟩,?_⟩
    obtain ⟨hs,hb⟩:=hk.hh hs hb
    refine qx 4 (vi (q6.wrap (1+r1))) Kp4 (lg 8 ?_)
    refine sl_call Kp8 (want0 rfl) (by kernel_rfl) (xc Tryz.call87) (h.mono ?_)
    rintro e w6 ⟨r2,rfl,hC,hk,h⟩
    refine ⟨_,rfl,.inr ⟨hC,hb.kept hk⟩,?_⟩
    obtain ⟨hs,hb⟩:=hk.hh hs hb
    refine qx 9 (vi (q6.wrap ((q6.wrap (1+r1))+r2))) Kp9 (qx 10 (vi (q6.wrap ((q6.wrap (1+r1))+r2))) (pickA (S8 (pickS (pickS pickZ)))) (wn (th_n (wpE_seq ?_))))
    obtain ⟨C2,hC,h⟩:=h
    refine wpE_drawnC (fun x=>C2 x∧HB H x [(p2,[(vi aA),(vi aB),(vi aC),(vu aK),(vs aJ),(vi aL),(vi aM)],86)]) [3,7] [] (by kernel_rfl) (by kernel_rfl) (by kernel_rfl) (by kernel_rfl) ⟨hC,hb.drew⟩ ?_
    intro w7 hw7
    have h:=h w7 hw7
    have hs:Hst w0 H w6 H w7:=by rw [hw7];exact hs.drew
    have hb:HB H w7 [(p2,[(vi aA),(vi aB),(vi aC),(vu aK),(vs aJ),(vi aL),(vi aM)],86)]:=by rw [hw7];exact hb.drew
    have hs:=hs.here
    refine qx 0 (vp p1) Kp0 (qx 1 (vp (some (p2.add 5))) Kp1 (qz 2 (vi aL) Kp2 (fun w' hw'=>(xl (Tryz.isAgg30 _) (hw'.2.cell 0 5 gZ (by kernel_rfl)))) (qx 4 (vp p1) Kp4 (qx 5 (vp (some (p2.add 6))) Kp5 (qz 6 (vi aM) Kp6 (fun w' hw'=>(xl (Tryz.isAgg30 _) (hw'.2.cell 0 6 gZ (by kernel_rfl)))) (lg 3 ?_))))))
    refine sl_call Kp3 (want0 rfl) (by kernel_rfl) (xc Tryz.call88) (h.mono ?_)
    rintro e w8 ⟨r3,rfl,hC,hk,h⟩
    refine ⟨_,rfl,.inr ⟨hC,hb.kept hk⟩,?_⟩
    obtain ⟨hs,hb⟩:=hk.hh hs hb
    refine lg 7 ?_
    refine sl_call Kp7 (want0 rfl) (by kernel_rfl) (xc Tryz.call88) (h.mono ?_)
    rintro e w9 ⟨r4,rfl,hC,hk,h⟩
    refine ⟨_,rfl,.inr ⟨hC,hb.kept hk⟩,?_⟩
    obtain ⟨hs,hb⟩:=hk.hh hs hb
    refine qg 8 ?_
    obtain ⟨z1,hv9,h⟩:=h
    refine sy (v:=(vi z1)) Kp8 (fun w' hw'=>(x_builtin (args:=#[(vi r3),(vi r4)]) (by kernel_rfl) (fun _=>rfl) (hv9 w' hw'.1))) (qx 9 (vi (q6.wrap (1+z1))) Kp9 (qx 10 (vi (q6.wrap (1+z1))) (pickA (S8 (pickS (pickS pickZ)))) (wn (th_n (wpE_seq (wpE_seq ?_))))))
    refine wpE_via (fun ρ wJ=>∃b1'0 y1:Bool,∃HJ:NP,((decide ((q6.wrap ((q6.wrap (1+r1))+r2))>4096))=b1'0)∧(y1=(b1'0 || (decide ((q6.wrap (1+z1))>64))))∧Hst w0 H w9 HJ wJ∧HB HJ wJ [(p2,[(vi aA),(vi aB),(vi aC),(vu aK),(vs aJ),(vi aL),(vi aM)],86)]∧Has ρ [(0,(vp p1)),(3,(vp (some p2))),(8,(vi (q6.wrap ((q6.wrap (1+r1))+r2)))),(9,(vi (q6.wrap (1+z1)))),(65,(vb y1))]) ?_ ?_
    ·refine rg (q0 (vi (q6.wrap ((q6.wrap (1+r1))+r2))) (q0 (vb (decide ((q6.wrap ((q6.wrap (1+r1))+r2))>4096))) (q0 (vb (decide ((q6.wrap ((q6.wrap (1+r1))+r2))>4096))) ?_)))
     rcases Bool.eq_false_or_eq_true (decide ((q6.wrap ((q6.wrap (1+r1))+r2))>4096)) with hg2 | hg2
     ·refine sk (yD 62 hg2) (sk (yD 62 hg2) (q2 (vb true) (xT hg2) (wpL_nil (th_n ?_))))
      exact ⟨true,_,_,hg2,rfl,hs,hb,hm⟩
     ·refine q1 (vi (q6.wrap (1+z1))) (want1 rfl (yD 62 hg2)) (q1 (vb (decide ((q6.wrap (1+z1))>64))) (want1 rfl (yD 62 hg2)) (q2 (vb (decide ((q6.wrap (1+z1))>64))) (xF hg2) (wpL_nil (th_n ?_))))
      exact ⟨false,_,_,hg2,rfl,hs,hb,hm⟩
    ·rintro ρ w10 ⟨b1'0,y1,H2,he0,hy1,hs,hb,hH⟩
     subst he0
     have h:=h y1 hy1
     refine norm_has hH ?_
     refine th_n ?_
     refine wpE_cond (t:=y1) (by kernel_rfl) (fun hc3=>?_) (fun hc3=>?_)
     ·have h:=h.1 hc3
      refine wpE_seq (rg (q0 (vi 0) (q0 (vi 52) (wpL_nil (th_n (wpE_ret (th_r ?_)))))))
      have h:=h H2 w10 hs
      have hs:=hs.here
      refine res2 (.inl rfl) Tryz.results41 (v:=(vi 0)) (by kernel_rfl) (v':=(vi 52)) (by kernel_rfl) ?_
      exact ⟨0,52,rfl,h⟩
     ·have h:=h.2 hc3
      refine wpE_skip (th_n (wpE_seq (rg (q0 (vp p1) (q2 (.agg #[(vi aA),(vi aB),(vi aC),(vu aK),(vs aJ),(vi aL),(vi aM)]) (x_loadA (a:=p2) (vs:=[(vi aA),(vi aB),(vi aC),(vu aK),(vs aJ),(vi aL),(vi aM)]) (by kernel_rfl) (Tryz.isAgg86 _) (Tryz.sizeOf86 _) rfl (hb.row0 0 7 gZ (by kernel_rfl))) ?_)))))
      have h:=h H2 w10 hs
      have hs:=hs.here
      refine sc Tryz.call89 (h.mono ?_)
      rintro e w11 ⟨r5,r6,rfl,hk,h⟩
      refine ⟨_,rfl,?_⟩
      obtain ⟨hs,hb⟩:=hk.hh hs hb
      refine q0 (.tuple #[(vi r5),(vb r6)]) (q0 (vi r5) (q0 (vb r6) (q0 (vi r5) (q0 (vb r6) (wpL_nil (th_n (wpE_seq (wpE_seq (rg (q0 (vb r6) (wpL_nil ?_)))))))))))
      refine th_n ?_
      refine wpE_cond (t:=r6) (by kernel_rfl) (fun hc4=>?_) (fun hc4=>?_)
      ·have h:=h.1 hc4
       refine wpE_seq (rg (q0 (vi r5) (q0 (vi r5) (q0 (vi 0) (wpL_nil (th_n (wpE_ret (th_r (res2 (.inl rfl) Tryz.results41 (v:=(vi r5)) (by kernel_rfl) (v':=(vi 0)) (by kernel_rfl) ?_)))))))))
       exact ⟨r5,0,rfl,h⟩
      ·have h:=h.2 hc4
       refine wpE_skip (th_n (wpE_seq (wpE_seq (rg (q0 (vp p1) ?_)))))
       obtain ⟨a1,hp1,h⟩:=h
       refine q2 (vp (some a1)) (x_nilCheck (p:=p1) (by kernel_rfl) hp1) (q0 (vp (some a1)) ?_)
       obtain ⟨v1,hv8,h⟩:=h
       refine q2 v1.v (xl (Tryz.isAgg42 _) hv8) (q0 (vi (v1.len:Int)) (q0 (vb (decide ((v1.len:Int)≥65536))) (wpL_nil (th_n ?_))))
       refine wpE_cond (t:=(decide ((v1.len:Int)≥65536))) (by kernel_rfl) (fun hc5=>?_) (fun hc5=>?_)
       ·have h:=h.1 hc5
        refine wpE_seq (rg (q0 (vi 0) (q0 (vi 6) (wpL_nil (th_n (wpE_ret (th_r (res2 (.inl rfl) Tryz.results41 (v:=(vi 0)) (by kernel_rfl) (v':=(vi 6)) (by kernel_rfl) ?_))))))))
        exact ⟨0,6,rfl,h⟩
       ·have h:=h.2 hc5
        refine wpE_skip (th_n (wpE_seq ?_))
        obtain ⟨C3,hC,h⟩:=h
        refine wpE_drawnC (fun x=>C3 x∧HB H2 x [(p2,[(vi aA),(vi aB),(vi aC),(vu aK),(vs aJ),(vi aL),(vi aM)],86)]) [6,7,10] [10] (by kernel_rfl) (by kernel_rfl) (by kernel_rfl) (by kernel_rfl) ⟨hC,hb.drew⟩ ?_
        intro w12 hw12
        have h:=h w12 hw12
        have hs:Hst w0 H2 w11 H2 w12:=by rw [hw12];exact hs.drew
        have hb:HB H2 w12 [(p2,[(vi aA),(vi aB),(vi aC),(vu aK),(vs aJ),(vi aL),(vi aM)],86)]:=by rw [hw12];exact hb.drew
        have hs:=hs.here
        refine qx 0 (vp p1) Kp0 (qx 1 (vp p1) Kp1 (qg 2 ?_))
        obtain ⟨a2,hp2,h⟩:=h
        refine sy (v:=(vp (some a2))) Kp2 (fun _ _=>(x_nilCheck (p:=p1) (by kernel_rfl) hp2)) (qx 3 (vp (some a2)) Kp3 (qg 4 ?_))
        obtain ⟨v2,hv7,h⟩:=h
        refine sy (v:=v2.v) Kp4 (fun w' hw'=>(xl (Tryz.isAgg42 _) (hv7 w' hw'.1))) (qz 5 (.agg #[(vi aA),(vi aB),(vi aC),(vu aK),(vs aJ),(vi aL),(vi aM)]) Kp5 (fun w' hw'=>(x_loadA (a:=p2) (vs:=[(vi aA),(vi aB),(vi aC),(vu aK),(vs aJ),(vi aL),(vi aM)]) (by kernel_rfl) (Tryz.isAgg86 _) (Tryz.sizeOf86 _) rfl (hw'.2.row0 0 7 gZ (by kernel_rfl)))) (lg 6 (sl_new (O:=(.cells #[(vi aA),(vi aB),(vi aC),(vu aK),(vs aJ),(vi aL),(vi aM)] 86)) (fun p=>(Sl.mk (some p) 1 1).v) Kp6 (want0 rfl) (by kernel_rfl) (x_buildSlice (vs:=#[(0,(.agg #[(vi aA),(vi aB),(vi aC),(vu aK),(vs aJ),(vi aL),(vi aM)]))]) (by kernel_rfl) (by kernel_rfl)) ?_)))
        intro p3 w13 hn7
        have h:=h p3 w13 hn7
        refine ⟨.inr ⟨h.1,hb.kept (Ext.new (F:=None) hn7).keptP⟩,?_⟩
        have h:=h.2
        have hs:=hs.again (Ext.new (F:=None) hn7).keptP
        have hb:=hb.kept (Ext.new (F:=None) hn7).keptP
        refine lg 7 ?_
        obtain ⟨s1,w14,hv6,hC,hk,h⟩:=h
        refine sl (v:=s1.v) Kp7 (want0 rfl) (by kernel_rfl) (x_builtin (args:=#[v2.v,(Sl.mk (some p3) 1 1).v]) (by kernel_rfl) (fun _=>rfl) hv6) (.inr ⟨hC,hb.kept hk⟩) ?_
        obtain ⟨hs,hb⟩:=hk.hh hs hb
        refine qg 8 ?_
        obtain ⟨a3,hp3,h⟩:=h
        refine sy (v:=(vp (some a3))) Kp8 (fun _ _=>(x_nilCheck (p:=p1) (by kernel_rfl) hp3)) (qx 9 (vp (some a3)) Kp9 (lg 10 ?_))
        obtain ⟨hp4,hnh,h⟩:=h
        refine sl_t (pickA (S8 (pickS (pickS pickZ)))) (xs (v:=s1.v) (Tryz.sizeOf42 _) hp4) ?_
        intro w15 hn2
        have h:=h w15 hn2
        refine ⟨.inl (by kernel_rfl),?_⟩
        have hk:=Kept.sc hnh hn2
        obtain ⟨hs,hb⟩:=hk.hh hs hb
        refine wn (th_n (wpE_seq (rg (q0 (vp p1) (q0 (vp p1) ?_)))))
        obtain ⟨a4,hp5,h⟩:=h
        refine q2 (vp (some a4)) (x_nilCheck (p:=p1) (by kernel_rfl) hp5) (q0 (vp (some (a4.add 1))) ?_)
        obtain ⟨v3,hv5,h⟩:=h
        refine q2 v3.v (xl (Tryz.isAgg43 _) hv5) (q0 (vi (q6.wrap ((q6.wrap (1+r1))+r2))) (st_new (O:=(.cells #[(vi (q6.wrap ((q6.wrap (1+r1))+r2)))] 3)) (fun p=>(Sl.mk (some p) 1 1).v) (want0 rfl) (x_buildSlice (vs:=#[(0,(vi (q6.wrap ((q6.wrap (1+r1))+r2))))]) (by kernel_rfl) (by kernel_rfl)) ?_))
        intro p4 w16 hn6
        have h:=h p4 w16 hn6
        have hs:=hs.again (Ext.new (F:=None) hn6).keptP
        have hb:=hb.kept (Ext.new (F:=None) hn6).keptP
        obtain ⟨s2,w17,hv4,hk,h⟩:=h
        refine st (v:=s2.v) (want0 rfl) (x_builtin (args:=#[v3.v,(Sl.mk (some p4) 1 1).v]) (by kernel_rfl) (fun _=>rfl) hv4) ?_
        obtain ⟨hs,hb⟩:=hk.hh hs hb
        obtain ⟨a5,hp6,h⟩:=h
        refine q2 (vp (some a5)) (x_nilCheck (p:=p1) (by kernel_rfl) hp6) (q0 (vp (some (a5.add 1))) ?_)
        obtain ⟨hp7,hnh,h⟩:=h
        refine st_set (want0 rfl) (x_store (a:=(a5.add 1)) (v:=s2.v) (by kernel_rfl) (by kernel_rfl) rfl (Tryz.sizeOf43 _) hp7) ?_
        intro w18 hn3
        have h:=h w18 hn3
        have hk:=Kept.sc hnh hn3
        obtain ⟨hs,hb⟩:=hk.hh hs hb
        refine wpL_nil (th_n (wpE_seq (rg (q0 (vp p1) (q0 (vp p1) ?_)))))
        obtain ⟨a6,hp8,h⟩:=h
        refine q2 (vp (some a6)) (x_nilCheck (p:=p1) (by kernel_rfl) hp8) (q0 (vp (some (a6.add 2))) ?_)
        obtain ⟨v4,hv3,h⟩:=h
        refine q2 v4.v (xl (Tryz.isAgg43 _) hv3) (q0 (vi (q6.wrap (1+z1))) (st_new (O:=(.cells #[(vi (q6.wrap (1+z1)))] 3)) (fun p=>(Sl.mk (some p) 1 1).v) (want0 rfl) (x_buildSlice (vs:=#[(0,(vi (q6.wrap (1+z1))))]) (by kernel_rfl) (by kernel_rfl)) ?_))
        intro p5 w19 hn5
        have h:=h p5 w19 hn5
        have hs:=hs.again (Ext.new (F:=None) hn5).keptP
        have hb:=hb.kept (Ext.new (F:=None) hn5).keptP
        obtain ⟨s3,w20,hv2,hk,h⟩:=h
        refine st (v:=s3.v) (want0 rfl) (x_builtin (args:=#[v4.v,(Sl.mk (some p5) 1 1).v]) (by kernel_rfl) (fun _=>rfl) hv2) ?_
        obtain ⟨hs,hb⟩:=hk.hh hs hb
        obtain ⟨a7,hp9,h⟩:=h
        refine q2 (vp (some a7)) (x_nilCheck (p:=p1) (by kernel_rfl) hp9) (q0 (vp (some (a7.add 2))) ?_)
        obtain ⟨hp10,hnh,h⟩:=h
        refine st_set (want0 rfl) (x_store (a:=(a7.add 2)) (v:=s3.v) (by kernel_rfl) (by kernel_rfl) rfl (Tryz.sizeOf43 _) hp10) ?_
        intro w21 hn4
        have h:=h w21 hn4
        have hk:=Kept.sc hnh hn4
        obtain ⟨hs,hb⟩:=hk.hh hs hb
        refine wpL_nil (th_n (wpE_seq (rg (q0 (vp p1) ?_))))
        obtain ⟨a8,hp11,h⟩:=h
        refine q2 (vp (some a8)) (x_nilCheck (p:=p1) (by kernel_rfl) hp11) (q0 (vp (some a8)) ?_)
        obtain ⟨v5,hv1,h⟩:=h
        refine q2 v5.v (xl (Tryz.isAgg42 _) hv1) (q0 (vi (v5.len:Int)) (q0 (vi (v5.len:Int)) (q0 (vi 0) (wpL_nil (th_n (wpE_ret (res2 (.inl rfl) Tryz.results41 (v:=(vi (v5.len:Int))) (by kernel_rfl) (v':=(vi 0)) (by kernel_rfl) ?_)))))))
        exact ⟨(v5.len:Int),0,rfl,h⟩
  ·refine rg (q0 (vi (s_A aA)) (q0 (vb (decide ((s_A aA)≥1))) (q0 (vb (decide ((s_A aA)≥1))) ?_)))
   refine wpL_join 6 (fun ρ w=>∃x2:Bool,∃H:NP,Has ρ [(0,(vp p1)),(3,(vp (some p2))),(7,(vi (s_A aA))),(28,(vb x2))]∧Hst w0 H w H w∧HB H w [(p2,[(vi aA),(vi aB),(vi aC),(vu aK),(vs aJ),(vi aL),(vi aM)],86)]∧m_M_j2 p1 aA aB aC aK aJ aL aM x2 w0 H w K) ?_ ?_
   ·rintro ρ w ⟨x2,H,hH,hs,hb,h⟩
    unfold m_M_j2 at h
    refine wpL_has hH ?_
    refine q0 (vb x2) ?_
    rcases Bool.eq_false_or_eq_true x2 with hg3 | hg3
    ·have h:=h.1 hg3
     refine sk (yD 29 hg3) (sk (yD 29 hg3) (sk (yD 29 hg3) (sm (sm (sm (sm (sm (sk (yD 29 hg3) (q2 (vb true) (xT hg3) (wpL_nil (th_n ?_)))))))))))
     exact ⟨true,H,hm,hs,hb,h⟩
    ·have h:=h.2 hg3
     refine q1 (vi (s_A aA)) (want1 rfl (yD 29 hg3)) (q1 (vb (((s_A aA):Int) == 2)) (want1 rfl (yD 29 hg3)) (q1 (vb (((s_A aA):Int) == 2)) (want1 rfl (yD 29 hg3)) ?_))
     rcases Bool.eq_false_or_eq_true (((s_A aA):Int) == 2) with hg4 | hg4
     ·have h:=h.1 hg4
      refine q1 (vp p1) (want1 rfl (yD 32 hg4)) (q1 (vp (some (p2.add 6))) (want1 rfl (yD 32 hg4)) (stp (v:=(vi aM)) (want1 rfl (yD 32 hg4)) (xl (Tryz.isAgg30 _) (hb.c 0 6 gZ)) ?_))
      refine st_call (want1 rfl (yD 32 hg4)) (xc Tryz.call60) (h.mono ?_)
      rintro e w22 ⟨r7,rfl,hk,h⟩
      refine ⟨_,rfl,?_⟩
      obtain ⟨hs,hb⟩:=hk.hh hs hb
      refine q1 (vb (!r7)) (want1 rfl (yD 32 hg4)) (stp (v:=(vb (!r7))) (want1 rfl (yD 29 hg3)) (xT hg4) (q2 (vb (!r7)) (xF hg3) (wpL_nil (th_n ?_))))
      exact ⟨(!r7),H,hm,hs,hb,h⟩
     ·have h:=h.2 hg4
      refine sk (yD 32 hg4) (sk (yD 32 hg4) (sk (yD 32 hg4) (sk (yD 32 hg4) (sk (yD 32 hg4) (stp (v:=(vb false)) (want1 rfl (yD 29 hg3)) (xF hg4) (q2 (vb false) (xF hg3) (wpL_nil (th_n ?_))))))))
      exact ⟨false,H,hm,hs,hb,h⟩
   ·rcases Bool.eq_false_or_eq_true (decide ((s_A aA)≥1)) with hg5 | hg5
    ·have h:=h.1 hg5
     refine q1 (vp p1) (want1 rfl (yD 22 hg5)) (q1 (vp (some (p2.add 5))) (want1 rfl (yD 22 hg5)) (stp (v:=(vi aL)) (want1 rfl (yD 22 hg5)) (xl (Tryz.isAgg30 _) (hb.c 0 5 gZ)) ?_))
     have h:=h H1 w3 hs
     have hs:=hs.here
     refine st_call (want1 rfl (yD 22 hg5)) (xc Tryz.call60) (h.mono ?_)
     rintro e w23 ⟨r8,rfl,hk,h⟩
     refine ⟨_,rfl,?_⟩
     obtain ⟨hs,hb⟩:=hk.hh hs hb
     refine q1 (vb (!r8)) (want1 rfl (yD 22 hg5)) (q2 (vb (!r8)) (xT hg5) (wpL_nil ?_))
     exact ⟨(!r8),H1,hm,hs,hb,h⟩
    ·have h:=h.2 hg5
     refine sk (yD 22 hg5) (sk (yD 22 hg5) (sk (yD 22 hg5) (sk (yD 22 hg5) (sk (yD 22 hg5) (q2 (vb false) (xF hg5) (wpL_nil ?_))))))
     have h:=h H1 w3 hs
     have hs:=hs.here
     exact ⟨false,H1,hm,hs,hb,h⟩
def m_C1_l1 (p1:Option Addr) (aI:Sl) (i1 aA:Int) (aB aC aK:Int) (aJ:ByteArray) (aL aM:Int) (w0:World) (Hl1:NP) (wl1:World) (Kc1:Int→Int→Int→Int→Int→ByteArray→Int→Int→NP→WP) (K:Int→Int→WP):Prop :=
 Br (decide (i1<(aI.len:Int)))
  (∃a1:Addr,At aI i1 6 a1 ∧
  ∃aN aO:Int,∃aP aQ:Int,∃aR:ByteArray,∃bE:Sl,Row wl1 a1 [(vi aN),(vi aO),(vi aP),(vu aQ),(vs aR),bE.v] ∧
  Calls Tryz.prog 72 #[(vp p1),(.agg #[(vi aN),(vi aO),(vi aP),(vu aQ),(vs aR),bE.v])] wl1 (fun e w5=>∃r1 r2:Int,e=.returned (.tuple #[(vi r1),(vi r2)])∧
   Kept Hl1 wl1 w5 ∧
   Br (r2 != 0)
    (K 0 r2 w5)
    (∀(H3:NP) (w8:World),Hst w0 Hl1 w5 H3 w8 →
    Kc1 (q6.wrap (i1+1)) aA aB aC aK aJ (cond (i1 == 0) r1 aL) (cond (i1 == 0) aM r1) H3 w8)))
  (Calls Tryz.prog 41 #[(vp p1),(.agg #[(vi aA),(vi aB),(vi aC),(vu aK),(vs aJ),(vi aL),(vi aM)])] wl1 (fun e w11=>∃r3 r4:Int,e=.returned (.tuple #[(vi r3),(vi r4)])∧
   Kept Hl1 wl1 w11 ∧
   K r3 r4 w11))
def m_C1 (p1:Option Addr) (aD aE:Int) (aF aG:Int) (aH:ByteArray) (aI:Sl) (w0:World) (K:Int→Int→WP):Prop :=
 ∀(H2:NP) (w4:World),Hst w0 None w0 H2 w4 →
 ∃(I1:Int→Int→Int→Int→Int→ByteArray→Int→Int→NP→WP) (mu1:Int→Int→Int→Int→Int→ByteArray→Int→Int→World→Nat),I1 0 aD aE aF aG aH 0 0 H2 w4 ∧
  ∀(i1 aA:Int) (aB aC aK:Int) (aJ:ByteArray) (aL aM:Int) (Hl1:NP) (wl1:World),Hst w0 Hl1 wl1 Hl1 wl1→I1 i1 aA aB aC aK aJ aL aM Hl1 wl1→m_C1_l1 p1 aI i1 aA aB aC aK aJ aL aM w0 Hl1 wl1 (fun y'0 y'1 y'2 y'3 y'4 y'5 y'6 y'7 H' w'=>I1 y'0 y'1 y'2 y'3 y'4 y'5 y'6 y'7 H' w'∧mu1 y'0 y'1 y'2 y'3 y'4 y'5 y'6 y'7 w'<mu1 i1 aA aB aC aK aJ aL aM wl1) K
theorem w_C1 (p1 : Option Addr) (aD aE : Int) (aF aG : Int) (aH : ByteArray) (aI : Sl) (w0 : World) (K : Int → Int → WP) (h : m_C1 p1 aD aE aF aG aH aI w0 K) :
  Calls Tryz.prog 72 #[(vp p1),(.agg #[(vi aD),(vi aE),(vi aF),(vu aG),(vs aH),aI.v])] w0 (fun e w'=>∃r5 r6:Int,e=.returned (.tuple #[(vi r5),(vi r6)])∧K r5 r6 w'):=by
 unfold m_C1 at h
 refine cw (args:=[(vp p1),(.agg #[(vi aD),(vi aE),(vi aF),(vu aG),(vs aH),aI.v])]) Tryz.func72 Tryz.ntmps72 ?_
 have hs:=Hst.start w0
 have hb:=HB.nil None w0
 refine wpE_seq (rg (sn (O:=(.cells #[(vi aD),(vi aE),(vi aF),(vu aG),(vs aH),aI.v] 49)) xb ?_))
 intro p2 w1 hn1
 obtain ⟨H1,hs,hb⟩:=hs.alloc hb hn1
 refine q0 (vi 0) (q0 (vi 0) (wpL_nil (th_n (wpE_seq (rg (q2 (.agg #[(vi aD),(vi aE),(vi aF),(vu aG),(vs aH),aI.v]) (x_loadA (a:=p2) (vs:=[(vi aD),(vi aE),(vi aF),(vu aG),(vs aH),aI.v]) (by kernel_rfl) (Tryz.isAgg49 _) (Tryz.sizeOf49 _) rfl (hb.row0 0 6 gZ (by kernel_rfl))) ?_))))))
 refine sc Tryz.call107 ((p_U aD aE aF aG aH aI w1).mono ?_)
 rintro e w2 ⟨he,hE⟩
 refine ⟨(.agg #[(vi aD),(vi aE),(vi aF),(vu aG),(vs aH),(vi 0),(vi 0)]),he.trans (by kernel_rfl),?_⟩
 have hs:=hs.pure hE
 have hb:=hb.pure hE
 refine sn (O:=(.cells #[(vi 0),(vi 0),(vi 0),(vu 0),(vs ⟨#[]⟩),(vi 0),(vi 0)] 86)) (x_alloc (Tryz.zeroValue86 _) rfl) ?_
 intro p3 w3 hn2
 obtain ⟨H2,hs,hb⟩:=hs.alloc hb hn2
 refine st_set (want0 rfl) (x_storeA (a:=p3) (vs:=[(vi aD),(vi aE),(vi aF),(vu aG),(vs aH),(vi 0),(vi 0)]) (by kernel_rfl) (by kernel_rfl) rfl (Tryz.sizeOf86 _) rfl (hb.canWs0 0 7 gZ (by kernel_rfl))) ?_
 intro w4 hn3
 have hsb:Hst w0 None w0 H2 w4∧HB H2 w4 [(p3,[(vi aD),(vi aE),(vi aF),(vu aG),(vs aH),(vi 0),(vi 0)],86),(p2,[(vi aD),(vi aE),(vi aF),(vu aG),(vs aH),aI.v],49)]:=by
  rw [hn3]
  exact hb.store0 (i:=0) (vs:=[(vi aD),(vi aE),(vi aF),(vu aG),(vs aH),(vi 0),(vi 0)]) hs gZ (by kernel_rfl) (by kernel_rfl)
 obtain ⟨hs,hb⟩:=hsb
 refine wpL_nil (th_n (wpE_seq (wpE_seq (rg (q0 (vi 0) (wpL_nil (th_n (wpE_block ?_))))))))
 have h:=h H2 w4 hs
 have hs:=hs.here
 obtain ⟨I1,mu1,h0,hr⟩:=h
 refine wpE_loop (σ:=Int×Int×Int×Int×Int×ByteArray×Int×Int×NP×World) (fun s ρ w=>w=s.2.2.2.2.2.2.2.2.2∧Has ρ [(0,(vp p1)),(3,(vp (some p2))),(6,(vp (some p3))),(7,(vi s.1))]∧Hst w0 s.2.2.2.2.2.2.2.2.1 w s.2.2.2.2.2.2.2.2.1 w∧HB s.2.2.2.2.2.2.2.2.1 w [(p3,[(vi s.2.1),(vi s.2.2.1),(vi s.2.2.2.1),(vu s.2.2.2.2.1),(vs s.2.2.2.2.2.1),(vi s.2.2.2.2.2.2.1),(vi s.2.2.2.2.2.2.2.1)],86),(p2,[(vi aD),(vi aE),(vi aF),(vu aG),(vs aH),aI.v],49)]∧I1 s.1 s.2.1 s.2.2.1 s.2.2.2.1 s.2.2.2.2.1 s.2.2.2.2.2.1 s.2.2.2.2.2.2.1 s.2.2.2.2.2.2.2.1 s.2.2.2.2.2.2.2.2.1 s.2.2.2.2.2.2.2.2.2) (fun s=>mu1 s.1 s.2.1 s.2.2.1 s.2.2.2.1 s.2.2.2.2.1 s.2.2.2.2.2.1 s.2.2.2.2.2.2.1 s.2.2.2.2.2.2.2.1 s.2.2.2.2.2.2.2.2.2) (0,aD,aE,aF,aG,aH,0,0,H2,w4) ⟨rfl,hm,hs,hb,h0⟩ ?_
 rintro ⟨i1,aA,aB,aC,aK,aJ,aL,aM,Hl1,wl1⟩ ρ w ⟨hw,hH,hs,hb,hI⟩
 obtain rfl:wl1=w:=(show w=wl1 from hw).symm
 have hH:Has ρ [(0,(vp p1)),(3,(vp (some p2))),(6,(vp (some p3))),(7,(vi i1))]:=hH
 have hs:Hst w0 Hl1 wl1 Hl1 wl1:=hs
 have hb:HB Hl1 wl1 [(p3,[(vi aA),(vi aB),(vi aC),(vu aK),(vs aJ),(vi aL),(vi aM)],86),(p2,[(vi aD),(vi aE),(vi aF),(vu aG),(vs aH),aI.v],49)]:=hb
 have h:=hr i1 aA aB aC aK aJ aL aM Hl1 wl1 hs hI
 unfold m_C1_l1 at h
 refine wpE_has hH ?_
 refine wpE_seq (wpE_seq (rg (q0 (vi i1) (q0 (vp (some (p2.add 5))) (q2 aI.v (xl (Tryz.isAgg22 _) (hb.c 1 5 (gS gZ))) (q0 (vi (aI.len:Int)) (q0 (vb (decide (i1<(aI.len:Int)))) (wpL_nil (th_n ?_)))))))))
 refine wpE_cond (t:=(decide (i1<(aI.len:Int)))) (by kernel_rfl) (fun hc1=>?_) (fun hc1=>?_)
 ·have h:=h.1 hc1
  refine wpE_skip (th_n (wpE_seq (wpE_block (wpE_seq (rg (q0 (vp p1) (q0 (vp (some (p2.add 5))) (q2 aI.v (xl (Tryz.isAgg22 _) (hb.c 1 5 (gS gZ))) (q0 (vi i1) ?_)))))))))
  obtain ⟨a1,hv2,h⟩:=h
  refine q2 (vp (some a1)) (xi (Tryz.runUnderlying22 _) (Tryz.sizeOf49 _) hv2) ?_
  obtain ⟨aN,aO,aP,aQ,aR,bE,hv1,h⟩:=h
  refine q2 (.agg #[(vi aN),(vi aO),(vi aP),(vu aQ),(vs aR),bE.v]) (x_loadA (a:=a1) (vs:=[(vi aN),(vi aO),(vi aP),(vu aQ),(vs aR),bE.v]) (by kernel_rfl) (Tryz.isAgg49 _) (Tryz.sizeOf49 _) rfl hv1) ?_
  refine sc Tryz.call72 (h.mono ?_)
  rintro e w5 ⟨r1,r2,rfl,hk,h⟩
  refine ⟨_,rfl,?_⟩
  obtain ⟨hs,hb⟩:=hk.hh hs hb
  refine q0 (.tuple #[(vi r1),(vi r2)]) (q0 (vi r1) (q0 (vi r2) (q0 (vi r1) (q0 (vi r2) (wpL_nil (th_n (wpE_seq (wpE_seq (rg (q0 (vi r2) (q0 (vb (r2 != 0)) ?_)))))))))))
  refine wpL_nil (th_n ?_)
  refine wpE_cond (t:=(r2 != 0)) (by kernel_rfl) (fun hc2=>?_) (fun hc2=>?_)
  ·have h:=h.1 hc2
   refine wpE_seq (rg (q0 (vi r2) (q0 (vi 0) (q0 (vi r2) (wpL_nil (th_n (wpE_ret (th_r (bl_r (th_r (th_r ?_)))))))))))
   refine bl_r (th_r (res2 (.inl rfl) Tryz.results72 (v:=(vi 0)) (by kernel_rfl) (v':=(vi r2)) (by kernel_rfl) ?_))
   exact ⟨0,r2,rfl,h⟩
  ·have h:=h.2 hc2
   refine wpE_skip (th_n (wpE_seq (rg (q0 (vi i1) (q0 (vb (i1 == 0)) (wpL_nil (th_n ?_)))))))
   refine wpE_via (fun ρ wJ=>∃b1'0:Bool,∃HJ:NP,((i1 == 0)=b1'0)∧Hst w0 Hl1 w5 HJ wJ∧HB HJ wJ [(p3,[(vi aA),(vi aB),(vi aC),(vu aK),(vs aJ),(vi (cond b1'0 r1 aL)),(vi (cond b1'0 aM r1))],86),(p2,[(vi aD),(vi aE),(vi aF),(vu aG),(vs aH),aI.v],49)]∧Has ρ [(0,(vp p1)),(3,(vp (some p2))),(6,(vp (some p3))),(7,(vi i1))]) ?_ ?_
   ·refine wpE_cond (t:=(i1 == 0)) (by kernel_rfl) (fun hc4=>?_) (fun hc4=>?_)
    ·refine rg (q0 (vi r1) (q0 (vp (some (p3.add 5))) (st_set (want0 rfl) (x_store (a:=(p3.add 5)) (v:=(vi r1)) (by kernel_rfl) (by kernel_rfl) rfl (Tryz.sizeOf30 _) (hb.canW 0 5 gZ (by kernel_rfl))) ?_)))
     intro w9 hn6
     have hsb:Hst w0 Hl1 w5 Hl1 w9∧HB Hl1 w9 [(p3,[(vi aA),(vi aB),(vi aC),(vu aK),(vs aJ),(vi r1),(vi aM)],86),(p2,[(vi aD),(vi aE),(vi aF),(vu aG),(vs aH),aI.v],49)]:=by
      rw [hn6]
      exact hb.set (i:=0) 5 (v:=(vi r1)) hs gZ (by kernel_rfl)
     obtain ⟨hs,hb⟩:=hsb
     refine wpL_nil (th_n ?_)
     exact ⟨true,_,hc4,hs,hb,hm⟩
    ·refine rg (q0 (vi r1) (q0 (vp (some (p3.add 6))) (st_set (want0 rfl) (x_store (a:=(p3.add 6)) (v:=(vi r1)) (by kernel_rfl) (by kernel_rfl) rfl (Tryz.sizeOf30 _) (hb.canW 0 6 gZ (by kernel_rfl))) ?_)))
     intro w10 hn7
     have hsb:Hst w0 Hl1 w5 Hl1 w10∧HB Hl1 w10 [(p3,[(vi aA),(vi aB),(vi aC),(vu aK),(vs aJ),(vi aL),(vi r1)],86),(p2,[(vi aD),(vi aE),(vi aF),(vu aG),(vs aH),aI.v],49)]:=by
      rw [hn7]
      exact hb.set (i:=0) 6 (v:=(vi r1)) hs gZ (by kernel_rfl)
     obtain ⟨hs,hb⟩:=hsb
     refine wpL_nil (th_n ?_)
     exact ⟨false,_,hc4,hs,hb,hm⟩
   ·rintro ρ w8 ⟨b1'0,H3,he0,hs,hb,hH⟩
    subst he0
    refine norm_has hH ?_
    refine bl_n (th_n (rg (q0 (vi i1) (q0 (vi (q6.wrap (i1+1))) (q0 (vi (q6.wrap (i1+1))) (wpL_nil ?_))))))
    have h:=h H3 w8 hs
    have hs:=hs.here
    refine th_n ?_
    exact ⟨((q6.wrap (i1+1)),aA,aB,aC,aK,aJ,(cond (i1 == 0) r1 aL),(cond (i1 == 0) aM r1),H3,w8),⟨rfl,hm,hs,hb,h.1⟩,h.2⟩
 ·have h:=h.2 hc1
  refine wpE_exit (th_x (th_x (bl_eq (th_n (wpE_seq (rg (q0 (vp p1) (q2 (.agg #[(vi aA),(vi aB),(vi aC),(vu aK),(vs aJ),(vi aL),(vi aM)]) (x_loadA (a:=p3) (vs:=[(vi aA),(vi aB),(vi aC),(vu aK),(vs aJ),(vi aL),(vi aM)]) (by kernel_rfl) (Tryz.isAgg86 _) (Tryz.sizeOf86 _) rfl (hb.row0 0 7 gZ (by kernel_rfl))) ?_))))))))
  refine sc Tryz.call41 (h.mono ?_)
  rintro e w11 ⟨r3,r4,rfl,hk,h⟩
  refine ⟨_,rfl,?_⟩
  obtain ⟨hs,hb⟩:=hk.hh hs hb
  refine q0 (vi r3) (q0 (vi r4) (q0 (vi r3) (q0 (vi r4) (wpL_nil (th_n (wpE_ret (res2 (.inl rfl) Tryz.results72 (v:=(vi r3)) (by kernel_rfl) (v':=(vi r4)) (by kernel_rfl) ?_)))))))
  exact ⟨r3,r4,rfl,h⟩
def m_T1 (p1:Option Addr) (n1:Int) (w0:World) (K:WP):Prop :=
 ∃a1:Addr,p1=some a1 ∧
 ∃v1:Sl,w0.cell? a1=some v1.v ∧
 ∃s1:Sl,(Instr.sliceAt 42 v1.v none (some (vi n1)) none).run Tryz.prog w0=.ok s1.v w0 ∧
 ∃a2:Addr,p1=some a2 ∧
 CanW w0 a2∧∀w1:World,w1=w0.setCell a2 s1.v →
 ∃a3:Addr,p1=some a3 ∧
 ∃v2:Sl,w1.cell? (a3.add 1)=some v2.v ∧
 ∃s2:Sl,(Instr.sliceAt 43 v2.v none (some (vi n1)) none).run Tryz.prog w1=.ok s2.v w1 ∧
 ∃a4:Addr,p1=some a4 ∧
 CanW w1 (a4.add 1)∧∀w2:World,w2=w1.setCell (a4.add 1) s2.v →
 ∃a5:Addr,p1=some a5 ∧
 ∃v3:Sl,w2.cell? (a5.add 2)=some v3.v ∧
 ∃s3:Sl,(Instr.sliceAt 43 v3.v none (some (vi n1)) none).run Tryz.prog w2=.ok s3.v w2 ∧
 ∃a6:Addr,p1=some a6 ∧
 CanW w2 (a6.add 2)∧∀w3:World,w3=w2.setCell (a6.add 2) s3.v →
 K w3
theorem w_T1 (p1 : Option Addr) (n1 : Int) (w0 : World) (K : WP) (h : m_T1 p1 n1 w0 K) :
  Calls Tryz.prog 73 #[(vp p1),(vi n1)] w0 (fun e w'=>e=.returned (.tuple #[])∧K  w'):=by
 unfold m_T1 at h
 refine cw (args:=[(vp p1),(vi n1)]) Tryz.func73 Tryz.ntmps73 (wpE_seq (rg (q0 (vp p1) (q0 (vp p1) ?_))))
 obtain ⟨a1,hp1,h⟩:=h
 refine q2 (vp (some a1)) (x_nilCheck (p:=p1) (by kernel_rfl) hp1) (q0 (vp (some a1)) ?_)
 obtain ⟨v1,hv6,h⟩:=h
 refine q2 v1.v (xl (Tryz.isAgg42 _) hv6) (q0 (vi n1) ?_)
 obtain ⟨s1,hv5,h⟩:=h
 refine q2 s1.v (x_slice (by kernel_rfl) (by kernel_rfl) (by kernel_rfl) (by kernel_rfl) hv5) ?_
 obtain ⟨a2,hp2,h⟩:=h
 refine q2 (vp (some a2)) (x_nilCheck (p:=p1) (by kernel_rfl) hp2) (q0 (vp (some a2)) ?_)
 obtain ⟨hp3,h⟩:=h
 refine st_set (want0 rfl) (x_store (a:=a2) (v:=s1.v) (by kernel_rfl) (by kernel_rfl) rfl (Tryz.sizeOf42 _) hp3) ?_
 intro w1 hn1
 have h:=h w1 hn1
 refine wpL_nil (th_n (wpE_seq (rg (q0 (vp p1) (q0 (vp p1) ?_)))))
 obtain ⟨a3,hp4,h⟩:=h
 refine q2 (vp (some a3)) (x_nilCheck (p:=p1) (by kernel_rfl) hp4) (q0 (vp (some (a3.add 1))) ?_)
 obtain ⟨v2,hv4,h⟩:=h
 refine q2 v2.v (xl (Tryz.isAgg43 _) hv4) (q0 (vi n1) ?_)
 obtain ⟨s2,hv3,h⟩:=h
 refine q2 s2.v (x_slice (by kernel_rfl) (by kernel_rfl) (by kernel_rfl) (by kernel_rfl) hv3) ?_
 obtain ⟨a4,hp5,h⟩:=h
 refine q2 (vp (some a4)) (x_nilCheck (p:=p1) (by kernel_rfl) hp5) (q0 (vp (some (a4.add 1))) ?_)
 obtain ⟨hp6,h⟩:=h
 refine st_set (want0 rfl) (x_store (a:=(a4.add 1)) (v:=s2.v) (by kernel_rfl) (by kernel_rfl) rfl (Tryz.sizeOf43 _) hp6) ?_
 intro w2 hn2
 have h:=h w2 hn2
 refine wpL_nil (th_n (rg (q0 (vp p1) (q0 (vp p1) ?_))))
 obtain ⟨a5,hp7,h⟩:=h
 refine q2 (vp (some a5)) (x_nilCheck (p:=p1) (by kernel_rfl) hp7) (q0 (vp (some (a5.add 2))) ?_)
 obtain ⟨v3,hv2,h⟩:=h
 refine q2 v3.v (xl (Tryz.isAgg43 _) hv2) (q0 (vi n1) ?_)
 obtain ⟨s3,hv1,h⟩:=h
 refine q2 s3.v (x_slice (by kernel_rfl) (by kernel_rfl) (by kernel_rfl) (by kernel_rfl) hv1) ?_
 obtain ⟨a6,hp8,h⟩:=h
 refine q2 (vp (some a6)) (x_nilCheck (p:=p1) (by kernel_rfl) hp8) (q0 (vp (some (a6.add 2))) ?_)
 obtain ⟨hp9,h⟩:=h
 refine st_set (want0 rfl) (x_store (a:=(a6.add 2)) (v:=s3.v) (by kernel_rfl) (by kernel_rfl) rfl (Tryz.sizeOf43 _) hp9) ?_
 intro w3 hn3
 have h:=h w3 hn3
 refine wpL_nil (res0 (.inr rfl) Tryz.results73 ?_)
 exact ⟨rfl,h⟩
def m_U1 (p1:Option Addr) (aD aE:Int) (aF aG:Int) (aH:ByteArray) (aI:Sl) (w0:World) (K:Int→Int→WP):Prop :=
 ∀(H1:NP) (w1:World),Hst w0 None w0 H1 w1 →
 Calls Tryz.prog 71 #[(.agg #[(vi aD),(vi aE),(vi aF),(vu aG),(vs aH),aI.v])] w1 (fun e w2=>∃r1:Int,e=.returned (vi r1)∧
  Kept H1 w1 w2 ∧
  Br (r1 != 0)
   (K 0 r1 w2)
   (∃a1:Addr,p1=some a1 ∧
   ∃v1:Sl,w2.cell? a1=some v1.v ∧
   Calls Tryz.prog 72 #[(vp p1),(.agg #[(vi aD),(vi aE),(vi aF),(vu aG),(vs aH),aI.v])] w2 (fun e w3=>∃r2 r3:Int,e=.returned (.tuple #[(vi r2),(vi r3)])∧
    Kept H1 w2 w3 ∧
    Br (r3 != 0)
     (Calls Tryz.prog 73 #[(vp p1),(vi (v1.len:Int))] w3 (fun e w4=>e=.returned (.tuple #[])∧
      Kept H1 w3 w4 ∧
      K r2 r3 w4))
     (K r2 r3 w3))))
theorem w_U1 (p1 : Option Addr) (aD aE : Int) (aF aG : Int) (aH : ByteArray) (aI : Sl) (w0 : World) (K : Int → Int → WP) (h : m_U1 p1 aD aE aF aG aH aI w0 K) :
  Calls Tryz.prog 34 #[(vp p1),(.agg #[(vi aD),(vi aE),(vi aF),(vu aG),(vs aH),aI.v])] w0 (fun e w'=>∃r4 r5:Int,e=.returned (.tuple #[(vi r4),(vi r5)])∧K r4 r5 w'):=by
 unfold m_U1 at h
 refine cw (args:=[(vp p1),(.agg #[(vi aD),(vi aE),(vi aF),(vu aG),(vs aH),aI.v])]) Tryz.func34 Tryz.ntmps34 ?_
 have hs:=Hst.start w0
 have hb:=HB.nil None w0
 refine wpE_seq (rg (sn (O:=(.cells #[(vi aD),(vi aE),(vi aF),(vu aG),(vs aH),aI.v] 49)) xb ?_))
 intro p2 w1 hn1
 obtain ⟨H1,hs,hb⟩:=hs.alloc hb hn1
 refine q0 (vi 0) (q0 (vi 0) (wpL_nil (th_n (wpE_seq (rg (q2 (.agg #[(vi aD),(vi aE),(vi aF),(vu aG),(vs aH),aI.v]) (x_loadA (a:=p2) (vs:=[(vi aD),(vi aE),(vi aF),(vu aG),(vs aH),aI.v]) (by kernel_rfl) (Tryz.isAgg49 _) (Tryz.sizeOf49 _) rfl (hb.row0 0 6 gZ (by kernel_rfl))) ?_))))))
 have h:=h H1 w1 hs
 have hs:=hs.here
 refine sc Tryz.call71 (h.mono ?_)
 rintro e w2 ⟨r1,rfl,hk,h⟩
 refine ⟨_,rfl,?_⟩
 obtain ⟨hs,hb⟩:=hk.hh hs hb
 refine q0 (vi r1) (wpL_nil (th_n (wpE_seq (wpE_seq (rg (q0 (vi r1) (q0 (vb (r1 != 0)) (wpL_nil (th_n ?_)))))))))
 refine wpE_cond (t:=(r1 != 0)) (by kernel_rfl) (fun hc1=>?_) (fun hc1=>?_)
 ·have h:=h.1 hc1
  refine wpE_seq (rg (q0 (vi r1) (q0 (vi 0) (q0 (vi r1) (wpL_nil (th_n (wpE_ret (th_r (res2 (.inl rfl) Tryz.results34 (v:=(vi 0)) (by kernel_rfl) (v':=(vi r1)) (by kernel_rfl) ?_)))))))))
  exact ⟨0,r1,rfl,h⟩
 ·have h:=h.2 hc1
  refine wpE_skip (th_n (wpE_seq (rg (q0 (vp p1) ?_))))
  obtain ⟨a1,hp1,h⟩:=h
  refine q2 (vp (some a1)) (x_nilCheck (p:=p1) (by kernel_rfl) hp1) (q0 (vp (some a1)) ?_)
  obtain ⟨v1,hv1,h⟩:=h
  refine q2 v1.v (xl (Tryz.isAgg42 _) hv1) (q0 (vi (v1.len:Int)) (q0 (vi (v1.len:Int)) (wpL_nil (th_n (wpE_seq (rg (q0 (vp p1) (q2 (.agg #[(vi aD),(vi aE),(vi aF),(vu aG),(vs aH),aI.v]) (x_loadA (a:=p2) (vs:=[(vi aD),(vi aE),(vi aF),(vu aG),(vs aH),aI.v]) (by kernel_rfl) (Tryz.isAgg49 _) (Tryz.sizeOf49 _) rfl (hb.row0 0 6 gZ (by kernel_rfl))) ?_))))))))
  refine sc Tryz.call72 (h.mono ?_)
  rintro e w3 ⟨r2,r3,rfl,hk,h⟩
  refine ⟨_,rfl,?_⟩
  obtain ⟨hs,hb⟩:=hk.hh hs hb
  refine q0 (.tuple #[(vi r2),(vi r3)]) (q0 (vi r2) (q0 (vi r3) (q0 (vi r2) (q0 (vi r3) (wpL_nil (th_n (wpE_seq (wpE_seq (rg (q0 (vi r3) (q0 (vb (r3 != 0)) ?_)))))))))))
  refine wpL_nil (th_n ?_)
  refine wpE_cond (t:=(r3 != 0)) (by kernel_rfl) (fun hc2=>?_) (fun hc2=>?_)
  ·have h:=h.1 hc2
   refine rg (q0 (vp p1) (q0 (vi (v1.len:Int)) ?_))
   refine sc Tryz.call73 (h.mono ?_)
   rintro e w4 ⟨rfl,hk,h⟩
   refine ⟨_,rfl,?_⟩
   obtain ⟨hs,hb⟩:=hk.hh hs hb
   refine wpL_nil (th_n (wpE_seq (rg (q0 (vi r2) (q0 (vi r3) (q0 (vi r2) (q0 (vi r3) (wpL_nil (th_n (wpE_ret (res2 (.inl rfl) Tryz.results34 (v:=(vi r2)) (by kernel_rfl) (v':=(vi r3)) (by kernel_rfl) ?_)))))))))))
   exact ⟨r2,r3,rfl,h⟩
  ·have h:=h.2 hc2
   refine wpE_skip (th_n (wpE_seq (rg (q0 (vi r2) (q0 (vi r3) (q0 (vi r2) (q0 (vi r3) (wpL_nil (th_n (wpE_ret (res2 (.inl rfl) Tryz.results34 (v:=(vi r2)) (by kernel_rfl) (v':=(vi r3)) (by kernel_rfl) ?_)))))))))))
   exact ⟨r2,r3,rfl,h⟩
def m_S_j1 (w1:Option Addr) (t1:Int) (x1:Bool) (w:World) (K:WP):Prop :=
 Br x1
  (K w)
  (∃a1:Addr,w1=some a1 ∧
  ∃v1:Sl,w.cell? (a1.add 1)=some v1.v ∧
  ∃a2:Addr,At v1 t1 1 a2 ∧
  CanW w a2∧∀w2:World,w2=w.setCell a2 (vb true) →
  ∃a3:Addr,w1=some a3 ∧
  ∃v2:Option Addr,w2.cell? a3=some (vp v2) ∧
  ∃a4:Addr,v2=some a4 ∧
  ∃v3:Sl,w2.cell? a4=some v3.v ∧
  ∃a5:Addr,At v3 (q6.wrap (t1 - 1)) 7 a5 ∧
  ∃v4:Int,w2.cell? (a5.add 5)=some (vi v4) ∧
  Calls Tryz.prog 90 #[(vp w1),(vi v4)] w2 (fun e w3=>e=.returned (.tuple #[])∧
   ∃a6:Addr,w1=some a6 ∧
   ∃v5:Option Addr,w3.cell? a6=some (vp v5) ∧
   ∃a7:Addr,v5=some a7 ∧
   ∃v6:Sl,w3.cell? a7=some v6.v ∧
   ∃a8:Addr,At v6 (q6.wrap (t1 - 1)) 7 a8 ∧
   ∃v7:Int,w3.cell? (a8.add 6)=some (vi v7) ∧
   Calls Tryz.prog 90 #[(vp w1),(vi v7)] w3 (fun e w4=>e=.returned (.tuple #[])∧
    ∃a9:Addr,w1=some a9 ∧
    ∃v8:Sl,w4.cell? (a9.add 2)=some v8.v ∧
    ∀(p1:Addr) (w5:World),New w4 (.cells #[(vi t1)] 30) p1 w5 →
    ∃s1:Sl,∃w6:World,(Builtin.append_ #[52,52] 52 #[v8.v,(Sl.mk (some p1) 1 1).v]).run Tryz.prog w5=.ok s1.v w6 ∧
    ∃a10:Addr,w1=some a10 ∧
    CanW w6 (a10.add 2)∧∀w7:World,w7=w6.setCell (a10.add 2) s1.v →
    K w7)))
def m_S (w1:Option Addr) (t1:Int) (w0:World) (K:WP):Prop :=
 ∃a11:Addr,w1=some a11 ∧
 ∃v9:Option Addr,w0.cell? a11=some (vp v9) ∧
 Calls Tryz.prog 60 #[(vp v9),(vi t1)] w0 (fun e w8=>∃r1:Bool,e=.returned (vb r1)∧
  Br (!r1)
   (m_S_j1 w1 t1 true w8 K)
   (∃a12:Addr,w1=some a12 ∧
   ∃v10:Sl,w8.cell? (a12.add 1)=some v10.v ∧
   ∃a13:Addr,At v10 t1 1 a13 ∧
   ∃v11:Bool,w8.cell? a13=some (vb v11) ∧
   m_S_j1 w1 t1 v11 w8 K))
theorem w_S (w1 : Option Addr) (t1 : Int) (w0 : World) (K : WP) (h : m_S w1 t1 w0 K) :
  Calls Tryz.prog 90 #[(vp w1),(vi t1)] w0 (fun e w'=>e=.returned (.tuple #[])∧K  w'):=by
 unfold m_S at h
 refine cw (args:=[(vp w1),(vi t1)]) Tryz.func90 Tryz.ntmps90 (wpE_seq (wpE_seq ?_))
 refine wpE_joinT (fun ρ w=>∃x1:Bool,Has ρ [(0,(vp w1)),(1,(vi t1)),(19,(vb x1))]∧m_S_j1 w1 t1 x1 w K) ?_ ?_
 ·rintro ρ w ⟨x1,hH,h⟩
  unfold m_S_j1 at h
  refine wpE_has hH ?_
  refine wpE_cond (t:=x1) (by kernel_rfl) (fun hc1=>?_) (fun hc1=>?_)
  ·have h:=h.1 hc1
   refine wpE_ret (th_r (res0 (.inl rfl) Tryz.results90 ?_))
   exact ⟨rfl,h⟩
  ·have h:=h.2 hc1
   refine wpE_skip (th_n (wpE_seq (rg (q0 (vp w1) ?_))))
   obtain ⟨a1,hp1,h⟩:=h
   refine q2 (vp (some a1)) (x_nilCheck (p:=w1) (by kernel_rfl) hp1) (q0 (vp (some (a1.add 1))) ?_)
   obtain ⟨v1,hv12,h⟩:=h
   refine q2 v1.v (xl (Tryz.isAgg117 _) hv12) (q0 (vi t1) ?_)
   obtain ⟨a2,hv11,h⟩:=h
   refine q2 (vp (some a2)) (xi (Tryz.runUnderlying117 _) (Tryz.sizeOf4 _) hv11) ?_
   obtain ⟨hp2,h⟩:=h
   refine st_set (want0 rfl) (x_store (a:=a2) (v:=(vb true)) (by kernel_rfl) (by kernel_rfl) rfl (Tryz.sizeOf4 _) hp2) ?_
   intro w2 hn1
   have h:=h w2 hn1
   refine wpL_nil (th_n (wpE_seq (rg (q0 (vp w1) (q0 (vp w1) ?_)))))
   obtain ⟨a3,hp3,h⟩:=h
   refine q2 (vp (some a3)) (x_nilCheck (p:=w1) (by kernel_rfl) hp3) (q0 (vp (some a3)) ?_)
   obtain ⟨v2,hv10,h⟩:=h
   refine q2 (vp v2) (xl (Tryz.isAgg27 _) hv10) ?_
   obtain ⟨a4,hp4,h⟩:=h
   refine q2 (vp (some a4)) (x_nilCheck (p:=v2) (by kernel_rfl) hp4) (q0 (vp (some a4)) ?_)
   obtain ⟨v3,hv9,h⟩:=h
   refine q2 v3.v (xl (Tryz.isAgg42 _) hv9) (q0 (vi t1) (q0 (vi (q6.wrap (t1 - 1))) ?_))
   obtain ⟨a5,hv8,h⟩:=h
   refine q2 (vp (some a5)) (xi (Tryz.runUnderlying42 _) (Tryz.sizeOf86 _) hv8) (q0 (vp (some (a5.add 5))) ?_)
   obtain ⟨v4,hv7,h⟩:=h
   refine q2 (vi v4) (xl (Tryz.isAgg30 _) hv7) ?_
   refine sc Tryz.call90 (h.mono ?_)
   rintro e w3 ⟨rfl,h⟩
   refine ⟨_,rfl,?_⟩
   refine wpL_nil (th_n (wpE_seq (rg (q0 (vp w1) (q0 (vp w1) ?_)))))
   obtain ⟨a6,hp5,h⟩:=h
   refine q2 (vp (some a6)) (x_nilCheck (p:=w1) (by kernel_rfl) hp5) (q0 (vp (some a6)) ?_)
   obtain ⟨v5,hv6,h⟩:=h
   refine q2 (vp v5) (xl (Tryz.isAgg27 _) hv6) ?_
   obtain ⟨a7,hp6,h⟩:=h
   refine q2 (vp (some a7)) (x_nilCheck (p:=v5) (by kernel_rfl) hp6) (q0 (vp (some a7)) ?_)
   obtain ⟨v6,hv5,h⟩:=h
   refine q2 v6.v (xl (Tryz.isAgg42 _) hv5) (q0 (vi t1) (q0 (vi (q6.wrap (t1 - 1))) ?_))
   obtain ⟨a8,hv4,h⟩:=h
   refine q2 (vp (some a8)) (xi (Tryz.runUnderlying42 _) (Tryz.sizeOf86 _) hv4) (q0 (vp (some (a8.add 6))) ?_)
   obtain ⟨v7,hv3,h⟩:=h
   refine q2 (vi v7) (xl (Tryz.isAgg30 _) hv3) ?_
   refine sc Tryz.call90 (h.mono ?_)
   rintro e w4 ⟨rfl,h⟩
   refine ⟨_,rfl,?_⟩
   refine wpL_nil (th_n (rg (q0 (vp w1) (q0 (vp w1) ?_))))
   obtain ⟨a9,hp7,h⟩:=h
   refine q2 (vp (some a9)) (x_nilCheck (p:=w1) (by kernel_rfl) hp7) (q0 (vp (some (a9.add 2))) ?_)
   obtain ⟨v8,hv2,h⟩:=h
   refine q2 v8.v (xl (Tryz.isAgg52 _) hv2) (q0 (vi t1) (st_new (O:=(.cells #[(vi t1)] 30)) (fun p=>(Sl.mk (some p) 1 1).v) (want0 rfl) (x_buildSlice (vs:=#[(0,(vi t1))]) (by kernel_rfl) (by kernel_rfl)) ?_))
   intro p1 w5 hn3
   have h:=h p1 w5 hn3
   obtain ⟨s1,w6,hv1,h⟩:=h
   refine st (v:=s1.v) (want0 rfl) (x_builtin (args:=#[v8.v,(Sl.mk (some p1) 1 1).v]) (by kernel_rfl) (fun _=>rfl) hv1) ?_
   obtain ⟨a10,hp8,h⟩:=h
   refine q2 (vp (some a10)) (x_nilCheck (p:=w1) (by kernel_rfl) hp8) (q0 (vp (some (a10.add 2))) ?_)
   obtain ⟨hp9,h⟩:=h
   refine st_set (want0 rfl) (x_store (a:=(a10.add 2)) (v:=s1.v) (by kernel_rfl) (by kernel_rfl) rfl (Tryz.sizeOf52 _) hp9) ?_
   intro w7 hn2
   have h:=h w7 hn2
   refine wpL_nil (res0 (.inr rfl) Tryz.results90 ?_)
   exact ⟨rfl,h⟩
 ·refine rg (q0 (vp w1) ?_)
  obtain ⟨a11,hp10,h⟩:=h
  refine q2 (vp (some a11)) (x_nilCheck (p:=w1) (by kernel_rfl) hp10) (q0 (vp (some a11)) ?_)
  obtain ⟨v9,hv16,h⟩:=h
  refine q2 (vp v9) (xl (Tryz.isAgg27 _) hv16) (q0 (vi t1) ?_)
  refine sc Tryz.call60 (h.mono ?_)
  rintro e w8 ⟨r1,rfl,h⟩
  refine ⟨_,rfl,?_⟩
  refine q0 (vb (!r1)) (q0 (vb (!r1)) ?_)
  rcases Bool.eq_false_or_eq_true (!r1) with hg1 | hg1
  ·have h:=h.1 hg1
   refine sk (yD 11 hg1) (sk (yD 11 hg1) (sk (yD 11 hg1) (sk (yD 11 hg1) (sk (yD 11 hg1) (sk (yD 11 hg1) (sk (yD 11 hg1) (q2 (vb true) (xT hg1) (wpL_nil (th_n ?_)))))))))
   exact ⟨true,hm,h⟩
  ·have h:=h.2 hg1
   refine q1 (vp w1) (want1 rfl (yD 11 hg1)) ?_
   obtain ⟨a12,hp11,h⟩:=h
   refine stp (v:=(vp (some a12))) (want1 rfl (yD 11 hg1)) (x_nilCheck (p:=w1) (by kernel_rfl) hp11) (q1 (vp (some (a12.add 1))) (want1 rfl (yD 11 hg1)) ?_)
   obtain ⟨v10,hv15,h⟩:=h
   refine stp (v:=v10.v) (want1 rfl (yD 11 hg1)) (xl (Tryz.isAgg117 _) hv15) (q1 (vi t1) (want1 rfl (yD 11 hg1)) ?_)
   obtain ⟨a13,hv14,h⟩:=h
   refine stp (v:=(vp (some a13))) (want1 rfl (yD 11 hg1)) (xi (Tryz.runUnderlying117 _) (Tryz.sizeOf4 _) hv14) ?_
   obtain ⟨v11,hv13,h⟩:=h
   refine stp (v:=(vb v11)) (want1 rfl (yD 11 hg1)) (xl (Tryz.isAgg4 _) hv13) (q2 (vb v11) (xF hg1) (wpL_nil (th_n ?_)))
   exact ⟨v11,hm,h⟩
def m_E2 (p1:Option Addr) (t1:Int) (w0:World) (K:Sl→WP):Prop :=
 ∃a1:Addr,p1=some a1 ∧
 ∃v1:Sl,w0.cell? a1=some v1.v ∧
 ∃s1:Sl,∃w1:World,(Instr.makeSlice 117 (vi (q6.wrap ((v1.len:Int)+1))) (vi (q6.wrap ((v1.len:Int)+1)))).run Tryz.prog w0=.ok s1.v w1 ∧
 ∀(p2:Addr) (w2:World),New w1 (.cells #[(vp p1),s1.v,Sl.nil.v] 144) p2 w2 →
 Calls Tryz.prog 90 #[(vp (some p2)),(vi t1)] w2 (fun e w3=>e=.returned (.tuple #[])∧
  ∃v2:Sl,w3.cell? (p2.add 2)=some v2.v ∧
  K v2 w3)
theorem w_E2 (p1 : Option Addr) (t1 : Int) (w0 : World) (K : Sl → WP) (h : m_E2 p1 t1 w0 K) :
  Calls Tryz.prog 42 #[(vp p1),(vi t1)] w0 (fun e w'=>∃r1:Sl,e=.returned r1.v∧K r1 w'):=by
 unfold m_E2 at h
 refine cw (args:=[(vp p1),(vi t1)]) Tryz.func42 Tryz.ntmps42 (wpE_seq (rg (q0 Sl.nil.v (wpL_nil (th_n (wpE_seq (rg (q0 (vp p1) (q0 (vp p1) ?_)))))))))
 obtain ⟨a1,hp1,h⟩:=h
 refine q2 (vp (some a1)) (x_nilCheck (p:=p1) (by kernel_rfl) hp1) (q0 (vp (some a1)) ?_)
 obtain ⟨v1,hv3,h⟩:=h
 refine q2 v1.v (xl (Tryz.isAgg42 _) hv3) (q0 (vi (v1.len:Int)) (q0 (vi (q6.wrap ((v1.len:Int)+1))) ?_))
 obtain ⟨s1,w1,hv2,h⟩:=h
 refine st (v:=s1.v) (want0 rfl) (x_makeSlice (by kernel_rfl) (by kernel_rfl) hv2) (q0 (.agg #[(vp p1),s1.v,Sl.nil.v]) (sn (O:=(.cells #[(vp p1),s1.v,Sl.nil.v] 144)) xb ?_))
 intro p2 w2 hn1
 have h:=h p2 w2 hn1
 refine q0 (vp (some p2)) (wpL_nil (th_n (wpE_seq (rg (q0 (vp (some p2)) (q0 (vi t1) ?_))))))
 refine sc Tryz.call90 (h.mono ?_)
 rintro e w3 ⟨rfl,h⟩
 refine ⟨_,rfl,?_⟩
 refine wpL_nil (th_n (wpE_seq (rg (q0 (vp (some p2)) (q0 (vp (some p2)) (q0 (vp (some (p2.add 2))) ?_))))))
 obtain ⟨v2,hv1,h⟩:=h
 refine q2 v2.v (xl (Tryz.isAgg52 _) hv1) (q0 v2.v (wpL_nil (th_n (wpE_ret (rs1 Tryz.results42 (v:=v2.v) ?_)))))
 exact ⟨v2,rfl,h⟩
def m_K_j3 (p1:Option Addr) (r2 s1 v2:Sl) (i1 cC:Int) (cD cE cF:Int) (cG:ByteArray) (cH cI:Int) (H:NP) (w:World) (Kc1:Int→NP→WP) (K:Int→Int→WP):Prop :=
 Calls Tryz.prog 41 #[(vp p1),(.agg #[(vi cC),(vi cD),(vi cE),(vu cF),(vs cG),(vi cH),(vi cI)])] w (fun e w10=>∃r3 r4:Int,e=.returned (.tuple #[(vi r3),(vi r4)])∧
  Kept H w w10 ∧
  Br (r4 != 0)
   (Calls Tryz.prog 73 #[(vp p1),(vi (v2.len:Int))] w10 (fun e w11=>e=.returned (.tuple #[])∧
    Kept H w10 w11 ∧
    K 0 r4 w11))
   (∃a6:Addr,At r2 i1 1 a6 ∧
   ∃v5:Int,w10.cell? a6=some (vi v5) ∧
   ∃a7:Addr,At s1 v5 1 a7 ∧
   CanW w10 a7∧¬ H a7.block∧∀w12:World,w12=w10.setCell a7 (vi r3) →
   Kc1 (q6.wrap (i1+1)) H w12))
def m_K_j2 (p1:Option Addr) (r2 s1 v2:Sl) (i1 aA:Int) (aB aC aK:Int) (aJ:ByteArray) (aL aM:Int) (w0:World) (H:NP) (w:World) (Kc1:Int→NP→WP) (K:Int→Int→WP):Prop :=
 Br (decide (aM>0))
  (∃a8:Addr,At s1 aM 1 a8 ∧
  ∃v6:Int,w.cell? a8=some (vi v6) ∧
  ∀(w13:World),Hst w0 H w H w13 →
  m_K_j3 p1 r2 s1 v2 i1 aA aB aC aK aJ aL v6 H w13 Kc1 K)
  (m_K_j3 p1 r2 s1 v2 i1 aA aB aC aK aJ aL aM H w Kc1 K)
def m_K_l1 (p1:Option Addr) (bP:Option Addr) (t1:Int) (r2 s1 v2:Sl) (i1:Int) (w0:World) (Hl1:NP) (wl1:World) (Kc1:Int→NP→WP) (K:Int→Int→WP):Prop :=
 Br (decide (i1<(r2.len:Int)))
  (∃a3:Addr,bP=some a3 ∧
  ∃v3:Sl,wl1.cell? a3=some v3.v∧¬ Hl1 a3.block ∧
  ∃a4:Addr,At r2 i1 1 a4 ∧
  ∃v4:Int,wl1.cell? a4=some (vi v4)∧¬ Hl1 a4.block ∧
  ∃a5:Addr,At v3 (q6.wrap (v4 - 1)) 7 a5 ∧
  ∃aN aO:Int,∃aP aQ:Int,∃aR:ByteArray,∃aX aY:Int,Row wl1 a5 [(vi aN),(vi aO),(vi aP),(vu aQ),(vs aR),(vi aX),(vi aY)]∧¬ Hl1 a5.block ∧
  Br (decide (aX>0))
   (∃a9:Addr,At s1 aX 1 a9 ∧
   ∀(H2:NP) (w7:World),Hst w0 Hl1 wl1 H2 w7 →
   ∃v7:Int,w7.cell? a9=some (vi v7) ∧
   ∀(w14:World),Hst w0 H2 w7 H2 w14 →
   m_K_j2 p1 r2 s1 v2 i1 aN aO aP aQ aR v7 aY w0 H2 w14 Kc1 K)
   (∀(H2:NP) (w7:World),Hst w0 Hl1 wl1 H2 w7 →
   m_K_j2 p1 r2 s1 v2 i1 aN aO aP aQ aR aX aY w0 H2 w7 Kc1 K))
  (∃a10:Addr,At s1 t1 1 a10 ∧
  ∃v8:Int,wl1.cell? a10=some (vi v8) ∧
  K v8 0 wl1)
def m_K (p1:Option Addr) (bP:Option Addr) (t1:Int) (w0:World) (K:Int→Int→WP):Prop :=
 Calls Tryz.prog 60 #[(vp bP),(vi t1)] w0 (fun e w1=>∃r1:Bool,e=.returned (vb r1)∧
  Kept None w0 w1 ∧
  Br (!r1)
   (K 0 51 w1)
   (Calls Tryz.prog 42 #[(vp bP),(vi t1)] w1 (fun e w2=>∃r2:Sl,e=.returned r2.v∧
    Kept None w1 w2 ∧
    ∃a1:Addr,bP=some a1 ∧
    ∃v1:Sl,w2.cell? a1=some v1.v ∧
    ∃s1:Sl,∃w3:World,(Instr.makeSlice 52 (vi (q6.wrap ((v1.len:Int)+1))) (vi (q6.wrap ((v1.len:Int)+1)))).run Tryz.prog w2=.ok s1.v w3 ∧
    Kept None w2 w3 ∧
    ∃a2:Addr,p1=some a2 ∧
    ∃v2:Sl,w3.cell? a2=some v2.v ∧
    ∃(I1:Int→NP→WP) (mu1:Int→World→Nat),I1 0 None w3 ∧
     ∀(i1:Int) (Hl1:NP) (wl1:World),Hst w0 Hl1 wl1 Hl1 wl1→I1 i1 Hl1 wl1→m_K_l1 p1 bP t1 r2 s1 v2 i1 w0 Hl1 wl1 (fun y'0 H' w'=>I1 y'0 H' w'∧mu1 y'0 w'<mu1 i1 wl1) K)))
theorem w_K (p1 : Option Addr) (bP : Option Addr) (t1 : Int) (w0 : World) (K : Int → Int → WP) (h : m_K p1 bP t1 w0 K) :
  Calls Tryz.prog 37 #[(vp p1),(vp bP),(vi t1)] w0 (fun e w'=>∃r5 r6:Int,e=.returned (.tuple #[(vi r5),(vi r6)])∧K r5 r6 w'):=by
 unfold m_K at h
 refine cw (args:=[(vp p1),(vp bP),(vi t1)]) Tryz.func37 Tryz.ntmps37 ?_
 have hs:=Hst.start w0
 have hb:=HB.nil None w0
 refine wpE_seq (rg (q0 (vi 0) (q0 (vi 0) (wpL_nil (th_n (wpE_seq (wpE_seq (rg (q0 (vp bP) (q0 (vi t1) ?_))))))))))
 refine sc Tryz.call60 (h.mono ?_)
 rintro e w1 ⟨r1,rfl,hk,h⟩
 refine ⟨_,rfl,?_⟩
 obtain ⟨hs,hb⟩:=hk.hh hs hb
 refine q0 (vb (!r1)) (wpL_nil (th_n ?_))
 refine wpE_cond (t:=(!r1)) (by kernel_rfl) (fun hc1=>?_) (fun hc1=>?_)
 ·have h:=h.1 hc1
  refine wpE_seq (rg (q0 (vi 0) (q0 (vi 51) (wpL_nil (th_n (wpE_ret (th_r (res2 (.inl rfl) Tryz.results37 (v:=(vi 0)) (by kernel_rfl) (v':=(vi 51)) (by kernel_rfl) ?_))))))))
  exact ⟨0,51,rfl,h⟩
 ·have h:=h.2 hc1
  refine wpE_skip (th_n (wpE_seq (rg (q0 (vp bP) (q0 (vi t1) ?_)))))
  refine sc Tryz.call42 (h.mono ?_)
  rintro e w2 ⟨r2,rfl,hk,h⟩
  refine ⟨_,rfl,?_⟩
  obtain ⟨hs,hb⟩:=hk.hh hs hb
  refine q0 r2.v (wpL_nil (th_n (wpE_seq (rg (q0 (vp bP) ?_)))))
  obtain ⟨a1,hp1,h⟩:=h
  refine q2 (vp (some a1)) (x_nilCheck (p:=bP) (by kernel_rfl) hp1) (q0 (vp (some a1)) ?_)
  obtain ⟨v1,hv17,h⟩:=h
  refine q2 v1.v (xl (Tryz.isAgg42 _) hv17) (q0 (vi (v1.len:Int)) (q0 (vi (q6.wrap ((v1.len:Int)+1))) ?_))
  obtain ⟨s1,w3,hv16,hk,h⟩:=h
  refine st (v:=s1.v) (want0 rfl) (x_makeSlice (by kernel_rfl) (by kernel_rfl) hv16) ?_
  obtain ⟨hs,hb⟩:=hk.hh hs hb
  refine q0 s1.v (wpL_nil (th_n (wpE_seq (rg (q0 (vp p1) ?_)))))
  obtain ⟨a2,hp2,h⟩:=h
  refine q2 (vp (some a2)) (x_nilCheck (p:=p1) (by kernel_rfl) hp2) (q0 (vp (some a2)) ?_)
  obtain ⟨v2,hv15,h⟩:=h
  refine q2 v2.v (xl (Tryz.isAgg42 _) hv15) (q0 (vi (v2.len:Int)) (q0 (vi (v2.len:Int)) (wpL_nil (th_n (wpE_seq (wpE_seq (rg (q0 (vi 0) (wpL_nil (th_n (wpE_block ?_)))))))))))
  obtain ⟨I1,mu1,h0,hr⟩:=h
  refine wpE_loop (σ:=Int×NP×World) (fun s ρ w=>w=s.2.2∧Has ρ [(0,(vp p1)),(1,(vp bP)),(2,(vi t1)),(8,r2.v),(9,s1.v),(10,(vi (v2.len:Int))),(11,(vi s.1))]∧Hst w0 s.2.1 w s.2.1 w∧HB s.2.1 w []∧I1 s.1 s.2.1 s.2.2) (fun s=>mu1 s.1 s.2.2) (0,None,w3) ⟨rfl,hm,hs,hb,h0⟩ ?_
  rintro ⟨i1,Hl1,wl1⟩ ρ w ⟨hw,hH,hs,hb,hI⟩
  obtain rfl:wl1=w:=(show w=wl1 from hw).symm
  have hH:Has ρ [(0,(vp p1)),(1,(vp bP)),(2,(vi t1)),(8,r2.v),(9,s1.v),(10,(vi (v2.len:Int))),(11,(vi i1))]:=hH
  have hs:Hst w0 Hl1 wl1 Hl1 wl1:=hs
  have hb:HB Hl1 wl1 []:=hb
  have h:=hr i1 Hl1 wl1 hs hI
  unfold m_K_l1 at h
  refine wpE_has hH ?_
  refine wpE_seq (wpE_seq (rg (q0 (vi i1) (q0 r2.v (q0 (vi (r2.len:Int)) (q0 (vb (decide (i1<(r2.len:Int)))) (wpL_nil (th_n ?_))))))))
  refine wpE_cond (t:=(decide (i1<(r2.len:Int)))) (by kernel_rfl) (fun hc2=>?_) (fun hc2=>?_)
  ·have h:=h.1 hc2
   refine wpE_skip (th_n (wpE_seq (wpE_block (wpE_seq (wpE_drawnC (fun x=>∃H',Hst w0 Hl1 wl1 H' x∧HB H' x []) [11,12] [12] (by kernel_rfl) (by kernel_rfl) (by kernel_rfl) (by kernel_rfl) ⟨_,hs.drew,hb.drew⟩ ?_)))))
   intro w4 hw4
   have hs:Hst w0 Hl1 wl1 Hl1 w4:=by rw [hw4];exact hs.drew
   have hb:HB Hl1 w4 []:=by rw [hw4];exact hb.drew
   refine qx 0 (vp bP) Kp0 (qg 1 ?_)
   obtain ⟨a3,hp3,h⟩:=h
   refine sy (v:=(vp (some a3))) Kp1 (fun _ _=>(x_nilCheck (p:=bP) (by kernel_rfl) hp3)) (qx 2 (vp (some a3)) Kp2 (qg 3 ?_))
   obtain ⟨v3,hv12,hnh,h⟩:=h
   refine sy (v:=v3.v) Kp3 (fun w' hw'=>by obtain ⟨H',hs',hb'⟩:=hw';exact (xl (Tryz.isAgg42 _) (cell_hst hv12 hnh hs'))) ?_
   refine qx 4 r2.v Kp4 (qx 5 (vi i1) Kp5 (qg 6 ?_))
   obtain ⟨a4,hv11,h⟩:=h
   refine sy (v:=(vp (some a4))) Kp6 (fun _ _=>(xi (Tryz.runUnderlying52 _) (Tryz.sizeOf30 _) hv11)) (qg 7 ?_)
   obtain ⟨v4,hv10,hnh,h⟩:=h
   refine sy (v:=(vi v4)) Kp7 (fun w' hw'=>by obtain ⟨H',hs',hb'⟩:=hw';exact (xl (Tryz.isAgg30 _) (cell_hst hv10 hnh hs'))) ?_
   refine qx 8 (vi (q6.wrap (v4 - 1))) Kp8 (qg 9 ?_)
   obtain ⟨a5,hv9,h⟩:=h
   refine sy (v:=(vp (some a5))) Kp9 (fun _ _=>(xi (Tryz.runUnderlying42 _) (Tryz.sizeOf86 _) hv9)) (qg 10 ?_)
   obtain ⟨aN,aO,aP,aQ,aR,aX,aY,hv8,hnh,h⟩:=h
   refine sy (v:=(.agg #[(vi aN),(vi aO),(vi aP),(vu aQ),(vs aR),(vi aX),(vi aY)])) (pickA (S8 (pickS (pickS pickZ)))) (fun w' hw'=>by obtain ⟨H',hs',hb'⟩:=hw';exact (x_loadA (a:=a5) (vs:=[(vi aN),(vi aO),(vi aP),(vu aQ),(vs aR),(vi aX),(vi aY)]) (by kernel_rfl) (Tryz.isAgg86 _) (Tryz.sizeOf86 _) rfl (row_hst hv8 hnh hs'))) ?_
   refine wpX_via (fun ρ wJ=>∃p3:Addr,∃HJ:NP,Hst w0 Hl1 wl1 HJ wJ∧HB HJ wJ [(p3,[(vi aN),(vi aO),(vi aP),(vu aQ),(vs aR),(vi aX),(vi aY)],86)]∧Has ρ [(0,(vp p1)),(1,(vp bP)),(2,(vi t1)),(8,r2.v),(9,s1.v),(10,(vi (v2.len:Int))),(11,(vi i1)),(12,(vp (some p3)))]) ?_ ?_
   ·refine lg 11 (sl_new (O:=(.cells #[(vi 0),(vi 0),(vi 0),(vu 0),(vs ⟨#[]⟩),(vi 0),(vi 0)] 86)) (fun p=>.pointer (some p)) (pickA (S8 (pickS (pickS (pickS pickZ))))) (want0 rfl) (by kernel_rfl) (x_alloc (Tryz.zeroValue86 _) rfl) ?_)
    intro p4 w8 hn3
    obtain ⟨H3,hs,hb⟩:=hs.alloc hb hn3
    refine ⟨.inr ⟨_,hs,hb.drop 1⟩,?_⟩
    refine lg 12 (sl_set (pickA (S8 (S4 pickZ))) (want0 rfl) (by kernel_rfl) (x_storeA (a:=p4) (vs:=[(vi aN),(vi aO),(vi aP),(vu aQ),(vs aR),(vi aX),(vi aY)]) (by kernel_rfl) (by kernel_rfl) rfl (Tryz.sizeOf86 _) rfl (hb.canWs0 0 7 gZ (by kernel_rfl))) ?_)
    intro w9 hn4
    have hsb:Hst w0 Hl1 wl1 H3 w9∧HB H3 w9 [(p4,[(vi aN),(vi aO),(vi aP),(vu aQ),(vs aR),(vi aX),(vi aY)],86)]:=by
     rw [hn4]
     exact hb.store0 (i:=0) (vs:=[(vi aN),(vi aO),(vi aP),(vu aQ),(vs aR),(vi aX),(vi aY)]) hs gZ (by kernel_rfl) (by kernel_rfl)
    obtain ⟨hs,hb⟩:=hsb
    refine ⟨.inl (by kernel_rfl),?_⟩
    refine wn ?_
    exact ⟨p4,_,hs,hb,hm⟩
   ·rintro ρ w7 ⟨p3,H2,hs,hb,hH⟩
    refine q_has hH ?_
    refine th_n (wpE_seq (wpE_seq (rg (q0 (vp (some (p3.add 5))) (q2 (vi aX) (xl (Tryz.isAgg30 _) (hb.c 0 5 gZ)) (q0 (vb (decide (aX>0))) (wpL_nil (th_n ?_))))))))
    refine wpE_joinT (fun ρ w=>∃aA aB:Int,∃aC aK:Int,∃aJ:ByteArray,∃aL aM:Int,∃H:NP,Has ρ [(0,(vp p1)),(1,(vp bP)),(2,(vi t1)),(8,r2.v),(9,s1.v),(10,(vi (v2.len:Int))),(11,(vi i1)),(12,(vp (some p3)))]∧Hst w0 H w H w∧HB H w [(p3,[(vi aA),(vi aB),(vi aC),(vu aK),(vs aJ),(vi aL),(vi aM)],86)]∧m_K_j2 p1 r2 s1 v2 i1 aA aB aC aK aJ aL aM w0 H w (fun y'0 H' w'=>I1 y'0 H' w'∧mu1 y'0 w'<mu1 i1 wl1) K) ?_ ?_
    ·rintro ρ w ⟨aA,aB,aC,aK,aJ,aL,aM,H,hH,hs,hb,h⟩
     unfold m_K_j2 at h
     refine wpE_has hH ?_
     refine wpE_seq (wpE_seq (rg (q0 (vp (some (p3.add 6))) (q2 (vi aM) (xl (Tryz.isAgg30 _) (hb.c 0 6 gZ)) (q0 (vb (decide (aM>0))) (wpL_nil (th_n ?_)))))))
     refine wpE_joinT (fun ρ w=>∃cC cD:Int,∃cE cF:Int,∃cG:ByteArray,∃cH cI:Int,∃H:NP,Has ρ [(0,(vp p1)),(1,(vp bP)),(2,(vi t1)),(8,r2.v),(9,s1.v),(10,(vi (v2.len:Int))),(11,(vi i1)),(12,(vp (some p3)))]∧Hst w0 H w H w∧HB H w [(p3,[(vi cC),(vi cD),(vi cE),(vu cF),(vs cG),(vi cH),(vi cI)],86)]∧m_K_j3 p1 r2 s1 v2 i1 cC cD cE cF cG cH cI H w (fun y'0 H' w'=>I1 y'0 H' w'∧mu1 y'0 w'<mu1 i1 wl1) K) ?_ ?_
     ·rintro ρ w ⟨cC,cD,cE,cF,cG,cH,cI,H,hH,hs,hb,h⟩
      unfold m_K_j3 at h
      refine wpE_has hH ?_
      refine wpE_seq (rg (q0 (vp p1) (q2 (.agg #[(vi cC),(vi cD),(vi cE),(vu cF),(vs cG),(vi cH),(vi cI)]) (x_loadA (a:=p3) (vs:=[(vi cC),(vi cD),(vi cE),(vu cF),(vs cG),(vi cH),(vi cI)]) (by kernel_rfl) (Tryz.isAgg86 _) (Tryz.sizeOf86 _) rfl (hb.row0 0 7 gZ (by kernel_rfl))) ?_)))
      refine sc Tryz.call41 (h.mono ?_)
      rintro e w10 ⟨r3,r4,rfl,hk,h⟩
      refine ⟨_,rfl,?_⟩
      obtain ⟨hs,hb⟩:=hk.hh hs hb
      refine q0 (.tuple #[(vi r3),(vi r4)]) (q0 (vi r3) (q0 (vi r4) (q0 (vi r3) (q0 (vi r4) (wpL_nil (th_n (wpE_seq (wpE_seq (rg (q0 (vi r4) (q0 (vb (r4 != 0)) ?_)))))))))))
      refine wpL_nil (th_n ?_)
      refine wpE_cond (t:=(r4 != 0)) (by kernel_rfl) (fun hc3=>?_) (fun hc3=>?_)
      ·have h:=h.1 hc3
       refine wpE_seq (rg (q0 (vp p1) (q0 (vi (v2.len:Int)) ?_)))
       refine sc Tryz.call73 (h.mono ?_)
       rintro e w11 ⟨rfl,hk,h⟩
       refine ⟨_,rfl,?_⟩
       obtain ⟨hs,hb⟩:=hk.hh hs hb
       refine wpL_nil (th_n (wpE_seq (rg (q0 (vi r4) (q0 (vi 0) (q0 (vi r4) (wpL_nil (th_n (wpE_ret (th_r (bl_r ?_)))))))))))
       refine th_r (th_r (bl_r (th_r (res2 (.inl rfl) Tryz.results37 (v:=(vi 0)) (by kernel_rfl) (v':=(vi r4)) (by kernel_rfl) ?_))))
       exact ⟨0,r4,rfl,h⟩
      ·have h:=h.2 hc3
       refine wpE_skip (th_n (rg (q0 s1.v (q0 r2.v (q0 (vi i1) ?_)))))
       obtain ⟨a6,hv3,h⟩:=h
       refine q2 (vp (some a6)) (xi (Tryz.runUnderlying52 _) (Tryz.sizeOf30 _) hv3) ?_
       obtain ⟨v5,hv2,h⟩:=h
       refine q2 (vi v5) (xl (Tryz.isAgg30 _) hv2) (q0 (vi r3) ?_)
       obtain ⟨a7,hv1,h⟩:=h
       refine q2 (vp (some a7)) (xi (Tryz.runUnderlying52 _) (Tryz.sizeOf30 _) hv1) ?_
       obtain ⟨hp4,hnh,h⟩:=h
       refine st_set (want0 rfl) (x_store (a:=a7) (v:=(vi r3)) (by kernel_rfl) (by kernel_rfl) rfl (Tryz.sizeOf30 _) hp4) ?_
       intro w12 hn5
       have h:=h w12 hn5
       have hk:=Kept.sc hnh hn5
       obtain ⟨hs,hb⟩:=hk.hh hs hb
       refine wpL_nil (bl_n (th_n (rg (q0 (vi i1) (q0 (vi (q6.wrap (i1+1))) (q0 (vi (q6.wrap (i1+1))) (wpL_nil (th_n ?_))))))))
       exact ⟨((q6.wrap (i1+1)),H,w12),⟨rfl,hm,hs,hb.drop 1,h.1⟩,h.2⟩
     ·refine wpE_cond (t:=(decide (aM>0))) (by kernel_rfl) (fun hc4=>?_) (fun hc4=>?_)
      ·have h:=h.1 hc4
       refine rg (q0 s1.v (q0 (vp (some (p3.add 6))) (q2 (vi aM) (xl (Tryz.isAgg30 _) (hb.c 0 6 gZ)) ?_)))
       obtain ⟨a8,hv5,h⟩:=h
       refine q2 (vp (some a8)) (xi (Tryz.runUnderlying52 _) (Tryz.sizeOf30 _) hv5) ?_
       obtain ⟨v6,hv4,h⟩:=h
       refine q2 (vi v6) (xl (Tryz.isAgg30 _) hv4) (q0 (vp (some (p3.add 6))) (st_set (want0 rfl) (x_store (a:=(p3.add 6)) (v:=(vi v6)) (by kernel_rfl) (by kernel_rfl) rfl (Tryz.sizeOf30 _) (hb.canW 0 6 gZ (by kernel_rfl))) ?_))
       intro w13 hn6
       have hsb:Hst w0 H w H w13∧HB H w13 [(p3,[(vi aA),(vi aB),(vi aC),(vu aK),(vs aJ),(vi aL),(vi v6)],86)]:=by
        rw [hn6]
        exact hb.set (i:=0) 6 (v:=(vi v6)) hs gZ (by kernel_rfl)
       obtain ⟨hs,hb⟩:=hsb
       refine wpL_nil ?_
       have h:=h w13 hs
       have hs:=hs.here
       refine th_n ?_
       exact ⟨aA,aB,aC,aK,aJ,aL,v6,H,hm,hs,hb,h⟩
      ·have h:=h.2 hc4
       refine wpE_skip (th_n ?_)
       exact ⟨aA,aB,aC,aK,aJ,aL,aM,H,hm,hs,hb,h⟩
    ·refine wpE_cond (t:=(decide (aX>0))) (by kernel_rfl) (fun hc5=>?_) (fun hc5=>?_)
     ·have h:=h.1 hc5
      refine rg (q0 s1.v (q0 (vp (some (p3.add 5))) (q2 (vi aX) (xl (Tryz.isAgg30 _) (hb.c 0 5 gZ)) ?_)))
      obtain ⟨a9,hv7,h⟩:=h
      refine q2 (vp (some a9)) (xi (Tryz.runUnderlying52 _) (Tryz.sizeOf30 _) hv7) ?_
      have h:=h H2 w7 hs
      have hs:=hs.here
      obtain ⟨v7,hv6,h⟩:=h
      refine q2 (vi v7) (xl (Tryz.isAgg30 _) hv6) (q0 (vp (some (p3.add 5))) (st_set (want0 rfl) (x_store (a:=(p3.add 5)) (v:=(vi v7)) (by kernel_rfl) (by kernel_rfl) rfl (Tryz.sizeOf30 _) (hb.canW 0 5 gZ (by kernel_rfl))) ?_))
      intro w14 hn7
      have hsb:Hst w0 H2 w7 H2 w14∧HB H2 w14 [(p3,[(vi aN),(vi aO),(vi aP),(vu aQ),(vs aR),(vi v7),(vi aY)],86)]:=by
       rw [hn7]
       exact hb.set (i:=0) 5 (v:=(vi v7)) hs gZ (by kernel_rfl)
      obtain ⟨hs,hb⟩:=hsb
      refine wpL_nil ?_
      have h:=h w14 hs
      have hs:=hs.here
      refine th_n ?_
      exact ⟨aN,aO,aP,aQ,aR,v7,aY,H2,hm,hs,hb,h⟩
     ·have h:=h.2 hc5
      refine wpE_skip ?_
      have h:=h H2 w7 hs
      have hs:=hs.here
      refine th_n ?_
      exact ⟨aN,aO,aP,aQ,aR,aX,aY,H2,hm,hs,hb,h⟩
  ·have h:=h.2 hc2
   refine wpE_exit (th_x (th_x (bl_eq (th_n (wpE_seq (rg (q0 s1.v (q0 (vi t1) ?_))))))))
   obtain ⟨a10,hv14,h⟩:=h
   refine q2 (vp (some a10)) (xi (Tryz.runUnderlying52 _) (Tryz.sizeOf30 _) hv14) ?_
   obtain ⟨v8,hv13,h⟩:=h
   refine q2 (vi v8) (xl (Tryz.isAgg30 _) hv13) (q0 (vi v8) (q0 (vi 0) (wpL_nil (th_n (wpE_ret (res2 (.inl rfl) Tryz.results37 (v:=(vi v8)) (by kernel_rfl) (v':=(vi 0)) (by kernel_rfl) ?_))))))
   exact ⟨v8,0,rfl,h⟩
end Go.Proofs
end
