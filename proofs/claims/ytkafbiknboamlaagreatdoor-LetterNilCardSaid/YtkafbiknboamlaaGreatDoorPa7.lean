import Derived.Test.YtkafbiknboamlaaGreatDoorProg
import Derived.KernelRfl
import Derived.Test.YtkafbiknboamlaaGreatDoorPa2
import Derived.Test.YtkafbiknboamlaaGreatDoorPa6
import Derived.Test.YtkafbiknboamlaaGreatDoorPa5
import Derived.Test.YtkafbiknboamlaaGreatDoorPa3
import Derived.Test.YtkafbiknboamlaaGreatDoorPa4
import Derived.ProofKit
import Derived.Carry
import Derived.OpenShut
import Derived.Stop.Joined
section
open Go Go.SE
open Go.IntKind renaming i64 → q6
namespace Go.Proofs
open Tryz
set_option maxRecDepth 100000
set_option maxHeartbeats 4000000
attribute [local irreducible] wpL wpX opE wpE Calls
def s_N1 (e1:Int):Int :=e1
theorem pw_N1 (e1:Int) (w0:World) :
  Calls prog 30 #[(vi e1)] w0 (fun e w'=>(e=.returned (vi e1))∧Pure w0 w'):=by
 refine cw (args:=[(vi e1)]) func30 ntmps30 (eg (q0 (vi 0) (ln (eg (q0 (vi e1) (q0 (vi e1) (ln ?_)))))))
 refine er (rs1 results30 (v:=(vi e1)) ⟨by kernel_rfl,Ext.refl _⟩)
theorem p_N1 (e1:Int) (w0:World):Calls prog 30 #[(.int .i64 e1)] w0 (fun e w'=>e=.returned (.int .i64 (s_N1 e1))∧Pure w0 w'):=pw_N1 e1 w0
theorem uC (a0 a1 a2:Int) (a3:ByteArray) (a4:Bool) (b0 b1 b2:Int) (b3:ByteArray) (b4:Bool) (w:World):(Go.binOp .eql 56 (.agg #[(.int .i64 a0),(.int .i64 a1),(.int .u64 a2),(.string a3),(.bool a4)]) (.agg #[(.int .i64 b0),(.int .i64 b1),(.int .u64 b2),(.string b3),(.bool b4)])).run prog w=.ok (.bool ((a0 == b0) && ((a1 == b1) && ((a2 == b2) && ((decide (a3=b3)) && (a4 == b4)))))) w:=by
 simp [Go.binOp,Op.equal,Op.maxDepth,go_sem,jJT,bne]
 repeat' split
 all_goals simp_all
def m_U_j2 (r1:Option Addr) (r2:Int) (x2:Bool) (H:NP) (w:World) (K:Bool→WP):Prop :=Br x2 (Calls prog 67 #[(vp r1),(vi r2)] w (fun e w24=>∃r9,e=.returned (vi r9)∧Kept H w w24∧K (r9 == 6) w24)) (K false w)
def m_U_j1 (r1:Option Addr) (r2:Int) (x1:Bool) (H:NP) (w:World) (K:Bool→WP):Prop :=Br x1 (Calls prog 33 #[(.agg #[(vi 1),(vi 0),(vu 7),(vs (⟨#[97]⟩:ByteArray)),(vb false)])] w (fun e w25=>∃r10,e=.returned (vi r10)∧Kept H w w25∧m_U_j2 r1 r2 (r10 == 1) H w25 K)) (m_U_j2 r1 r2 false H w K)
def m_U  (w0:World) (K:Bool→WP):Prop :=Calls prog 11 #[] w0 (fun e w1=>∃r1,e=.returned (vp r1)∧Kept None w0 w1∧∀H1 w3,Hst w0 None w1 H1 w3→Calls prog 26 #[(vp r1),(.agg #[(vi 1),(vi 0),(vu 7),(vs (⟨#[97]⟩:ByteArray)),(vb false)])] w3 (fun e w4=>∃r2 r3,e=.returned (.tuple #[(vi r2),(vi r3)])∧Kept H1 w3 w4∧Calls prog 40 #[(vp r1),(vi r2)] w4 (fun e w5=>∃aB aC aD aE aF r4,e=.returned (.tuple #[(Af aB aC aD aE aF),(vb r4)])∧Kept H1 w4 w5∧∀H2 w7,Hst w0 H1 w5 H2 w7→Calls prog 28 #[(.agg #[(vi 1),(vi 0),(vu 7),(vs (⟨#[97]⟩:ByteArray)),(vb false)])] w7 (fun e w8=>∃r5:Sl,∃r6,e=.returned (.tuple #[r5.v,(vi r6)])∧Kept H2 w7 w8∧Calls prog 24 #[r5.v] w8 (fun e w9=>∃aK aL aM aN aO r7,e=.returned (.tuple #[(Af aK aL aM aN aO),(vb r7)])∧Kept H2 w8 w9∧∀H3 w11,Hst w0 H2 w9 H3 w11→Calls prog 40 #[(vp r1),(vi 1)] w11 (fun e w12=>∃aP aQ aR aS aT r8,e=.returned (.tuple #[(Af aP aQ aR aS aT),(vb r8)])∧Kept H3 w11 w12∧∀y1:Bool,y1=(((r3 == 0) && r4) && ((aB == 1) && ((aC == 0) && ((aD == 7) && ((decide (aE=(⟨#[97]⟩:ByteArray))) && (aF == false))))))→∀y2:Bool,y2=(((y1 && (r6 == 0)) && r7) && ((aK == 1) && ((aL == 0) && ((aM == 7) && ((decide (aN=(⟨#[97]⟩:ByteArray))) && (aO == false))))))→Br (y2 && (!r8)) (∀H10 w23,Hst w0 H3 w12 H10 w23→Calls prog 35 #[(.agg #[(vi 1),(vi 0),(vu 7),(vs (⟨#[97]⟩:ByteArray)),(vb false)])] w23 (fun e w26=>∃r11,e=.returned (vs r11)∧Kept H10 w23 w26∧m_U_j1 r1 r2 (decide (r11=(⟨#[112,114,111,109,105,115,101,32,48,32,55,32,34,97,34]⟩:ByteArray))) H10 w26 K)) (∀H10 w23,Hst w0 H3 w12 H10 w23→m_U_j1 r1 r2 false H10 w23 K)))))))
theorem w_U  (w0:World) (K:Bool→WP) (h:m_U  w0 K) :
  Calls prog 23 #[] w0 (fun e w'=>∃r12,e=.returned (vb r12)∧K r12 w'):=by
 refine cw (args:=[]) func23 ntmps23 ?_
 obtain ⟨hs,hb⟩:=st0 w0
 refine eg (q (ln (eg (sc call11 (h.mono fun e w1 ⟨r1,k,hk,h⟩=>have ⟨hs,hb⟩:=hk.hh hs hb;⟨_,k,?_⟩)))))
 refine q (ln (eg (q (nw3 (Ah 0 0 0 false) 56 hs hb (zF (zeroValue56 _) rfl) fun p1 w2 H1 hs hb=>sbx 0 (Ab 1 0 7 (⟨#[97]⟩:ByteArray) false) (sizeOf56 _) hs hb gZ fun w3 hs hb=>ln (eg (q (q2 (Af 1 0 7 (⟨#[97]⟩:ByteArray) false) (xa p1 (Ab 1 0 7 (⟨#[97]⟩:ByteArray) false) (isAgg56 _) (sizeOf56 _) (hb.r0 0 5 gZ)) ?_)))))))
 have ⟨h,hs⟩:=hs.hr (h H1 w3)
 refine sc call26 (h.mono fun e w4 ⟨r2,r3,k,hk,h⟩=>have ⟨hs,hb⟩:=hk.hh hs hb;⟨_,k,?_⟩)
 refine q (qd (ln (eg (qb (sc call40 (h.mono fun e w5 ⟨aB,aC,aD,aE,aF,r4,k,hk,h⟩=>have ⟨hs,hb⟩:=hk.hh hs hb;⟨_,k,?_⟩))))))
 refine qc (nw3 (Ah 0 0 0 false) 56 hs hb (zF (zeroValue56 _) rfl) fun p2 w6 H2 hs hb=>sbx 0 (Ab aB aC aD aE aF) (sizeOf56 _) hs hb gZ fun w7 hs hb=>q (ln (eg (q2 (Af 1 0 7 (⟨#[97]⟩:ByteArray) false) (xa p1 (Ab 1 0 7 (⟨#[97]⟩:ByteArray) false) (isAgg56 _) (sizeOf56 _) (hb.r0 1 5 (gS gZ))) ?_))))
 have ⟨h,hs⟩:=hs.hr (h H2 w7)
 refine sc call28 (h.mono fun e w8 ⟨r5,r6,k,hk,h⟩=>have ⟨hs,hb⟩:=hk.hh hs hb;⟨_,k,?_⟩)
 refine q (qd (ln (eg (q (sc call24 (h.mono fun e w9 ⟨aK,aL,aM,aN,aO,r7,k,hk,h⟩=>have ⟨hs,hb⟩:=hk.hh hs hb;⟨_,k,?_⟩))))))
 refine qc (nw3 (Ah 0 0 0 false) 56 hs hb (zF (zeroValue56 _) rfl) fun p3 w10 H3 hs hb=>sbx 0 (Ab aK aL aM aN aO) (sizeOf56 _) hs hb gZ fun w11 hs hb=>q (ln (eg (q ?_))))
 have ⟨h,hs⟩:=hs.hr (h H3 w11)
 refine sc call40 (h.mono fun e w12 ⟨aP,aQ,aR,aS,aT,r8,k,hk,h⟩=>have ⟨hs,hb⟩:=hk.hh hs hb;⟨_,k,?_⟩)
 refine qc (nw3 (Ah 0 0 0 false) 56 hs hb (zF (zeroValue56 _) rfl) fun p4 w13 H4 hs hb=>sbx 0 (Ab aP aQ aR aS aT) (sizeOf56 _) hs hb gZ fun w14 hs hb=>q (ln (eg (q (sc call30 ((p_N1 r3 w14).mono ?_))))))
 rintro e w15 ⟨he,hE⟩
 refine ⟨_,he,?_⟩
 obtain ⟨hs,hb⟩:=hs.pp hb hE
 refine qb (zG 2 (fun ρ wJ=>∃b1'0:Bool,∃HJ:NP,((r3 == 0)=b1'0)∧Hst w0 H3 w12 HJ wJ∧HB HJ wJ [(p4,(Ab aP aQ aR aS aT),56),(p3,(Ab aK aL aM aN aO),56),(p2,(Ab aB aC aD aE aF),56),(p1,(Ab 1 0 7 (⟨#[97]⟩:ByteArray) false),56)]∧Has ρ [(1,(vp r1)),(2,(vp (some p1))),(3,(vi r2)),(5,(vp (some p2))),(8,(vi r6)),(9,(vp (some p3))),(10,(vb r7)),(12,(vb r8)),(47,(vb (b1'0 && r4)))]) ?_ ?_)
 rintro ρ w16 ⟨b1'0,H5,he0,hs,hb,hH⟩
 subst he0
 refine zK hH (q (zG 4 (fun ρ wJ=>∃b2'0 y1:Bool,∃HJ:NP,(((r3 == 0) && r4)=b2'0)∧(y1=(b2'0 && ((aB == 1) && ((aC == 0) && ((aD == 7) && ((decide (aE=(⟨#[97]⟩:ByteArray))) && (aF == false)))))))∧Hst w0 H3 w12 HJ wJ∧HB HJ wJ [(p4,(Ab aP aQ aR aS aT),56),(p3,(Ab aK aL aM aN aO),56),(p2,(Ab aB aC aD aE aF),56),(p1,(Ab 1 0 7 (⟨#[97]⟩:ByteArray) false),56)]∧Has ρ [(1,(vp r1)),(2,(vp (some p1))),(3,(vi r2)),(8,(vi r6)),(9,(vp (some p3))),(10,(vb r7)),(12,(vb r8)),(52,(vb y1))]) ?_ ?_))
 rintro ρ w17 ⟨b2'0,y1,H6,he0,hy1,hs,hb,hH⟩
 subst he0
 have h:=h y1 hy1
 refine zK hH (q (zG 4 (fun ρ wJ=>∃b3'0:Bool,∃HJ:NP,(y1=b3'0)∧Hst w0 H3 w12 HJ wJ∧HB HJ wJ [(p4,(Ab aP aQ aR aS aT),56),(p3,(Ab aK aL aM aN aO),56),(p2,(Ab aB aC aD aE aF),56),(p1,(Ab 1 0 7 (⟨#[97]⟩:ByteArray) false),56)]∧Has ρ [(1,(vp r1)),(2,(vp (some p1))),(3,(vi r2)),(9,(vp (some p3))),(10,(vb r7)),(12,(vb r8)),(57,(vb (b3'0 && (r6 == 0))))]) ?_ ?_))
 rintro ρ w19 ⟨b3'0,H7,he0,hs,hb,hH⟩
 subst he0
 refine zK hH (q (zG 2 (fun ρ wJ=>∃b4'0:Bool,∃HJ:NP,((y1 && (r6 == 0))=b4'0)∧Hst w0 H3 w12 HJ wJ∧HB HJ wJ [(p4,(Ab aP aQ aR aS aT),56),(p3,(Ab aK aL aM aN aO),56),(p2,(Ab aB aC aD aE aF),56),(p1,(Ab 1 0 7 (⟨#[97]⟩:ByteArray) false),56)]∧Has ρ [(1,(vp r1)),(2,(vp (some p1))),(3,(vi r2)),(9,(vp (some p3))),(12,(vb r8)),(60,(vb (b4'0 && r7)))]) ?_ ?_))
 rintro ρ w21 ⟨b4'0,H8,he0,hs,hb,hH⟩
 subst he0
 refine zK hH (q (zG 4 (fun ρ wJ=>∃b5'0 y2:Bool,∃HJ:NP,(((y1 && (r6 == 0)) && r7)=b5'0)∧(y2=(b5'0 && ((aK == 1) && ((aL == 0) && ((aM == 7) && ((decide (aN=(⟨#[97]⟩:ByteArray))) && (aO == false)))))))∧Hst w0 H3 w12 HJ wJ∧HB HJ wJ [(p4,(Ab aP aQ aR aS aT),56),(p3,(Ab aK aL aM aN aO),56),(p2,(Ab aB aC aD aE aF),56),(p1,(Ab 1 0 7 (⟨#[97]⟩:ByteArray) false),56)]∧Has ρ [(1,(vp r1)),(2,(vp (some p1))),(3,(vi r2)),(12,(vb r8)),(65,(vb y2))]) ?_ ?_))
 rintro ρ w22 ⟨b5'0,y2,H9,he0,hy2,hs,hb,hH⟩
 subst he0
 have h:=h y2 hy2
 refine zK hH (q (zG 3 (fun ρ wJ=>∃b6'0:Bool,∃HJ:NP,(y2=b6'0)∧Hst w0 H3 w12 HJ wJ∧HB HJ wJ [(p4,(Ab aP aQ aR aS aT),56),(p3,(Ab aK aL aM aN aO),56),(p2,(Ab aB aC aD aE aF),56),(p1,(Ab 1 0 7 (⟨#[97]⟩:ByteArray) false),56)]∧Has ρ [(1,(vp r1)),(2,(vp (some p1))),(3,(vi r2)),(69,(vb (b6'0 && (!r8))))]) ?_ ?_))
 rintro ρ w23 ⟨b6'0,H10,he0,hs,hb,hH⟩
 subst he0
 refine zK hH (q (zG 4 (fun ρ w=>∃x1,∃H:NP,Has ρ [(1,(vp r1)),(2,(vp (some p1))),(3,(vi r2)),(74,(vb x1))]∧Hst w0 H w H w∧HB H w [(p4,(Ab aP aQ aR aS aT),56),(p3,(Ab aK aL aM aN aO),56),(p2,(Ab aB aC aD aE aF),56),(p1,(Ab 1 0 7 (⟨#[97]⟩:ByteArray) false),56)]∧m_U_j1 r1 r2 x1 H w K) ?_ ?_))
 rintro ρ w ⟨x1,H,hH,hs,hb,h⟩
 refine zK hH (q (zG 4 (fun ρ w=>∃x2,∃H:NP,Has ρ [(1,(vp r1)),(3,(vi r2)),(79,(vb x2))]∧Hst w0 H w H w∧HB H w [(p4,(Ab aP aQ aR aS aT),56),(p3,(Ab aK aL aM aN aO),56),(p2,(Ab aB aC aD aE aF),56),(p1,(Ab 1 0 7 (⟨#[97]⟩:ByteArray) false),56)]∧m_U_j2 r1 r2 x2 H w K) ?_ ?_))
 rintro ρ w ⟨x2,H,hH,hs,hb,h⟩
 refine zK hH (q ?_)
 obtain ⟨hg13,h⟩|⟨hg13,h⟩:=h.br
 refine qk 80 hg13 (qk 80 hg13 (vU (wy 80 hg13) (xc call67) (h.mono ?_)))
 rintro e w24 ⟨r9,rfl,hk,h⟩
 refine ⟨_,rfl,?_⟩
 obtain ⟨hs,hb⟩:=hk.hh hs hb
 refine qk 80 hg13 (q2 (vb (r9 == 6)) (xT hg13) (q (ln (er (rs1 results23 ⟨(r9 == 6),rfl,h⟩)))))
 refine sj4 80 hg13 (q2 (vb false) (xF hg13) (q (ln (er (rs1 results23 ⟨false,rfl,h⟩)))))
 obtain ⟨hg14,h⟩|⟨hg14,h⟩:=h.br
 refine stq (v:=(Af 1 0 7 (⟨#[97]⟩:ByteArray) false)) (wy 75 hg14) (xa p1 (Ab 1 0 7 (⟨#[97]⟩:ByteArray) false) (isAgg56 _) (sizeOf56 _) (hb.r0 3 5 (gS (gS (gS gZ))))) (vU (wy 75 hg14) (xc call33) (h.mono ?_))
 rintro e w25 ⟨r10,rfl,hk,h⟩
 refine ⟨_,rfl,?_⟩
 obtain ⟨hs,hb⟩:=hk.hh hs hb
 refine qk 75 hg14 (q2 (vb (r10 == 1)) (xT hg14) (zB ⟨(r10 == 1),H,hm,hs,hb,h⟩))
 refine sj3 75 hg14 (q2 (vb false) (xF hg14) (zB ⟨false,H,hm,hs,hb,h⟩))
 obtain ⟨hg15,h⟩|⟨hg15,h⟩:=h.br
 refine stq (v:=(Af 1 0 7 (⟨#[97]⟩:ByteArray) false)) (wy 70 hg15) (xa p1 (Ab 1 0 7 (⟨#[97]⟩:ByteArray) false) (isAgg56 _) (sizeOf56 _) (hb.r0 3 5 (gS (gS (gS gZ))))) ?_
 have ⟨h,hs⟩:=hs.hr (h H10 w23)
 refine vU (wy 70 hg15) (xc call35) (h.mono ?_)
 rintro e w26 ⟨r11,rfl,hk,h⟩
 refine ⟨_,rfl,?_⟩
 obtain ⟨hs,hb⟩:=hk.hh hs hb
 refine stq (v:=(vb (decide (r11=(⟨#[112,114,111,109,105,115,101,32,48,32,55,32,34,97,34]⟩:ByteArray))))) (wy 70 hg15) (tX (by kernel_rfl) (by kernel_rfl)) (q2 (vb (decide (r11=(⟨#[112,114,111,109,105,115,101,32,48,32,55,32,34,97,34]⟩:ByteArray)))) (xT hg15) (zB ⟨(decide (r11=(⟨#[112,114,111,109,105,115,101,32,48,32,55,32,34,97,34]⟩:ByteArray))),H10,hm,hs,hb,h⟩))
 refine sj3 70 hg15 (q2 (vb false) (xF hg15) (zB ?_))
 have ⟨h,hs⟩:=hs.hr (h H10 w23)
 exact ⟨false,H10,hm,hs,hb,h⟩
 rcases bte y2 with hg12 | hg12
 refine qk 66 hg12 (qk 66 hg12 (q2 (vb (!r8)) (xT hg12) (zB ⟨true,_,hg12,hs,hb,hm⟩)))
 refine sj2 66 hg12 (q2 (vb false) (xF hg12) (zB ⟨false,_,hg12,hs,hb,hm⟩))
 rcases bte ((y1 && (r6 == 0)) && r7) with hg10 | hg10
 refine stq (v:=(Af aK aL aM aN aO)) (wy 61 hg10) (xa p3 (Ab aK aL aM aN aO) (isAgg56 _) (sizeOf56 _) (hb.r0 1 5 (gS gZ))) (stq (v:=(Af 1 0 7 (⟨#[97]⟩:ByteArray) false)) (wy 61 hg10) (xa p1 (Ab 1 0 7 (⟨#[97]⟩:ByteArray) false) (isAgg56 _) (sizeOf56 _) (hb.r0 3 5 (gS (gS (gS gZ))))) (stq (v:=(vb ((aK == 1) && ((aL == 0) && ((aM == 7) && ((decide (aN=(⟨#[97]⟩:ByteArray))) && (aO == false))))))) (wy 61 hg10) (jEA (by kernel_rfl) (by kernel_rfl) (by kernel_rfl) (uC aK aL aM aN aO 1 0 7 (⟨#[97]⟩:ByteArray) false _)) (q2 (vb ((aK == 1) && ((aL == 0) && ((aM == 7) && ((decide (aN=(⟨#[97]⟩:ByteArray))) && (aO == false)))))) (xT hg10) (zB ⟨true,_,_,hg10,rfl,hs,hb,hm⟩))))
 refine sj3 61 hg10 (q2 (vb false) (xF hg10) (zB ⟨false,_,_,hg10,rfl,hs,hb,hm⟩))
 rcases bte (y1 && (r6 == 0)) with hg8 | hg8
 refine qk 58 hg8 (q2 (vb r7) (xT hg8) (zB ⟨true,_,hg8,hs,hb,hm⟩))
 refine sj 58 hg8 (q2 (vb false) (xF hg8) (zB ⟨false,_,hg8,hs,hb,hm⟩))
 rcases bte y1 with hg6 | hg6
 refine qk 53 hg6 (vU (wy 53 hg6) (xc call30) ((p_N1 r6 w17).mono ?_))
 rintro e w20 ⟨he,hE⟩
 refine ⟨_,he,?_⟩
 obtain ⟨hs,hb⟩:=hs.pp hb hE
 refine qk 53 hg6 (q2 (vb (r6 == 0)) (xT hg6) (zB ⟨true,_,hg6,hs,hb,hm⟩))
 refine sj3 53 hg6 (q2 (vb false) (xF hg6) (zB ⟨false,_,hg6,hs,hb,hm⟩))
 rcases bte ((r3 == 0) && r4) with hg4 | hg4
 refine stq (v:=(Af aB aC aD aE aF)) (wy 48 hg4) (xa p2 (Ab aB aC aD aE aF) (isAgg56 _) (sizeOf56 _) (hb.r0 2 5 (gS (gS gZ)))) (stq (v:=(Af 1 0 7 (⟨#[97]⟩:ByteArray) false)) (wy 48 hg4) (xa p1 (Ab 1 0 7 (⟨#[97]⟩:ByteArray) false) (isAgg56 _) (sizeOf56 _) (hb.r0 3 5 (gS (gS (gS gZ))))) (stq (v:=(vb ((aB == 1) && ((aC == 0) && ((aD == 7) && ((decide (aE=(⟨#[97]⟩:ByteArray))) && (aF == false))))))) (wy 48 hg4) (jEA (by kernel_rfl) (by kernel_rfl) (by kernel_rfl) (uC aB aC aD aE aF 1 0 7 (⟨#[97]⟩:ByteArray) false _)) (q2 (vb ((aB == 1) && ((aC == 0) && ((aD == 7) && ((decide (aE=(⟨#[97]⟩:ByteArray))) && (aF == false)))))) (xT hg4) (zB ⟨true,_,_,hg4,rfl,hs,hb,hm⟩))))
 refine sj3 48 hg4 (q2 (vb false) (xF hg4) (zB ⟨false,_,_,hg4,rfl,hs,hb,hm⟩))
 rcases bte (r3 == 0) with hg2 | hg2
 refine qk 45 hg2 (q2 (vb r4) (xT hg2) (zB ⟨true,_,hg2,hs,hb,hm⟩))
 refine sj 45 hg2 (q2 (vb false) (xF hg2) (zB ⟨false,_,hg2,hs,hb,hm⟩))
theorem xG (a0 a1 a2:Int) (a3:ByteArray) (a4:Bool) (b0 b1 b2:Int) (b3:ByteArray) (b4:Bool) (w:World):(Go.binOp .neq 56 (.agg #[(.int .i64 a0),(.int .i64 a1),(.int .u64 a2),(.string a3),(.bool a4)]) (.agg #[(.int .i64 b0),(.int .i64 b1),(.int .u64 b2),(.string b3),(.bool b4)])).run prog w=.ok (.bool (!((a0 == b0) && ((a1 == b1) && ((a2 == b2) && ((decide (a3=b3)) && (a4 == b4))))))) w:=by
 simp [Go.binOp,Op.equal,Op.maxDepth,go_sem,jJT,bne]
 repeat' split
 all_goals simp_all
theorem xH (a0 a1 a2:Int) (a3:ByteArray) (a4:Bool) (b0 b1 b2:Int) (b3:ByteArray) (b4:Bool) (w:World):(Go.binOp .eql 56 (.agg #[(.int .i64 a0),(.int .i64 a1),(.int .u64 a2),(.string a3),(.bool a4)]) (.agg #[(.int .i64 b0),(.int .i64 b1),(.int .u64 b2),(.string b3),(.bool b4)])).run prog w=.ok (.bool ((a0 == b0) && ((a1 == b1) && ((a2 == b2) && ((decide (a3=b3)) && (a4 == b4)))))) w:=by
 simp [Go.binOp,Op.equal,Op.maxDepth,go_sem,jJT,bne]
 repeat' split
 all_goals simp_all
def m_M_j2 (x1:Bool) (H:NP) (w:World) (K:Bool→WP):Prop :=Br x1 (Calls prog 23 #[] w (fun e w47=>∃r15,e=.returned (vb r15)∧Kept H w w47∧K r15 w47)) (K false w)
def m_M_j3 (x2:Bool) (H:NP) (w:World) (K:Bool→WP):Prop :=Br x2 (Calls prog 23 #[] w (fun e w55=>∃r22,e=.returned (vb r22)∧Kept H w w55∧K r22 w55)) (K false w)
def m_M_j1 (aH aI aG:Int) (aA:ByteArray) (aJ:Bool) (r11:Option Addr) (w0:World) (H:NP) (w:World) (K:Bool→WP):Prop :=Calls prog 22 #[(vp r11)] w (fun e w42=>∃r12,e=.returned (vi r12)∧Kept H w w42∧Calls prog 26 #[(vp r11),(.agg #[(vi aH),(vi aI),(vu aG),(vs aA),(vb aJ)])] w42 (fun e w43=>∃r13 r14,e=.returned (.tuple #[(vi r13),(vi r14)])∧Kept H w42 w43∧Br (r14 != 0) (Br ((r14 == 6) && (r13 == 0)) (∀H23 w46,Hst w0 H w43 H23 w46→Calls prog 22 #[(vp r11)] w46 (fun e w48=>∃r16,e=.returned (vi r16)∧Kept H23 w46 w48∧m_M_j2 (r16 == r12) H23 w48 K)) (∀H23 w46,Hst w0 H w43 H23 w46→m_M_j2 false H23 w46 K)) (∀w44,Hst w0 H w43 H w44→Calls prog 40 #[(vp r11),(vi r13)] w44 (fun e w49=>∃aK aL aM aN aO r17,e=.returned (.tuple #[(Af aK aL aM aN aO),(vb r17)])∧Kept H w44 w49∧∀H24 w51,Hst w0 H w49 H24 w51→Calls prog 49 #[(vp r11),(vi r13)] w51 (fun e w52=>∃r18:Sl,∃r19,e=.returned (.tuple #[r18.v,(vi r19)])∧Kept H24 w51 w52∧Calls prog 29 #[(.agg #[(vi aH),(vi aI),(vu aG),(vs aA),(vb aJ)])] w52 (fun e w53=>∃r20:Sl,∃r21,e=.returned (.tuple #[r20.v,(vi r21)])∧Kept H24 w52 w53∧∀y4:Bool,y4=(r17 && ((aK == aH) && ((aL == aI) && ((aM == aG) && ((decide (aN=aA)) && (aO == aJ))))))→Br y4 (∀H25 w54,Hst w0 H24 w53 H25 w54→∃c1,(convert 54 9 r18.v).run prog w54=.ok (vs c1) w54∧∃c2,(convert 54 9 r20.v).run prog w54=.ok (vs c2) w54∧m_M_j3 (decide (c1=c2)) H25 w54 K) (∀H25 w54,Hst w0 H24 w53 H25 w54→m_M_j3 false H25 w54 K)))))))
def m_M_l4 (aH aI aG:Int) (aA:ByteArray) (aJ:Bool) (left1:Int) (r11:Option Addr) (i1:Int) (w0:World) (Hl1:NP) (wl1:World) (Kc4:Int→NP→WP) (K:Bool→WP):Prop :=Br (decide (i1<(q6.wrap (65536 - left1)))) (Calls prog 46 #[(vp r11),(vi 1)] wl1 (fun e w56=>∃r23 r24,e=.returned (.tuple #[(vi r23),(vi r24)])∧Kept Hl1 wl1 w56∧Calls prog 48 #[(vu (IntKind.u64.wrap i1))] w56 (fun e w57=>∃r25,e=.returned (vs r25)∧Kept Hl1 w56 w57∧Calls prog 47 #[(vp r11),(vs r25)] w57 (fun e w58=>∃r26 r27,e=.returned (.tuple #[(vi r26),(vi r27)])∧Kept Hl1 w57 w58∧Calls prog 22 #[(vp r11)] w58 (fun e w59=>∃r28,e=.returned (vi r28)∧Kept Hl1 w58 w59∧Br (decide (r28≥(q6.wrap (65536 - left1)))) (m_M_j1 aH aI aG aA aJ r11 w0 Hl1 w59 K) (Kc4 (q6.wrap (i1+1)) Hl1 w59)))))) (m_M_j1 aH aI aG aA aJ r11 w0 Hl1 wl1 K)
def m_M (aH aI aG:Int) (aA:ByteArray) (aJ:Bool) (t1 left1:Int) (w0:World) (K:Bool→WP):Prop :=Br (decide ((aA.size:Int)>5000)) (∀H1 w1,Hst w0 None w0 H1 w1→Calls prog 23 #[] w1 (fun e w2=>∃r1,e=.returned (vb r1)∧Kept H1 w1 w2∧K r1 w2)) (∀H1 w1,Hst w0 None w0 H1 w1→Calls prog 26 #[(vp none),(.agg #[(vi aH),(vi aI),(vu aG),(vs aA),(vb aJ)])] w1 (fun e w3=>∃r2 r3,e=.returned (.tuple #[(vi r2),(vi r3)])∧Kept H1 w1 w3∧Calls prog 44 #[(vp none),(vu aG),(vs aA)] w3 (fun e w4=>∃r4 r5,e=.returned (.tuple #[(vi r4),(vi r5)])∧Kept H1 w3 w4∧Calls prog 40 #[(vp none),(vi t1)] w4 (fun e w5=>∃aB aC aD aE aF r6,e=.returned (.tuple #[(Af aB aC aD aE aF),(vb r6)])∧Kept H1 w4 w5∧∀H2 w7,Hst w0 H1 w5 H2 w7→Calls prog 42 #[(vp none),(vi t1)] w7 (fun e w8=>∃r7 r8 r9,e=.returned (.tuple #[(vu r7),(vs r8),(vb r9)])∧Kept H2 w7 w8∧∀y1:Int,y1=(cond (((s_I aH aI aG aA aJ):Int) == 0) 2 (s_I aH aI aG aA aJ))→∀y2:Bool,y2=(((((((((r2 != 0) || (r3 != y1)) || (r4 != 0)) || (r5 != (cond (decide ((aA.size:Int)>64)) 1 2))) || (!((aB == 0) && ((aC == 0) && ((aD == 0) && ((decide (aE=⟨#[]⟩)) && (aF == false))))))) || r6) || (r7 != 0)) || (!(decide (r8=⟨#[]⟩)))) || r9)→Br y2 (∀H12 w23,Hst w0 H2 w8 H12 w23→K false w23) (∀y3:Bool,y3=(((decide (left1<0)) || (decide (left1>12))) || (((s_I aH aI aG aA aJ):Int) != 0))→Br y3 (∀H21 w37,Hst w0 H2 w8 H21 w37→Calls prog 23 #[] w37 (fun e w40=>∃r10,e=.returned (vb r10)∧Kept H21 w37 w40∧K r10 w40)) (∀H21 w37,Hst w0 H2 w8 H21 w37→Calls prog 11 #[] w37 (fun e w41=>∃r11,e=.returned (vp r11)∧Kept H21 w37 w41∧Br (Option.isNone r11) (K false w41) (∃(I1:Int→NP→WP) (mu1:Int→World→Nat),I1 0 H21 w41∧∀(i1:Int) (Hl1:NP) (wl1:World),Hst w0 Hl1 wl1 Hl1 wl1→I1 i1 Hl1 wl1→m_M_l4 aH aI aG aA aJ left1 r11 i1 w0 Hl1 wl1 (fun y'0 H' w'=>I1 y'0 H' w'∧mu1 y'0 w'<mu1 i1 wl1) K)))))))))
theorem w_M (aH aI aG aA aJ t1 left1 w0 K) (h:m_M aH aI aG aA aJ t1 left1 w0 K):
  Calls prog 7 #[(.agg #[(vi aH),(vi aI),(vu aG),(vs aA),(vb aJ)]),(vi t1),(vi left1)] w0 (fun e w'=>∃r29,e=.returned (vb r29)∧K r29 w'):=by
 refine cw (args:=[(Af aH aI aG aA aJ),(vi t1),(vi left1)]) func7 ntmps7 ?_
 obtain ⟨hs,hb⟩:=st0 w0
 refine eg (nw3 (Ab aH aI aG aA aJ) 56 hs hb xb fun p1 w1 H1 hs hb=>q (ln (zA (eg (q (q3 (xl (isAgg9 _) (hb.d 0 3 gZ)) (qb (ln (cbr h ?_ ?_)))))))))<;>intro h
 refine eg ?_
 have ⟨h,hs⟩:=hs.hr (h H1 w1)
 refine sc call23 (h.mono fun e w2 ⟨r1,k,hk,h⟩=>have ⟨hs,hb⟩:=hk.hh hs hb;⟨_,k,?_⟩)
 refine q (ln (er (vD (rs1 results7 ⟨r1,rfl,h⟩))))
 refine zC (zL (eg (q2 (Af aH aI aG aA aJ) (xa p1 (Ab aH aI aG aA aJ) (isAgg56 _) (sizeOf56 _) (hb.r0 0 5 gZ)) ?_)))
 have ⟨h,hs⟩:=hs.hr (h H1 w1)
 refine sc call26 (h.mono fun e w3 ⟨r2,r3,k,hk,h⟩=>have ⟨hs,hb⟩:=hk.hh hs hb;⟨_,k,?_⟩)
 refine q (qd (ln (eg (q (q3 (xl (isAgg26 _) (hb.d 0 2 gZ)) (q (q3 (xl (isAgg9 _) (hb.d 0 3 gZ)) (sc call44 (h.mono fun e w4 ⟨r4,r5,k,hk,h⟩=>have ⟨hs,hb⟩:=hk.hh hs hb;⟨_,k,?_⟩)))))))))
 refine q (qd (ln (eg (q (sc call40 (h.mono fun e w5 ⟨aB,aC,aD,aE,aF,r6,k,hk,h⟩=>have ⟨hs,hb⟩:=hk.hh hs hb;⟨_,k,?_⟩))))))
 refine qc (nw3 (Ah 0 0 0 false) 56 hs hb (zF (zeroValue56 _) rfl) fun p2 w6 H2 hs hb=>sbx 0 (Ab aB aC aD aE aF) (sizeOf56 _) hs hb gZ fun w7 hs hb=>q (ln (eg (q ?_))))
 have ⟨h,hs⟩:=hs.hr (h H2 w7)
 refine sc call42 (h.mono fun e w8 ⟨r7,r8,r9,k,hk,h⟩=>have ⟨hs,hb⟩:=hk.hh hs hb;⟨_,k,?_⟩)
 refine qc (qd (ln (eg (q2 (Af aH aI aG aA aJ) (xa p1 (Ab aH aI aG aA aJ) (isAgg56 _) (sizeOf56 _) (hb.r0 1 5 (gS gZ))) (sc call32 ((p_I aH aI aG aA aJ w8).mono ?_))))))
 rintro e w9 ⟨he,hE⟩
 refine ⟨_,he,?_⟩
 obtain ⟨hs,hb⟩:=hs.pp hb hE
 refine q (ln (zA (eg (qb (ln (vI (fun ρ wJ=>∃b1'0:Bool,∃y1:Int,∃HJ:NP,((((s_I aH aI aG aA aJ):Int) == 0)=b1'0)∧(y1=(cond b1'0 2 (s_I aH aI aG aA aJ)))∧Hst w0 H2 w8 HJ wJ∧HB HJ wJ [(p2,(Ab aB aC aD aE aF),56),(p1,(Ab aH aI aG aA aJ),56)]∧Has ρ [(2,(vi left1)),(3,(vp (some p1))),(7,(vi r2)),(8,(vi r3)),(9,(vi r4)),(10,(vi r5)),(11,(vp (some p2))),(12,(vb r6)),(13,(vu r7)),(14,(vs r8)),(15,(vb r9)),(16,(vi y1))]) ?_ ?_))))))
 refine vJ (t:=(((s_I aH aI aG aA aJ):Int) == 0)) (by kernel_rfl) (fun hc3=>?_) (fun hc3=>?_)
 refine rg (q (ln ⟨true,_,_,hc3,rfl,hs,hb,hm⟩))
 refine zC (zL ⟨false,_,_,hc3,rfl,hs,hb,hm⟩)
 rintro ρ w10 ⟨b1'0,y1,H3,he0,hy1,hs,hb,hH⟩
 subst he0
 have h:=h y1 hy1
 refine vC hH (zL (eg (q (ln (zA (eg (q (q3 (xl (isAgg9 _) (hb.d 1 3 (gS gZ))) (q (q (ln (vI (fun ρ wJ=>∃b2'0:Bool,∃HJ:NP,((decide ((aA.size:Int)>64))=b2'0)∧Hst w0 H2 w8 HJ wJ∧HB HJ wJ [(p2,(Ab aB aC aD aE aF),56),(p1,(Ab aH aI aG aA aJ),56)]∧Has ρ [(2,(vi left1)),(3,(vp (some p1))),(7,(vi r2)),(8,(vi r3)),(9,(vi r4)),(10,(vi r5)),(11,(vp (some p2))),(12,(vb r6)),(13,(vu r7)),(14,(vs r8)),(15,(vb r9)),(16,(vi y1)),(17,(vi (cond b2'0 1 2)))]) ?_ ?_))))))))))))
 refine vJ (t:=(decide ((aA.size:Int)>64))) (by kernel_rfl) (fun hc5=>?_) (fun hc5=>?_)
 refine rg (q (ln ⟨true,_,hc5,hs,hb,hm⟩))
 refine zC (zL ⟨false,_,hc5,hs,hb,hm⟩)
 rintro ρ w11 ⟨b2'0,H4,he0,hs,hb,hH⟩
 subst he0
 refine vC hH (zL (zA (zA (vI (fun ρ wJ=>∃b10'0 y2:Bool,∃HJ:NP,(((((((((r2 != 0) || (r3 != y1)) || (r4 != 0)) || (r5 != (cond (decide ((aA.size:Int)>64)) 1 2))) || (!((aB == 0) && ((aC == 0) && ((aD == 0) && ((decide (aE=⟨#[]⟩)) && (aF == false))))))) || r6) || (r7 != 0)) || (!(decide (r8=⟨#[]⟩))))=b10'0)∧(y2=(b10'0 || r9))∧Hst w0 H2 w8 HJ wJ∧HB HJ wJ [(p2,(Ab aB aC aD aE aF),56),(p1,(Ab aH aI aG aA aJ),56)]∧Has ρ [(2,(vi left1)),(3,(vp (some p1))),(102,(vb y2))]) ?_ ?_))))
 refine rg (qc (zG 5 (fun ρ wJ=>∃b11'0:Bool,∃HJ:NP,((r2 != 0)=b11'0)∧Hst w0 H2 w8 HJ wJ∧HB HJ wJ [(p2,(Ab aB aC aD aE aF),56),(p1,(Ab aH aI aG aA aJ),56)]∧Has ρ [(2,(vi left1)),(3,(vp (some p1))),(9,(vi r4)),(10,(vi r5)),(11,(vp (some p2))),(12,(vb r6)),(13,(vu r7)),(14,(vs r8)),(15,(vb r9)),(17,(vi (cond (decide ((aA.size:Int)>64)) 1 2))),(73,(vb (b11'0 || (r3 != y1))))]) ?_ ?_))
 rintro ρ w25 ⟨b11'0,H13,he0,hs,hb,hH⟩
 subst he0
 refine zK hH (q (zG 3 (fun ρ wJ=>∃b12'0:Bool,∃HJ:NP,(((r2 != 0) || (r3 != y1))=b12'0)∧Hst w0 H2 w8 HJ wJ∧HB HJ wJ [(p2,(Ab aB aC aD aE aF),56),(p1,(Ab aH aI aG aA aJ),56)]∧Has ρ [(2,(vi left1)),(3,(vp (some p1))),(10,(vi r5)),(11,(vp (some p2))),(12,(vb r6)),(13,(vu r7)),(14,(vs r8)),(15,(vb r9)),(17,(vi (cond (decide ((aA.size:Int)>64)) 1 2))),(77,(vb (b12'0 || (r4 != 0))))]) ?_ ?_))
 rintro ρ w27 ⟨b12'0,H14,he0,hs,hb,hH⟩
 subst he0
 refine zK hH (q (zG 5 (fun ρ wJ=>∃b13'0:Bool,∃HJ:NP,((((r2 != 0) || (r3 != y1)) || (r4 != 0))=b13'0)∧Hst w0 H2 w8 HJ wJ∧HB HJ wJ [(p2,(Ab aB aC aD aE aF),56),(p1,(Ab aH aI aG aA aJ),56)]∧Has ρ [(2,(vi left1)),(3,(vp (some p1))),(11,(vp (some p2))),(12,(vb r6)),(13,(vu r7)),(14,(vs r8)),(15,(vb r9)),(83,(vb (b13'0 || (r5 != (cond (decide ((aA.size:Int)>64)) 1 2)))))]) ?_ ?_))
 rintro ρ w29 ⟨b13'0,H15,he0,hs,hb,hH⟩
 subst he0
 refine zK hH (q (zG 4 (fun ρ wJ=>∃b14'0:Bool,∃HJ:NP,(((((r2 != 0) || (r3 != y1)) || (r4 != 0)) || (r5 != (cond (decide ((aA.size:Int)>64)) 1 2)))=b14'0)∧Hst w0 H2 w8 HJ wJ∧HB HJ wJ [(p2,(Ab aB aC aD aE aF),56),(p1,(Ab aH aI aG aA aJ),56)]∧Has ρ [(2,(vi left1)),(3,(vp (some p1))),(12,(vb r6)),(13,(vu r7)),(14,(vs r8)),(15,(vb r9)),(88,(vb (b14'0 || (!((aB == 0) && ((aC == 0) && ((aD == 0) && ((decide (aE=⟨#[]⟩)) && (aF == false)))))))))]) ?_ ?_))
 rintro ρ w31 ⟨b14'0,H16,he0,hs,hb,hH⟩
 subst he0
 refine zK hH (q (zG 2 (fun ρ wJ=>∃b15'0:Bool,∃HJ:NP,((((((r2 != 0) || (r3 != y1)) || (r4 != 0)) || (r5 != (cond (decide ((aA.size:Int)>64)) 1 2))) || (!((aB == 0) && ((aC == 0) && ((aD == 0) && ((decide (aE=⟨#[]⟩)) && (aF == false)))))))=b15'0)∧Hst w0 H2 w8 HJ wJ∧HB HJ wJ [(p2,(Ab aB aC aD aE aF),56),(p1,(Ab aH aI aG aA aJ),56)]∧Has ρ [(2,(vi left1)),(3,(vp (some p1))),(13,(vu r7)),(14,(vs r8)),(15,(vb r9)),(91,(vb (b15'0 || r6)))]) ?_ ?_))
 rintro ρ w32 ⟨b15'0,H17,he0,hs,hb,hH⟩
 subst he0
 refine zK hH (q (zG 3 (fun ρ wJ=>∃b16'0:Bool,∃HJ:NP,(((((((r2 != 0) || (r3 != y1)) || (r4 != 0)) || (r5 != (cond (decide ((aA.size:Int)>64)) 1 2))) || (!((aB == 0) && ((aC == 0) && ((aD == 0) && ((decide (aE=⟨#[]⟩)) && (aF == false))))))) || r6)=b16'0)∧Hst w0 H2 w8 HJ wJ∧HB HJ wJ [(p2,(Ab aB aC aD aE aF),56),(p1,(Ab aH aI aG aA aJ),56)]∧Has ρ [(2,(vi left1)),(3,(vp (some p1))),(14,(vs r8)),(15,(vb r9)),(95,(vb (b16'0 || (r7 != 0))))]) ?_ ?_))
 rintro ρ w33 ⟨b16'0,H18,he0,hs,hb,hH⟩
 subst he0
 refine zK hH (q (zG 3 (fun ρ wJ=>∃b17'0:Bool,∃HJ:NP,((((((((r2 != 0) || (r3 != y1)) || (r4 != 0)) || (r5 != (cond (decide ((aA.size:Int)>64)) 1 2))) || (!((aB == 0) && ((aC == 0) && ((aD == 0) && ((decide (aE=⟨#[]⟩)) && (aF == false))))))) || r6) || (r7 != 0))=b17'0)∧Hst w0 H2 w8 HJ wJ∧HB HJ wJ [(p2,(Ab aB aC aD aE aF),56),(p1,(Ab aH aI aG aA aJ),56)]∧Has ρ [(2,(vi left1)),(3,(vp (some p1))),(15,(vb r9)),(99,(vb (b17'0 || (!(decide (r8=⟨#[]⟩))))))]) ?_ ?_))
 rintro ρ w34 ⟨b17'0,H19,he0,hs,hb,hH⟩
 subst he0
 refine zK hH (q ?_)
 rcases bte ((((((((r2 != 0) || (r3 != y1)) || (r4 != 0)) || (r5 != (cond (decide ((aA.size:Int)>64)) 1 2))) || (!((aB == 0) && ((aC == 0) && ((aD == 0) && ((decide (aE=⟨#[]⟩)) && (aF == false))))))) || r6) || (r7 != 0)) || (!(decide (r8=⟨#[]⟩)))) with hg30 | hg30
 refine sj 100 hg30 (q2 (vb true) (xT hg30) (ln ⟨true,_,_,hg30,rfl,hs,hb,hm⟩))
 refine qk 100 hg30 (q2 (vb r9) (xF hg30) (ln ⟨false,_,_,hg30,rfl,hs,hb,hm⟩))
 rcases bte (((((((r2 != 0) || (r3 != y1)) || (r4 != 0)) || (r5 != (cond (decide ((aA.size:Int)>64)) 1 2))) || (!((aB == 0) && ((aC == 0) && ((aD == 0) && ((decide (aE=⟨#[]⟩)) && (aF == false))))))) || r6) || (r7 != 0)) with hg29 | hg29
 refine sj2 96 hg29 (q2 (vb true) (xT hg29) (zB ⟨true,_,hg29,hs,hb,hm⟩))
 refine qk 96 hg29 (stq (v:=(vb (!(decide (r8=⟨#[]⟩))))) (wy 96 hg29) (tJ (by kernel_rfl) (by kernel_rfl)) (q2 (vb (!(decide (r8=⟨#[]⟩)))) (xF hg29) (zB ⟨false,_,hg29,hs,hb,hm⟩)))
 rcases bte ((((((r2 != 0) || (r3 != y1)) || (r4 != 0)) || (r5 != (cond (decide ((aA.size:Int)>64)) 1 2))) || (!((aB == 0) && ((aC == 0) && ((aD == 0) && ((decide (aE=⟨#[]⟩)) && (aF == false))))))) || r6) with hg27 | hg27
 refine sj2 92 hg27 (q2 (vb true) (xT hg27) (zB ⟨true,_,hg27,hs,hb,hm⟩))
 refine qk 92 hg27 (qk 92 hg27 (q2 (vb (r7 != 0)) (xF hg27) (zB ⟨false,_,hg27,hs,hb,hm⟩)))
 rcases bte (((((r2 != 0) || (r3 != y1)) || (r4 != 0)) || (r5 != (cond (decide ((aA.size:Int)>64)) 1 2))) || (!((aB == 0) && ((aC == 0) && ((aD == 0) && ((decide (aE=⟨#[]⟩)) && (aF == false))))))) with hg25 | hg25
 refine sj 89 hg25 (q2 (vb true) (xT hg25) (zB ⟨true,_,hg25,hs,hb,hm⟩))
 refine qk 89 hg25 (q2 (vb r6) (xF hg25) (zB ⟨false,_,hg25,hs,hb,hm⟩))
 rcases bte ((((r2 != 0) || (r3 != y1)) || (r4 != 0)) || (r5 != (cond (decide ((aA.size:Int)>64)) 1 2))) with hg23 | hg23
 refine sj3 84 hg23 (q2 (vb true) (xT hg23) (zB ⟨true,_,hg23,hs,hb,hm⟩))
 refine stq (v:=(Af aB aC aD aE aF)) (wy 84 hg23) (xa p2 (Ab aB aC aD aE aF) (isAgg56 _) (sizeOf56 _) (hb.r0 0 5 gZ)) (qk 84 hg23 (stq (v:=(vb (!((aB == 0) && ((aC == 0) && ((aD == 0) && ((decide (aE=⟨#[]⟩)) && (aF == false)))))))) (wy 84 hg23) (jEA (by kernel_rfl) (by kernel_rfl) (by kernel_rfl) (xG aB aC aD aE aF 0 0 0 ⟨#[]⟩ false _)) (q2 (vb (!((aB == 0) && ((aC == 0) && ((aD == 0) && ((decide (aE=⟨#[]⟩)) && (aF == false))))))) (xF hg23) (zB ⟨false,_,hg23,hs,hb,hm⟩))))
 rcases bte (((r2 != 0) || (r3 != y1)) || (r4 != 0)) with hg21 | hg21
 refine sj4 78 hg21 (q2 (vb true) (xT hg21) (zB ⟨true,_,hg21,hs,hb,hm⟩))
 refine qk 78 hg21 (vU (wy 78 hg21) (xc call30) ((p_N1 r5 w27).mono ?_))
 rintro e w30 ⟨he,hE⟩
 refine ⟨_,he,?_⟩
 obtain ⟨hs,hb⟩:=hs.pp hb hE
 refine qk 78 hg21 (qk 78 hg21 (q2 (vb (r5 != (cond (decide ((aA.size:Int)>64)) 1 2))) (xF hg21) (zB ⟨false,_,hg21,hs,hb,hm⟩)))
 rcases bte ((r2 != 0) || (r3 != y1)) with hg19 | hg19
 refine sj2 74 hg19 (q2 (vb true) (xT hg19) (zB ⟨true,_,hg19,hs,hb,hm⟩))
 refine qk 74 hg19 (qk 74 hg19 (q2 (vb (r4 != 0)) (xF hg19) (zB ⟨false,_,hg19,hs,hb,hm⟩)))
 rcases bte (r2 != 0) with hg17 | hg17
 refine sj4 68 hg17 (q2 (vb true) (xT hg17) (zB ⟨true,_,hg17,hs,hb,hm⟩))
 refine qk 68 hg17 (vU (wy 68 hg17) (xc call30) ((p_N1 r3 w11).mono ?_))
 rintro e w26 ⟨he,hE⟩
 refine ⟨_,he,?_⟩
 obtain ⟨hs,hb⟩:=hs.pp hb hE
 refine qk 68 hg17 (qk 68 hg17 (q2 (vb (r3 != y1)) (xF hg17) (zB ⟨false,_,hg17,hs,hb,hm⟩)))
 rintro ρ w23 ⟨b10'0,y2,H12,he0,hy2,hs,hb,hH⟩
 subst he0
 have h:=h y2 hy2
 refine vC hH (zL (cbr h ?_ ?_))<;>intro h
 refine eg (q (ln (er (vD ?_))))
 have ⟨h,hs⟩:=hs.hr (h H12 w23)
 refine rs1 results7 ⟨false,rfl,h⟩
 refine zC (zL (zA (zA (vI (fun ρ wJ=>∃b19'0 y3:Bool,∃HJ:NP,(((decide (left1<0)) || (decide (left1>12)))=b19'0)∧(y3=(b19'0 || (((s_I aH aI aG aA aJ):Int) != 0)))∧Hst w0 H2 w8 HJ wJ∧HB HJ wJ [(p2,(Ab aB aC aD aE aF),56),(p1,(Ab aH aI aG aA aJ),56)]∧Has ρ [(2,(vi left1)),(3,(vp (some p1))),(113,(vb y3))]) ?_ ?_))))
 refine rg (qc (zG 3 (fun ρ wJ=>∃b20'0:Bool,∃HJ:NP,((decide (left1<0))=b20'0)∧Hst w0 H2 w8 HJ wJ∧HB HJ wJ [(p2,(Ab aB aC aD aE aF),56),(p1,(Ab aH aI aG aA aJ),56)]∧Has ρ [(2,(vi left1)),(3,(vp (some p1))),(108,(vb (b20'0 || (decide (left1>12)))))]) ?_ ?_))
 rintro ρ w38 ⟨b20'0,H22,he0,hs,hb,hH⟩
 subst he0
 refine zK hH (q ?_)
 rcases bte ((decide (left1<0)) || (decide (left1>12))) with hg36 | hg36
 refine sj3 109 hg36 (q2 (vb true) (xT hg36) (ln ⟨true,_,_,hg36,rfl,hs,hb,hm⟩))
 refine stq (v:=(Af aH aI aG aA aJ)) (wy 109 hg36) (xa p1 (Ab aH aI aG aA aJ) (isAgg56 _) (sizeOf56 _) (hb.r0 1 5 (gS gZ))) (vU (wy 109 hg36) (xc call32) ((p_I aH aI aG aA aJ w38).mono ?_))
 rintro e w39 ⟨he,hE⟩
 refine ⟨_,he,?_⟩
 obtain ⟨hs,hb⟩:=hs.pp hb hE
 refine qk 109 hg36 (q2 (vb (((s_I aH aI aG aA aJ):Int) != 0)) (xF hg36) (ln ⟨false,_,_,hg36,rfl,hs,hb,hm⟩))
 rcases bte (decide (left1<0)) with hg35 | hg35
 refine sj2 105 hg35 (q2 (vb true) (xT hg35) (zB ⟨true,_,hg35,hs,hb,hm⟩))
 refine qk 105 hg35 (qk 105 hg35 (q2 (vb (decide (left1>12))) (xF hg35) (zB ⟨false,_,hg35,hs,hb,hm⟩)))
 rintro ρ w37 ⟨b19'0,y3,H21,he0,hy3,hs,hb,hH⟩
 subst he0
 have h:=h y3 hy3
 refine vC hH (zL (cbr h ?_ ?_))<;>intro h
 refine eg ?_
 have ⟨h,hs⟩:=hs.hr (h H21 w37)
 refine sc call23 (h.mono fun e w40 ⟨r10,k,hk,h⟩=>have ⟨hs,hb⟩:=hk.hh hs hb;⟨_,k,?_⟩)
 refine q (ln (er (vD (rs1 results7 ⟨r10,rfl,h⟩))))
 refine zC (zL (eg ?_))
 have ⟨h,hs⟩:=hs.hr (h H21 w37)
 refine sc call11 (h.mono fun e w41 ⟨r11,k,hk,h⟩=>have ⟨hs,hb⟩:=hk.hh hs hb;⟨_,k,?_⟩)
 refine q (ln (zA (eg (q (q2 (vb (Option.isNone r11)) (yM (by kernel_rfl) rfl underlying29) (ln (cbr h ?_ ?_)))))))<;>intro h
 refine eg (q (ln (er (vD (rs1 results7 ⟨false,rfl,h⟩)))))
 refine zC (zL (zA (eg (q (ln (vG (fun ρ w=>∃H:NP,Has ρ [(3,(vp (some p1))),(18,(vp r11))]∧Hst w0 H w H w∧HB H w [(p2,(Ab aB aC aD aE aF),56),(p1,(Ab aH aI aG aA aJ),56)]∧m_M_j1 aH aI aG aA aJ r11 w0 H w K) ?_ ?_))))))
 rintro ρ w ⟨H,hH,hs,hb,h⟩
 refine zR hH (eg (q (sc call22 (h.mono fun e w42 ⟨r12,k,hk,h⟩=>have ⟨hs,hb⟩:=hk.hh hs hb;⟨_,k,?_⟩))))
 refine q (ln (eg (q (q2 (Af aH aI aG aA aJ) (xa p1 (Ab aH aI aG aA aJ) (isAgg56 _) (sizeOf56 _) (hb.r0 1 5 (gS gZ))) (sc call26 (h.mono fun e w43 ⟨r13,r14,k,hk,h⟩=>have ⟨hs,hb⟩:=hk.hh hs hb;⟨_,k,?_⟩))))))
 refine q (qd (ln (zA (eg (q (sc call30 ((p_N1 r14 w43).mono ?_)))))))
 rintro e w44 ⟨he,hE⟩
 refine ⟨_,he,?_⟩
 obtain ⟨hs,hb⟩:=hs.pp hb hE
 refine q (ln (cbr h ?_ ?_))<;>intro h
 refine eg (q (sc call30 ((p_N1 r14 w44).mono ?_)))
 rintro e w45 ⟨he,hE⟩
 refine ⟨_,he,?_⟩
 obtain ⟨hs,hb⟩:=hs.pp hb hE
 refine qb (zG 3 (fun ρ wJ=>∃b21'0:Bool,∃HJ:NP,((r14 == 6)=b21'0)∧Hst w0 H w43 HJ wJ∧HB HJ wJ [(p2,(Ab aB aC aD aE aF),56),(p1,(Ab aH aI aG aA aJ),56)]∧Has ρ [(18,(vp r11)),(20,(vi r12)),(153,(vb (b21'0 && (r13 == 0))))]) ?_ ?_)
 rintro ρ w46 ⟨b21'0,H23,he0,hs,hb,hH⟩
 subst he0
 refine zK hH (q (zG 5 (fun ρ w=>∃x1,∃H:NP,Has ρ [(159,(vb x1))]∧Hst w0 H w H w∧HB H w [(p2,(Ab aB aC aD aE aF),56),(p1,(Ab aH aI aG aA aJ),56)]∧m_M_j2 x1 H w K) ?_ ?_))
 rintro ρ w ⟨x1,H,hH,hs,hb,h⟩
 refine zK hH (q ?_)
 obtain ⟨hg39,h⟩|⟨hg39,h⟩:=h.br
 refine vU (wy 160 hg39) (xc call23) (h.mono ?_)
 rintro e w47 ⟨r15,rfl,hk,h⟩
 refine ⟨_,rfl,?_⟩
 obtain ⟨hs,hb⟩:=hk.hh hs hb
 refine q2 (vb r15) (xT hg39) (q (ln (er (vD (rs1 results7 ⟨r15,rfl,h⟩)))))
 refine sj 160 hg39 (q2 (vb false) (xF hg39) (q (ln (er (vD (rs1 results7 ⟨false,rfl,h⟩))))))
 obtain ⟨hg40,h⟩|⟨hg40,h⟩:=h.br
 refine qk 154 hg40 ?_
 have ⟨h,hs⟩:=hs.hr (h H23 w46)
 refine vU (wy 154 hg40) (xc call22) (h.mono ?_)
 rintro e w48 ⟨r16,rfl,hk,h⟩
 refine ⟨_,rfl,?_⟩
 obtain ⟨hs,hb⟩:=hk.hh hs hb
 refine qk 154 hg40 (qk 154 hg40 (q2 (vb (r16 == r12)) (xT hg40) (zB ⟨(r16 == r12),H23,hm,hs,hb,h⟩)))
 refine sj4 154 hg40 (q2 (vb false) (xF hg40) (zB ?_))
 have ⟨h,hs⟩:=hs.hr (h H23 w46)
 exact ⟨false,H23,hm,hs,hb,h⟩
 rcases bte (r14 == 6) with hg38 | hg38
 refine qk 150 hg38 (qk 150 hg38 (q2 (vb (r13 == 0)) (xT hg38) (zB ⟨true,_,hg38,hs,hb,hm⟩)))
 refine sj2 150 hg38 (q2 (vb false) (xF hg38) (zB ⟨false,_,hg38,hs,hb,hm⟩))
 refine zC (zL (eg (qb ?_)))
 have ⟨h,hs⟩:=hs.hr (h w44)
 refine sc call40 (h.mono fun e w49 ⟨aK,aL,aM,aN,aO,r17,k,hk,h⟩=>have ⟨hs,hb⟩:=hk.hh hs hb;⟨_,k,?_⟩)
 refine qc (nw3 (Ah 0 0 0 false) 56 hs hb (zF (zeroValue56 _) rfl) fun p3 w50 H24 hs hb=>sbx 0 (Ab aK aL aM aN aO) (sizeOf56 _) hs hb gZ fun w51 hs hb=>q (ln (eg (qb ?_))))
 have ⟨h,hs⟩:=hs.hr (h H24 w51)
 refine sc call49 (h.mono fun e w52 ⟨r18,r19,k,hk,h⟩=>have ⟨hs,hb⟩:=hk.hh hs hb;⟨_,k,?_⟩)
 refine q (qd (ln (eg (q2 (Af aH aI aG aA aJ) (xa p1 (Ab aH aI aG aA aJ) (isAgg56 _) (sizeOf56 _) (hb.r0 2 5 (gS (gS gZ)))) (sc call29 (h.mono fun e w53 ⟨r20,r21,k,hk,h⟩=>have ⟨hs,hb⟩:=hk.hh hs hb;⟨_,k,?_⟩))))))
 refine q (qd (ln (eg (qb (zG 4 (fun ρ wJ=>∃b22'0 y4:Bool,∃HJ:NP,(r17=b22'0)∧(y4=(b22'0 && ((aK == aH) && ((aL == aI) && ((aM == aG) && ((decide (aN=aA)) && (aO == aJ)))))))∧Hst w0 H24 w53 HJ wJ∧HB HJ wJ [(p3,(Ab aK aL aM aN aO),56),(p2,(Ab aB aC aD aE aF),56),(p1,(Ab aH aI aG aA aJ),56)]∧Has ρ [(25,r18.v),(27,r20.v),(185,(vb y4))]) ?_ ?_)))))
 rintro ρ w54 ⟨b22'0,y4,H25,he0,hy4,hs,hb,hH⟩
 subst he0
 have h:=h y4 hy4
 refine zK hH (q (zG 6 (fun ρ w=>∃x2,∃H:NP,Has ρ [(192,(vb x2))]∧Hst w0 H w H w∧HB H w [(p3,(Ab aK aL aM aN aO),56),(p2,(Ab aB aC aD aE aF),56),(p1,(Ab aH aI aG aA aJ),56)]∧m_M_j3 x2 H w K) ?_ ?_))
 rintro ρ w ⟨x2,H,hH,hs,hb,h⟩
 refine zK hH (q ?_)
 obtain ⟨hg43,h⟩|⟨hg43,h⟩:=h.br
 refine vU (wy 193 hg43) (xc call23) (h.mono ?_)
 rintro e w55 ⟨r22,rfl,hk,h⟩
 refine ⟨_,rfl,?_⟩
 obtain ⟨hs,hb⟩:=hk.hh hs hb
 refine q2 (vb r22) (xT hg43) (q (ln (er (rs1 results7 ⟨r22,rfl,h⟩))))
 refine sj 193 hg43 (q2 (vb false) (xF hg43) (q (ln (er (rs1 results7 ⟨false,rfl,h⟩)))))
 obtain ⟨hg44,h⟩|⟨hg44,h⟩:=h.br
 refine qk 186 hg44 ?_
 have ⟨h,hs⟩:=hs.hr (h H25 w54)
 obtain ⟨c1,hv2,h⟩:=h
 refine stq (v:=(vs c1)) (wy 186 hg44) (xS (by kernel_rfl) hv2) (qk 186 hg44 ?_)
 obtain ⟨c2,hv1,h⟩:=h
 refine stq (v:=(vs c2)) (wy 186 hg44) (xS (by kernel_rfl) hv1) (stq (v:=(vb (decide (c1=c2)))) (wy 186 hg44) (tX (by kernel_rfl) (by kernel_rfl)) (q2 (vb (decide (c1=c2))) (xT hg44) (zB ⟨(decide (c1=c2)),H25,hm,hs,hb,h⟩)))
 refine sj5 186 hg44 (q2 (vb false) (xF hg44) (zB ?_))
 have ⟨h,hs⟩:=hs.hr (h H25 w54)
 exact ⟨false,H25,hm,hs,hb,h⟩
 rcases bte r17 with hg42 | hg42
 refine stq (v:=(Af aK aL aM aN aO)) (wy 181 hg42) (xa p3 (Ab aK aL aM aN aO) (isAgg56 _) (sizeOf56 _) (hb.r0 0 5 gZ)) (stq (v:=(Af aH aI aG aA aJ)) (wy 181 hg42) (xa p1 (Ab aH aI aG aA aJ) (isAgg56 _) (sizeOf56 _) (hb.r0 2 5 (gS (gS gZ)))) (stq (v:=(vb ((aK == aH) && ((aL == aI) && ((aM == aG) && ((decide (aN=aA)) && (aO == aJ))))))) (wy 181 hg42) (jEA (by kernel_rfl) (by kernel_rfl) (by kernel_rfl) (xH aK aL aM aN aO aH aI aG aA aJ _)) (q2 (vb ((aK == aH) && ((aL == aI) && ((aM == aG) && ((decide (aN=aA)) && (aO == aJ)))))) (xT hg42) (zB ⟨true,_,_,hg42,rfl,hs,hb,hm⟩))))
 refine sj3 181 hg42 (q2 (vb false) (xF hg42) (zB ⟨false,_,_,hg42,rfl,hs,hb,hm⟩))
 refine zM ?_
 obtain ⟨I1,mu1,h0,hr⟩:=h
 refine qA (σ:=Int×NP×World) (fun s ρ w=>w=s.2.2∧Has ρ [(2,(vi left1)),(3,(vp (some p1))),(18,(vp r11)),(19,(vi s.1))]∧Hst w0 s.2.1 w s.2.1 w∧HB s.2.1 w [(p2,(Ab aB aC aD aE aF),56),(p1,(Ab aH aI aG aA aJ),56)]∧I1 s.1 s.2.1 s.2.2) (fun s=>mu1 s.1 s.2.2) (0,H21,w41) ⟨rfl,hm,hs,hb,h0⟩ ?_
 rintro ⟨i1,Hl1,wl1⟩ ρ w ⟨hw,hH,hs,hb,hI⟩
 dsimp only at hw hH hs hb;subst w
 have h:=hr i1 Hl1 wl1 hs hI
 refine zR hH (zA (eg (qd (ln (cbr h ?_ ?_)))))<;>intro h
 refine zC (zL (zA (zM (eg (q (sc call46 (h.mono fun e w56 ⟨r23,r24,k,hk,h⟩=>have ⟨hs,hb⟩:=hk.hh hs hb;⟨_,k,?_⟩)))))))
 refine ln (eg (qc (sc call48 (h.mono fun e w57 ⟨r25,k,hk,h⟩=>have ⟨hs,hb⟩:=hk.hh hs hb;⟨_,k,?_⟩))))
 refine sc call47 (h.mono fun e w58 ⟨r26,r27,k,hk,h⟩=>have ⟨hs,hb⟩:=hk.hh hs hb;⟨_,k,?_⟩)
 refine ln (eg (q (sc call22 (h.mono fun e w59 ⟨r28,k,hk,h⟩=>have ⟨hs,hb⟩:=hk.hh hs hb;⟨_,k,?_⟩))))
 refine qc (ln (cbr h ?_ ?_))<;>intro h
 refine vW (bl_ne rfl (xV (xV (xR (zL ⟨Hl1,hm,hs,hb,h⟩)))))
 refine zC (tW (zL (rg (qc (ln ⟨((q6.wrap (i1+1)),Hl1,w59),⟨rfl,hm,hs,hb,h.1⟩,h.2⟩)))))
 refine vW (xV (xV (xR (zL ⟨Hl1,hm,hs,hb,h⟩))))
end Go.Proofs
end
section
open Go Go.SE
namespace Go.Sp
open Go.Proofs
def l11:Letter:=⟨1,0,7,⟨#[97]⟩,false⟩
theorem l11a:(zX [] l11).1=6∧(zX [] l11).2.1=0:=by constructor <;> kernel_rfl
theorem l11b:jNS (zX [] l11).2.2 6=(l11,true)∧(jNS (zX [] l11).2.2 1).2=false∧sizeOf (zX [] l11).2.2 6=6:=by refine ⟨?_,?_,?_⟩ <;> kernel_rfl
theorem l11c:(tC l11).2=0∧jPK (tC l11).1=(l11,true):=by constructor <;> kernel_rfl
theorem l11d:(⟨(jIG l11).toArray⟩:ByteArray)=⟨#[112,114,111,109,105,115,101,32,48,32,55,32,34,97,34]⟩:=by
 have e0:letErr l11=0:=by kernel_rfl
 have h0:Lib.decDigits l11.frm.toNat=[48]:=Lib.decDigits_one (i:=0) (by omega);have h7:Lib.decDigits l11.c.toNat=[55]:=Lib.decDigits_one (i:=7) (by omega);have hx:jKD l11.text=[34,97,34]:=by decide
 have e:jIG l11=[112,114,111,109,105,115,101,32,48,32,55,32,34,97,34]:=by
  unfold jIG;rw [if_neg (by rw [e0];simp),h0,h7,hx];rfl
 rw [e]
theorem l11e:toS l11=1:=by kernel_rfl
end Go.Sp
namespace Go.Proofs
open Tryz
attribute [local irreducible] Calls
theorem jDW (w0:World) (ht:Pow w0):Calls prog 23 #[] w0 (fun e w'=>∃r:Bool,e=.returned (.bool r)∧(r=true∧Pure w0 w')):=by
 refine w_U w0 (fun r w'=>r=true∧Pure w0 w') ?_;unfold m_U;refine (jQN w0).mono ?_;rintro _ w1 ⟨_,rfl,p,rfl,E1,F,hP,hF⟩;refine ⟨_,rfl,E1.keptP,fun H1 w3 hs=>?_⟩;have hn:Sp.uI Sp.l11.c:=⟨by decide,by decide⟩;have hW:=Sp.tG Sp.Wf.nil Sp.l11;have hN:=Sp.tS Sp.tI.nil hn;have E3:Pure w0 w3:=E1.hst hs;have hP3:zO w3 p [] F:=hP.ext hs.ext (fun b hb hh=>(hs.new b hh).elim id (fun h=>by have:=hP.lt hb;omega));have hFl:∀b,F b→b<w1.heap.size:=fun b hb=>hP.lt hb;have hHF:∀b,H1 b→¬ F b:=fun b hh hb=>(hs.new b hh).elim id (fun h=>by have:=hFl b hb;omega);refine (jLB p Sp.l11 w3 hP3 Sp.Wf.nil.ok).mono ?_;rintro _ w4 ⟨r2,r3,rfl,e2,e3,F4,hP4,E4,hF4⟩;rw [Sp.l11a.1] at e2;rw [Sp.l11a.2] at e3;subst e2;subst e3;have E04:Pure w0 w4:=E3.trans' E4 (fun i hi hf=>by have:=hF i hf;omega);refine ⟨_,_,rfl,E4.kept hHF,?_⟩;refine (uJ p 6 w4 hP4 hW.ok).mono ?_;rintro _ w5 ⟨k,f,c,x,g,ok,rfl,hr,E5⟩;rw [Sp.l11b.1] at hr;obtain ⟨hl,rfl⟩:=Prod.mk.inj hr;unfold Sp.l11 at hl;simp only [Sp.Letter.mk.injEq] at hl;obtain ⟨rfl,rfl,rfl,rfl,rfl⟩:=hl;refine ⟨_,_,_,_,_,_,rfl,E5.keptP,fun H2 w7 hs7=>?_⟩;have E07:Pure w0 w7:=(E04.trans E5).hst hs7;have hH2:∀b,H2 b→b<w7.heap.size:=hs7.lt;have hHF4:∀b,F4 b→¬ H1 b:=fun b hb hh=>(hF4 b hb).elim (fun h=>hHF b hh h) (fun h=>by have:=hs.lt b hh;omega);have hP7:zO w7 p (zX [] Sp.l11).2.2 F4:=(hP4.pure E5).ext hs7.ext (hs7.disj (fun b hb=>⟨by have:=hP4.lt hb;have:=E5.size;omega,hHF4 b hb⟩));have hHF7:∀b,F4 b→¬ H2 b:=hs7.disj (fun b hb=>⟨by have:=hP4.lt hb;have:=E5.size;omega,hHF4 b hb⟩);refine (jNN Sp.l11 hn w7).mono ?_;rintro _ w8 ⟨r5,r6,rfl,e6,hR⟩;rw [Sp.l11c.1] at e6;subst e6;refine ⟨_,_,rfl,hR.pure.keptP,?_⟩;refine (jNO r5 _ w8 hR.rows.lst (jSW hR.rows)).mono ?_;rintro _ w9 ⟨k2,f2,c2,x2,g2,ok2,rfl,hr2,E9⟩;rw [Sp.l11c.2] at hr2;obtain ⟨hl2,rfl⟩:=Prod.mk.inj hr2;unfold Sp.l11 at hl2;simp only [Sp.Letter.mk.injEq] at hl2;obtain ⟨rfl,rfl,rfl,rfl,rfl⟩:=hl2;refine ⟨_,_,_,_,_,_,rfl,E9.keptP,fun H3 w11 hs11=>?_⟩;have E89:=hR.pure.trans E9;have E011:Pure w0 w11:=(E07.trans E89).hst hs11;have hHF11:∀b,F4 b→¬ H3 b:=hs11.disj (fun b hb=>⟨by have:=hP7.lt hb;have:=E89.size;omega,hHF7 b hb⟩);have hP11:zO w11 p (zX [] Sp.l11).2.2 F4:=(hP7.pure E89).ext hs11.ext hHF11;refine (uJ p 1 w11 hP11 hW.ok).mono ?_;rintro _ w12 ⟨k3,f3,c3,x3,g3,ok3,rfl,hr3,E12⟩;have hok3:ok3=false:=by
  have:=congrArg Prod.snd hr3;simp only at this;rw [this];exact Sp.l11b.2.1
 subst hok3;refine ⟨_,_,_,_,_,_,rfl,E12.keptP,?_⟩;rintro y1 rfl y2 rfl;refine ⟨fun _=>?_,fun h=>absurd h (by decide)⟩;intro H10 w23 hs23;have E023:Pure w0 w23:=(E011.trans E12).hst hs23;have hHF23:∀b,F4 b→¬ H10 b:=hs23.disj (fun b hb=>⟨by have:=hP11.lt hb;have:=E12.size;omega,hHF11 b hb⟩);have hP23:zO w23 p (zX [] Sp.l11).2.2 F4:=(hP11.pure E12).ext hs23.ext hHF23;refine (jQH Sp.l11 hn w23 (yY ht E023)).mono ?_;rintro _ w26 ⟨r11,rfl,e11,E26⟩;refine ⟨_,rfl,E26.keptP,?_⟩;rw [e11,Sp.l11d];unfold m_U_j1;refine ⟨fun _=>?_,fun h=>absurd h (by decide)⟩;refine (c_ltTo Sp.l11 w26).mono ?_;rintro _ w25 ⟨_,rfl,rfl,E25⟩;refine ⟨_,rfl,E25.keptP,?_⟩;rw [Sp.l11e];unfold m_U_j2;refine ⟨fun _=>?_,fun h=>absurd h (by decide)⟩;refine (jTK p 6 w25 ((hP23.pure E26).pure E25) hW.ok).mono ?_;rintro _ w24 ⟨_,rfl,rfl,rfl⟩;refine ⟨_,rfl,Kept.refl _,?_,(E023.trans E26).trans E25⟩;rw [Sp.l11b.2.2];rfl
end Go.Proofs
end
section
open Go Go.SE
namespace Go.Sp
theorem jKJ (k f c:Int) (x:ByteArray) (g:Bool):((k == k) && ((f == f) && ((c == c) && ((decide (x=x)) && (g == g)))))=true:=by simp
end Go.Sp
namespace Go.Proofs
attribute [local irreducible] Calls
end Go.Proofs
end
section
open Go Go.SE
namespace Go.Sp
theorem jGV {L:Pool} {n:Node} (hp:zV n=0) (ha:(shapeOf n.kind).kids<1→n.a=0) (hb:(shapeOf n.kind).kids<2→n.b=0) (hf:zU (shapeOf n.kind) n=0) (hk:∀k∈zH n,inP L k=true) :
  check L n=if 1+((zH n).map (sizeOf L)).sum>4096∨(zH n).foldl (fun d t=>max d (depthOf L t)) 0+1>64 then (0,0,52) else (1+((zH n).map (sizeOf L)).sum,(zH n).foldl (fun d t=>max d (depthOf L t)) 0+1,0):=by
 unfold check
 simp only
 rw [if_neg (by simp [hp]),if_neg (fun h=>?_),if_neg (by simp [hf]),if_neg (fun h=>?_)]
 ·obtain ⟨k,hk1,hk2⟩:=List.any_eq_true.1 h
  rw [hk k hk1] at hk2;cases hk2
 ·rw [Bool.or_eq_true,Bool.and_eq_true,Bool.and_eq_true] at h
  rcases h with ⟨h1,h2⟩ | ⟨h1,h2⟩
  ·rw [ha (of_decide_eq_true h1)] at h2;simp at h2
  ·rw [hb (of_decide_eq_true h1)] at h2;simp at h2
theorem mk_ok {L:Pool} {n:Node} (hW:Wf L) (hl:L.length<65536) (hp:zV n=0) (ha:(shapeOf n.kind).kids<1→n.a=0) (hb:(shapeOf n.kind).kids<2→n.b=0) (hf:zU (shapeOf n.kind) n=0) (hk:∀k∈zH n,inP L k=true)
  {sz d:Int} (hs:1+((zH n).map (sizeOf L)).sum=sz) (hd:(zH n).foldl (fun d t=>max d (depthOf L t)) 0+1=d) :
  ((sz>4096∨d>64)→(make L n).2.1=52)∧(¬ (sz>4096∨d>64)→∃r M,make L n=(r,0,L++M)∧inP (L++M) r=true∧nodeOf (L++M) r=n∧Wf (L++M)∧sizeOf (L++M) r=sz∧depthOf (L++M) r=d∧(L++M).length≤L.length+1):=by
 have hc:=jGV hp ha hb hf hk
 rw [hs,hd] at hc
 refine ⟨fun h=>?_,fun h=>?_⟩
 ·rw [if_pos h] at hc
  unfold make;simp only [hc];rfl
 ·rw [if_neg h] at hc
  have h0:(make L n).2.1=0:=by
   unfold make;simp only [hc];rw [if_neg (by simp)];split
   ·rfl
   ·rw [if_neg (by omega)]
  obtain ⟨M,e⟩:=jAJ L n
  obtain ⟨m1,m2,_⟩:=tA h0
  have hw:=xQ hW n
  have hfew:=jPG L n
  rw [e] at m1 m2 hw hfew
  refine ⟨(make L n).1,M,by rw [← e,← h0],m1,m2,hw,?_,?_,hfew⟩
  ·rw [(hw.node m1).2.2.2.2.2.1,m2,← hs]
   congr 2
   exact List.map_congr_left (fun k hk'=>jCM (hk k hk'))
  ·rw [(hw.node m1).2.2.2.2.2.2,m2,← hd]
   congr 1
   have:∀(l:List Int) (d:Int),(∀k∈l,inP L k=true)→l.foldl (fun d k=>max d (depthOf (L++M) k)) d=l.foldl (fun d k=>max d (depthOf L k)) d:=by
    intro l;induction l with
    | nil=>intro d _;rfl
    | cons a l ih=>intro d hh;simp only [List.foldl_cons];rw [jBB (hh a (by simp))];exact ih _ (fun k hk=>hh k (by simp [hk]))
   exact this _ _ hk
theorem make_old {L:Pool} (hW:Wf L) {t:Int} (ht:inP L t=true):make L (nodeOf L t)=(t,0,L):=by
 obtain ⟨h1,h2,h3,h4,h5,h6,h7⟩:=hW.node ht;have hc:=jGV h1 h2 h3 h4 (fun k hk=>(h5 k hk).1);rw [← h6,← h7] at hc;obtain ⟨i,hi,rfl⟩:=jAO ht;have hsz:=hW.ok.size L[i] (List.getElem_mem hi);have hdp:=hW.ok.depth L[i] (List.getElem_mem hi);have e1:sizeOf L ((i:Int)+1)=L[i].size:=by simp [sizeOf,jFZ hi]
 have e2:depthOf L ((i:Int)+1)=L[i].depth:=by simp [depthOf,jFZ hi]
 rw [if_neg (by omega)] at hc;have hfd:find L (nodeOf L ((i:Int)+1))=some i:=by rw [qJ hi];exact Go.Proofs.jKR hW.ok (List.getElem?_eq_getElem hi)
 unfold make;simp only [hc,hfd];rw [if_neg (by simp)]
structure LP (T:Tree) (sz d:Int):Prop where
 s1:1≤sz
 d1:1≤d
 yes:∀i s,0≤i→0≤s→s+sz≤4096→i+d≤64→vY i s T=(0,s+sz)
 no:∀i s,0≤i→0≤s→(4096<s+sz∨64<i+d)→(vY i s T).1=52
theorem LP0 {k f t u:Int} {x:ByteArray} (h:qM ⟨k,f,t,u,x,0,0⟩ 0=0):LP (.mk k f t u x []) 1 1:=by
 refine ⟨by omega,by omega,fun i s hi hs h1 h2=>?_,fun i s hi hs h1=>?_⟩
 ·rw [vY,if_neg (by omega),if_neg (by omega)];simp [vF,h]
 ·rw [vY];split
  ·rfl
  ·rw [if_pos (by omega)]
theorem LP1 {k f t u:Int} {x:ByteArray} {A:Tree} {sa da:Int} (h:qM ⟨k,f,t,u,x,0,0⟩ 1=0) (hA:LP A sa da):LP (.mk k f t u x [A]) (1+sa) (da+1):=by
 have a1:=hA.s1;have a2:=hA.d1;refine ⟨by omega,by omega,fun i s hi hs h1 h2=>?_,fun i s hi hs h1=>?_⟩
 ·rw [vY,if_neg (by omega),if_neg (by omega)];simp only [List.length_cons,List.length_nil,vF,h,if_pos,hA.yes (i+1) (s+1) (by omega) (by omega) (by omega) (by omega)];simp;omega
 ·rw [vY];split
  ·rfl
  ·split
   ·rfl
   ·simp only [List.length_cons,List.length_nil,vF,h,if_pos];simpa using hA.no (i+1) (s+1) (by omega) (by omega) (by omega)
theorem LP2 {k f t u:Int} {x:ByteArray} {A B:Tree} {sa da sb db:Int} (h:qM ⟨k,f,t,u,x,0,0⟩ 2=0) (hA:LP A sa da) (hB:LP B sb db):LP (.mk k f t u x [A,B]) (1+(sa+sb)) (max da db+1):=by
 have a1:=hA.s1;have a2:=hA.d1;have b1:=hB.s1;have b2:=hB.d1;refine ⟨by omega,by omega,fun i s hi hs h1 h2=>?_,fun i s hi hs h1=>?_⟩
 ·rw [vY,if_neg (by omega),if_neg (by omega)];simp only [List.length_cons,List.length_nil,vF,h,if_pos,hA.yes (i+1) (s+1) (by omega) (by omega) (by omega) (by omega),hB.yes (i+1) (s+1+sa) (by omega) (by omega) (by omega) (by omega)];simp;omega
 ·rw [vY];split
  ·rfl
  ·split
   ·rfl
   ·simp only [List.length_cons,List.length_nil,vF,h,if_pos];by_cases hc:s+1+sa≤4096∧i+1+da≤64
    ·rw [hA.yes (i+1) (s+1) (by omega) (by omega) hc.1 hc.2];simpa using hB.no (i+1) (s+1+sa) (by omega) (by omega) (by omega)
    ·have:=hA.no (i+1) (s+1) (by omega) (by omega) (by omega);rw [this];simp
end Go.Sp
end
section
open Go Go.SE
namespace Go.Sp
open Go.Proofs
theorem jEP {k f t u:Int} {x:ByteArray} {len:Nat} (h:qM ⟨k,f,t,u,x,0,0⟩ len=0):zV ⟨k,f,t,u,x,0,0⟩=0∧(len:Int)=(shapeOf k).kids∧zU (shapeOf k) ⟨k,f,t,u,x,0,0⟩=0:=by
 unfold qM at h;simp only at h;by_cases h1:zV ⟨k,f,t,u,x,0,0⟩=0
 ·rw [if_pos h1] at h;by_cases h2:(len:Int)≠(shapeOf k).kids
  ·rw [if_pos h2] at h;simp at h
  ·rw [if_neg h2] at h;exact ⟨h1,Classical.byContradiction h2,by simpa using h⟩
 ·rw [if_neg h1] at h;rw [if_neg h1] at h;exact absurd h h1
theorem jUJ {L:Pool} {n:Node} (hW:Wf L) (hp:zV n=0) (ha:(shapeOf n.kind).kids<1→n.a=0) (hb:(shapeOf n.kind).kids<2→n.b=0) (hf:zU (shapeOf n.kind) n=0) (hk:∀k∈zH n,inP L k=true)
  {sz d:Int} (hs:1+((zH n).map (sizeOf L)).sum=sz) (hd:(zH n).foldl (fun d t=>max d (depthOf L t)) 0+1=d) (h:¬ (sz>4096∨d>64)) :
  (∃r M,make L n=(r,0,L++M)∧inP (L++M) r=true∧nodeOf (L++M) r=n∧Wf (L++M)∧sizeOf (L++M) r=sz∧depthOf (L++M) r=d∧(L++M).length≤L.length+1)∨((make L n).2.1=6∧65536≤L.length):=by
 by_cases hl:L.length<65536
 ·exact .inl ((mk_ok hW hl hp ha hb hf hk hs hd).2 h)
 have hc:=jGV hp ha hb hf hk
 rw [hs,hd,if_neg h] at hc
 cases hfd:find L n with
 | none =>
  right
  unfold make;simp only [hc,hfd]
  rw [if_neg (by simp),if_pos (by omega)]
  exact ⟨rfl,by omega⟩
 | some i =>
  left
  obtain ⟨hi,e⟩:=jCA hfd
  have hm:make L n=((i:Int)+1,0,L):=by unfold make;simp only [hc,hfd];rw [if_neg (by simp)]
  have hin:inP L ((i:Int)+1)=true:=vA.2 ⟨by omega,by omega⟩
  have hn:nodeOf L ((i:Int)+1)=n:=by rw [qJ hi,e]
  have hw:=hW.node hin
  rw [hn] at hw
  refine ⟨_,[],by rw [hm,List.append_nil],by rw [List.append_nil];exact hin,by rw [List.append_nil];exact hn,by rw [List.append_nil];exact hW,?_,?_,by simp⟩
  ·rw [List.append_nil,← hs,hw.2.2.2.2.2.1]
  ·rw [List.append_nil,← hd,hw.2.2.2.2.2.2]
abbrev Grown (L:Pool) (T:Tree) (sz d:Int) (q:Int×Int×Pool):Prop:=(∃r M,q=(r,0,L++M)∧inP (L++M) r=true∧Wf (L++M)∧sizeOf (L++M) r=sz∧depthOf (L++M) r=d∧((L++M).length:Int)≤L.length+sz)∨(q.2.1=6∧65536<L.length+sz)
structure GP (T:Tree) (sz d:Int):Prop extends LP T sz d where
 grw:∀L,Wf L→sz≤4096→d≤64→Grown L T sz d (grow L T)
theorem GP0 {k f t u:Int} {x:ByteArray} (h:qM ⟨k,f,t,u,x,0,0⟩ 0=0):GP (.mk k f t u x []) 1 1:=by
 refine ⟨LP0 h,fun L hW h1 h2=>?_⟩;obtain ⟨o1,o2,o3⟩:=jEP h;have hk:zH ⟨k,f,t,u,x,0,0⟩=[]:=by simp [zH,← o2]
 rw [grow,zY];rcases jUJ (n:=⟨k,f,t,u,x,0,0⟩) hW o1 (fun _=>rfl) (fun _=>rfl) o3 (by rw [hk];simp) (sz:=1) (d:=1) (by rw [hk];rfl) (by rw [hk];rfl) (by omega) with ⟨r,M,e,i,_,w,s,dd,l⟩ | ⟨e,l⟩
 ·exact .inl ⟨r,M,e,i,w,s,dd,by omega⟩
 ·exact .inr ⟨e,by omega⟩
theorem GP1 {k f t u:Int} {x:ByteArray} {A:Tree} {sa da:Int} (h:qM ⟨k,f,t,u,x,0,0⟩ 1=0) (hA:GP A sa da):GP (.mk k f t u x [A]) (1+sa) (da+1):=by
 refine ⟨LP1 h hA.toLP,fun L hW h1 h2=>?_⟩;obtain ⟨o1,o2,o3⟩:=jEP h;have s1:=hA.s1;have d1:=hA.d1;rw [grow];rcases hA.grw L hW (by omega) (by omega) with ⟨r,M,e,i,w,s,dd,l⟩ | ⟨e,l⟩
 ·rw [zY,e,if_neg (by simp),if_pos rfl,zY];have hk:zH ⟨k,f,t,u,x,r,0⟩=[r]:=by simp [zH,← o2]
  rcases jUJ (n:=⟨k,f,t,u,x,r,0⟩) w o1 (fun hh=>by simp only at hh;omega) (fun _=>rfl) o3 (by rw [hk];intro k hk;simp at hk;rw [hk];exact i) (sz:=1+sa) (d:=da+1) (by rw [hk];simp [s]) (by rw [hk];simp [dd];omega) (by omega) with ⟨r',M',e',i',_,w',s',dd',l'⟩ | ⟨e',l'⟩
  ·exact .inl ⟨r',M++M',by rw [← List.append_assoc];exact e',by rw [← List.append_assoc];exact i',by rw [← List.append_assoc];exact w',by rw [← List.append_assoc];exact s',by rw [← List.append_assoc];exact dd',by rw [← List.append_assoc];omega⟩
  ·exact .inr ⟨e',by omega⟩
 ·rw [zY,if_pos (by rw [e];decide)];exact .inr ⟨e,by omega⟩
theorem GP2 {k f t u:Int} {x:ByteArray} {A B:Tree} {sa da sb db:Int} (h:qM ⟨k,f,t,u,x,0,0⟩ 2=0) (hA:GP A sa da) (hB:GP B sb db):GP (.mk k f t u x [A,B]) (1+(sa+sb)) (max da db+1):=by
 refine ⟨LP2 h hA.toLP hB.toLP,fun L hW h1 h2=>?_⟩;obtain ⟨o1,o2,o3⟩:=jEP h;have s1:=hA.s1;have d1:=hA.d1;have s2:=hB.s1;have d2:=hB.d1;rw [grow];rcases hA.grw L hW (by omega) (by omega) with ⟨r,M,e,i,w,s,dd,l⟩ | ⟨e,l⟩
 ·rw [zY,e,if_neg (by simp),if_pos rfl];simp only;rcases hB.grw (L++M) w (by omega) (by omega) with ⟨r2,M2,e2,i2,w2,ss2,dd2,l2⟩ | ⟨e2,l2⟩
  ·rw [zY,e2,if_neg (by simp),if_neg (by omega),zY];have hk:zH ⟨k,f,t,u,x,r,r2⟩=[r,r2]:=by simp [zH,← o2]
   rcases jUJ (n:=⟨k,f,t,u,x,r,r2⟩) w2 o1 (fun hh=>by simp only at hh;omega) (fun hh=>by simp only at hh;omega) o3 (by rw [hk];intro k hk;simp at hk;rcases hk with rfl | rfl;exact jEW i;exact i2) (sz:=1+(sa+sb)) (d:=max da db+1) (by rw [hk];simp [-List.append_assoc,jCM i,s,ss2]) (by rw [hk];simp [-List.append_assoc,jBB i,dd,dd2];omega) (by omega) with ⟨r',M',e',i',_,w',s',dd',l'⟩ | ⟨e',l'⟩
   ·exact .inl ⟨r',M++M2++M',by rw [← List.append_assoc,← List.append_assoc];exact e',by rw [← List.append_assoc,← List.append_assoc];exact i',by rw [← List.append_assoc,← List.append_assoc];exact w',by rw [← List.append_assoc,← List.append_assoc];exact s',by rw [← List.append_assoc,← List.append_assoc];exact dd',by rw [← List.append_assoc,← List.append_assoc];omega⟩
   ·exact .inr ⟨e',by omega⟩
  ·rw [zY,if_pos (by rw [e2];decide)];exact .inr ⟨e2,by omega⟩
 ·rw [zY,if_pos (by rw [e];decide)];exact .inr ⟨e,by omega⟩
theorem GP.of {T:Tree} {sz d:Int} (h:GP T sz d) (hs:sz≤4096) (hd:d≤64) {L:Pool} (hW:Wf L):(Sp.of L T).2.1=0∨(Sp.of L T=(0,6,L)∧65536<L.length+sz):=by
 unfold Sp.of;rw [h.yes 0 0 (by omega) (by omega) (by omega) (by omega),if_neg (by simp)];rcases h.grw L hW hs hd with ⟨r,M,e,_⟩ | ⟨e,l⟩
 ·rw [e];simp
 ·rw [if_pos (by rw [e];decide),e];exact .inr ⟨rfl,l⟩
theorem jAZ {x:ByteArray} (h:x.size≤64):GP (qL x) 1 1:=GP0 (by
 have e1:zV ⟨3,0,0,0,x,0,0⟩=0:=by kernel_rfl
 have e2:zU (shapeOf 3) ⟨3,0,0,0,x,0,0⟩=0:=by show (if false=true then (50:Int) else if x.size>64 then 1 else 0)=0;rw [if_neg (by simp),if_neg (by omega)]
 unfold qM;simp only [e1];simpa [shapeOf] using e2)
theorem jLQ (c:Int):GP (jDA c) 1 1:=GP0 (by kernel_rfl)
theorem jAC {a b:Tree} {sa da sb db:Int} (ha:GP a sa da) (hb:GP b sb db):GP (qU a b) (1+(sa+sb)) (max da db+1):=GP2 (by kernel_rfl) ha hb
theorem jEY {n:Int} (hn:n=0∨n=1∨n=2) {a:Tree} {sa da:Int} (ha:GP a sa da):GP (xW n a) (1+sa) (da+1):=GP1 (by rcases hn with rfl | rfl | rfl <;> kernel_rfl) ha
theorem jKO {n:Int} (hn:n=0∨n=1) {a:Tree} {g:Bool} {sa da:Int} (ha:GP a sa da):GP (yO n a g) (1+sa) (da+1):=by
 unfold yO;cases g
 ·exact GP1 (by rcases hn with rfl | rfl <;> kernel_rfl) ha
 ·exact GP1 (by rcases hn with rfl | rfl <;> kernel_rfl) ha
theorem jUR (c:Int) {x:ByteArray} (h:x.size≤64):GP (vX c x) 5 3:=jAC (jAZ (by decide)) (jAC (jLQ c) (jAZ h))
theorem jPP {l:Letter} (hf:l.frm=0∨l.frm=1) (hx:l.text.size≤64) (a b:Bool):∃sz d,GP (vK l a b) sz d∧sz≤40∧d≤20:=by
 unfold vK;have hd:=jUR l.c hx;split;· exact ⟨_,_,jKO hf hd,by omega,by omega⟩
 split;· exact ⟨_,_,jEY (hf.imp id .inl) hd,by omega,by omega⟩
 split;· exact ⟨_,_,jEY (.inl rfl) (jAC (jAZ (by decide)) (jLQ _)),by omega,by omega⟩
 split;· exact ⟨_,_,jEY (hf.imp id .inl) (jAC (jAZ (by decide)) (jAC (jKO (.inl rfl) hd) (jKO (.inr rfl) hd))),by omega,by omega⟩
 split;· exact ⟨_,_,jEY (.inr (.inr rfl)) (jAC (jAZ (by decide)) (jLQ _)),by omega,by omega⟩
 split;· exact ⟨_,_,jEY (.inr (.inr rfl)) (jAC (jAZ (by decide)) hd),by omega,by omega⟩
 exact ⟨_,_,jAC (jAZ (by decide)) (jLQ _),by omega,by omega⟩
end Go.Sp
end
section
open Go Go.SE
namespace Go.Proofs
open Tryz
attribute [local irreducible] Calls
abbrev MkR (S:Int×Int×Sp.Pool) (p:Addr) (F:NP) (w0 w':World):Prop:=∃F',qR w' p S.2.2 F'∧Ext F w0 w'∧∀b,F' b→F b∨w0.heap.size≤b
theorem jKZ (p:Addr) (l:Sp.Letter) (w0:World) {L:Sp.Pool} {F:NP} (hP:qR w0 p L F) (hok:Sp.Ok L) :
  Calls prog 27 #[.pointer (some p),.agg #[.int .i64 l.kind,.int .i64 l.frm,.int .u64 l.c,.string l.text,.bool l.fake]] w0 (fun e w'=>∃r1 r2:Int,e=.returned (.tuple #[.int .i64 r1,.int .i64 r2])∧(r1=(zX L l).1∧r2=(zX L l).2.1∧MkR (zX L l) p F w0 w')):=by
 refine w_K2 (some p) l.kind l.frm l.c l.text l.fake w0 (fun r1 r2 w'=>r1=(zX L l).1∧r2=(zX L l).2.1∧MkR (zX L l) p F w0 w') ?_
 unfold m_K2
 rw [jEK l]
 have hF:∀b,F b→b<w0.heap.size:=fun b hb=>hP.lt hb
 refine ⟨fun hc H w2 hs=>?_,fun hc H w2 hs=>?_⟩
 ·have e:zX L l=(0,Sp.letErr l,L):=by unfold zX;rw [if_pos (bne_iff_ne.1 hc)]
  rw [e];exact ⟨rfl,rfl,F,hP.pure hs.first,Ext.pure hs.first,fun b hb=>.inl hb⟩
 have hc:Sp.letErr l=0:=by simpa using hc
 have e:zX L l=Sp.of L (Sp.vK l true true):=by unfold zX;rw [if_neg (by simpa using hc)]
 rw [e]
 have E2:=hs.first
 refine (jIY w2.heap.size l.kind l.frm l.c l.text l.fake true true w2 (Nat.le_refl _) (jFX hc)).mono ?_
 rintro _ w3 ⟨s3,he,hT3,E3⟩
 have hT3:TreeAt (w2.heap.size≤·) w3 s3 (Sp.vK l true true):=hT3
 have he:_=Ending.returned (.agg (uT (Sp.vK l true true) s3).toArray):=he
 generalize Sp.vK l true true=T at *
 obtain ⟨tk,tf,tt,tu,tx,tks⟩:=T
 have he:_=Ending.returned (.agg #[.int .i64 tk,.int .i64 tf,.int .i64 tt,.int .u64 tu,.string tx,s3.v]):=he
 refine ⟨tk,tf,tt,tu,tx,s3,he,E3.keptP,?_⟩
 have E03:=E2.trans E3
 refine (jNK (S:=fun b=>w2.heap.size≤b∧b<w3.heap.size) p (.mk tk tf tt tu tx tks) s3 w3 hT3.lt (hP.pure E03) hok (fun b hb hh=>by have:=hF b hb;have:=E2.size;omega) (fun b hb=>hb.2)).mono ?_
 rintro _ w4 ⟨r1,r2,rfl,h12,F',hP4,X4,hF4⟩
 obtain ⟨e1,e2⟩:=Prod.mk.inj h12
 refine ⟨r1,r2,rfl,X4.kept (fun b hb hh=>by have:=hs.old b hb;have:=hF b hh;omega),e1,e2,F',hP4,(Ext.pure E03).trans X4,fun b hb=>(hF4 b hb).imp id (fun h=>by have:=E03.size;omega)⟩
theorem jJG (l:Sp.Letter) (hl:Sp.uI l.c) (w0:World) :
  Calls prog 29 #[.agg #[.int .i64 l.kind,.int .i64 l.frm,.int .u64 l.c,.string l.text,.bool l.fake]] w0 (fun e w'=>∃r:Sl,∃n:Int,e=.returned (.tuple #[r.v,.int .i64 n])∧(n=(Sp.tC l).2∧RetO w0 5 1 (byr (Sp.tC l).1) r w')):=by
 refine w_L2 _ _ _ _ _ w0 (fun r n w'=>n=(Sp.tC l).2∧RetO w0 5 1 (byr (Sp.tC l).1) r w') ?_
 unfold m_L2
 intro H1 w1 hs
 have E1:=hs.first
 refine (jKV w1).mono ?_
 rintro _ w2 ⟨_,rfl,p,F,rfl,hP,E2,hF⟩
 refine ⟨_,rfl,E2.keptP,?_⟩
 refine (jKZ p l w2 hP Sp.Wf.nil.ok).mono ?_
 rintro _ w3 ⟨r2,r3,rfl,e2,e3,F3,hP3,E3,hF3⟩
 have E02:=E1.trans E2
 have E03:Pure w0 w3:=E02.trans' E3 (fun i hi hf=>by have:=hF i hf;have:=E1.size;omega)
 refine ⟨_,_,rfl,E3.kept (fun b hb hf=>by have:=hs.lt b hb;have:=hF b hf;omega),fun hc=>?_,fun hc=>?_⟩
 ·have hc:=bne_iff_ne.1 hc
  have e:Sp.tC l=([],(zX [] l).2.1):=by unfold Sp.tC;rw [if_pos (by rw [← e3];exact hc)]
  rw [e]
  exact ⟨e3,Rws.nil _ _ _,fun b hb=>(by obtain ⟨a,ha,_⟩:=hb;cases ha),E03⟩
 ·have hc:r3=0:=by simpa using hc
  have e:Sp.tC l=jDO (zX [] l).2.2 (zX [] l).1:=by unfold Sp.tC;rw [if_neg (by rw [← e3];simpa using hc)]
  rw [e,← e2]
  refine (jFI p r2 w3 (Sp.tG Sp.Wf.nil l) (Sp.tS Sp.tI.nil hl) hP3).mono ?_
  rintro _ w4 ⟨r4,r5,rfl,e5,hR⟩
  exact ⟨_,_,rfl,hR.pure.keptP,e5,hR.rows,fun b hb=>by have:=hR.own b hb;have:=E03.size;omega,E03.trans hR.pure⟩
end Go.Proofs
end
section
open Go Go.SE
namespace Go.Sp
open Go.Proofs
theorem rdn0 (t k:Int):vB [] t k=(jDC,true):=by
 unfold vB;rw [if_neg];rintro ⟨h,_⟩;have:=vA.1 h;simp at this;omega
theorem read0 (t:Int):jNS [] t=(yZ,false):=by
 have hno:nodeOf [] t=jDC:=by unfold nodeOf get;split <;> simp
 unfold jNS jAW zZ;simp [hno,rdn0,jDC]
theorem rdeal0 (t:Int):jFQ [] t=(0,⟨#[]⟩,false):=by
 unfold jFQ vT zZ;simp [rdn0]
theorem bok {L:Pool} {l:Letter} (h:(zX L l).2.1=0) (hW:Wf L):letErr l=0∧inP (zX L l).2.2 (zX L l).1=true∧zI (zX L l).2.2 (zX L l).1=vK l true true:=by
 have hle:letErr l=0:=by
  unfold zX at h;split at h
  ·exact h
  ·rename_i h2;exact Classical.byContradiction h2
 have hb:zX L l=of L (vK l true true):=by unfold zX;rw [if_neg (by omega)]
 obtain ⟨t1,t2,_⟩:=jUH hW (by rw [← hb];exact h);rw [← hb] at t1 t2;exact ⟨hle,t1,t2⟩
theorem jMB {L:Pool} (hW:Wf L) {l:Letter} (h:letErr l=0):(zX L l).2.1=0∨zX L l=(0,6,L)∧65496<L.length:=by
 have e:zX L l=of L (vK l true true):=by unfold zX;rw [if_neg (by omega)]
 obtain ⟨k,f,c,x,g⟩:=l;obtain ⟨_,hf,_,_,_,hx⟩:=jCP h;obtain ⟨sz,d,hG,hs,hd⟩:=jPP (l:=⟨k,f,c,x,g⟩) hf hx true true;rw [e];rcases hG.of (by omega) (by omega) hW with h1 | ⟨h1,h2⟩
 ·exact .inl h1
 ·exact .inr ⟨h1,by omega⟩
theorem built {L:Pool} (hW:Wf L) {l:Letter} (h:(zX L l).2.1=0):jNS (zX L l).2.2 (zX L l).1=(l,true)∧jDO (zX L l).2.2 (zX L l).1=tC l:=by
 obtain ⟨h0,h1,h2⟩:=bok h hW;have w1:=tG hW l;refine ⟨?_,?_⟩
 ·unfold jNS;rw [jRH w1 h1 (by rw [h2];exact ⟨h0,l.fake,l.fake,fun _=>by simp,by unfold vK;simp⟩),if_neg (by simp)]
 ·have hn : (zX [] l).2.1 = 0 := by
   rcases jMB Wf.nil h0 with h | ⟨_,h⟩
   ·exact h
   ·simp at h
  obtain ⟨_,k1,k2⟩:=bok hn Wf.nil;have w2:=tG Wf.nil l;have:=jJS w1 w2 h1 k1 (h2.trans k2.symm);unfold tC;rw [if_neg (by omega)];unfold jDO;rw [if_pos h1,if_pos k1,this]
end Go.Sp
namespace Go.Proofs
open Tryz
attribute [local irreducible] Calls
theorem jVC (p:Addr) (x:ByteArray) (w0:World) {L:Sp.Pool} {F:NP} (hP:zO w0 p L F) (hok:Sp.Ok L):Calls prog 47 #[.pointer (some p),.string x] w0 (MakePost p L F w0 ⟨3,0,0,0,x,0,0⟩):=by
 refine w_P2 _ _ w0 (fun r1 r2 w'=>(r1,r2)=((Sp.make L ⟨3,0,0,0,x,0,0⟩).1,(Sp.make L ⟨3,0,0,0,x,0,0⟩).2.1)∧∃F',zO w' p (Sp.make L ⟨3,0,0,0,x,0,0⟩).2.2 F'∧Ext F w0 w'∧∀b,F' b→F b∨w0.heap.size≤b) ?_;unfold m_P2;refine (jJL p _ _ _ _ _ _ _ w0 hP hok).mono ?_;rintro _ w1 ⟨r1,r2,rfl,h⟩;exact ⟨r1,r2,rfl,h⟩
theorem jSS (l:Sp.Letter) (w0:World):Calls prog 26 #[.pointer none,.agg #[.int .i64 l.kind,.int .i64 l.frm,.int .u64 l.c,.string l.text,.bool l.fake]] w0 (fun e w'=>∃r1 r2:Int,e=.returned (.tuple #[.int .i64 r1,.int .i64 r2])∧(r1=0∧r2=(if Sp.letErr l≠0 then Sp.letErr l else 2)∧Pure w0 w')):=by
 refine w_V1 none l.kind l.frm l.c l.text l.fake w0 (fun r1 r2 w'=>r1=0∧r2=(if Sp.letErr l≠0 then Sp.letErr l else 2)∧Pure w0 w') ?_;unfold m_V1;intro H1 w1 hs1;refine (jCE l w1).mono ?_;rintro _ w2 ⟨_,rfl,rfl,E2⟩;have E:Pure w0 w2:=hs1.first.trans E2;refine ⟨_,rfl,E2.keptP,fun h=>?_,fun h=>⟨fun _=>?_,fun h=>by cases h⟩⟩
 ·exact ⟨rfl,by rw [if_pos (by simpa using h)],E⟩
 ·exact ⟨rfl,by rw [if_neg (by simpa using h)],E⟩
theorem jSZ (l:Sp.Letter) (hl:Sp.uI l.c) (he:Sp.letErr l=0) (p:Addr) (w0 w:World) (ht:Pow w0) {H F:NP} {M:Sp.Pool} (hP:zO w p M F) (hW:Sp.Wf M) (hN:Sp.tI M) (E0:Pure w0 w) (hF:∀b,F b→w0.heap.size≤b∧¬ H b) (hH:∀b,H b→b<w.heap.size) :
  m_M_j1 l.kind l.frm l.c l.text l.fake (some p) w0 H w (fun r w'=>r=true∧Pure w0 w'):=by
 unfold m_M_j1
 refine (uN p w hP).mono ?_
 rintro _ w' ⟨_,rfl,rfl,hw'⟩
 subst w'
 refine ⟨_,rfl,Kept.refl _,?_⟩
 refine (jLB p l w hP hW.ok).mono ?_
 rintro _ w1 ⟨r1,r2,rfl,e1,e2,F1,hP1,E1,hF1⟩
 have E01:Pure w0 w1:=E0.trans' E1 (fun i hi hf=>by have:=(hF i hf).1;omega)
 have hd1:∀b,F1 b→b<w1.heap.size∧¬ H b:=fun b hb=>⟨hP1.lt hb,(hF1 b hb).elim (fun h=>(hF b h).2) (fun h hh=>by have:=hH b hh;omega)⟩
 refine ⟨_,_,rfl,E1.kept (fun b hh hf=>(hF b hf).2 hh),fun h=>?_,fun h=>?_⟩
 ·have ho : zX M l = (0, 6, M) := by
   rcases Sp.jMB hW he with h0 | h0
   ·rw [e2,h0] at h;simp at h
   ·exact h0.1
  rw [ho] at e1 e2 hP1
  subst e1;subst e2
  refine ⟨fun _=>?_,fun h=>by simp at h⟩
  intro H2 w2 hs2
  have E02:Pure w0 w2:=E01.hst hs2
  have hP2:zO w2 p M F1:=hP1.ext hs2.ext (hs2.disj hd1)
  refine (uN p w2 hP2).mono ?_
  rintro _ w' ⟨_,rfl,rfl,hw'⟩
  subst w'
  refine ⟨_,rfl,Kept.refl _,?_⟩
  unfold m_M_j2
  refine ⟨fun _=>?_,fun h=>by simp at h⟩
  refine (jDW w2 (yY ht E02)).mono ?_
  rintro _ w3 ⟨_,rfl,rfl,E3⟩
  exact ⟨_,rfl,E3.keptP,rfl,E02.trans E3⟩
 ·have h0:(zX M l).2.1=0:=by rw [← e2];simpa using h
  obtain ⟨hr,hE⟩:=Sp.built hW h0
  have W1:=Sp.tG hW l
  have N1:=Sp.tS hN hl
  subst e1
  intro w2 hs2
  have E02:Pure w0 w2:=E01.hst hs2
  have hP2:zO w2 p (zX M l).2.2 F1:=hP1.ext hs2.ext (hs2.disj hd1)
  have hd2:∀b,F1 b→b<w2.heap.size∧¬ H b:=fun b hb=>⟨hP2.lt hb,(hd1 b hb).2⟩
  refine (uJ p _ w2 hP2 W1.ok).mono ?_
  rintro _ w3 ⟨k,f,c,x,g,ok,rfl,hrd,E3⟩
  rw [hr] at hrd
  obtain ⟨hll,rfl⟩:=Prod.mk.inj hrd
  subst hll
  refine ⟨_,_,_,_,_,_,rfl,E3.keptP,fun H4 w4 hs4=>?_⟩
  have E04:Pure w0 w4:=(E02.trans E3).hst hs4
  have hP4:zO w4 p _ F1:=(hP2.pure E3).ext hs4.ext (hs4.disj (fun b hb=>⟨by have:=(hd2 b hb).1;have:=E3.size;omega,(hd2 b hb).2⟩))
  refine (jLZ p _ w4 W1 N1 hP4).mono ?_
  rintro _ w5 ⟨r5,n5,rfl,_,R5⟩
  rw [hE] at R5
  refine ⟨_,_,rfl,R5.kept,?_⟩
  refine (jJG _ hl w5).mono ?_
  rintro _ w6 ⟨r6,n6,rfl,_,R6⟩
  refine ⟨_,_,rfl,R6.kept,?_⟩
  rintro y rfl
  refine ⟨fun _=>?_,fun h=>?_⟩
  ·intro H7 w7 hs7
   have E46:=R5.pure.trans R6.pure
   have E07:Pure w0 w7:=(E04.trans E46).hst hs7
   have S5:Rws w7 5 1 r5 _:=(R5.rows.pure R6.pure).ext hs7.ext (fun b hb hh=>(hs7.new b hh).elim (fun h=>by have:=hs4.lt b h;have:=R5.own b hb;omega) (fun h=>by have:=(R5.rows.pure R6.pure).lt hb;omega))
   have S6:Rws w7 5 1 r6 _:=R6.rows.ext hs7.ext (fun b hb hh=>(hs7.new b hh).elim (fun h=>by have:=hs4.lt b h;have:=R6.own b hb;have:=R5.pure.size;omega) (fun h=>by have:=R6.rows.lt hb;omega))
   refine ⟨_,jST S5.lst,_,jST S6.lst,?_⟩
   unfold m_M_j3
   refine ⟨fun _=>?_,fun h=>by simp at h⟩
   refine (jDW w7 (yY ht E07)).mono ?_
   rintro _ w8 ⟨_,rfl,rfl,E8⟩
   exact ⟨_,rfl,E8.keptP,rfl,E07.trans E8⟩
  ·rw [Sp.jKJ] at h
   simp at h
theorem jCT (l:Sp.Letter) (hl:Sp.uI l.c) (t left:Int) (w0:World) (ht:Pow w0) :
  Calls prog 7 #[.agg #[.int .i64 l.kind,.int .i64 l.frm,.int .u64 l.c,.string l.text,.bool l.fake],.int .i64 t,.int .i64 left] w0 (fun e w'=>∃r:Bool,e=.returned (.bool r)∧(r=true∧Pure w0 w')):=by
 refine w_M _ _ _ _ _ t left w0 (fun r w'=>r=true∧Pure w0 w') ?_
 unfold m_M
 have hPN:∀w,jCG w none [] None:=fun w=>⟨rfl,fun _ h=>h⟩
 have hok:Sp.Ok []:=Sp.Wf.nil.ok
 have live:∀{w H w1},Pure w0 w→Hst w0 H w H w1→True:=fun _ _=>trivial
 refine ⟨fun _=>?_,fun _=>?_⟩
 ·intro H1 w1 hs1
  refine (jDW w1 (yY ht hs1.first)).mono ?_
  rintro _ w2 ⟨_,rfl,rfl,E⟩
  exact ⟨_,rfl,E.keptP,rfl,hs1.first.trans E⟩
 intro H1 w1 hs1
 have E1:Pure w0 w1:=hs1.first
 refine (jSS l w1).mono ?_
 rintro _ w2 ⟨r2,r3,rfl,rfl,e3,E2⟩
 refine ⟨_,_,rfl,E2.keptP,?_⟩
 refine (jQI none l.c l.text w2 (hPN w2) hok).mono ?_
 rintro _ w3 ⟨r4,r5,rfl,rfl,e5,E3⟩
 refine ⟨_,_,rfl,E3.keptP,?_⟩
 refine (jAS none t w3 (hPN w3) hok).mono ?_
 rintro _ w4 ⟨k,f,c,x,g,ok,rfl,hr,E4⟩
 rw [Sp.read0] at hr
 obtain ⟨hl2,rfl⟩:=Prod.mk.inj hr
 simp only [Sp.yZ,Sp.Letter.mk.injEq] at hl2
 obtain ⟨rfl,rfl,rfl,rfl,rfl⟩:=hl2
 refine ⟨_,_,_,_,_,_,rfl,E4.keptP,fun H5 w5 hs5=>?_⟩
 have E5:Pure w0 w5:=(((E1.trans E2).trans E3).trans E4).hst hs5
 refine (jJH none t w5 (hPN w5) hok).mono ?_
 rintro _ w6 ⟨c6,x6,g6,rfl,hr6,E6⟩
 rw [Sp.rdeal0] at hr6
 simp only [Prod.mk.injEq] at hr6
 obtain ⟨rfl,rfl,rfl⟩:=hr6
 have E06:=E5.trans E6
 refine ⟨_,_,_,rfl,E6.keptP,?_⟩
 rintro y1 rfl y2 rfl
 rw [jEK]
 have hb:r3=cond ((Sp.letErr l:Int) == 0) 2 (Sp.letErr l):=by
  rw [e3];by_cases h:Sp.letErr l=0
  ·rw [if_neg (by simpa using h),h];rfl
  ·rw [if_pos h];have:(Sp.letErr l == 0)=false:=by simpa using h
   rw [this];rfl
 have hc:r5=cond (decide ((l.text.size:Int)>64)) 1 2:=by
  rw [e5];by_cases h:l.text.size>64
  ·rw [if_pos h];have:decide ((l.text.size:Int)>64)=true:=decide_eq_true (by omega);rw [this];rfl
  ·rw [if_neg h];have:decide ((l.text.size:Int)>64)=false:=decide_eq_false (by omega);rw [this];rfl
 refine ⟨fun h=>?_,fun _=>?_⟩
 ·exfalso
  rw [← hb,← hc] at h
  simp at h
 rintro y3 rfl
 refine ⟨fun _=>?_,fun h=>?_⟩
 ·intro H7 w7 hs7
  have E07:Pure w0 w7:=E06.hst hs7
  refine (jDW w7 (yY ht E07)).mono ?_
  rintro _ w8 ⟨_,rfl,rfl,E⟩
  exact ⟨_,rfl,E.keptP,rfl,E07.trans E⟩
 simp only [Bool.or_eq_false_iff,decide_eq_false_iff_not,bne_eq_false_iff_eq] at h
 obtain ⟨⟨hl0,hl1⟩,he⟩:=h
 intro H7 w7 hs7
 have E07:Pure w0 w7:=E06.hst hs7
 refine (jQN w7).mono ?_
 rintro _ w8 ⟨_,rfl,p,rfl,E8,F,hP,hF⟩
 have E08:=E07.trans E8
 refine ⟨_,rfl,E8.keptP,⟨fun h=>(by cases h),fun _=>?_⟩⟩
 have hw:IntKind.i64.wrap (65536 - left)=65536 - left:=IntWalk.i64_in _ (by omega)
 refine ⟨fun i H w=>0≤i∧∃M F,zO w p M F∧Sp.Wf M∧Sp.tI M∧(∀b,F b→w0.heap.size≤b∧¬ H b)∧Pure w0 w,fun i _=>(65536 - left - i).toNat,⟨by omega,[],F,hP,Sp.Wf.nil,Sp.tI.nil,fun b hb=>⟨by have:=hF b hb;have:=E07.size;omega,fun hh=>by have:=hF b hb;have:=hs7.lt b hh;omega⟩,E08⟩,?_⟩
 rintro i H w hs ⟨hi,M,F,hP,hW,hN,hF,E⟩
 unfold m_M_l4
 rw [hw]
 refine ⟨fun hlt=>?_,fun _=>jSZ l hl he p w0 w ht hP hW hN E hF hs.lt⟩
 have hlt:=of_decide_eq_true hlt
 refine (c_Hash p w hP hW.ok 1).mono ?_
 rintro _ w1 ⟨_,_,rfl,h1,F1,hP1,X1,hF1⟩
 have E01:Pure w0 w1:=E.trans' X1 (fun i hi hf=>by have:=(hF i hf).1;omega)
 refine ⟨_,_,rfl,X1.kept (fun b hh hf=>(hF b hf).2 hh),?_⟩
 have hd1:∀b,F1 b→w0.heap.size≤b∧¬ H b:=fun b hb=>(hF1 b hb).elim (hF b) (fun h=>⟨by have:=E.size;omega,fun hh=>by have:=hs.lt b hh;omega⟩)
 have hui:IntKind.u64.wrap i=(i.toNat:Int):=by
  have:=vV (n:=i.toNat) (by omega);rwa [Int.toNat_of_nonneg hi] at this ⊢
 rw [hui]
 refine (jSQ i.toNat (by omega) w1).mono ?_
 rintro _ w' ⟨x,rfl,_,hw'⟩
 subst w'
 refine ⟨_,rfl,Kept.refl _,?_⟩
 have W1:=Sp.xQ hW ⟨5,0,0,0,⟨#[]⟩,1,0⟩
 have N1:=hN.make (n:=⟨5,0,0,0,⟨#[]⟩,1,0⟩) Sp.jDK
 refine (jVC p x w1 hP1 W1.ok).mono ?_
 rintro _ w2 ⟨_,_,rfl,h2,F2,hP2,X2,hF2⟩
 have E02:Pure w0 w2:=E01.trans' X2 (fun i hi hf=>by have:=(hd1 i hf).1;omega)
 refine ⟨_,_,rfl,X2.kept (fun b hh hf=>(hd1 b hf).2 hh),?_⟩
 have hs1:w.heap.size≤w1.heap.size:=X1.size
 have hd2:∀b,F2 b→w0.heap.size≤b∧¬ H b:=fun b hb=>(hF2 b hb).elim (hd1 b) (fun h=>⟨by have:=E01.size;omega,fun hh=>by have:=hs.lt b hh;omega⟩)
 have W2:=Sp.xQ W1 ⟨3,0,0,0,x,0,0⟩
 have N2:=N1.make (n:=⟨3,0,0,0,x,0,0⟩) Sp.jDK
 refine (uN p w2 hP2).mono ?_
 rintro _ w' ⟨_,rfl,rfl,hw'⟩
 subst w'
 refine ⟨_,rfl,Kept.refl _,fun _=>?_,fun _=>?_⟩
 ·exact jSZ l hl he p w0 w2 ht hP2 W2 N2 E02 hd2 (fun b hh=>by have:=hs.lt b hh;have:=X2.size;omega)
 ·have hwi:IntKind.i64.wrap (i+1)=i+1:=IntWalk.i64_in _ (by omega)
  rw [hwi]
  exact ⟨⟨by omega,_,F2,hP2,W2,N2,hd2,E02⟩,by show (65536 - left - (i+1)).toNat<(65536 - left - i).toNat;omega⟩
end Go.Proofs
end
section
namespace Go.SE
open Go.ChangeShapes Go.WideShapes Go.ChangeAt Go.RowKit
section
variable {H:Type} {enc:TypeId×Value→H} {P:Program}
theorem jCF (hl:laidOutB P=true) {W W':World} (hb:Below W.heap.size W W'):∀(ts:List TypeId) (vs:List Value) (ds:List (DataW H)) (ps:List MemPlace),(ts.all fun t=>P.readableRec t && decide (t<P.types.size))=true →
  DataW.TrodAll enc P W 0 (fun _=>true) true ts vs ds ps→(∀x∈ps,x.block<W.heap.size)→DataW.TrodAll enc P W' 0 (fun b=>decide (b<W.heap.size)) true ts vs ds ps
 | [],_,_,_,_,h,_=>by
  obtain ⟨rfl,rfl,rfl⟩:=trodAll_nil h;exact h
 | t :: ts,_,_,_,hr,h,hlt=>by
  obtain ⟨v,vs1,d,ds1,a,b,rfl,rfl,rfl,h1,h2⟩:=trodAll_cons h;simp only [List.all_cons,Bool.and_eq_true,decide_eq_true_eq] at hr;exact ⟨a,b,Below.trod hl hr.1.1 hr.1.2 h1 hb (fun x hx=>hlt x (by simp [hx])),jCF hl hb ts vs1 ds1 b (by simpa using hr.2) h2 (fun x hx=>hlt x (by simp [hx])),rfl⟩
theorem jRW {f:Func} {s:ChangeSpec} {W W':World} {args:Array Value} {ds gs:List (DataW H)} {before:List MemPlace} {t:TypeId} (hl:laidOutB P=true)
  (hv:s.vars=[]) (hf:∀ds:List (DataW H),ds.length=f.params.size→s.fn H ds={ results:=[.lit (.bool true)],args:=ds }) (hrt:f.resultTypes=#[t]) (ht:P.underlying t=some .bool)
  (hr:(f.params.toList.all fun t=>P.readableRec t && decide (t<P.types.size))=true)
  (hW:DataW.Whole enc P f.params.toList s.vars false W args.toList ds gs before) (E:Pure W W') :
  s.post enc P f false true false false W args (.bool true) W':=by
 have hW':=hW
 obtain ⟨p,q,hA,hV,rfl,hfz,hnd⟩:=hW
 rw [hv] at hV
 obtain ⟨rfl,rfl⟩:=trodVars_none hV
 have hlen:ds.length=f.params.size:=by
  have:∀(ts:List TypeId) (vs:List Value) (ds:List (DataW H)) (ps:List MemPlace),DataW.TrodAll enc P W 0 (fun _=>true) true ts vs ds ps→ds.length=ts.length:=by
   intro ts;induction ts with
   | nil=>intro vs ds ps h;obtain ⟨_,rfl,_⟩:=trodAll_nil h;rfl
   | cons t ts ih =>
    intro vs ds ps h
    obtain ⟨v,vs1,d,ds1,a,b,_,rfl,_,_,h2⟩:=trodAll_cons h
    simp [ih _ _ _ h2]
  simpa using this _ _ _ _ hA
 have hfn:=hf ds hlen
 have hfn':s.fn H (ds++[])={ results:=[.lit (.bool true)],args:=ds }:=by rw [List.append_nil];exact hfn
 have hlt:∀x∈p,x.block<W.heap.size:=fun x hx=>by simpa using hW'.lt x (by simp [hx])
 have bel:=E.below
 refine ⟨ds,[],p++[],[],p,[],hW',?_,?_,?_,bel.frame _,fun h=>by cases h⟩
 ·rw [hfn',hrt];exact trodAll_mk1 (shut_bool ht _)
 ·rw [hfn'];exact jCF hl bel _ _ _ _ hr hA hlt
 ·rw [hfn',hv];exact hV
end
end Go.SE
namespace Go.SE
open Go.ChangeShapes Go.WideShapes Go.ChangeAt Go.RowKit
section
variable {P:Program} {W:World} {r:Reach} {b0:Nat} {t:TypeId} {v:Value}
theorem jIA {fs:Array Field} {ts:List TypeId} (ht:P.underlying t=some (.struct fs)) (hc:P.cellTypes P.depth t=some ts) (hn:P.cellsOf t=ts.length) (h:Value.okWide P W r b0 t v) :
  ∃cs:Array Value,v=.agg cs∧cs.size=ts.length∧∀(i:Nat) (u:TypeId) (c:Value),ts[i]?=some u→cs[i]?=some c→Cell.okWide P W r b0 u c:=by
 unfold Value.okWide at h
 rw [ht] at h
 obtain ⟨cs,rfl,hs,ts',hts,_,hall⟩:=h
 rw [hc] at hts
 cases hts
 refine ⟨cs,rfl,hs.trans hn,fun i u c hu hcs=>?_⟩
 obtain ⟨u',hu',hok⟩:=hall i c hcs
 have hlt:i<ts.length:=(List.getElem?_eq_some_iff.1 hu).1
 rw [Nat.mod_eq_of_lt hlt,hu] at hu'
 cases hu'
 exact hok
end
end Go.SE
end
section
open Go Go.SE
namespace Go.Proofs
theorem jFU {α β:Type} {f:α→Option β}:∀{l:List α} {r:List β},l.mapM f=some r→r.length=l.length∧∀(i:Nat) (a:α),l[i]?=some a→∃b,f a=some b∧r[i]?=some b
 | [],r,h=>by
  have:r=[]:=by simpa using h.symm
  subst this;exact ⟨rfl,fun i a h=>by simp at h⟩
 | x :: xs,r,h=>by
  rw [List.mapM_cons] at h;cases hx:f x with
  | none=>simp [hx] at h
  | some y =>
   cases hxs:xs.mapM f with
   | none=>simp [hx,hxs] at h
   | some ys =>
    have:r=y :: ys:=by simpa [hx,hxs] using h.symm
    subst this
    obtain ⟨h1,h2⟩:=jFU hxs
    refine ⟨by simp [h1],fun i a ha=>?_⟩
    cases i with
    | zero=>cases ha;exact ⟨y,hx,rfl⟩
    | succ i=>exact h2 i a (by simpa using ha)
section
variable {H:Type} {enc:TypeId×Value→H} {P:Program} {W:World} {base:Nat} {sp:Nat→Bool} {held:Bool}
theorem jHM {t:TypeId} {k:IntKind} (ht:P.underlying t=some (.int k)) {n:Nat} {c:Value} {x:DataW H×List MemPlace} (h:DataW.trod enc P W base sp held n t [c]=some x):∃m,c=.int k m:=by
 cases n with
 | zero=>cases h
 | succ n =>
  rw [DataW.trod_step] at h
  unfold DataW.trodStep at h
  rw [ht] at h
  cases c <;> simp at h
  obtain ⟨⟨rfl,_⟩,_⟩:=h
  exact ⟨_,rfl⟩
theorem jQX {t:TypeId} (ht:P.underlying t=some (.int .u64)) {n:Nat} {c:Value} {x:DataW H×List MemPlace} (h:DataW.trod enc P W base sp held n t [c]=some x):∃m,c=.int .u64 m∧Sp.uI m:=by
 cases n with
 | zero=>cases h
 | succ n =>
  rw [DataW.trod_step] at h
  unfold DataW.trodStep at h
  rw [ht] at h
  cases c with
  | int k z =>
   simp only at h
   split at h
   ·rename_i hw
    obtain ⟨rfl,hw⟩:=hw
    have h1:IntKind.u64.min=0:=by rfl
    have h2:IntKind.u64.max=18446744073709551615:=by rfl
    simp only [Lit.wf,Bool.and_eq_true,decide_eq_true_eq,h1,h2] at hw
    exact ⟨z,rfl,by omega,by omega⟩
   ·cases h
  | _=>simp at h
theorem jOF {t:TypeId} (ht:P.underlying t=some .string) {n:Nat} {c:Value} {x:DataW H×List MemPlace} (h:DataW.trod enc P W base sp held n t [c]=some x):∃m,c=.string m:=by
 cases n with
 | zero=>cases h
 | succ n =>
  rw [DataW.trod_step] at h
  unfold DataW.trodStep at h
  rw [ht] at h
  cases c <;> simp at h
  exact ⟨_,rfl⟩
end
end Go.Proofs
end
section
open Go Go.SE
namespace Go.Sp
def Dep (L:Pool) (S:List Way) (t y:Int):Prop :=
 (∃v∈S,v.t=t∧v.rule≠0∧y=v.frm)∨(t ∉ jAN S∧0<y∧(y=(jUL L S t).1∨y=(jUL L S t).2.1))
inductive Dp (L:Pool) (S:List Way):Int→Int→Prop
 | refl (t:Int):Dp L S t t
 | step {t y z:Int}:Dep L S t y→Dp L S y z→Dp L S t z
theorem Dep.made {L:Pool} {S:List Way} {t y a b:Int} {f m:Bool} (h:jUL L S t=(a,b,f,m)) (ht:t ∉ jAN S):Dep L S t y↔0<y∧(y=a∨y=b):=by
 unfold Dep;rw [h];constructor
 ·rintro (⟨v,hv,rfl,_⟩ | ⟨_,h⟩)
  ·exact absurd (List.mem_map.2 ⟨v,hv,rfl⟩) ht
  ·exact h
 ·exact fun h=>.inr ⟨ht,h⟩
theorem Dep.way {L:Pool} {S:List Way} {t y r f:Int} (hn:(jAN S).Nodup) (hl:SE.look (S.map fun v=>(v.t,(v.rule,v.frm))) t=some (r,f)):Dep L S t y↔r≠0∧y=f:=by
 have hm:=jBX hl;obtain ⟨v,hv,e⟩:=List.mem_map.1 hm;simp only [Prod.mk.injEq] at e;obtain ⟨rfl,rfl,rfl⟩:=e;have hk:v.t∈jAN S:=List.mem_map.2 ⟨v,hv,rfl⟩;unfold Dep;constructor
 ·rintro (⟨u,hu,e,hr,rfl⟩ | ⟨h,_⟩)
  ·have hnd:((S.map fun v=>(v.t,(v.rule,v.frm))).map Prod.fst).Nodup:=by rw [List.map_map];exact hn
   have h2:=jKI hnd (List.mem_map.2 ⟨u,hu,rfl⟩);rw [e,hl] at h2;simp only [Option.some.injEq,Prod.mk.injEq] at h2;exact ⟨by rw [h2.1];exact hr,h2.2.symm⟩
  ·exact absurd hk h
 ·rintro ⟨h1,rfl⟩;exact .inl ⟨v,hv,rfl,h1,rfl⟩
theorem Dp.all {L:Pool} {S:List Way} {M:List Step} (hc:∀s∈M,∀y,Dep L S s.t y→y∈M.map Step.t) {t x:Int} (ht:t∈M.map Step.t) (h:Dp L S t x):x∈M.map Step.t:=by
 induction h with
 | refl=>exact ht
 | step hd _ ih =>
  obtain ⟨s,hs,rfl⟩:=List.mem_map.1 ht
  exact ih (hc s hs _ hd)
end Go.Sp
namespace Go.Proofs
attribute [local irreducible] Calls
section
variable {w w':World} {k p c1 c2 c3 c4 c5:Addr} {ma mb:Nat} {L:Sp.Pool} {G:List Int} {S:List Sp.Way} {F FP:NP} {sl:Sl} {l:List Sp.Step} {B:List Int}
end
section
variable {w0 w w':World} {H H':NP} {k p c1 c2 c3 c4 c5:Addr} {ma mb:Nat} {L:Sp.Pool} {G:List Int} {S:List Sp.Way} {F FP:NP} {sl sl1 sl2:Sl} {l M M2:List Sp.Step} {B0 B B2:List Int} {t:Int}
end
end Go.Proofs
end
section
open Go Go.SE
namespace Go.Proofs
section
variable {H:Type} {enc:TypeId×Value→H} {P:Program} {W:World} {base:Nat} {sp:Nat→Bool} {held:Bool}
theorem jJR {t:TypeId} {fs:Array Field} (ht:P.underlying t=some (.struct fs)) {n:Nat} {cs:List Value} {x:DataW H×List MemPlace} (h:DataW.trod enc P W base sp held n t cs=some x) :
  ∃m,cs.length=P.cellsOf t∧∀(i:Nat) (f:Field),fs.toList[i]?=some f→∃y,DataW.trod enc P W base sp held m f.type ((cs.drop f.offset).take (P.cellsOf f.type))=some y:=by
 cases n with
 | zero=>cases h
 | succ n =>
  rw [DataW.trod_step] at h
  unfold DataW.trodStep at h
  rw [ht] at h
  simp only at h
  split at h
  ·rename_i hl
   cases hm:fs.toList.mapM (fun f=>DataW.trod enc P W base sp held n f.type ((cs.drop f.offset).take (P.cellsOf f.type))) with
   | none=>rw [hm] at h;cases h
   | some r =>
    refine ⟨n,hl,fun i f hf=>?_⟩
    obtain ⟨b,hb,_⟩:=(jFU hm).2 i f hf
    exact ⟨b,hb⟩
  ·cases h
end
section
variable {H:Type} {enc:TypeId×Value→H} {W:World} {base:Nat} {sp:Nat→Bool} {held:Bool}
end
end Go.Proofs
end
section
open Go Go.SE
namespace Go.SE
theorem Rws.lit {w w':World} {p:Addr} {cs:Array Value} {e:TypeId} {sz:Nat} {rs:List (List Value)} (hn:New w (.cells cs e) p w') (hc:cs.toList=rs.flatten) (hl:∀r∈rs,r.length=sz) (hm:rs.length≤maxLen):Rws w' e sz ⟨some p,rs.length,rs.length⟩ rs:=by
 obtain ⟨hp,hw⟩:=hn;have hsz:cs.size=rs.length*sz:=by rw [← vL hl,← hc,Array.length_toList]
 refine ⟨hl,rfl,.inr ⟨w.heap.size,cs,by rw [hp],?_,Nat.le_refl _,hm,hsz,?_⟩⟩
 ·rw [hw];exact heap_alloc_new w _
 ·rw [hc,List.take_of_length_le (by rw [vL hl];exact Nat.le_refl _)]
end Go.SE
namespace Go.Proofs
def lrow (l:Sp.Letter):List Value:=[.int .i64 l.kind,.int .i64 l.frm,.int .u64 l.c,.string l.text,.bool l.fake]
end Go.Proofs
end
section
open Go Go.SE
namespace Go.Proofs
open Tryz
section
variable {H:Type} {enc:TypeId×Value→H} {P:Program} {W:World} {base:Nat} {sp:Nat→Bool} {held:Bool}
theorem jMI {t:TypeId} (ht:P.underlying t=some .bool) {n:Nat} {c:Value} {x:DataW H×List MemPlace} (h:DataW.trod enc P W base sp held n t [c]=some x):∃m,c=.bool m:=by
 cases n with
 | zero=>cases h
 | succ n =>
  rw [DataW.trod_step] at h
  unfold DataW.trodStep at h
  rw [ht] at h
  cases c <;> simp at h
  exact ⟨_,rfl⟩
end
set_option maxRecDepth 100000 in
theorem jIH {H:Type} {enc:TypeId×Value→H} {W:World} {base:Nat} {sp:Nat→Bool} {held:Bool} {n:Nat} {cs:List Value} {x:DataW H×List MemPlace} (h:DataW.trod enc prog W base sp held n 56 cs=some x):∃l:Sp.Letter,cs=lrow l∧Sp.uI l.c:=by
 obtain ⟨m,hl,hf⟩:=jJR underlying56 h;rw [show (prog.cellsOf 56)=5 by kernel_rfl] at hl;match cs,hl with
 | [c0,c1,c2,c3,c4],_ =>
  obtain ⟨_,h0⟩:=hf 0 _ rfl
  obtain ⟨_,h1⟩:=hf 1 _ rfl
  obtain ⟨_,h2⟩:=hf 2 _ rfl
  obtain ⟨_,h3⟩:=hf 3 _ rfl
  obtain ⟨_,h4⟩:=hf 4 _ rfl
  simp only [show (prog.cellsOf 3)=1 by kernel_rfl,show (prog.cellsOf 26)=1 by kernel_rfl,show (prog.cellsOf 9)=1 by kernel_rfl,show (prog.cellsOf 4)=1 by kernel_rfl] at h0 h1 h2 h3 h4
  obtain ⟨m0,rfl⟩:=jHM underlying3 h0
  obtain ⟨m1,rfl⟩:=jHM underlying3 h1
  obtain ⟨m2,rfl,hm⟩:=jQX underlying26 h2
  obtain ⟨m3,rfl⟩:=jOF underlying9 h3
  obtain ⟨m4,rfl⟩:=jMI underlying4 h4
  exact ⟨⟨m0,m1,m2,m3,m4⟩,rfl,hm⟩
end Go.Proofs
end
