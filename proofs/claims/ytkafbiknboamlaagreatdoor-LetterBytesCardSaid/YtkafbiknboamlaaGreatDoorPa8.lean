import Derived.Test.YtkafbiknboamlaaGreatDoorProg
import Derived.KernelRfl
import Derived.Test.YtkafbiknboamlaaGreatDoorPa2
import Derived.Test.YtkafbiknboamlaaGreatDoorPa3
import Derived.Test.YtkafbiknboamlaaGreatDoorPa7
import Derived.ProofKit
import Derived.Carry
import Derived.OpenShut
import Derived.Stop.Joined
import Derived.Test.YtkafbiknboamlaaGreatDoorPa6
import Derived.Test.YtkafbiknboamlaaGreatDoorPa5
section
open Go Go.SE
namespace Go.Proofs
open Tryz
set_option maxRecDepth 100000
set_option maxHeartbeats 4000000
attribute [local irreducible] wpL wpX opE wpE Calls
def s_H2 (e1:Int):Int :=e1
theorem pw_H2 (e1:Int) (w0:World) :
  Calls prog 30 #[(vi e1)] w0 (fun e w'=>(e=.returned (vi e1))∧Pure w0 w'):=by
 refine cw (args:=[(vi e1)]) func30 ntmps30 (eg (q0 (vi 0) (ln (eg (q0 (vi e1) (q0 (vi e1) (ln ?_)))))))
 refine er (rs1 results30 (v:=(vi e1)) ⟨by kernel_rfl,Ext.refl _⟩)
theorem p_H2 (e1:Int) (w0:World):Calls prog 30 #[(.int .i64 e1)] w0 (fun e w'=>e=.returned (.int .i64 (s_H2 e1))∧Pure w0 w'):=pw_H2 e1 w0
theorem uR (a0 a1 a2:Int) (a3:ByteArray) (a4:Bool) (b0 b1 b2:Int) (b3:ByteArray) (b4:Bool) (w:World):(Go.binOp .eql 56 (.agg #[(.int .i64 a0),(.int .i64 a1),(.int .u64 a2),(.string a3),(.bool a4)]) (.agg #[(.int .i64 b0),(.int .i64 b1),(.int .u64 b2),(.string b3),(.bool b4)])).run prog w=.ok (.bool ((a0 == b0) && ((a1 == b1) && ((a2 == b2) && ((decide (a3=b3)) && (a4 == b4)))))) w:=by
 simp [Go.binOp,Op.equal,Op.maxDepth,go_sem,jKQ,bne]
 repeat' split
 all_goals simp_all
def m_W_j2 (r1:Option Addr) (r2:Int) (x2:Bool) (H:NP) (w:World) (K:Bool→WP):Prop :=Br x2 (Calls prog 67 #[(vp r1),(vi r2)] w (fun e w24=>∃r9,e=.returned (vi r9)∧Kept H w w24∧K (r9 == 6) w24)) (K false w)
def m_W_j1 (r1:Option Addr) (r2:Int) (x1:Bool) (H:NP) (w:World) (K:Bool→WP):Prop :=Br x1 (Calls prog 33 #[(.agg #[(vi 1),(vi 0),(vu 7),(vs (⟨#[97]⟩:ByteArray)),(vb false)])] w (fun e w25=>∃r10,e=.returned (vi r10)∧Kept H w w25∧m_W_j2 r1 r2 (r10 == 1) H w25 K)) (m_W_j2 r1 r2 false H w K)
def m_W  (w0:World) (K:Bool→WP):Prop :=Calls prog 11 #[] w0 (fun e w1=>∃r1,e=.returned (vp r1)∧Kept None w0 w1∧∀H1 w3,Hst w0 None w1 H1 w3→Calls prog 26 #[(vp r1),(.agg #[(vi 1),(vi 0),(vu 7),(vs (⟨#[97]⟩:ByteArray)),(vb false)])] w3 (fun e w4=>∃r2 r3,e=.returned (.tuple #[(vi r2),(vi r3)])∧Kept H1 w3 w4∧Calls prog 40 #[(vp r1),(vi r2)] w4 (fun e w5=>∃aA aB aC aD aE r4,e=.returned (.tuple #[(Af aA aB aC aD aE),(vb r4)])∧Kept H1 w4 w5∧∀H2 w7,Hst w0 H1 w5 H2 w7→Calls prog 28 #[(.agg #[(vi 1),(vi 0),(vu 7),(vs (⟨#[97]⟩:ByteArray)),(vb false)])] w7 (fun e w8=>∃r5:Sl,∃r6,e=.returned (.tuple #[r5.v,(vi r6)])∧Kept H2 w7 w8∧Calls prog 24 #[r5.v] w8 (fun e w9=>∃aF aG aH aI aJ r7,e=.returned (.tuple #[(Af aF aG aH aI aJ),(vb r7)])∧Kept H2 w8 w9∧∀H3 w11,Hst w0 H2 w9 H3 w11→Calls prog 40 #[(vp r1),(vi 1)] w11 (fun e w12=>∃aK aL aM aN aO r8,e=.returned (.tuple #[(Af aK aL aM aN aO),(vb r8)])∧Kept H3 w11 w12∧∀y1:Bool,y1=(((r3 == 0) && r4) && ((aA == 1) && ((aB == 0) && ((aC == 7) && ((decide (aD=(⟨#[97]⟩:ByteArray))) && (aE == false))))))→∀y2:Bool,y2=(((y1 && (r6 == 0)) && r7) && ((aF == 1) && ((aG == 0) && ((aH == 7) && ((decide (aI=(⟨#[97]⟩:ByteArray))) && (aJ == false))))))→Br (y2 && (!r8)) (∀H10 w23,Hst w0 H3 w12 H10 w23→Calls prog 35 #[(.agg #[(vi 1),(vi 0),(vu 7),(vs (⟨#[97]⟩:ByteArray)),(vb false)])] w23 (fun e w26=>∃r11,e=.returned (vs r11)∧Kept H10 w23 w26∧m_W_j1 r1 r2 (decide (r11=(⟨#[112,114,111,109,105,115,101,32,48,32,55,32,34,97,34]⟩:ByteArray))) H10 w26 K)) (∀H10 w23,Hst w0 H3 w12 H10 w23→m_W_j1 r1 r2 false H10 w23 K)))))))
theorem w_W  (w0:World) (K:Bool→WP) (h:m_W  w0 K) :
  Calls prog 23 #[] w0 (fun e w'=>∃r12,e=.returned (vb r12)∧K r12 w'):=by
 refine cw (args:=[]) func23 ntmps23 ?_
 obtain ⟨hs,hb⟩:=st0 w0
 refine eg (q (ln (eg (sc call11 (h.mono fun e w1 ⟨r1,k,hk,h⟩=>have ⟨hs,hb⟩:=hk.hh hs hb;⟨_,k,?_⟩)))))
 refine q (ln (eg (q (nw3 (Ag 0 0 0 false) 56 hs hb (zG (zeroValue56 _) rfl) fun p1 w2 H1 hs hb=>sbx 0 (Ac 1 0 7 (⟨#[97]⟩:ByteArray) false) (sizeOf56 _) hs hb gZ fun w3 hs hb=>ln (eg (q (q2 (Af 1 0 7 (⟨#[97]⟩:ByteArray) false) (xa p1 (Ac 1 0 7 (⟨#[97]⟩:ByteArray) false) (isAgg56 _) (sizeOf56 _) (hb.r0 0 5 gZ)) ?_)))))))
 have ⟨h,hs⟩:=hs.hr (h H1 w3)
 refine sc call26 (h.mono fun e w4 ⟨r2,r3,k,hk,h⟩=>have ⟨hs,hb⟩:=hk.hh hs hb;⟨_,k,?_⟩)
 refine q (qd (ln (eg (qb (sc call40 (h.mono fun e w5 ⟨aA,aB,aC,aD,aE,r4,k,hk,h⟩=>have ⟨hs,hb⟩:=hk.hh hs hb;⟨_,k,?_⟩))))))
 refine qc (nw3 (Ag 0 0 0 false) 56 hs hb (zG (zeroValue56 _) rfl) fun p2 w6 H2 hs hb=>sbx 0 (Ac aA aB aC aD aE) (sizeOf56 _) hs hb gZ fun w7 hs hb=>q (ln (eg (q2 (Af 1 0 7 (⟨#[97]⟩:ByteArray) false) (xa p1 (Ac 1 0 7 (⟨#[97]⟩:ByteArray) false) (isAgg56 _) (sizeOf56 _) (hb.r0 1 5 (gS gZ))) ?_))))
 have ⟨h,hs⟩:=hs.hr (h H2 w7)
 refine sc call28 (h.mono fun e w8 ⟨r5,r6,k,hk,h⟩=>have ⟨hs,hb⟩:=hk.hh hs hb;⟨_,k,?_⟩)
 refine q (qd (ln (eg (q (sc call24 (h.mono fun e w9 ⟨aF,aG,aH,aI,aJ,r7,k,hk,h⟩=>have ⟨hs,hb⟩:=hk.hh hs hb;⟨_,k,?_⟩))))))
 refine qc (nw3 (Ag 0 0 0 false) 56 hs hb (zG (zeroValue56 _) rfl) fun p3 w10 H3 hs hb=>sbx 0 (Ac aF aG aH aI aJ) (sizeOf56 _) hs hb gZ fun w11 hs hb=>q (ln (eg (q ?_))))
 have ⟨h,hs⟩:=hs.hr (h H3 w11)
 refine sc call40 (h.mono fun e w12 ⟨aK,aL,aM,aN,aO,r8,k,hk,h⟩=>have ⟨hs,hb⟩:=hk.hh hs hb;⟨_,k,?_⟩)
 refine qc (nw3 (Ag 0 0 0 false) 56 hs hb (zG (zeroValue56 _) rfl) fun p4 w13 H4 hs hb=>sbx 0 (Ac aK aL aM aN aO) (sizeOf56 _) hs hb gZ fun w14 hs hb=>q (ln (eg (q (sc call30 ((p_H2 r3 w14).mono ?_))))))
 rintro e w15 ⟨he,hE⟩
 refine ⟨_,he,?_⟩
 obtain ⟨hs,hb⟩:=hs.pp hb hE
 refine qb (zH 2 (fun ρ wJ=>∃b1'0:Bool,∃HJ:NP,((r3 == 0)=b1'0)∧Hst w0 H3 w12 HJ wJ∧HB HJ wJ [(p4,(Ac aK aL aM aN aO),56),(p3,(Ac aF aG aH aI aJ),56),(p2,(Ac aA aB aC aD aE),56),(p1,(Ac 1 0 7 (⟨#[97]⟩:ByteArray) false),56)]∧Has ρ [(1,(vp r1)),(2,(vp (some p1))),(3,(vi r2)),(5,(vp (some p2))),(8,(vi r6)),(9,(vp (some p3))),(10,(vb r7)),(12,(vb r8)),(47,(vb (b1'0 && r4)))]) ?_ ?_)
 rintro ρ w16 ⟨b1'0,H5,he0,hs,hb,hH⟩
 subst he0
 refine zO hH (q (zH 4 (fun ρ wJ=>∃b2'0 y1:Bool,∃HJ:NP,(((r3 == 0) && r4)=b2'0)∧(y1=(b2'0 && ((aA == 1) && ((aB == 0) && ((aC == 7) && ((decide (aD=(⟨#[97]⟩:ByteArray))) && (aE == false)))))))∧Hst w0 H3 w12 HJ wJ∧HB HJ wJ [(p4,(Ac aK aL aM aN aO),56),(p3,(Ac aF aG aH aI aJ),56),(p2,(Ac aA aB aC aD aE),56),(p1,(Ac 1 0 7 (⟨#[97]⟩:ByteArray) false),56)]∧Has ρ [(1,(vp r1)),(2,(vp (some p1))),(3,(vi r2)),(8,(vi r6)),(9,(vp (some p3))),(10,(vb r7)),(12,(vb r8)),(52,(vb y1))]) ?_ ?_))
 rintro ρ w17 ⟨b2'0,y1,H6,he0,hy1,hs,hb,hH⟩
 subst he0
 have h:=h y1 hy1
 refine zO hH (q (zH 4 (fun ρ wJ=>∃b3'0:Bool,∃HJ:NP,(y1=b3'0)∧Hst w0 H3 w12 HJ wJ∧HB HJ wJ [(p4,(Ac aK aL aM aN aO),56),(p3,(Ac aF aG aH aI aJ),56),(p2,(Ac aA aB aC aD aE),56),(p1,(Ac 1 0 7 (⟨#[97]⟩:ByteArray) false),56)]∧Has ρ [(1,(vp r1)),(2,(vp (some p1))),(3,(vi r2)),(9,(vp (some p3))),(10,(vb r7)),(12,(vb r8)),(57,(vb (b3'0 && (r6 == 0))))]) ?_ ?_))
 rintro ρ w19 ⟨b3'0,H7,he0,hs,hb,hH⟩
 subst he0
 refine zO hH (q (zH 2 (fun ρ wJ=>∃b4'0:Bool,∃HJ:NP,((y1 && (r6 == 0))=b4'0)∧Hst w0 H3 w12 HJ wJ∧HB HJ wJ [(p4,(Ac aK aL aM aN aO),56),(p3,(Ac aF aG aH aI aJ),56),(p2,(Ac aA aB aC aD aE),56),(p1,(Ac 1 0 7 (⟨#[97]⟩:ByteArray) false),56)]∧Has ρ [(1,(vp r1)),(2,(vp (some p1))),(3,(vi r2)),(9,(vp (some p3))),(12,(vb r8)),(60,(vb (b4'0 && r7)))]) ?_ ?_))
 rintro ρ w21 ⟨b4'0,H8,he0,hs,hb,hH⟩
 subst he0
 refine zO hH (q (zH 4 (fun ρ wJ=>∃b5'0 y2:Bool,∃HJ:NP,(((y1 && (r6 == 0)) && r7)=b5'0)∧(y2=(b5'0 && ((aF == 1) && ((aG == 0) && ((aH == 7) && ((decide (aI=(⟨#[97]⟩:ByteArray))) && (aJ == false)))))))∧Hst w0 H3 w12 HJ wJ∧HB HJ wJ [(p4,(Ac aK aL aM aN aO),56),(p3,(Ac aF aG aH aI aJ),56),(p2,(Ac aA aB aC aD aE),56),(p1,(Ac 1 0 7 (⟨#[97]⟩:ByteArray) false),56)]∧Has ρ [(1,(vp r1)),(2,(vp (some p1))),(3,(vi r2)),(12,(vb r8)),(65,(vb y2))]) ?_ ?_))
 rintro ρ w22 ⟨b5'0,y2,H9,he0,hy2,hs,hb,hH⟩
 subst he0
 have h:=h y2 hy2
 refine zO hH (q (zH 3 (fun ρ wJ=>∃b6'0:Bool,∃HJ:NP,(y2=b6'0)∧Hst w0 H3 w12 HJ wJ∧HB HJ wJ [(p4,(Ac aK aL aM aN aO),56),(p3,(Ac aF aG aH aI aJ),56),(p2,(Ac aA aB aC aD aE),56),(p1,(Ac 1 0 7 (⟨#[97]⟩:ByteArray) false),56)]∧Has ρ [(1,(vp r1)),(2,(vp (some p1))),(3,(vi r2)),(69,(vb (b6'0 && (!r8))))]) ?_ ?_))
 rintro ρ w23 ⟨b6'0,H10,he0,hs,hb,hH⟩
 subst he0
 refine zO hH (q (zH 4 (fun ρ w=>∃x1,∃H:NP,Has ρ [(1,(vp r1)),(2,(vp (some p1))),(3,(vi r2)),(74,(vb x1))]∧Hst w0 H w H w∧HB H w [(p4,(Ac aK aL aM aN aO),56),(p3,(Ac aF aG aH aI aJ),56),(p2,(Ac aA aB aC aD aE),56),(p1,(Ac 1 0 7 (⟨#[97]⟩:ByteArray) false),56)]∧m_W_j1 r1 r2 x1 H w K) ?_ ?_))
 rintro ρ w ⟨x1,H,hH,hs,hb,h⟩
 refine zO hH (q (zH 4 (fun ρ w=>∃x2,∃H:NP,Has ρ [(1,(vp r1)),(3,(vi r2)),(79,(vb x2))]∧Hst w0 H w H w∧HB H w [(p4,(Ac aK aL aM aN aO),56),(p3,(Ac aF aG aH aI aJ),56),(p2,(Ac aA aB aC aD aE),56),(p1,(Ac 1 0 7 (⟨#[97]⟩:ByteArray) false),56)]∧m_W_j2 r1 r2 x2 H w K) ?_ ?_))
 rintro ρ w ⟨x2,H,hH,hs,hb,h⟩
 refine zO hH (q ?_)
 obtain ⟨hg13,h⟩|⟨hg13,h⟩:=h.br
 refine qk 80 hg13 (qk 80 hg13 (qA (wy 80 hg13) (xc call67) (h.mono ?_)))
 rintro e w24 ⟨r9,rfl,hk,h⟩
 refine ⟨_,rfl,?_⟩
 obtain ⟨hs,hb⟩:=hk.hh hs hb
 refine qk 80 hg13 (q2 (vb (r9 == 6)) (xT hg13) (q (ln (er (rs1 results23 ⟨(r9 == 6),rfl,h⟩)))))
 refine sj4 80 hg13 (q2 (vb false) (xF hg13) (q (ln (er (rs1 results23 ⟨false,rfl,h⟩)))))
 obtain ⟨hg14,h⟩|⟨hg14,h⟩:=h.br
 refine stq (v:=(Af 1 0 7 (⟨#[97]⟩:ByteArray) false)) (wy 75 hg14) (xa p1 (Ac 1 0 7 (⟨#[97]⟩:ByteArray) false) (isAgg56 _) (sizeOf56 _) (hb.r0 3 5 (gS (gS (gS gZ))))) (qA (wy 75 hg14) (xc call33) (h.mono ?_))
 rintro e w25 ⟨r10,rfl,hk,h⟩
 refine ⟨_,rfl,?_⟩
 obtain ⟨hs,hb⟩:=hk.hh hs hb
 refine qk 75 hg14 (q2 (vb (r10 == 1)) (xT hg14) (zB ⟨(r10 == 1),H,hm,hs,hb,h⟩))
 refine sj3 75 hg14 (q2 (vb false) (xF hg14) (zB ⟨false,H,hm,hs,hb,h⟩))
 obtain ⟨hg15,h⟩|⟨hg15,h⟩:=h.br
 refine stq (v:=(Af 1 0 7 (⟨#[97]⟩:ByteArray) false)) (wy 70 hg15) (xa p1 (Ac 1 0 7 (⟨#[97]⟩:ByteArray) false) (isAgg56 _) (sizeOf56 _) (hb.r0 3 5 (gS (gS (gS gZ))))) ?_
 have ⟨h,hs⟩:=hs.hr (h H10 w23)
 refine qA (wy 70 hg15) (xc call35) (h.mono ?_)
 rintro e w26 ⟨r11,rfl,hk,h⟩
 refine ⟨_,rfl,?_⟩
 obtain ⟨hs,hb⟩:=hk.hh hs hb
 refine stq (v:=(vb (decide (r11=(⟨#[112,114,111,109,105,115,101,32,48,32,55,32,34,97,34]⟩:ByteArray))))) (wy 70 hg15) (tZ (by kernel_rfl) (by kernel_rfl)) (q2 (vb (decide (r11=(⟨#[112,114,111,109,105,115,101,32,48,32,55,32,34,97,34]⟩:ByteArray)))) (xT hg15) (zB ⟨(decide (r11=(⟨#[112,114,111,109,105,115,101,32,48,32,55,32,34,97,34]⟩:ByteArray))),H10,hm,hs,hb,h⟩))
 refine sj3 70 hg15 (q2 (vb false) (xF hg15) (zB ?_))
 have ⟨h,hs⟩:=hs.hr (h H10 w23)
 exact ⟨false,H10,hm,hs,hb,h⟩
 rcases bte y2 with hg12 | hg12
 refine qk 66 hg12 (qk 66 hg12 (q2 (vb (!r8)) (xT hg12) (zB ⟨true,_,hg12,hs,hb,hm⟩)))
 refine sj2 66 hg12 (q2 (vb false) (xF hg12) (zB ⟨false,_,hg12,hs,hb,hm⟩))
 rcases bte ((y1 && (r6 == 0)) && r7) with hg10 | hg10
 refine stq (v:=(Af aF aG aH aI aJ)) (wy 61 hg10) (xa p3 (Ac aF aG aH aI aJ) (isAgg56 _) (sizeOf56 _) (hb.r0 1 5 (gS gZ))) (stq (v:=(Af 1 0 7 (⟨#[97]⟩:ByteArray) false)) (wy 61 hg10) (xa p1 (Ac 1 0 7 (⟨#[97]⟩:ByteArray) false) (isAgg56 _) (sizeOf56 _) (hb.r0 3 5 (gS (gS (gS gZ))))) (stq (v:=(vb ((aF == 1) && ((aG == 0) && ((aH == 7) && ((decide (aI=(⟨#[97]⟩:ByteArray))) && (aJ == false))))))) (wy 61 hg10) (jGT (by kernel_rfl) (by kernel_rfl) (by kernel_rfl) (uR aF aG aH aI aJ 1 0 7 (⟨#[97]⟩:ByteArray) false _)) (q2 (vb ((aF == 1) && ((aG == 0) && ((aH == 7) && ((decide (aI=(⟨#[97]⟩:ByteArray))) && (aJ == false)))))) (xT hg10) (zB ⟨true,_,_,hg10,rfl,hs,hb,hm⟩))))
 refine sj3 61 hg10 (q2 (vb false) (xF hg10) (zB ⟨false,_,_,hg10,rfl,hs,hb,hm⟩))
 rcases bte (y1 && (r6 == 0)) with hg8 | hg8
 refine qk 58 hg8 (q2 (vb r7) (xT hg8) (zB ⟨true,_,hg8,hs,hb,hm⟩))
 refine sj 58 hg8 (q2 (vb false) (xF hg8) (zB ⟨false,_,hg8,hs,hb,hm⟩))
 rcases bte y1 with hg6 | hg6
 refine qk 53 hg6 (qA (wy 53 hg6) (xc call30) ((p_H2 r6 w17).mono ?_))
 rintro e w20 ⟨he,hE⟩
 refine ⟨_,he,?_⟩
 obtain ⟨hs,hb⟩:=hs.pp hb hE
 refine qk 53 hg6 (q2 (vb (r6 == 0)) (xT hg6) (zB ⟨true,_,hg6,hs,hb,hm⟩))
 refine sj3 53 hg6 (q2 (vb false) (xF hg6) (zB ⟨false,_,hg6,hs,hb,hm⟩))
 rcases bte ((r3 == 0) && r4) with hg4 | hg4
 refine stq (v:=(Af aA aB aC aD aE)) (wy 48 hg4) (xa p2 (Ac aA aB aC aD aE) (isAgg56 _) (sizeOf56 _) (hb.r0 2 5 (gS (gS gZ)))) (stq (v:=(Af 1 0 7 (⟨#[97]⟩:ByteArray) false)) (wy 48 hg4) (xa p1 (Ac 1 0 7 (⟨#[97]⟩:ByteArray) false) (isAgg56 _) (sizeOf56 _) (hb.r0 3 5 (gS (gS (gS gZ))))) (stq (v:=(vb ((aA == 1) && ((aB == 0) && ((aC == 7) && ((decide (aD=(⟨#[97]⟩:ByteArray))) && (aE == false))))))) (wy 48 hg4) (jGT (by kernel_rfl) (by kernel_rfl) (by kernel_rfl) (uR aA aB aC aD aE 1 0 7 (⟨#[97]⟩:ByteArray) false _)) (q2 (vb ((aA == 1) && ((aB == 0) && ((aC == 7) && ((decide (aD=(⟨#[97]⟩:ByteArray))) && (aE == false)))))) (xT hg4) (zB ⟨true,_,_,hg4,rfl,hs,hb,hm⟩))))
 refine sj3 48 hg4 (q2 (vb false) (xF hg4) (zB ⟨false,_,_,hg4,rfl,hs,hb,hm⟩))
 rcases bte (r3 == 0) with hg2 | hg2
 refine qk 45 hg2 (q2 (vb r4) (xT hg2) (zB ⟨true,_,hg2,hs,hb,hm⟩))
 refine sj 45 hg2 (q2 (vb false) (xF hg2) (zB ⟨false,_,hg2,hs,hb,hm⟩))
theorem xB (a0 a1 a2:Int) (a3:ByteArray) (a4:Bool) (b0 b1 b2:Int) (b3:ByteArray) (b4:Bool) (w:World):(Go.binOp .eql 56 (.agg #[(.int .i64 a0),(.int .i64 a1),(.int .u64 a2),(.string a3),(.bool a4)]) (.agg #[(.int .i64 b0),(.int .i64 b1),(.int .u64 b2),(.string b3),(.bool b4)])).run prog w=.ok (.bool ((a0 == b0) && ((a1 == b1) && ((a2 == b2) && ((decide (a3=b3)) && (a4 == b4)))))) w:=by
 simp [Go.binOp,Op.equal,Op.maxDepth,go_sem,jKQ,bne]
 repeat' split
 all_goals simp_all
theorem xO (a0 b0:Bool) (w:World):(Go.binOp .eql 4 (.bool a0) (.bool b0)).run prog w=.ok (.bool (a0 == b0)) w:=by
 simp [Go.binOp,Op.equal,Op.maxDepth,go_sem,jKQ,bne]
def m_H1_j1 (x1:Bool) (H:NP) (w:World) (K:Bool→WP):Prop :=Br x1 (Calls prog 23 #[] w (fun e w11=>∃r4,e=.returned (vb r4)∧Kept H w w11∧K r4 w11)) (K false w)
def m_H1 (b1:Sl) (w0:World) (K:Bool→WP):Prop :=Br (decide ((b1.len:Int)>8192)) (Calls prog 23 #[] w0 (fun e w1=>∃r1,e=.returned (vb r1)∧Kept None w0 w1∧K r1 w1)) (∀p1 w2,New w0 (.cells #[] 5) p1 w2→∃s1:Sl,∃w3:World,(Builtin.append_ #[54,54] 54 #[(Sl.mk (some p1) 0 0).v,b1.v]).run prog w2=.ok s1.v w3∧Kept None w2 w3∧Calls prog 24 #[s1.v] w3 (fun e w4=>∃aA aB aC aD aE r2,e=.returned (.tuple #[(Af aA aB aC aD aE),(vb r2)])∧Kept None w3 w4∧∀H1 w6,Hst w0 None w4 H1 w6→Calls prog 25 #[b1.v] w6 (fun e w7=>∃aF aG aH aI aJ r3,e=.returned (.tuple #[(Af aF aG aH aI aJ),(vb r3)])∧Kept H1 w6 w7∧∀y1:Bool,y1=(((aA == aF) && ((aB == aG) && ((aC == aH) && ((decide (aD=aI)) && (aE == aJ))))) && (r2 == r3))→Br y1 (∀H3 w10,Hst w0 H1 w7 H3 w10→∃c1,(convert 54 9 s1.v).run prog w10=.ok (vs c1) w10∧∃c2,(convert 54 9 b1.v).run prog w10=.ok (vs c2) w10∧m_H1_j1 (decide (c1=c2)) H3 w10 K) (∀H3 w10,Hst w0 H1 w7 H3 w10→m_H1_j1 false H3 w10 K))))
theorem w_H1 (b1 w0 K) (h:m_H1 b1 w0 K):
  Calls prog 4 #[b1.v] w0 (fun e w'=>∃r5,e=.returned (vb r5)∧K r5 w'):=by
 refine cw (args:=[b1.v]) func4 ntmps4 ?_
 obtain ⟨hs,hb⟩:=st0 w0
 refine eg (q (ln (zA (eg (qc (zB (zJ (cbr h ?_ ?_))))))))<;>intro h
 refine eg (sc call23 (h.mono fun e w1 ⟨r1,k,hk,h⟩=>have ⟨hs,hb⟩:=hk.hh hs hb;⟨_,k,?_⟩))
 refine q (ln (er (zW (rs1 results4 ⟨r1,rfl,h⟩))))
 refine zC (zJ (eg (nw5 (fun p=>(Sl.mk (some p) 0 0).v) hs hb h fun p1 w2 hs hb h=>q ?_)))
 obtain ⟨s1,w3,hv3,hk,h⟩:=h
 refine st (v:=s1.v) (zF rfl) (vI (args:=#[(Sl.mk (some p1) 0 0).v,b1.v]) (by kernel_rfl) (fun _=>rfl) hv3) ?_
 obtain ⟨hs,hb⟩:=hk.hh hs hb
 refine q (ln (eg (q (sc call24 (h.mono fun e w4 ⟨aA,aB,aC,aD,aE,r2,k,hk,h⟩=>have ⟨hs,hb⟩:=hk.hh hs hb;⟨_,k,?_⟩)))))
 refine qc (nw3 (Ag 0 0 0 false) 56 hs hb (zG (zeroValue56 _) rfl) fun p2 w5 H1 hs hb=>sbx 0 (Ac aA aB aC aD aE) (sizeOf56 _) hs hb gZ fun w6 hs hb=>q (ln (eg (q ?_))))
 have ⟨h,hs⟩:=hs.hr (h H1 w6)
 refine sc call25 (h.mono fun e w7 ⟨aF,aG,aH,aI,aJ,r3,k,hk,h⟩=>have ⟨hs,hb⟩:=hk.hh hs hb;⟨_,k,?_⟩)
 refine qc (nw3 (Ag 0 0 0 false) 56 hs hb (zG (zeroValue56 _) rfl) fun p3 w8 H2 hs hb=>sbx 0 (Ac aF aG aH aI aJ) (sizeOf56 _) hs hb gZ fun w9 hs hb=>q (ln (eg (q2 (Af aA aB aC aD aE) (xa p2 (Ac aA aB aC aD aE) (isAgg56 _) (sizeOf56 _) (hb.r0 1 5 (gS gZ))) (q2 (Af aF aG aH aI aJ) (xa p3 (Ac aF aG aH aI aJ) (isAgg56 _) (sizeOf56 _) (hb.r0 0 5 gZ)) (q2 (vb ((aA == aF) && ((aB == aG) && ((aC == aH) && ((decide (aD=aI)) && (aE == aJ)))))) (jGT (by kernel_rfl) (by kernel_rfl) (by kernel_rfl) (xB aA aB aC aD aE aF aG aH aI aJ _)) (q (zH 4 (fun ρ wJ=>∃b2'0 y1:Bool,∃HJ:NP,(((aA == aF) && ((aB == aG) && ((aC == aH) && ((decide (aD=aI)) && (aE == aJ)))))=b2'0)∧(y1=(b2'0 && (r2 == r3)))∧Hst w0 H1 w7 HJ wJ∧HB HJ wJ [(p3,(Ac aF aG aH aI aJ),56),(p2,(Ac aA aB aC aD aE),56)]∧Has ρ [(0,b1.v),(3,s1.v),(32,(vb y1))]) ?_ ?_))))))))
 rintro ρ w10 ⟨b2'0,y1,H3,he0,hy1,hs,hb,hH⟩
 subst he0
 have h:=h y1 hy1
 refine zO hH (q (zH 6 (fun ρ w=>∃x1,∃H:NP,Has ρ [(39,(vb x1))]∧Hst w0 H w H w∧HB H w [(p3,(Ac aF aG aH aI aJ),56),(p2,(Ac aA aB aC aD aE),56)]∧m_H1_j1 x1 H w K) ?_ ?_))
 rintro ρ w ⟨x1,H,hH,hs,hb,h⟩
 refine zO hH (q ?_)
 obtain ⟨hg3,h⟩|⟨hg3,h⟩:=h.br
 refine qA (wy 40 hg3) (xc call23) (h.mono ?_)
 rintro e w11 ⟨r4,rfl,hk,h⟩
 refine ⟨_,rfl,?_⟩
 obtain ⟨hs,hb⟩:=hk.hh hs hb
 refine q2 (vb r4) (xT hg3) (q (ln (er (rs1 results4 ⟨r4,rfl,h⟩))))
 refine sj 40 hg3 (q2 (vb false) (xF hg3) (q (ln (er (rs1 results4 ⟨false,rfl,h⟩)))))
 obtain ⟨hg4,h⟩|⟨hg4,h⟩:=h.br
 refine qk 33 hg4 ?_
 have ⟨h,hs⟩:=hs.hr (h H3 w10)
 obtain ⟨c1,hv2,h⟩:=h
 refine stq (v:=(vs c1)) (wy 33 hg4) (xG (by kernel_rfl) hv2) (qk 33 hg4 ?_)
 obtain ⟨c2,hv1,h⟩:=h
 refine stq (v:=(vs c2)) (wy 33 hg4) (xG (by kernel_rfl) hv1) (stq (v:=(vb (decide (c1=c2)))) (wy 33 hg4) (tZ (by kernel_rfl) (by kernel_rfl)) (q2 (vb (decide (c1=c2))) (xT hg4) (zB ⟨(decide (c1=c2)),H3,hm,hs,hb,h⟩)))
 refine sj5 33 hg4 (q2 (vb false) (xF hg4) (zB ?_))
 have ⟨h,hs⟩:=hs.hr (h H3 w10)
 exact ⟨false,H3,hm,hs,hb,h⟩
 rcases bte ((aA == aF) && ((aB == aG) && ((aC == aH) && ((decide (aD=aI)) && (aE == aJ))))) with hg2 | hg2
 refine qk 28 hg2 (qk 28 hg2 (stq (v:=(vb (r2 == r3))) (wy 28 hg2) (xS (by kernel_rfl) (by kernel_rfl) (by kernel_rfl) (xO r2 r3 _)) (q2 (vb (r2 == r3)) (xT hg2) (zB ⟨true,_,_,hg2,rfl,hs,hb,hm⟩))))
 refine sj3 28 hg2 (q2 (vb false) (xF hg2) (zB ⟨false,_,_,hg2,rfl,hs,hb,hm⟩))
end Go.Proofs
end
section
open Go Go.SE
namespace Go.Sp
open Go.Proofs
def l11:Letter:=⟨1,0,7,⟨#[97]⟩,false⟩
theorem l11a:(qP [] l11).1=6∧(qP [] l11).2.1=0:=by constructor <;> kernel_rfl
theorem l11b:jNR (qP [] l11).2.2 6=(l11,true)∧(jNR (qP [] l11).2.2 1).2=false∧sizeOf (qP [] l11).2.2 6=6:=by refine ⟨?_,?_,?_⟩ <;> kernel_rfl
theorem l11c:(jFZ l11).2=0∧jHK (jFZ l11).1=(l11,true):=by constructor <;> kernel_rfl
theorem l11d:(⟨(jJB l11).toArray⟩:ByteArray)=⟨#[112,114,111,109,105,115,101,32,48,32,55,32,34,97,34]⟩:=by
 have e0:qL l11=0:=by kernel_rfl
 have h0:Lib.decDigits l11.frm.toNat=[48]:=Lib.decDigits_one (i:=0) (by omega);have h7:Lib.decDigits l11.c.toNat=[55]:=Lib.decDigits_one (i:=7) (by omega);have hx:jLB l11.text=[34,97,34]:=by decide
 have e:jJB l11=[112,114,111,109,105,115,101,32,48,32,55,32,34,97,34]:=by
  unfold jJB;rw [if_neg (by rw [e0];simp),h0,h7,hx];rfl
 rw [e]
theorem l11e:toS l11=1:=by kernel_rfl
end Go.Sp
namespace Go.Proofs
open Tryz
attribute [local irreducible] Calls
theorem jNA (w0:World) (ht:Pow w0):Calls prog 23 #[] w0 (fun e w'=>∃r:Bool,e=.returned (.bool r)∧(r=true∧Pure w0 w')):=by
 refine w_W w0 (fun r w'=>r=true∧Pure w0 w') ?_;unfold m_W;refine (jTQ w0).mono ?_;rintro _ w1 ⟨_,rfl,p,rfl,E1,F,hP,hF⟩;refine ⟨_,rfl,E1.keptP,fun H1 w3 hs=>?_⟩;have hn:Sp.jAH Sp.l11.c:=⟨by decide,by decide⟩;have hW:=Sp.jKI Sp.Wf.nil Sp.l11;have hN:=Sp.jFV Sp.jAT.nil hn;have E3:Pure w0 w3:=E1.hst hs;have hP3:zU w3 p [] F:=hP.ext hs.ext (fun b hb hh=>(hs.new b hh).elim id (fun h=>by have:=hP.lt hb;omega));have hFl:∀b,F b→b<w1.heap.size:=fun b hb=>hP.lt hb;have hHF:∀b,H1 b→¬ F b:=fun b hh hb=>(hs.new b hh).elim id (fun h=>by have:=hFl b hb;omega);refine (jRL p Sp.l11 w3 hP3 Sp.Wf.nil.ok).mono ?_;rintro _ w4 ⟨r2,r3,rfl,e2,e3,F4,hP4,E4,hF4⟩;rw [Sp.l11a.1] at e2;rw [Sp.l11a.2] at e3;subst e2;subst e3;have E04:Pure w0 w4:=E3.trans' E4 (fun i hi hf=>by have:=hF i hf;omega);refine ⟨_,_,rfl,E4.kept hHF,?_⟩;refine (tW p 6 w4 hP4 hW.ok).mono ?_;rintro _ w5 ⟨k,f,c,x,g,ok,rfl,hr,E5⟩;rw [Sp.l11b.1] at hr;obtain ⟨hl,rfl⟩:=Prod.mk.inj hr;unfold Sp.l11 at hl;simp only [Sp.Letter.mk.injEq] at hl;obtain ⟨rfl,rfl,rfl,rfl,rfl⟩:=hl;refine ⟨_,_,_,_,_,_,rfl,E5.keptP,fun H2 w7 hs7=>?_⟩;have E07:Pure w0 w7:=(E04.trans E5).hst hs7;have hH2:∀b,H2 b→b<w7.heap.size:=hs7.lt;have hHF4:∀b,F4 b→¬ H1 b:=fun b hb hh=>(hF4 b hb).elim (fun h=>hHF b hh h) (fun h=>by have:=hs.lt b hh;omega);have hP7:zU w7 p (qP [] Sp.l11).2.2 F4:=(hP4.pure E5).ext hs7.ext (hs7.disj (fun b hb=>⟨by have:=hP4.lt hb;have:=E5.size;omega,hHF4 b hb⟩));have hHF7:∀b,F4 b→¬ H2 b:=hs7.disj (fun b hb=>⟨by have:=hP4.lt hb;have:=E5.size;omega,hHF4 b hb⟩);refine (jOQ Sp.l11 hn w7).mono ?_;rintro _ w8 ⟨r5,r6,rfl,e6,hR⟩;rw [Sp.l11c.1] at e6;subst e6;refine ⟨_,_,rfl,hR.pure.keptP,?_⟩;refine (jGR r5 _ w8 hR.rows.lst (jPP hR.rows)).mono ?_;rintro _ w9 ⟨k2,f2,c2,x2,g2,ok2,rfl,hr2,E9⟩;rw [Sp.l11c.2] at hr2;obtain ⟨hl2,rfl⟩:=Prod.mk.inj hr2;unfold Sp.l11 at hl2;simp only [Sp.Letter.mk.injEq] at hl2;obtain ⟨rfl,rfl,rfl,rfl,rfl⟩:=hl2;refine ⟨_,_,_,_,_,_,rfl,E9.keptP,fun H3 w11 hs11=>?_⟩;have E89:=hR.pure.trans E9;have E011:Pure w0 w11:=(E07.trans E89).hst hs11;have hHF11:∀b,F4 b→¬ H3 b:=hs11.disj (fun b hb=>⟨by have:=hP7.lt hb;have:=E89.size;omega,hHF7 b hb⟩);have hP11:zU w11 p (qP [] Sp.l11).2.2 F4:=(hP7.pure E89).ext hs11.ext hHF11;refine (tW p 1 w11 hP11 hW.ok).mono ?_;rintro _ w12 ⟨k3,f3,c3,x3,g3,ok3,rfl,hr3,E12⟩;have hok3:ok3=false:=by
  have:=congrArg Prod.snd hr3;simp only at this;rw [this];exact Sp.l11b.2.1
 subst hok3;refine ⟨_,_,_,_,_,_,rfl,E12.keptP,?_⟩;rintro y1 rfl y2 rfl;refine ⟨fun _=>?_,fun h=>absurd h (by decide)⟩;intro H10 w23 hs23;have E023:Pure w0 w23:=(E011.trans E12).hst hs23;have hHF23:∀b,F4 b→¬ H10 b:=hs23.disj (fun b hb=>⟨by have:=hP11.lt hb;have:=E12.size;omega,hHF11 b hb⟩);have hP23:zU w23 p (qP [] Sp.l11).2.2 F4:=(hP11.pure E12).ext hs23.ext hHF23;refine (jRF Sp.l11 hn w23 (jAN ht E023)).mono ?_;rintro _ w26 ⟨r11,rfl,e11,E26⟩;refine ⟨_,rfl,E26.keptP,?_⟩;rw [e11,Sp.l11d];unfold m_W_j1;refine ⟨fun _=>?_,fun h=>absurd h (by decide)⟩;refine (c_ltTo Sp.l11 w26).mono ?_;rintro _ w25 ⟨_,rfl,rfl,E25⟩;refine ⟨_,rfl,E25.keptP,?_⟩;rw [Sp.l11e];unfold m_W_j2;refine ⟨fun _=>?_,fun h=>absurd h (by decide)⟩;refine (jUI p 6 w25 ((hP23.pure E26).pure E25) hW.ok).mono ?_;rintro _ w24 ⟨_,rfl,rfl,rfl⟩;refine ⟨_,rfl,Kept.refl _,?_,(E023.trans E26).trans E25⟩;rw [Sp.l11b.2.2];rfl
end Go.Proofs
end
section
open Go Go.SE
namespace Go.Sp
theorem jLH (k f c:Int) (x:ByteArray) (g:Bool):((k == k) && ((f == f) && ((c == c) && ((decide (x=x)) && (g == g)))))=true:=by simp
end Go.Sp
namespace Go.Proofs
open Tryz
attribute [local irreducible] Calls
theorem jQK {w0 w w':World} {H:NP} (hs:Hst w0 None w H w'):Pure w w':=⟨hs.ext.os,hs.ext.tape,hs.ext.output,hs.ext.drawn,hs.ext.size,fun b hb _=>hs.ext.keep b hb (fun h=>(hs.new b h).elim (fun h=>h) (fun h=>by omega))⟩
theorem jBJ {S:NP} (s:Sl) (bs:List UInt8) (w0:World) (ht:Pow w0) (hL:Lst S w0 1 s (byr bs)) (hz:s.a=none→s=Sl.nil) (hSl:∀b,S b→b<w0.heap.size) :
  Calls prog 4 #[s.v] w0 (fun e w'=>∃r:Bool,e=.returned (.bool r)∧(r=true∧Pure w0 w')):=by
 refine w_H1 s w0 (fun r w'=>r=true∧Pure w0 w') ?_
 unfold m_H1
 have hl:s.len=bs.length:=by rw [hL.len,vN]
 refine ⟨fun _=>?_,fun h=>?_⟩
 ·refine (jNA w0 ht).mono ?_
  rintro _ w1 ⟨_,rfl,rfl,E⟩
  exact ⟨_,rfl,E.keptP,rfl,E⟩
 have hle:bs.length≤8192:=by have:=of_decide_eq_false h;omega
 intro p2 w12 n2
 have E12:Pure w0 w12:=Ext.new n2
 have R0:Rws w12 5 1 ⟨some p2,0,0⟩ []:=Rws.empty n2
 have bp2:=n2.at_size
 obtain ⟨s1,w13,hr,hR,X13,hs1⟩:=R0.appendL (P:=prog) (ty:=54) jAV (hL.pure E12) (jDS bs) (jLX bs) (by rw [vN];simp;omega) (by rw [vN];simp only [maxLen,List.length_nil];omega)
 rw [List.nil_append] at hR
 have o2:∀b,(Sl.mk (some p2) 0 0).blk b→b=p2.block:=fun b hb=>by obtain ⟨a,ha,rfl⟩:=hb;cases ha;rfl
 have E13:Pure w0 w13:=E12.trans' X13 (fun i hi hb=>by have:=o2 i hb;omega)
 refine ⟨s1,w13,hr,X13.kept (fun b hb=>hb.elim),?_⟩
 refine (jGR s1 bs w13 hR.lst (jPP hR)).mono ?_
 rintro _ w4 ⟨k,f,c,x,g,ok,rfl,hr1,E4⟩
 refine ⟨_,_,_,_,_,_,rfl,E4.keptP,fun H1 w6 hs6=>?_⟩
 have E6:Pure w0 w6:=(E13.trans E4).hst hs6
 refine (jLV s bs w6 (hL.pure E6) hz).mono ?_
 rintro _ w7 ⟨k',f',c',x',g',ok',rfl,hr2,E7⟩
 refine ⟨_,_,_,_,_,_,rfl,E7.keptP,?_⟩
 rw [← hr1] at hr2
 obtain ⟨hl2,rfl⟩:=Prod.mk.inj hr2
 simp only [Sp.Letter.mk.injEq] at hl2
 obtain ⟨rfl,rfl,rfl,rfl,rfl⟩:=hl2
 rintro y1 rfl
 refine ⟨fun _=>?_,fun h=>?_⟩
 ·intro H3 w10 hs10
  have E10:Pure w0 w10:=(E6.trans E7).hst hs10
  have R10:Rws w10 5 1 s1 (byr bs):=by
   have e46:Pure w4 w6:=jQK hs6;refine (((hR.pure E4).pure e46).pure E7).ext hs10.ext (fun b hb hh=>?_);rcases hs10.new b hh with h | h
   ·rcases hs6.new b h with h | h
    ·exact h
    ·have:=(hR.pure E4).lt hb;omega
   ·have:=(((hR.pure E4).pure e46).pure E7).lt hb;omega
  refine ⟨_,jPI R10.lst,_,jPI (hL.pure E10),?_⟩
  unfold m_H1_j1
  refine ⟨fun _=>?_,fun h=>by simp at h⟩
  refine (jNA w10 (jAN ht E10)).mono ?_
  rintro _ w11 ⟨_,rfl,rfl,E⟩
  exact ⟨_,rfl,E.keptP,rfl,E10.trans E⟩
 ·rw [Sp.jLH] at h
  simp at h
end Go.Proofs
end
section
namespace Go.SE
open Go.ChangeShapes Go.WideShapes Go.ChangeAt Go.RowKit
section
variable {H:Type} {enc:TypeId×Value→H} {P:Program}
theorem jCN (hl:laidOutB P=true) {W W':World} (hb:Below W.heap.size W W'):∀(ts:List TypeId) (vs:List Value) (ds:List (DataW H)) (ps:List MemPlace),(ts.all fun t=>P.readableRec t && decide (t<P.types.size))=true →
  DataW.TrodAll enc P W 0 (fun _=>true) true ts vs ds ps→(∀x∈ps,x.block<W.heap.size)→DataW.TrodAll enc P W' 0 (fun b=>decide (b<W.heap.size)) true ts vs ds ps
 | [],_,_,_,_,h,_=>by
  obtain ⟨rfl,rfl,rfl⟩:=trodAll_nil h;exact h
 | t :: ts,_,_,_,hr,h,hlt=>by
  obtain ⟨v,vs1,d,ds1,a,b,rfl,rfl,rfl,h1,h2⟩:=trodAll_cons h;simp only [List.all_cons,Bool.and_eq_true,decide_eq_true_eq] at hr;exact ⟨a,b,Below.trod hl hr.1.1 hr.1.2 h1 hb (fun x hx=>hlt x (by simp [hx])),jCN hl hb ts vs1 ds1 b (by simpa using hr.2) h2 (fun x hx=>hlt x (by simp [hx])),rfl⟩
theorem jSY {f:Func} {s:ChangeSpec} {W W':World} {args:Array Value} {ds gs:List (DataW H)} {before:List MemPlace} {t:TypeId} (hl:laidOutB P=true)
  (hv:s.vars=[]) (hf:∀ds:List (DataW H),ds.length=f.params.size→s.fn H ds={ results:=[.lit (.bool true)],args:=ds }) (hrt:f.resultTypes=#[t]) (ht:P.underlying t=some .bool)
  (hr:(f.params.toList.all fun t=>P.readableRec t && decide (t<P.types.size))=true)
  (hW:DataW.Whole enc P f.params.toList s.vars false W args.toList ds gs before) (E:Pure W W') :
  s.post enc P f false true false false W args (.bool true) W':=by
 have hW':=hW
 obtain ⟨p,q,hA,hV,rfl,hfz,hnd⟩:=hW
 rw [hv] at hV
 obtain ⟨rfl,rfl⟩:=trodVars_none hV
 have hlen:ds.length=f.params.size:=by
  have:∀(ts:List TypeId) (vs:List Value) (ds:List (DataW H)) (ps:List MemPlace),DataW.TrodAll enc P W 0 (fun _=>true) true ts vs ds ps→ds.length=ts.length:=by
   intro ts;induction ts with
   | nil=>intro vs ds ps h;obtain ⟨_,rfl,_⟩:=trodAll_nil h;rfl
   | cons t ts ih =>
    intro vs ds ps h
    obtain ⟨v,vs1,d,ds1,a,b,_,rfl,_,_,h2⟩:=trodAll_cons h
    simp [ih _ _ _ h2]
  simpa using this _ _ _ _ hA
 have hfn:=hf ds hlen
 have hfn':s.fn H (ds++[])={ results:=[.lit (.bool true)],args:=ds }:=by rw [List.append_nil];exact hfn
 have hlt:∀x∈p,x.block<W.heap.size:=fun x hx=>by simpa using hW'.lt x (by simp [hx])
 have bel:=E.below
 refine ⟨ds,[],p++[],[],p,[],hW',?_,?_,?_,bel.frame _,fun h=>by cases h⟩
 ·rw [hfn',hrt];exact trodAll_mk1 (shut_bool ht _)
 ·rw [hfn'];exact jCN hl bel _ _ _ _ hr hA hlt
 ·rw [hfn',hv];exact hV
end
end Go.SE
namespace Go.SE
open Go.ChangeShapes Go.WideShapes Go.ChangeAt Go.RowKit
section
variable {P:Program} {W:World} {r:Reach} {b0:Nat} {t:TypeId} {v:Value}
theorem jQB {e:TypeId} (ht:P.underlying t=some (.slice e)) (h:Value.okWide P W r b0 t v):∃a n c,v=.slice a n c:=by
 unfold Value.okWide at h;rw [ht] at h;simp only at h;unfold Cell.okWide at h;rw [ht] at h;cases v <;> simp [Cell.ok,ht] at h;exact ⟨_,_,_,rfl⟩
end
end Go.SE
end
section
open Go Go.SE
namespace Go.Proofs
theorem jGM {α β:Type} {f:α→Option β}:∀{l:List α} {r:List β},l.mapM f=some r→r.length=l.length∧∀(i:Nat) (a:α),l[i]?=some a→∃b,f a=some b∧r[i]?=some b
 | [],r,h=>by
  have:r=[]:=by simpa using h.symm
  subst this;exact ⟨rfl,fun i a h=>by simp at h⟩
 | x :: xs,r,h=>by
  rw [List.mapM_cons] at h;cases hx:f x with
  | none=>simp [hx] at h
  | some y =>
   cases hxs:xs.mapM f with
   | none=>simp [hx,hxs] at h
   | some ys =>
    have:r=y :: ys:=by simpa [hx,hxs] using h.symm
    subst this
    obtain ⟨h1,h2⟩:=jGM hxs
    refine ⟨by simp [h1],fun i a ha=>?_⟩
    cases i with
    | zero=>cases ha;exact ⟨y,hx,rfl⟩
    | succ i=>exact h2 i a (by simpa using ha)
theorem jQV {w:World} {base:Nat} {a:Addr} {n:Nat} {cs:List Value} (h:w.cells? base a n=some cs):cs.length=n∧Row w a cs:=by
 obtain ⟨_,h1,h2⟩:=World.cells?_some h;exact ⟨h1,fun j hj=>h2 j (by omega)⟩
section
variable {H:Type} {enc:TypeId×Value→H} {P:Program} {W:World} {base:Nat} {sp:Nat→Bool} {held:Bool}
theorem jEQ {t e:TypeId} (ht:P.underlying t=some (.slice e)) {n:Nat} {c:Value} {x:DataW H×List MemPlace} (h:DataW.trod enc P W base sp held (n+1) t [c]=some x) :
  c=.slice none 0 0∨∃a len cap,c=.slice (some a) len cap∧len≤cap∧cap≤maxLen∧∀i,i<len→∃cs y,W.cells? base (a.add (i*P.cellsOf e)) (P.cellsOf e)=some cs∧DataW.trod enc P W base sp held n e cs=some y:=by
 rw [DataW.trod_step] at h
 unfold DataW.trodStep at h
 rw [ht] at h
 cases c with
 | slice a len cap =>
  cases a with
  | none =>
   cases len with
   | zero=>cases cap with
    | zero=>exact .inl rfl
    | succ c=>simp at h
   | succ l=>simp at h
  | some a =>
   right
   simp only at h
   split at h
   ·rename_i hc
    refine ⟨a,len,cap,rfl,hc.2.1,hc.2.2,fun i hi=>?_⟩
    cases hm:(List.range len).mapM fun i=>(W.cells? base (a.add (i*P.cellsOf e)) (P.cellsOf e)).bind (DataW.trod enc P W base sp held n e) with
    | none=>rw [hm] at h;cases h
    | some r =>
     obtain ⟨b,hb,_⟩:=(jGM hm).2 i i (by simp [hi])
     obtain ⟨cs,h1,h2⟩:=Option.bind_eq_some_iff.1 hb
     exact ⟨cs,b,h1,h2⟩
   ·cases h
 | _=>simp at h
end
end Go.Proofs
end
section
open Go Go.SE
namespace Go.Sp
def Dep (L:Pool) (S:List Way) (t y:Int):Prop :=
 (∃v∈S,v.t=t∧v.rule≠0∧y=v.frm)∨(t ∉ jAU S∧0<y∧(y=(jVH L S t).1∨y=(jVH L S t).2.1))
inductive Dp (L:Pool) (S:List Way):Int→Int→Prop
 | refl (t:Int):Dp L S t t
 | step {t y z:Int}:Dep L S t y→Dp L S y z→Dp L S t z
theorem Dep.made {L:Pool} {S:List Way} {t y a b:Int} {f m:Bool} (h:jVH L S t=(a,b,f,m)) (ht:t ∉ jAU S):Dep L S t y↔0<y∧(y=a∨y=b):=by
 unfold Dep;rw [h];constructor
 ·rintro (⟨v,hv,rfl,_⟩ | ⟨_,h⟩)
  ·exact absurd (List.mem_map.2 ⟨v,hv,rfl⟩) ht
  ·exact h
 ·exact fun h=>.inr ⟨ht,h⟩
theorem Dep.way {L:Pool} {S:List Way} {t y r f:Int} (hn:(jAU S).Nodup) (hl:SE.look (S.map fun v=>(v.t,(v.rule,v.frm))) t=some (r,f)):Dep L S t y↔r≠0∧y=f:=by
 have hm:=jCE hl;obtain ⟨v,hv,e⟩:=List.mem_map.1 hm;simp only [Prod.mk.injEq] at e;obtain ⟨rfl,rfl,rfl⟩:=e;have hk:v.t∈jAU S:=List.mem_map.2 ⟨v,hv,rfl⟩;unfold Dep;constructor
 ·rintro (⟨u,hu,e,hr,rfl⟩ | ⟨h,_⟩)
  ·have hnd:((S.map fun v=>(v.t,(v.rule,v.frm))).map Prod.fst).Nodup:=by rw [List.map_map];exact hn
   have h2:=jLG hnd (List.mem_map.2 ⟨u,hu,rfl⟩);rw [e,hl] at h2;simp only [Option.some.injEq,Prod.mk.injEq] at h2;exact ⟨by rw [h2.1];exact hr,h2.2.symm⟩
  ·exact absurd hk h
 ·rintro ⟨h1,rfl⟩;exact .inl ⟨v,hv,rfl,h1,rfl⟩
theorem Dp.all {L:Pool} {S:List Way} {M:List Step} (hc:∀s∈M,∀y,Dep L S s.t y→y∈M.map Step.t) {t x:Int} (ht:t∈M.map Step.t) (h:Dp L S t x):x∈M.map Step.t:=by
 induction h with
 | refl=>exact ht
 | step hd _ ih =>
  obtain ⟨s,hs,rfl⟩:=List.mem_map.1 ht
  exact ih (hc s hs _ hd)
end Go.Sp
namespace Go.Proofs
attribute [local irreducible] Calls
section
variable {w w':World} {k p c1 c2 c3 c4 c5:Addr} {ma mb:Nat} {L:Sp.Pool} {G:List Int} {S:List Sp.Way} {F FP:NP} {sl:Sl} {l:List Sp.Step} {B:List Int}
end
section
variable {w0 w w':World} {H H':NP} {k p c1 c2 c3 c4 c5:Addr} {ma mb:Nat} {L:Sp.Pool} {G:List Int} {S:List Sp.Way} {F FP:NP} {sl sl1 sl2:Sl} {l M M2:List Sp.Step} {B0 B B2:List Int} {t:Int}
end
end Go.Proofs
end
section
open Go Go.SE
namespace Go.Proofs
section
variable {H:Type} {enc:TypeId×Value→H} {P:Program} {W:World} {base:Nat} {sp:Nat→Bool} {held:Bool}
theorem row_lt {a:Addr} {v:Value} {vs:List Value} (h:Row W a (v :: vs)):a.block<W.heap.size:=by
 have:=h 0 (by simp);have:=World.block_lt_of_cell? W (a.add 0) this;rwa [zQ] at this
theorem jJA {α:Type} {tS e:TypeId} {sz:Nat} {f:α→List Value} (hS:P.underlying tS=some (.slice e)) (hc:P.cellsOf e=sz) (hf:∀a,∃v vs,f a=v :: vs) (x0:α)
  (hel:∀(n:Nat) (cs:List Value) (x:DataW H×List MemPlace),DataW.trod enc P W base sp held n e cs=some x→∃a,cs=f a) {n:Nat} {c:Value} {x:DataW H×List MemPlace} (h:DataW.trod enc P W base sp held n tS [c]=some x) :
  ∃s:Sl,∃xs:List α,c=s.v∧Lst (fun b=>b<W.heap.size) W sz s (xs.map f):=by
 cases n with
 | zero=>cases h
 | succ n =>
  rcases jEQ hS h with rfl | ⟨a,len,cap,rfl,hle,hcm,hall⟩
  ·exact ⟨Sl.nil,[],rfl,⟨rfl,fun i hi=>by simp at hi⟩⟩
  ·rw [hc] at hall
   have hex:∀i,∃q:α,i<len→Row W (a.add (i*sz)) (f q):=by
    intro i;by_cases hi:i<len
    ·obtain ⟨cs,y,h1,h2⟩:=hall i hi;obtain ⟨q,rfl⟩:=hel n cs y h2;exact ⟨q,fun _=>(jQV h1).2⟩
    ·exact ⟨x0,fun h=>absurd h hi⟩
   obtain ⟨q,hq⟩:=Classical.axiomOfChoice hex
   refine ⟨⟨some a,len,cap⟩,(List.range len).map q,rfl,⟨by simp,fun i hi=>?_⟩⟩
   have hi:i<len:=by simpa using hi
   have hr:=hq i hi
   obtain ⟨v,vs,e⟩:=hf (q i)
   refine ⟨a.add (i*sz),⟨by omega,by simpa using hi,a,rfl,by simp⟩,?_,by simpa using hr⟩
   rw [e] at hr;exact row_lt hr
end
section
variable {H:Type} {enc:TypeId×Value→H} {W:World} {base:Nat} {sp:Nat→Bool} {held:Bool}
end
section
variable {H:Type} {enc:TypeId×Value→H} {P:Program} {W:World} {base:Nat} {sp:Nat→Bool} {held:Bool}
theorem jHQ {tS e:TypeId} (hS:P.underlying tS=some (.slice e)) (he:P.underlying e=some (.int .u8)) (hc:P.cellsOf e=1) {v:Value} {d:DataW H} {ps:List MemPlace} (h:DataW.Trod enc P W base sp held tS v d ps) (hv:∃a n c,v=.slice a n c) :
  ∃s:Sl,∃bs:List UInt8,v=s.v∧Lst (fun b=>b<W.heap.size) W 1 s (byr bs)∧(s.a=none→s=Sl.nil):=by
 obtain ⟨n,h⟩:=h
 obtain ⟨a,m,c,rfl⟩:=hv
 have hz:=h
 have:=jJA (f:=fun b:UInt8=>[Value.int .u8 (b.toNat:Int)]) hS hc (fun a=>⟨_,_,rfl⟩) 0 (fun n cs x h=>?_) h
 ·obtain ⟨s,bs,e1,hL⟩:=this
  refine ⟨s,bs,e1,hL,fun hn=>?_⟩
  cases n with
  | zero=>cases hz
  | succ n =>
   change DataW.trod enc P W base sp held (n+1) tS [_]=_ at hz
   rcases jEQ hS hz with e2 | ⟨a',l',c',e2,_⟩
   ·rw [e1] at e2
    obtain ⟨sa,sl,sc⟩:=s
    simp only [Sl.v,Value.slice.injEq] at e2
    obtain ⟨rfl,rfl,rfl⟩:=e2;rfl
   ·rw [e1] at e2
    obtain ⟨sa,sl,sc⟩:=s
    simp only [Sl.v,Value.slice.injEq] at e2
    simp only at hn
    rw [hn] at e2
    cases e2.1
 ·cases n with
  | zero=>cases h
  | succ n =>
   rw [DataW.trod_step] at h
   unfold DataW.trodStep at h
   rw [he] at h
   cases cs with
   | nil=>simp at h
   | cons c l =>
    cases l with
    | cons c2 l2=>cases c <;> simp at h
    | nil =>
     cases c with
     | int k z =>
      simp only at h
      split at h
      ·rename_i hw
       obtain ⟨rfl,hw⟩:=hw
       have hr:0≤z∧z<256:=by
        have h1:IntKind.u8.min=0:=by rfl
        have h2:IntKind.u8.max=255:=by rfl
        simp only [Lit.wf,Bool.and_eq_true,decide_eq_true_eq,h1,h2] at hw;omega
       refine ⟨UInt8.ofNat z.toNat,?_⟩
       have:((UInt8.ofNat z.toNat).toNat:Int)=z:=by simp [UInt8.toNat_ofNat];omega
       rw [this]
      ·cases h
     | _=>simp at h
end
end Go.Proofs
end
