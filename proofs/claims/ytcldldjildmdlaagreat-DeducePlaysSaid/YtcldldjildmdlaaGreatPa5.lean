import Derived.Test.YtcldldjildmdlaaGreatProg
import Derived.KernelRfl
import Derived.Test.YtcldldjildmdlaaGreatPa2
import Derived.Test.YtcldldjildmdlaaGreatPa4
import Derived.Test.YtcldldjildmdlaaGreatPa3
import Derived.RangeFuncSeq
import Derived.RangeFuncIn
import Derived.Test.YtcldldjildmdlaaGreatPa1
import Derived.Test.YtcldldjildmdlaaGreatPa0
import Derived.ProofKit
import Derived.Carry
import Derived.OpenShut
import Derived.Stop.Joined
section
open Go Go.SE
open Go.IntKind renaming i64 → q6
namespace Go.Proofs
open Tryz
set_option maxRecDepth 100000
set_option maxHeartbeats 4000000
attribute [local irreducible] wpL wpX opE wpE Calls
def m_J1_l1 (l1:Sl) (n1 i1:Int) (wl1:World) (Kc1:Int→Int→WP) (K:Bool→WP):Prop :=Br ((decide (i1<(l1.len:Int))) && (decide (i1≤12))) (∃a1:Addr,At l1 i1 6 a1∧∃aA aB aC aD aE aF,Row wl1 a1 (Ac aA aB aC aD aE aF)∧Calls prog 26 #[(.agg #[(vi aA),(vi aB),(vi aC),(vu aD),(vs aE),aF.v]),(vi 400)] wl1 (fun e w2=>∃r1,e=.returned (vi r1)∧Br (decide ((q6.wrap (n1+r1))≥400)) (K true w2) (Kc1 (q6.wrap (n1+r1)) (q6.wrap (i1+1)) w2))) (K (decide ((l1.len:Int)>12)) wl1)
def m_J1 (l1:Sl) (w0:World) (K:Bool→WP):Prop :=∃(I1:Int→Int→WP) (mu1:Int→Int→World→Nat),I1 0 0 w0∧∀(n1 i1:Int) (wl1:World),I1 n1 i1 wl1→m_J1_l1 l1 n1 i1 wl1 (fun y'0 y'1 w'=>I1 y'0 y'1 w'∧mu1 y'0 y'1 w'<mu1 n1 i1 wl1) K
theorem w_J1 (l1 w0 K) (h:m_J1 l1 w0 K):
  Calls prog 17 #[l1.v] w0 (fun e w'=>∃r2,e=.returned (vb r2)∧K r2 w'):=by
 refine cw (args:=[l1.v]) func17 ntmps17 (eg (q0 (vb false) (ln (eg (q0 (vi 0) (ln (jA ?_)))))))
 refine eg (q (ln (jF ?_)))
 obtain ⟨I1,mu1,h0,hr⟩:=h
 refine zI (σ:=Int×Int×World) (fun s ρ w=>w=s.2.2∧Has ρ [(0,l1.v),(3,(vi s.1)),(4,(vi s.2.1))]∧I1 s.1 s.2.1 s.2.2) (fun s=>mu1 s.1 s.2.1 s.2.2) (0,0,w0) ⟨rfl,hm,h0⟩ ?_
 rintro ⟨n1,i1,wl1⟩ ρ w ⟨hw,hH,hI⟩
 dsimp only at hw hH;subst w
 have h:=hr n1 i1 wl1 hI
 refine jO hH (jA (jA (zC (fun ρ wJ=>∃b1'0:Bool,((decide (i1<(l1.len:Int)))=b1'0)∧wl1=wJ∧Has ρ [(0,l1.v),(3,(vi n1)),(4,(vi i1)),(12,(vb (b1'0 && (decide (i1≤12)))))]) ?_ ?_)))
 refine rg (q (qd ?_))
 rcases bte (decide (i1<(l1.len:Int))) with hg2 | hg2
 refine qk 9 hg2 (qk 9 hg2 (q2 (vb (decide (i1≤12))) (xT hg2) (ln ⟨true,hg2,rfl,hm⟩)))
 refine sj2 9 hg2 (q2 (vb false) (xF hg2) (ln ⟨false,hg2,rfl,hm⟩))
 rintro ρ w1 ⟨b1'0,he0,hw,hH⟩
 subst he0
 subst hw
 refine jQ hH (jJ (cbr h ?_ ?_))<;>intro h
 refine jC (jJ (jA (jF (eg (qc (qi (runUnderlying22 _) (sizeOf49 _) h fun a1 h=>?_))))))
 obtain ⟨aA,aB,aC,aD,aE,aF,hv1,h⟩:=h
 refine qa (isAgg49 _) (sizeOf49 _) hv1 (sc call26 (h.mono fun e w2 ⟨r1,k,h⟩=>⟨_,k,?_⟩))
 refine qb (ln (eg (qb (ln (cbr h ?_ ?_)))))<;>intro h
 refine eg (q (ln (er (kG (jW (jW (kG (jW (rs1 results17 ⟨true,rfl,h⟩)))))))))
 refine jC (kD (jJ (rg (qc (ln ⟨((q6.wrap (n1+r1)),(q6.wrap (i1+1)),w2),⟨rfl,hm,h.1⟩,h.2⟩)))))
 refine zE (kP (kP (kO (jJ (eg (q0 l1.v (q0 (vi (l1.len:Int)) (q0 (vb (decide ((l1.len:Int)>12))) (q0 (vb (decide ((l1.len:Int)>12))) (jB (jJ (er (rs1 results17 ⟨(decide ((l1.len:Int)>12)),rfl,h⟩)))))))))))))
def s_D1 (e1:Int):Int :=e1
theorem pw_D1 (e1:Int) (w0:World) :
  Calls prog 22 #[(vi e1)] w0 (fun e w'=>(e=.returned (vi e1))∧Pure w0 w'):=by
 refine cw (args:=[(vi e1)]) func22 ntmps22 (eg (q0 (vi 0) (ln (eg (q0 (vi e1) (q0 (vi e1) (ln ?_)))))))
 refine er (rs1 results22 (v:=(vi e1)) ⟨by kernel_rfl,Ext.refl _⟩)
theorem p_D1 (e1:Int) (w0:World):Calls prog 22 #[(.int .i64 e1)] w0 (fun e w'=>e=.returned (.int .i64 (s_D1 e1))∧Pure w0 w'):=pw_D1 e1 w0
def m_J_j4 (r2:Option Addr) (x4:Bool) (w0:World) (H:NP) (w:World) (K:Bool→WP):Prop :=Br x4 (Calls prog 23 #[(vp r2),(vi 99)] w (fun e w29=>∃r26,e=.returned (vi r26)∧Kept H w w29∧∀w30,Hst w0 H w29 H w30→K (r26 == 51) w30)) (K false w)
def m_J_j3 (r2:Option Addr) (r25:Int) (x3:Bool) (w0:World) (H:NP) (w:World) (K:Bool→WP):Prop :=Br (x3 && (r25 == 0)) (∀H7 w28,Hst w0 H w H7 w28→Calls prog 55 #[(vp r2)] w28 (fun e w31=>∃r27:Sl,e=.returned r27.v∧Kept H7 w28 w31∧m_J_j4 r2 (((r27.len:Int):Int) == 2) w0 H7 w31 K)) (∀H7 w28,Hst w0 H w H7 w28→m_J_j4 r2 false w0 H7 w28 K)
def m_J_j2 (r2:Option Addr) (r3 r25:Int) (x2:Bool) (w0:World) (H:NP) (w:World) (K:Bool→WP):Prop :=Br x2 (Calls prog 54 #[(vp r2),(vi r3)] w (fun e w32=>∃r28,e=.returned (vb r28)∧Kept H w w32∧m_J_j3 r2 r25 r28 w0 H w32 K)) (m_J_j3 r2 r25 false w0 H w K)
def m_J_j1 (r2:Option Addr) (r3 r15 r25:Int) (x1:Bool) (w0:World) (H:NP) (w:World) (K:Bool→WP):Prop :=Br x1 (Calls prog 54 #[(vp r2),(vi r15)] w (fun e w33=>∃r29,e=.returned (vb r29)∧Kept H w w33∧m_J_j2 r2 r3 r25 (!r29) w0 H w33 K)) (m_J_j2 r2 r3 r25 false w0 H w K)
def m_J  (w0:World) (K:Bool→WP):Prop :=Calls prog 27 #[] w0 (fun e w1=>∃r1,e=.returned (vp r1)∧Kept None w0 w1∧Calls prog 20 #[(vp r1)] w1 (fun e w2=>∃r2,e=.returned (vp r2)∧Kept None w1 w2∧Br ((Option.isNone r1) || (Option.isNone r2)) (∀H1 w3,Hst w0 None w2 H1 w3→K false w3) (∀H1 w3,Hst w0 None w2 H1 w3→Calls prog 47 #[(vp r1),(vu 1)] w3 (fun e w4=>∃r3 r4,e=.returned (.tuple #[(vi r3),(vi r4)])∧Kept H1 w3 w4∧Calls prog 28 #[(vp r1),(vi 2)] w4 (fun e w5=>∃r5 r6,e=.returned (.tuple #[(vi r5),(vi r6)])∧Kept H1 w4 w5∧Calls prog 29 #[(vp r1),(vi r3),(vi r5)] w5 (fun e w6=>∃r7 r8,e=.returned (.tuple #[(vi r7),(vi r8)])∧Kept H1 w5 w6∧Calls prog 48 #[(vp r1),(vi 0),(vi r7)] w6 (fun e w7=>∃r9 r10,e=.returned (.tuple #[(vi r9),(vi r10)])∧Kept H1 w6 w7∧Calls prog 49 #[(vp r1),(vi r3)] w7 (fun e w8=>∃r11 r12,e=.returned (.tuple #[(vi r11),(vi r12)])∧Kept H1 w7 w8∧Calls prog 50 #[(vp r1),(vi 0)] w8 (fun e w9=>∃r13 r14,e=.returned (.tuple #[(vi r13),(vi r14)])∧Kept H1 w8 w9∧Calls prog 48 #[(vp r1),(vi 0),(vi r3)] w9 (fun e w10=>∃r15 r16,e=.returned (.tuple #[(vi r15),(vi r16)])∧Kept H1 w9 w10∧Calls prog 23 #[(vp r2),(vi r9)] w10 (fun e w11=>∃r17,e=.returned (vi r17)∧Kept H1 w10 w11∧Calls prog 51 #[(vp r2),(vi r11)] w11 (fun e w12=>∃r18:Sl,∃r19,e=.returned (.tuple #[r18.v,(vb r19)])∧Kept H1 w11 w12∧∀p1 w13,New w12 (.cells #[(vi r9)] 30) p1 w13→Calls prog 52 #[(vp r1),(Sl.mk (some p1) 1 1).v,r18.v,(vi r11)] w13 (fun e w14=>∃r20 r21,e=.returned (.tuple #[(vi r20),(vi r21)])∧Kept H1 w13 w14∧Calls prog 53 #[(vp r2),(vi r15)] w14 (fun e w15=>∃r22,e=.returned (vb r22)∧Kept H1 w14 w15∧Calls prog 23 #[(vp r2),(vi r13)] w15 (fun e w16=>∃r23,e=.returned (vi r23)∧Kept H1 w15 w16∧Calls prog 52 #[(vp r1),Sl.nil.v,Sl.nil.v,(vi r11)] w16 (fun e w17=>∃r24 r25,e=.returned (.tuple #[(vi r24),(vi r25)])∧Kept H1 w16 w17∧∀y1:Bool,y1=(((((r17 == 0) && (r23 == 0)) && (decide ((r18.len:Int)>0))) && r19) && (r20 == 0))→Br (y1 && (!r22)) (∀H6 w27,Hst w0 H1 w17 H6 w27→Calls prog 53 #[(vp r2),(vi r15)] w27 (fun e w34=>∃r30,e=.returned (vb r30)∧Kept H6 w27 w34∧m_J_j1 r2 r3 r15 r25 r30 w0 H6 w34 K)) (∀H6 w27,Hst w0 H1 w17 H6 w27→m_J_j1 r2 r3 r15 r25 false w0 H6 w27 K)))))))))))))))))
theorem w_J  (w0:World) (K:Bool→WP) (h:m_J  w0 K) :
  Calls prog 18 #[] w0 (fun e w'=>∃r31,e=.returned (vb r31)∧K r31 w'):=by
 refine cw (args:=[]) func18 ntmps18 ?_
 obtain ⟨hs,hb⟩:=st0 w0
 refine eg (q (ln (eg (sc call27 (h.mono fun e w1 ⟨r1,k,hk,h⟩=>have ⟨hs,hb⟩:=hk.hh hs hb;⟨_,k,?_⟩)))))
 refine q (ln (eg (q (sc call20 (h.mono fun e w2 ⟨r2,k,hk,h⟩=>have ⟨hs,hb⟩:=hk.hh hs hb;⟨_,k,?_⟩)))))
 refine q (ln (jA (jA (zC (fun ρ wJ=>∃b1'0:Bool,∃HJ:NP,((Option.isNone r1)=b1'0)∧Hst w0 None w2 HJ wJ∧HB HJ wJ []∧Has ρ [(1,(vp r1)),(2,(vp r2)),(34,(vb (b1'0 || (Option.isNone r2))))]) ?_ ?_))))
 refine rg (q (q2 (vb (Option.isNone r1)) (kC (by kernel_rfl) rfl underlying26) (q ?_)))
 rcases bte (Option.isNone r1) with hg2 | hg2
 refine sj2 31 hg2 (q2 (vb true) (xT hg2) (ln ⟨true,_,hg2,hs,hb,hm⟩))
 refine qk 31 hg2 (stq (v:=(vb (Option.isNone r2))) (wy 31 hg2) (kC (by kernel_rfl) rfl underlying55) (q2 (vb (Option.isNone r2)) (xF hg2) (ln ⟨false,_,hg2,hs,hb,hm⟩)))
 rintro ρ w3 ⟨b1'0,H1,he0,hs,hb,hH⟩
 subst he0
 refine jQ hH (jJ (cbr h ?_ ?_))<;>intro h
 refine eg (q (ln (er (jW ?_))))
 have ⟨h,hs⟩:=hs.hr (h H1 w3)
 refine rs1 results18 ⟨false,rfl,h⟩
 refine jC (jJ (eg (q ?_)))
 have ⟨h,hs⟩:=hs.hr (h H1 w3)
 refine sc call47 (h.mono fun e w4 ⟨r3,r4,k,hk,h⟩=>have ⟨hs,hb⟩:=hk.hh hs hb;⟨_,k,?_⟩)
 refine q (qd (ln (eg (q (sc call28 (h.mono fun e w5 ⟨r5,r6,k,hk,h⟩=>have ⟨hs,hb⟩:=hk.hh hs hb;⟨_,k,?_⟩))))))
 refine q (qd (ln (eg (qc (sc call29 (h.mono fun e w6 ⟨r7,r8,k,hk,h⟩=>have ⟨hs,hb⟩:=hk.hh hs hb;⟨_,k,?_⟩))))))
 refine q (qd (ln (eg (qb (sc call48 (h.mono fun e w7 ⟨r9,r10,k,hk,h⟩=>have ⟨hs,hb⟩:=hk.hh hs hb;⟨_,k,?_⟩))))))
 refine q (qd (ln (eg (qb (sc call49 (h.mono fun e w8 ⟨r11,r12,k,hk,h⟩=>have ⟨hs,hb⟩:=hk.hh hs hb;⟨_,k,?_⟩))))))
 refine q (qd (ln (eg (q (sc call50 (h.mono fun e w9 ⟨r13,r14,k,hk,h⟩=>have ⟨hs,hb⟩:=hk.hh hs hb;⟨_,k,?_⟩))))))
 refine q (qd (ln (eg (qb (sc call48 (h.mono fun e w10 ⟨r15,r16,k,hk,h⟩=>have ⟨hs,hb⟩:=hk.hh hs hb;⟨_,k,?_⟩))))))
 refine q (qd (ln (eg (qb (sc call23 (h.mono fun e w11 ⟨r17,k,hk,h⟩=>have ⟨hs,hb⟩:=hk.hh hs hb;⟨_,k,?_⟩))))))
 refine q (ln (eg (qb (sc call51 (h.mono fun e w12 ⟨r18,r19,k,hk,h⟩=>have ⟨hs,hb⟩:=hk.hh hs hb;⟨_,k,?_⟩)))))
 refine q (qd (ln (eg (qb (nw5 (fun p=>(Sl.mk (some p) 1 1).v) hs hb h fun p1 w13 hs hb h=>qb (sc call52 (h.mono fun e w14 ⟨r20,r21,k,hk,h⟩=>have ⟨hs,hb⟩:=hk.hh hs hb;⟨_,k,?_⟩)))))))
 refine q (qd (ln (eg (qb (sc call53 (h.mono fun e w15 ⟨r22,k,hk,h⟩=>have ⟨hs,hb⟩:=hk.hh hs hb;⟨_,k,?_⟩))))))
 refine q (ln (eg (qb (sc call23 (h.mono fun e w16 ⟨r23,k,hk,h⟩=>have ⟨hs,hb⟩:=hk.hh hs hb;⟨_,k,?_⟩)))))
 refine q (ln (eg (qb (sc call52 (h.mono fun e w17 ⟨r24,r25,k,hk,h⟩=>have ⟨hs,hb⟩:=hk.hh hs hb;⟨_,k,?_⟩)))))
 refine q (qd (ln (eg (q (sc call22 ((p_D1 r17 w17).mono ?_))))))
 rintro e w18 ⟨he,hE⟩
 refine ⟨_,he,?_⟩
 obtain ⟨hs,hb⟩:=hs.pp hb hE
 refine qb (jH 4 (fun ρ wJ=>∃b2'0:Bool,∃HJ:NP,((r17 == 0)=b2'0)∧Hst w0 H1 w17 HJ wJ∧HB HJ wJ []∧Has ρ [(2,(vp r2)),(3,(vi r3)),(15,(vi r15)),(18,r18.v),(19,(vb r19)),(20,(vi r20)),(22,(vb r22)),(25,(vi r25)),(112,(vb (b2'0 && (r23 == 0))))]) ?_ ?_)
 rintro ρ w20 ⟨b2'0,H2,he0,hs,hb,hH⟩
 subst he0
 refine jM hH (q (jH 4 (fun ρ wJ=>∃b3'0:Bool,∃HJ:NP,(((r17 == 0) && (r23 == 0))=b3'0)∧Hst w0 H1 w17 HJ wJ∧HB HJ wJ []∧Has ρ [(2,(vp r2)),(3,(vi r3)),(15,(vi r15)),(19,(vb r19)),(20,(vi r20)),(22,(vb r22)),(25,(vi r25)),(117,(vb (b3'0 && (decide ((r18.len:Int)>0)))))]) ?_ ?_))
 rintro ρ w22 ⟨b3'0,H3,he0,hs,hb,hH⟩
 subst he0
 refine jM hH (q (jH 2 (fun ρ wJ=>∃b4'0:Bool,∃HJ:NP,((((r17 == 0) && (r23 == 0)) && (decide ((r18.len:Int)>0)))=b4'0)∧Hst w0 H1 w17 HJ wJ∧HB HJ wJ []∧Has ρ [(2,(vp r2)),(3,(vi r3)),(15,(vi r15)),(20,(vi r20)),(22,(vb r22)),(25,(vi r25)),(120,(vb (b4'0 && r19)))]) ?_ ?_))
 rintro ρ w23 ⟨b4'0,H4,he0,hs,hb,hH⟩
 subst he0
 refine jM hH (q (jH 4 (fun ρ wJ=>∃b5'0 y1:Bool,∃HJ:NP,(((((r17 == 0) && (r23 == 0)) && (decide ((r18.len:Int)>0))) && r19)=b5'0)∧(y1=(b5'0 && (r20 == 0)))∧Hst w0 H1 w17 HJ wJ∧HB HJ wJ []∧Has ρ [(2,(vp r2)),(3,(vi r3)),(15,(vi r15)),(22,(vb r22)),(25,(vi r25)),(125,(vb y1))]) ?_ ?_))
 rintro ρ w25 ⟨b5'0,y1,H5,he0,hy1,hs,hb,hH⟩
 subst he0
 have h:=h y1 hy1
 refine jM hH (q (jH 3 (fun ρ wJ=>∃b6'0:Bool,∃HJ:NP,(y1=b6'0)∧Hst w0 H1 w17 HJ wJ∧HB HJ wJ []∧Has ρ [(2,(vp r2)),(3,(vi r3)),(15,(vi r15)),(25,(vi r25)),(129,(vb (b6'0 && (!r22))))]) ?_ ?_))
 rintro ρ w27 ⟨b6'0,H6,he0,hs,hb,hH⟩
 subst he0
 refine jM hH (q (jH 4 (fun ρ w=>∃x1,∃H:NP,Has ρ [(2,(vp r2)),(3,(vi r3)),(15,(vi r15)),(25,(vi r25)),(134,(vb x1))]∧Hst w0 H w H w∧HB H w []∧m_J_j1 r2 r3 r15 r25 x1 w0 H w K) ?_ ?_))
 rintro ρ w ⟨x1,H,hH,hs,hb,h⟩
 refine jM hH (q (jH 5 (fun ρ w=>∃x2,∃H:NP,Has ρ [(2,(vp r2)),(3,(vi r3)),(25,(vi r25)),(140,(vb x2))]∧Hst w0 H w H w∧HB H w []∧m_J_j2 r2 r3 r25 x2 w0 H w K) ?_ ?_))
 rintro ρ w ⟨x2,H,hH,hs,hb,h⟩
 refine jM hH (q (jH 4 (fun ρ w=>∃x3,∃H:NP,Has ρ [(2,(vp r2)),(25,(vi r25)),(145,(vb x3))]∧Hst w0 H w H w∧HB H w []∧m_J_j3 r2 r25 x3 w0 H w K) ?_ ?_))
 rintro ρ w ⟨x3,H,hH,hs,hb,h⟩
 refine jM hH (q (jH 3 (fun ρ wJ=>∃b7'0:Bool,∃HJ:NP,(x3=b7'0)∧Hst w0 H w HJ wJ∧HB HJ wJ []∧Has ρ [(2,(vp r2)),(149,(vb (b7'0 && (r25 == 0))))]) ?_ ?_))
 rintro ρ w28 ⟨b7'0,H7,he0,hs,hb,hH⟩
 subst he0
 refine jM hH (q (jH 5 (fun ρ w=>∃x4,∃H:NP,Has ρ [(2,(vp r2)),(155,(vb x4))]∧Hst w0 H w H w∧HB H w []∧m_J_j4 r2 x4 w0 H w K) ?_ ?_))
 rintro ρ w ⟨x4,H,hH,hs,hb,h⟩
 refine jM hH (q ?_)
 obtain ⟨hg15,h⟩|⟨hg15,h⟩:=h.br
 refine qk 156 hg15 (jV (wy 156 hg15) (xc call23) (h.mono ?_))
 rintro e w29 ⟨r26,rfl,hk,h⟩
 refine ⟨_,rfl,?_⟩
 obtain ⟨hs,hb⟩:=hk.hh hs hb
 refine jV (wy 156 hg15) (xc call22) ((p_D1 r26 w29).mono ?_)
 rintro e w30 ⟨he,hE⟩
 refine ⟨_,he,?_⟩
 obtain ⟨hs,hb⟩:=hs.pp hb hE
 refine qk 156 hg15 (q2 (vb (r26 == 51)) (xT hg15) (q (ln (er ?_))))
 have ⟨h,hs⟩:=hs.hr (h w30)
 refine rs1 results18 ⟨(r26 == 51),rfl,h⟩
 refine sj4 156 hg15 (q2 (vb false) (xF hg15) (q (ln (er (rs1 results18 ⟨false,rfl,h⟩)))))
 obtain ⟨hg16,h⟩|⟨hg16,h⟩:=h.br
 refine qk 150 hg16 ?_
 have ⟨h,hs⟩:=hs.hr (h H7 w28)
 refine jV (wy 150 hg16) (xc call55) (h.mono ?_)
 rintro e w31 ⟨r27,rfl,hk,h⟩
 refine ⟨_,rfl,?_⟩
 obtain ⟨hs,hb⟩:=hk.hh hs hb
 refine qk 150 hg16 (qk 150 hg16 (q2 (vb (((r27.len:Int):Int) == 2)) (xT hg16) (jB ⟨(((r27.len:Int):Int) == 2),H7,hm,hs,hb,h⟩)))
 refine sj4 150 hg16 (q2 (vb false) (xF hg16) (jB ?_))
 have ⟨h,hs⟩:=hs.hr (h H7 w28)
 exact ⟨false,H7,hm,hs,hb,h⟩
 rcases bte x3 with hg14 | hg14
 refine qk 146 hg14 (qk 146 hg14 (q2 (vb (r25 == 0)) (xT hg14) (jB ⟨true,_,hg14,hs,hb,hm⟩)))
 refine sj2 146 hg14 (q2 (vb false) (xF hg14) (jB ⟨false,_,hg14,hs,hb,hm⟩))
 obtain ⟨hg17,h⟩|⟨hg17,h⟩:=h.br
 refine qk 141 hg17 (qk 141 hg17 (jV (wy 141 hg17) (xc call54) (h.mono ?_)))
 rintro e w32 ⟨r28,rfl,hk,h⟩
 refine ⟨_,rfl,?_⟩
 obtain ⟨hs,hb⟩:=hk.hh hs hb
 refine q2 (vb r28) (xT hg17) (jB ⟨r28,H,hm,hs,hb,h⟩)
 refine sj3 141 hg17 (q2 (vb false) (xF hg17) (jB ⟨false,H,hm,hs,hb,h⟩))
 obtain ⟨hg18,h⟩|⟨hg18,h⟩:=h.br
 refine qk 135 hg18 (qk 135 hg18 (jV (wy 135 hg18) (xc call54) (h.mono ?_)))
 rintro e w33 ⟨r29,rfl,hk,h⟩
 refine ⟨_,rfl,?_⟩
 obtain ⟨hs,hb⟩:=hk.hh hs hb
 refine qk 135 hg18 (q2 (vb (!r29)) (xT hg18) (jB ⟨(!r29),H,hm,hs,hb,h⟩))
 refine sj4 135 hg18 (q2 (vb false) (xF hg18) (jB ⟨false,H,hm,hs,hb,h⟩))
 obtain ⟨hg19,h⟩|⟨hg19,h⟩:=h.br
 refine qk 130 hg19 (qk 130 hg19 ?_)
 have ⟨h,hs⟩:=hs.hr (h H6 w27)
 refine jV (wy 130 hg19) (xc call53) (h.mono ?_)
 rintro e w34 ⟨r30,rfl,hk,h⟩
 refine ⟨_,rfl,?_⟩
 obtain ⟨hs,hb⟩:=hk.hh hs hb
 refine q2 (vb r30) (xT hg19) (jB ⟨r30,H6,hm,hs,hb,h⟩)
 refine sj3 130 hg19 (q2 (vb false) (xF hg19) (jB ?_))
 have ⟨h,hs⟩:=hs.hr (h H6 w27)
 exact ⟨false,H6,hm,hs,hb,h⟩
 rcases bte y1 with hg12 | hg12
 refine qk 126 hg12 (qk 126 hg12 (q2 (vb (!r22)) (xT hg12) (jB ⟨true,_,hg12,hs,hb,hm⟩)))
 refine sj2 126 hg12 (q2 (vb false) (xF hg12) (jB ⟨false,_,hg12,hs,hb,hm⟩))
 rcases bte ((((r17 == 0) && (r23 == 0)) && (decide ((r18.len:Int)>0))) && r19) with hg10 | hg10
 refine qk 121 hg10 (jV (wy 121 hg10) (xc call22) ((p_D1 r20 w23).mono ?_))
 rintro e w26 ⟨he,hE⟩
 refine ⟨_,he,?_⟩
 obtain ⟨hs,hb⟩:=hs.pp hb hE
 refine qk 121 hg10 (q2 (vb (r20 == 0)) (xT hg10) (jB ⟨true,_,_,hg10,rfl,hs,hb,hm⟩))
 refine sj3 121 hg10 (q2 (vb false) (xF hg10) (jB ⟨false,_,_,hg10,rfl,hs,hb,hm⟩))
 rcases bte (((r17 == 0) && (r23 == 0)) && (decide ((r18.len:Int)>0))) with hg8 | hg8
 refine qk 118 hg8 (q2 (vb r19) (xT hg8) (jB ⟨true,_,hg8,hs,hb,hm⟩))
 refine sj 118 hg8 (q2 (vb false) (xF hg8) (jB ⟨false,_,hg8,hs,hb,hm⟩))
 rcases bte ((r17 == 0) && (r23 == 0)) with hg6 | hg6
 refine qk 113 hg6 (qk 113 hg6 (qk 113 hg6 (q2 (vb (decide ((r18.len:Int)>0))) (xT hg6) (jB ⟨true,_,hg6,hs,hb,hm⟩))))
 refine sj3 113 hg6 (q2 (vb false) (xF hg6) (jB ⟨false,_,hg6,hs,hb,hm⟩))
 rcases bte (r17 == 0) with hg4 | hg4
 refine qk 108 hg4 (jV (wy 108 hg4) (xc call22) ((p_D1 r23 w18).mono ?_))
 rintro e w21 ⟨he,hE⟩
 refine ⟨_,he,?_⟩
 obtain ⟨hs,hb⟩:=hs.pp hb hE
 refine qk 108 hg4 (q2 (vb (r23 == 0)) (xT hg4) (jB ⟨true,_,hg4,hs,hb,hm⟩))
 refine sj3 108 hg4 (q2 (vb false) (xF hg4) (jB ⟨false,_,hg4,hs,hb,hm⟩))
def m_E1_l1 (l1:Sl) (r1:Option Addr) (r2:Option Addr) (out1:Sl) (i1:Int) (w0:World) (Hl1:NP) (wl1:World) (Kc1:Sl→Int→NP→WP) (K:(Option Addr)→(Option Addr)→Sl→Bool→WP):Prop :=Br (decide (i1<(l1.len:Int))) (∃a1:Addr,At l1 i1 6 a1∧∃aA aB aC aD aE aF,Row wl1 a1 (Ac aA aB aC aD aE aF)∧Calls prog 32 #[(vp r1),(.agg #[(vi aA),(vi aB),(vi aC),(vu aD),(vs aE),aF.v])] wl1 (fun e w3=>∃r3 r4,e=.returned (.tuple #[(vi r3),(vi r4)])∧Kept Hl1 wl1 w3∧∃a2:Addr,At l1 i1 6 a2∧∃aG aH aI aJ aK aL,Row w3 a2 (Ac aG aH aI aJ aK aL)∧Calls prog 34 #[(vp r2),(.agg #[(vi aG),(vi aH),(vi aI),(vu aJ),(vs aK),aL.v])] w3 (fun e w4=>∃r5 r6,e=.returned (.tuple #[(vi r5),(vi r6)])∧Kept Hl1 w3 w4∧Br ((r4 != r6) || (r3 != r5)) (∀H1 w6,Hst w0 Hl1 w4 H1 w6→K none none Sl.nil false w6) (∀H1 w6,Hst w0 Hl1 w4 H1 w6→∀p1 w8,New w6 (.cells #[(vi r5)] 30) p1 w8→∃s1:Sl,∃w9:World,(Builtin.append_ #[52,52] 52 #[out1.v,(Sl.mk (some p1) 1 1).v]).run prog w8=.ok s1.v w9∧Kept H1 w8 w9∧Kc1 s1 (q6.wrap (i1+1)) H1 w9)))) (K r1 r2 out1 true wl1)
def m_E1 (l1:Sl) (w0:World) (K:(Option Addr)→(Option Addr)→Sl→Bool→WP):Prop :=Calls prog 27 #[] w0 (fun e w1=>∃r1,e=.returned (vp r1)∧Kept None w0 w1∧Calls prog 31 #[] w1 (fun e w2=>∃r2,e=.returned (vp r2)∧Kept None w1 w2∧Br (Option.isNone r1) (K none none Sl.nil false w2) (∃(I1:Sl→Int→NP→WP) (mu1:Sl→Int→World→Nat),I1 Sl.nil 0 None w2∧∀(out1:Sl) (i1:Int) (Hl1:NP) (wl1:World),Hst w0 Hl1 wl1 Hl1 wl1→I1 out1 i1 Hl1 wl1→m_E1_l1 l1 r1 r2 out1 i1 w0 Hl1 wl1 (fun y'0 y'1 H' w'=>I1 y'0 y'1 H' w'∧mu1 y'0 y'1 w'<mu1 out1 i1 wl1) K)))
theorem w_E1 (l1 w0 K) (h:m_E1 l1 w0 K):
  Calls prog 19 #[l1.v] w0 (fun e w'=>∃r7 r8,∃r9:Sl,∃r10,e=.returned (.tuple #[(vp r7),(vp r8),r9.v,(vb r10)])∧K r7 r8 r9 r10 w'):=by
 refine cw (args:=[l1.v]) func19 ntmps19 ?_
 obtain ⟨hs,hb⟩:=st0 w0
 refine eg (qd (ln (eg (sc call27 (h.mono fun e w1 ⟨r1,k,hk,h⟩=>have ⟨hs,hb⟩:=hk.hh hs hb;⟨_,k,?_⟩)))))
 refine q (ln (eg (sc call31 (h.mono fun e w2 ⟨r2,k,hk,h⟩=>have ⟨hs,hb⟩:=hk.hh hs hb;⟨_,k,?_⟩))))
 refine q (ln (jA (eg (q (q2 (vb (Option.isNone r1)) (kC (by kernel_rfl) rfl underlying26) (ln (cbr h ?_ ?_)))))))<;>intro h
 refine eg (qd (ln (er (jW (jCY (.inl rfl) results19 (v:=(vp none)) (by kernel_rfl) (v':=(vp none)) (by kernel_rfl) (v'':=Sl.nil.v) (by kernel_rfl) (v3:=(vb false)) (by kernel_rfl) ⟨none,none,Sl.nil,false,rfl,h⟩)))))
 refine jC (jJ (eg (q (ln (jA (eg (q (jB (jJ (jF ?_))))))))))
 obtain ⟨I1,mu1,h0,hr⟩:=h
 refine zI (σ:=Sl×Int×NP×World) (fun s ρ w=>w=s.2.2.2∧Has ρ [(0,l1.v),(6,(vp r1)),(7,(vp r2)),(8,s.1.v),(9,(vi s.2.1))]∧Hst w0 s.2.2.1 w s.2.2.1 w∧HB s.2.2.1 w []∧I1 s.1 s.2.1 s.2.2.1 s.2.2.2) (fun s=>mu1 s.1 s.2.1 s.2.2.2) (Sl.nil,0,None,w2) ⟨rfl,hm,hs,hb,h0⟩ ?_
 rintro ⟨out1,i1,Hl1,wl1⟩ ρ w ⟨hw,hH,hs,hb,hI⟩
 dsimp only at hw hH hs hb;subst w
 have h:=hr out1 i1 Hl1 wl1 hs hI
 refine jO hH (jA (eg (qd (ln (cbr h ?_ ?_)))))<;>intro h
 refine jC (jJ (jA (jF (eg (qc (qi (runUnderlying22 _) (sizeOf49 _) h fun a1 h=>?_))))))
 obtain ⟨aA,aB,aC,aD,aE,aF,hv4,h⟩:=h
 refine qa (isAgg49 _) (sizeOf49 _) hv4 (sc call32 (h.mono fun e w3 ⟨r3,r4,k,hk,h⟩=>have ⟨hs,hb⟩:=hk.hh hs hb;⟨_,k,?_⟩))
 refine q (qd (ln (eg (qc (qi (runUnderlying22 _) (sizeOf49 _) h fun a2 h=>?_)))))
 obtain ⟨aG,aH,aI,aJ,aK,aL,hv2,h⟩:=h
 refine qa (isAgg49 _) (sizeOf49 _) hv2 (sc call34 (h.mono fun e w4 ⟨r5,r6,k,hk,h⟩=>have ⟨hs,hb⟩:=hk.hh hs hb;⟨_,k,?_⟩))
 refine q (qd (ln (jA (jA (zC (fun ρ wJ=>∃b1'0:Bool,∃HJ:NP,((r4 != r6)=b1'0)∧Hst w0 Hl1 w4 HJ wJ∧HB HJ wJ []∧Has ρ [(0,l1.v),(6,(vp r1)),(7,(vp r2)),(8,out1.v),(9,(vi i1)),(12,(vi r5)),(50,(vb (b1'0 || (r3 != r5))))]) ?_ ?_)))))
 refine rg (q (sc call22 ((p_D1 r4 w4).mono ?_)))
 rintro e w7 ⟨he,hE⟩
 refine ⟨_,he,?_⟩
 obtain ⟨hs,hb⟩:=hs.pp hb hE
 refine qc ?_
 rcases bte (r4 != r6) with hg2 | hg2
 refine sj3 46 hg2 (q2 (vb true) (xT hg2) (ln ⟨true,_,hg2,hs,hb,hm⟩))
 refine qk 46 hg2 (qk 46 hg2 (qk 46 hg2 (q2 (vb (r3 != r5)) (xF hg2) (ln ⟨false,_,hg2,hs,hb,hm⟩))))
 rintro ρ w6 ⟨b1'0,H1,he0,hs,hb,hH⟩
 subst he0
 refine jQ hH (jJ (cbr h ?_ ?_))<;>intro h
 refine eg (qd (ln (er (jW (kG (jW (jW (kG (jW ?_)))))))))
 have ⟨h,hs⟩:=hs.hr (h H1 w6)
 refine jCY (.inl rfl) results19 (v:=(vp none)) (by kernel_rfl) (v':=(vp none)) (by kernel_rfl) (v'':=Sl.nil.v) (by kernel_rfl) (v3:=(vb false)) (by kernel_rfl) ⟨none,none,Sl.nil,false,rfl,h⟩
 refine jC (jJ (rg (qb ?_)))
 have ⟨h,hs⟩:=hs.hr (h H1 w6)
 refine nw5 (fun p=>(Sl.mk (some p) 1 1).v) hs hb h fun p1 w8 hs hb h=>?_
 obtain ⟨s1,w9,hv1,hk,h⟩:=h
 refine st (v:=s1.v) (jP rfl) (zH (args:=#[out1.v,(Sl.mk (some p1) 1 1).v]) (by kernel_rfl) (fun _=>rfl) hv1) ?_
 obtain ⟨hs,hb⟩:=hk.hh hs hb
 refine q (jB (kD (jJ (rg (qc (ln ⟨(s1,(q6.wrap (i1+1)),H1,w9),⟨rfl,hm,hs,hb,h.1⟩,h.2⟩))))))
 refine zE (kP (kP (kO (jJ (eg (q0 (vp r1) (q0 (vp r2) (q0 out1.v (q0 (vp r1) (q0 (vp r2) (qb (ln (er (jCY (.inl rfl) results19 (v:=(vp r1)) (by kernel_rfl) (v':=(vp r2)) (by kernel_rfl) (v'':=out1.v) (by kernel_rfl) (v3:=(vb true)) (by kernel_rfl) ⟨r1,r2,out1,true,rfl,h⟩))))))))))))))
theorem kN (a0 b0:Bool) (w:World):(Go.binOp .neq 4 (.bool a0) (.bool b0)).run prog w=.ok (.bool (!(a0 == b0))) w:=by
 simp [Go.binOp,Op.equal,Op.maxDepth,go_sem,jBN,bne]
def m_F_j6 (t1:Int) (r4 x3:Bool) (r5 x4:Bool) (w0:World) (H:NP) (w:World) (Kc4:Int→NP→WP) (K:Bool→WP):Prop :=Br ((!(r4 == x3)) || (!(r5 == x4))) (∀H4 w11,Hst w0 H w H4 w11→K false w11) (∀H4 w11,Hst w0 H w H4 w11→Kc4 (q6.wrap (t1+1)) H4 w11)
def m_F_j5 (k1:Option Addr) (x1:Option Addr) (r3:Sl) (t1:Int) (r4 x3:Bool) (w0:World) (H:NP) (w:World) (Kc4:Int→NP→WP) (K:Bool→WP):Prop :=Br (!(r4 == x3)) (K false w) (Calls prog 54 #[(vp k1),(vi t1)] w (fun e w10=>∃r5,e=.returned (vb r5)∧Kept H w w10∧Br ((decide (t1≥1)) && (decide (t1<(r3.len:Int)))) (Calls prog 64 #[(vp x1)] w10 (fun e w12=>∃r6:Sl,e=.returned r6.v∧Kept H w10 w12∧Calls prog 61 #[r6.v,(vi t1)] w12 (fun e w13=>∃r7,e=.returned (vb r7)∧Kept H w12 w13∧m_F_j6 t1 r4 x3 r5 r7 w0 H w13 Kc4 K))) (m_F_j6 t1 r4 x3 r5 false w0 H w10 Kc4 K)))
def m_F_l4 (k1:Option Addr) (x1:Option Addr) (r3:Sl) (t1:Int) (w0:World) (Hl3:NP) (wl3:World) (Kc4:Int→NP→WP) (K:Bool→WP):Prop :=∃a3,x1=some a3∧∃v1,wl3.cell? a3=some (vp v1)∧∃a4,v1=some a4∧∃v2:Sl,wl3.cell? a4=some v2.v∧Br (decide (t1≤(q6.wrap ((v2.len:Int)+1)))) (∀H2 w7,Hst w0 Hl3 wl3 H2 w7→Calls prog 53 #[(vp k1),(vi t1)] w7 (fun e w9=>∃r4,e=.returned (vb r4)∧Kept H2 w7 w9∧Br ((decide (t1≥1)) && (decide (t1<(r3.len:Int)))) (∃a5:Addr,At r3 t1 1 a5∧∃v3,w9.cell? a5=some (vb v3)∧m_F_j5 k1 x1 r3 t1 r4 v3 w0 H2 w9 Kc4 K) (m_F_j5 k1 x1 r3 t1 r4 false w0 H2 w9 Kc4 K))) (∃C1:WP,C1 wl3.drew∧∀w14,w14=wl3.drew→∃a6,x1=some a6∧∃v4:Sl,(∀w',C1 w'→w'.cell? (a6.add 1)=some v4.v)∧Calls prog 55 #[(vp k1)] w14 (fun e w15=>∃r8:Sl,e=.returned r8.v∧C1 w15∧Kept Hl3 w14 w15∧Calls prog 63 #[r8.v,v4.v] w15 (fun e w16=>∃r9,e=.returned (vb r9)∧C1 w16∧Kept Hl3 w15 w16∧K r9 w16)))
def m_F_l3 (k1:Option Addr) (x1:Option Addr) (r2:Sl) (i2:Int) (w0:World) (Hl2:NP) (wl2:World) (Kc3:Int→NP→WP) (K:Bool→WP):Prop :=Br (decide (i2<(r2.len:Int))) (∃a2:Addr,At r2 i2 1 a2∧zQ wl2 a2∧¬ Hl2 a2.block∧∀w4,w4=wl2.setCell a2 (vi (-9))→Kc3 (q6.wrap (i2+1)) Hl2 w4) (Calls prog 65 #[(vp x1)] wl2 (fun e w5=>∃r3:Sl,e=.returned r3.v∧Kept Hl2 wl2 w5∧∃(I3:Int→NP→WP) (mu3:Int→World→Nat),I3 (-1) Hl2 w5∧∀(t1:Int) (Hl3:NP) (wl3:World),Hst w0 Hl3 wl3 Hl3 wl3→I3 t1 Hl3 wl3→m_F_l4 k1 x1 r3 t1 w0 Hl3 wl3 (fun y'0 H' w'=>I3 y'0 H' w'∧mu3 y'0 w'<mu3 t1 wl3) K))
def m_F_l2 (k1:Option Addr) (x1:Option Addr) (r1 r2:Sl) (i1:Int) (w0:World) (Hl1:NP) (wl1:World) (Kc2:Int→NP→WP) (K:Bool→WP):Prop :=Br (decide (i1<(r1.len:Int))) (∃a1:Addr,At r1 i1 1 a1∧zQ wl1 a1∧¬ Hl1 a1.block∧∀w3,w3=wl1.setCell a1 (vi (-9))→Kc2 (q6.wrap (i1+1)) Hl1 w3) (∃(I2:Int→NP→WP) (mu2:Int→World→Nat),I2 0 Hl1 wl1∧∀(i2:Int) (Hl2:NP) (wl2:World),Hst w0 Hl2 wl2 Hl2 wl2→I2 i2 Hl2 wl2→m_F_l3 k1 x1 r2 i2 w0 Hl2 wl2 (fun y'0 H' w'=>I2 y'0 H' w'∧mu2 y'0 w'<mu2 i2 wl2) K)
def m_F_j1 (k1:Option Addr) (x1:Option Addr) (r1 r2:Sl) (x2:Bool) (w0:World) (H:NP) (w:World) (K:Bool→WP):Prop :=Br x2 (K false w) (∃(I1:Int→NP→WP) (mu1:Int→World→Nat),I1 0 H w∧∀(i1:Int) (Hl1:NP) (wl1:World),Hst w0 Hl1 wl1 Hl1 wl1→I1 i1 Hl1 wl1→m_F_l2 k1 x1 r1 r2 i1 w0 Hl1 wl1 (fun y'0 H' w'=>I1 y'0 H' w'∧mu1 y'0 w'<mu1 i1 wl1) K)
def m_F (k1:Option Addr) (x1:Option Addr) (w0:World) (K:Bool→WP):Prop :=Calls prog 55 #[(vp k1)] w0 (fun e w1=>∃r1:Sl,e=.returned r1.v∧Kept None w0 w1∧Calls prog 62 #[(vp k1)] w1 (fun e w2=>∃r2:Sl,e=.returned r2.v∧Kept None w1 w2∧∃a7,x1=some a7∧∃v5:Sl,w2.cell? (a7.add 1)=some v5.v∧Calls prog 63 #[r1.v,v5.v] w2 (fun e w17=>∃r10,e=.returned (vb r10)∧Kept None w2 w17∧Br (!r10) (m_F_j1 k1 x1 r1 r2 true w0 None w17 K) (Calls prog 64 #[(vp x1)] w17 (fun e w18=>∃r11:Sl,e=.returned r11.v∧Kept None w17 w18∧Calls prog 63 #[r2.v,r11.v] w18 (fun e w19=>∃r12,e=.returned (vb r12)∧Kept None w18 w19∧m_F_j1 k1 x1 r1 r2 (!r12) w0 None w19 K))))))
theorem w_F (k1 x1 w0 K) (h:m_F k1 x1 w0 K):
  Calls prog 25 #[(vp k1),(vp x1)] w0 (fun e w'=>∃r13,e=.returned (vb r13)∧K r13 w'):=by
 refine cw (args:=[(vp k1),(vp x1)]) func25 ntmps25 ?_
 obtain ⟨hs,hb⟩:=st0 w0
 refine eg (q (ln (eg (q (sc call55 (h.mono fun e w1 ⟨r1,k,hk,h⟩=>have ⟨hs,hb⟩:=hk.hh hs hb;⟨_,k,?_⟩))))))
 refine q (sc call62 (h.mono fun e w2 ⟨r2,k,hk,h⟩=>have ⟨hs,hb⟩:=hk.hh hs hb;⟨_,k,?_⟩))
 refine qb (ln (jA (jA (zX (fun ρ w=>∃x2,∃H:NP,Has ρ [(0,(vp k1)),(1,(vp x1)),(5,r1.v),(6,r2.v),(29,(vb x2))]∧Hst w0 H w H w∧HB H w []∧m_F_j1 k1 x1 r1 r2 x2 w0 H w K) ?_ ?_))))
 rintro ρ w ⟨x2,H,hH,hs,hb,h⟩
 refine jO hH (cbr h ?_ ?_)<;>intro h
 refine eg (q (ln (er (jW (rs1 results25 ⟨false,rfl,h⟩)))))
 refine jC (jJ (jA (eg (q (ln (jF ?_))))))
 obtain ⟨I1,mu1,h0,hr⟩:=h
 refine zI (σ:=Int×NP×World) (fun s ρ w=>w=s.2.2∧Has ρ [(0,(vp k1)),(1,(vp x1)),(5,r1.v),(6,r2.v),(7,(vi s.1))]∧Hst w0 s.2.1 w s.2.1 w∧HB s.2.1 w []∧I1 s.1 s.2.1 s.2.2) (fun s=>mu1 s.1 s.2.2) (0,H,w) ⟨rfl,hm,hs,hb,h0⟩ ?_
 rintro ⟨i1,Hl1,wl1⟩ ρ w ⟨hw,hH,hs,hb,hI⟩
 dsimp only at hw hH hs hb;subst w
 have h:=hr i1 Hl1 wl1 hs hI
 refine jO hH (jA (eg (qd (ln (cbr h ?_ ?_)))))<;>intro h
 refine jC (jJ (jA (jF (rg (qb (qi (runUnderlying52 _) (sizeOf30 _) h fun a1 h=>st2 (sizeOf30 _) hs hb h fun w3 hs hb h=>jB (kD (jJ (rg (qc (ln ⟨((q6.wrap (i1+1)),Hl1,w3),⟨rfl,hm,hs,hb,h.1⟩,h.2⟩)))))))))))
 refine zE (kP (kP (kO (jJ (jA (eg (q0 (vi 0) (ln (jF ?_)))))))))
 obtain ⟨I2,mu2,h0,hr⟩:=h
 refine zI (σ:=Int×NP×World) (fun s ρ w=>w=s.2.2∧Has ρ [(0,(vp k1)),(1,(vp x1)),(6,r2.v),(8,(vi s.1))]∧Hst w0 s.2.1 w s.2.1 w∧HB s.2.1 w []∧I2 s.1 s.2.1 s.2.2) (fun s=>mu2 s.1 s.2.2) (0,Hl1,wl1) ⟨rfl,hm,hs,hb,h0⟩ ?_
 rintro ⟨i2,Hl2,wl2⟩ ρ w ⟨hw,hH,hs,hb,hI⟩
 dsimp only at hw hH hs hb;subst w
 have h:=hr i2 Hl2 wl2 hs hI
 refine jO hH (jA (eg (qd (ln (cbr h ?_ ?_)))))<;>intro h
 refine jC (jJ (jA (jF (rg (qb (qi (runUnderlying52 _) (sizeOf30 _) h fun a2 h=>st2 (sizeOf30 _) hs hb h fun w4 hs hb h=>jB (kD (jJ (rg (qc (ln ⟨((q6.wrap (i2+1)),Hl2,w4),⟨rfl,hm,hs,hb,h.1⟩,h.2⟩)))))))))))
 refine zE (kP (kP (kO (jJ (eg (q0 (vp x1) (sc call65 (h.mono fun e w5 ⟨r3,k,hk,h⟩=>have ⟨hs,hb⟩:=hk.hh hs hb;⟨_,k,?_⟩))))))))
 refine q (ln (jA (eg (q (ln (jF ?_))))))
 obtain ⟨I3,mu3,h0,hr⟩:=h
 refine zI (σ:=Int×NP×World) (fun s ρ w=>w=s.2.2∧Has ρ [(0,(vp k1)),(1,(vp x1)),(9,r3.v),(10,(vi s.1))]∧Hst w0 s.2.1 w s.2.1 w∧HB s.2.1 w []∧I3 s.1 s.2.1 s.2.2) (fun s=>mu3 s.1 s.2.2) ((-1),Hl2,w5) ⟨rfl,hm,hs,hb,h0⟩ ?_
 rintro ⟨t1,Hl3,wl3⟩ ρ w ⟨hw,hH,hs,hb,hI⟩
 dsimp only at hw hH hs hb;subst w
 have h:=hr t1 Hl3 wl3 hs hI
 refine jO hH (jA (eg (qb (qm h fun a3 h=>q (ql (isAgg27 _) h fun v1 h=>qm h fun a4 h=>q (ql (isAgg42 _) h fun v2 h=>qc (ln (cbr h ?_ ?_))))))))<;>intro h
 refine jC (jJ (jA (jF (jA (zC (fun ρ wJ=>∃HJ:NP,Hst w0 Hl3 wl3 HJ wJ∧HB HJ wJ []∧Has ρ [(0,(vp k1)),(1,(vp x1)),(9,r3.v),(10,(vi t1)),(11,(vb ((decide (t1≥1)) && (decide (t1<(r3.len:Int))))))]) ?_ ?_)))))
 refine rg (qc (jH 5 (fun ρ wJ=>∃b3'0:Bool,∃HJ:NP,((decide (t1≥1))=b3'0)∧Hst w0 Hl3 wl3 HJ wJ∧HB HJ wJ []∧Has ρ [(0,(vp k1)),(1,(vp x1)),(9,r3.v),(10,(vi t1)),(70,(vb (b3'0 && (decide (t1<(r3.len:Int))))))]) ?_ ?_))
 rintro ρ w8 ⟨b3'0,H3,he0,hs,hb,hH⟩
 subst he0
 refine jM hH (q (ln ⟨_,hs,hb,hm⟩))
 rcases bte (decide (t1≥1)) with hg4 | hg4
 refine qk 65 hg4 (qk 65 hg4 (qk 65 hg4 (qk 65 hg4 (q2 (vb (decide (t1<(r3.len:Int)))) (xT hg4) (jB ⟨true,_,hg4,hs,hb,hm⟩)))))
 refine sj4 65 hg4 (q2 (vb false) (xF hg4) (jB ⟨false,_,hg4,hs,hb,hm⟩))
 rintro ρ w7 ⟨H2,hs,hb,hH⟩
 refine jQ hH (jJ (eg (qb ?_)))
 have ⟨h,hs⟩:=hs.hr (h H2 w7)
 refine sc call53 (h.mono fun e w9 ⟨r4,k,hk,h⟩=>have ⟨hs,hb⟩:=hk.hh hs hb;⟨_,k,?_⟩)
 refine qb (jH 5 (fun ρ w=>∃x3,∃H:NP,Has ρ [(0,(vp k1)),(1,(vp x1)),(9,r3.v),(10,(vi t1)),(11,(vb ((decide (t1≥1)) && (decide (t1<(r3.len:Int)))))),(73,(vb r4)),(80,(vb x3))]∧Hst w0 H w H w∧HB H w []∧m_F_j5 k1 x1 r3 t1 r4 x3 w0 H w (fun y'0 H' w'=>I3 y'0 H' w'∧mu3 y'0 w'<mu3 t1 wl3) K) ?_ ?_)
 rintro ρ w ⟨x3,H,hH,hs,hb,h⟩
 refine jM hH (q2 (vb (!(r4 == x3))) (jEQ (by kernel_rfl) (by kernel_rfl) (by kernel_rfl) (kN r4 x3 _)) (q ?_))
 obtain ⟨hg5,h⟩|⟨hg5,h⟩:=h.br
 refine sj5 82 hg5 (sm (sm (sm (sm (sj2 82 hg5 (q2 (vb true) (xT hg5) (ln (zS (by kernel_rfl) (eg (q0 (vb false) (ln (er (kG (jW (jW (kG (jW (rs1 results25 ⟨false,rfl,h⟩))))))))))))))))))
 refine qk 82 hg5 (qk 82 hg5 (jV (wy 82 hg5) (xc call54) (h.mono ?_)))
 rintro e w10 ⟨r5,rfl,hk,h⟩
 refine ⟨_,rfl,?_⟩
 obtain ⟨hs,hb⟩:=hk.hh hs hb
 refine qk 82 hg5 (qk 82 hg5 (jH 5 (fun ρ w=>∃x4,∃H:NP,Has ρ [(0,(vp k1)),(1,(vp x1)),(9,r3.v),(10,(vi t1)),(82,(vb (!(r4 == x3)))),(85,(vb r5)),(92,(vb x4))]∧Hst w0 H w H w∧HB H w []∧m_F_j6 t1 r4 x3 r5 x4 w0 H w (fun y'0 H' w'=>I3 y'0 H' w'∧mu3 y'0 w'<mu3 t1 wl3) K) ?_ ?_))
 rintro ρ w ⟨x4,H,hH,hs,hb,h⟩
 refine jM hH (jH 2 (fun ρ wJ=>∃b4'0:Bool,∃HJ:NP,((!(r4 == x3))=b4'0)∧Hst w0 H w HJ wJ∧HB HJ wJ []∧Has ρ [(0,(vp k1)),(1,(vp x1)),(9,r3.v),(10,(vi t1)),(94,(vb (b4'0 || (!(r5 == x4)))))]) ?_ ?_)
 rintro ρ w11 ⟨b4'0,H4,he0,hs,hb,hH⟩
 subst he0
 refine jM hH (ln (cbr h ?_ ?_))<;>intro h
 refine eg (q (ln (er (kG (jW (jW (kG (jW ?_))))))))
 have ⟨h,hs⟩:=hs.hr (h H4 w11)
 refine rs1 results25 ⟨false,rfl,h⟩
 refine jC (kD (jJ (rg (qc (jB ?_)))))
 have ⟨h,hs⟩:=hs.hr (h H4 w11)
 refine jJ ⟨((q6.wrap (t1+1)),H4,w11),⟨rfl,hm,hs,hb,h.1⟩,h.2⟩
 rcases bte (!(r4 == x3)) with hg7 | hg7
 refine sj 82 hg7 (q2 (vb true) (xT hg7) (jB ⟨true,_,hg7,hs,hb,hm⟩))
 refine stq (v:=(vb (!(r5 == x4)))) (wy 82 hg7) (jEQ (by kernel_rfl) (by kernel_rfl) (by kernel_rfl) (kN r5 x4 _)) (q2 (vb (!(r5 == x4))) (xF hg7) (jB ⟨false,_,hg7,hs,hb,hm⟩))
 obtain ⟨hg8,h⟩|⟨hg8,h⟩:=h.br
 refine qk 87 hg8 (jV (wy 87 hg8) (xc call64) (h.mono ?_))
 rintro e w12 ⟨r6,rfl,hk,h⟩
 refine ⟨_,rfl,?_⟩
 obtain ⟨hs,hb⟩:=hk.hh hs hb
 refine qk 87 hg8 (jV (wy 87 hg8) (xc call61) (h.mono ?_))
 rintro e w13 ⟨r7,rfl,hk,h⟩
 refine ⟨_,rfl,?_⟩
 obtain ⟨hs,hb⟩:=hk.hh hs hb
 refine stq (v:=(vb r7)) (wy 82 hg5) (xT hg8) (jB ⟨r7,H,hm,hs,hb,h⟩)
 refine sj4 87 hg8 (stq (v:=(vb false)) (wy 82 hg5) (xF hg8) (jB ⟨false,H,hm,hs,hb,h⟩))
 obtain ⟨hg9,h⟩|⟨hg9,h⟩:=h.br
 refine qk 75 hg9 (qk 75 hg9 ?_)
 obtain ⟨a5,hv4,h⟩:=h
 refine q4 75 hg9 (xi (runUnderlying117 _) (sizeOf4 _) hv4) ?_
 obtain ⟨v3,hv3,h⟩:=h
 refine q4 75 hg9 (xl (isAgg4 _) hv3) (q2 (vb v3) (xT hg9) (jB ⟨v3,H2,hm,hs,hb,h⟩))
 refine sj4 75 hg9 (q2 (vb false) (xF hg9) (jB ⟨false,H2,hm,hs,hb,h⟩))
 refine zE (kP (kP (kO (jJ (jA ?_)))))
 obtain ⟨C1,hC,h⟩:=h
 refine dr2 C1 [1,6] [] hC h hs hb fun w14 hs hb h=>?_
 have hs:=hs.here
 refine qx 0 (vp k1) Kp0 (qx 2 (vp x1) Kp2 (qg 3 ?_))
 obtain ⟨a6,hp5,h⟩:=h
 refine sy Kp3 (fun _ _=>xn hp5) (qx 4 (vp (some (a6.add 1))) Kp4 (qg 5 ?_))
 obtain ⟨v4,hv5,h⟩:=h
 refine sy Kp5 (fun _ k=>xl (isAgg52 _) (hv5 _ k)) (lg 1 (slc Kp1 call55 (h.mono ?_)))
 rintro e w15 ⟨r8,rfl,hC,hk,h⟩
 refine ⟨_,rfl,.inr hC,?_⟩
 obtain ⟨hs,hb⟩:=hk.hh hs hb
 refine lg 6 (slc Kp6 call63 (h.mono ?_))
 rintro e w16 ⟨r9,rfl,hC,hk,h⟩
 refine ⟨_,rfl,.inr hC,?_⟩
 obtain ⟨hs,hb⟩:=hk.hh hs hb
 refine qx 7 (vb r9) Kp7 (wn (jJ (er (rs1 results25 ⟨r9,rfl,h⟩))))
 refine rg (qb (qm h fun a7 h=>q (ql (isAgg52 _) h fun v5 h=>sc call63 (h.mono fun e w17 ⟨r10,k,hk,h⟩=>have ⟨hs,hb⟩:=hk.hh hs hb;⟨_,k,?_⟩))))
 refine qb ?_
 obtain ⟨hg10,h⟩|⟨hg10,h⟩:=h.br
 refine sj5 23 hg10 (q2 (vb true) (xT hg10) (ln ⟨true,None,hm,hs,hb,h⟩))
 refine qk 23 hg10 (qk 23 hg10 (jV (wy 23 hg10) (xc call64) (h.mono ?_)))
 rintro e w18 ⟨r11,rfl,hk,h⟩
 refine ⟨_,rfl,?_⟩
 obtain ⟨hs,hb⟩:=hk.hh hs hb
 refine jV (wy 23 hg10) (xc call63) (h.mono ?_)
 rintro e w19 ⟨r12,rfl,hk,h⟩
 refine ⟨_,rfl,?_⟩
 obtain ⟨hs,hb⟩:=hk.hh hs hb
 refine qk 23 hg10 (q2 (vb (!r12)) (xF hg10) (ln ⟨(!r12),None,hm,hs,hb,h⟩))
def m_P_l2 (r3:Option Addr) (r6:Option Addr) (p1:Addr) (s2:Sl) (i1:Int) (Hl1:NP) (wl1:World) (Kc2:Int→NP→WP) (K:Bool→WP):Prop :=Br (decide (i1<(s2.len:Int))) (Calls prog 21 #[(vp r6)] wl1 (fun e w8=>∃r7,e=.returned (vp r7)∧Kept Hl1 wl1 w8∧∀p3 w9,New w8 (.cells #[] 30) p3 w9→∃v1:Sl,w9.cell? (p1.add 1)=some v1.v∧∃s3:Sl,∃w10:World,(Builtin.append_ #[52,52] 52 #[(Sl.mk (some p3) 0 0).v,v1.v]).run prog w9=.ok s3.v w10∧Kept Hl1 w9 w10∧∀p4 w11,New w10 (.cells #[(vp r3),s3.v] 59) p4 w11→∃C1:WP,C1 w11.drew∧∀w12,w12=w11.drew→∃a1:Addr,At s2 i1 1 a1∧∃v2,(∀w',C1 w'→w'.cell? a1=some (vi v2))∧∃a2:Addr,At s2 i1 1 a2∧∃v3,(∀w',C1 w'→w'.cell? a2=some (vi v3))∧Calls prog 23 #[(vp r6),(vi v2)] w12 (fun e w13=>∃r8,e=.returned (vi r8)∧C1 w13∧Kept Hl1 w12 w13∧Calls prog 22 #[(vi r8)] w13 (fun e w14=>∃r9,e=.returned (vi r9)∧C1 w14∧Kept Hl1 w13 w14∧Calls prog 24 #[(vp (some p1)),(vi v3)] w14 (fun e w15=>∃r10,e=.returned (vi r10)∧C1 w15∧Kept Hl1 w14 w15∧Br (r9 != r10) (K false w15) (Calls prog 25 #[(vp r6),(vp (some p1))] w15 (fun e w16=>∃r11,e=.returned (vb r11)∧C1 w16∧Kept Hl1 w15 w16∧Br (!r11) (K false w16) (Br (Option.isNone r7) (K false w16) (Calls prog 25 #[(vp r7),(vp (some p4))] w16 (fun e w17=>∃r12,e=.returned (vb r12)∧C1 w17∧Kept Hl1 w16 w17∧Br (!r12) (K false w17) (Kc2 (q6.wrap (i1+1)) Hl1 w17))))))))))) (Calls prog 25 #[(vp r6),(vp (some p1))] wl1 (fun e w18=>∃r13,e=.returned (vb r13)∧Kept Hl1 wl1 w18∧Br r13 (Calls prog 18 #[] w18 (fun e w19=>∃r14,e=.returned (vb r14)∧Kept Hl1 w18 w19∧K r14 w19)) (K false w18)))
def m_P_j1 (l1 more1:Sl) (x1:Bool) (w0:World) (H:NP) (w:World) (K:Bool→WP):Prop :=Br x1 (Calls prog 18 #[] w (fun e w1=>∃r1,e=.returned (vb r1)∧Kept H w w1∧K r1 w1)) (Calls prog 19 #[l1.v] w (fun e w2=>∃r2 r3,∃r4:Sl,∃r5,e=.returned (.tuple #[(vp r2),(vp r3),r4.v,(vb r5)])∧Kept H w w2∧Br (!r5) (K false w2) (Calls prog 20 #[(vp r2)] w2 (fun e w3=>∃r6,e=.returned (vp r6)∧Kept H w2 w3∧∀p1 w4,New w3 (.cells #[(vp r3),Sl.nil.v] 59) p1 w4→Br (Option.isNone r6) (K false w4) (∀p2 w5,New w4 (.cells #[] 30) p2 w5→∃s1:Sl,∃w6:World,(Builtin.append_ #[52,52] 52 #[(Sl.mk (some p2) 0 0).v,r4.v]).run prog w5=.ok s1.v w6∧Kept H w5 w6∧∃s2:Sl,∃w7:World,(Builtin.append_ #[52,52] 52 #[s1.v,more1.v]).run prog w6=.ok s2.v w7∧Kept H w6 w7∧∃(I1:Int→NP→WP) (mu1:Int→World→Nat),I1 0 H w7∧∀(i1:Int) (Hl1:NP) (wl1:World),Hst w0 Hl1 wl1 Hl1 wl1→I1 i1 Hl1 wl1→m_P_l2 r3 r6 p1 s2 i1 Hl1 wl1 (fun y'0 H' w'=>I1 y'0 H' w'∧mu1 y'0 w'<mu1 i1 wl1) K)))))
def m_P (l1 more1:Sl) (w0:World) (K:Bool→WP):Prop :=Calls prog 17 #[l1.v] w0 (fun e w20=>∃r15,e=.returned (vb r15)∧Kept None w0 w20∧∀H1 w21,Hst w0 None w20 H1 w21→m_P_j1 l1 more1 (r15 || (decide ((more1.len:Int)>20))) w0 H1 w21 K)
theorem w_P (l1 more1 w0 K) (h:m_P l1 more1 w0 K):
  Calls prog 4 #[l1.v,more1.v] w0 (fun e w'=>∃r16,e=.returned (vb r16)∧K r16 w'):=by
 refine cw (args:=[l1.v,more1.v]) func4 ntmps4 ?_
 obtain ⟨hs,hb⟩:=st0 w0
 refine eg (q (ln (jA (jA (zX (fun ρ w=>∃x1,∃H:NP,Has ρ [(0,l1.v),(1,more1.v),(21,(vb x1))]∧Hst w0 H w H w∧HB H w []∧m_P_j1 l1 more1 x1 w0 H w K) ?_ ?_)))))
 rintro ρ w ⟨x1,H,hH,hs,hb,h⟩
 refine jO hH (cbr h ?_ ?_)<;>intro h
 refine eg (sc call18 (h.mono fun e w1 ⟨r1,k,hk,h⟩=>have ⟨hs,hb⟩:=hk.hh hs hb;⟨_,k,?_⟩))
 refine q (ln (er (jW (rs1 results4 ⟨r1,rfl,h⟩))))
 refine jC (jJ (eg (q (sc call19 (h.mono fun e w2 ⟨r2,r3,r4,r5,k,hk,h⟩=>have ⟨hs,hb⟩:=hk.hh hs hb;⟨_,k,?_⟩)))))
 refine q (qd (qd (ln (jA (eg (qb (ln (cbr h ?_ ?_))))))))<;>intro h
 refine eg (q (ln (er (jW (rs1 results4 ⟨false,rfl,h⟩)))))
 refine jC (jJ (eg (q (sc call20 (h.mono fun e w3 ⟨r6,k,hk,h⟩=>have ⟨hs,hb⟩:=hk.hh hs hb;⟨_,k,?_⟩)))))
 refine q (ln (eg (qb (nw2 hs hb h xb fun p1 w4 hs hb h=>q (ln (jA (eg (q (q2 (vb (Option.isNone r6)) (kC (by kernel_rfl) rfl underlying55) (ln (cbr h ?_ ?_)))))))))))<;>intro h
 refine eg (q (ln (er (jW (rs1 results4 ⟨false,rfl,h⟩)))))
 refine jC (jJ (eg (nw5 (fun p=>(Sl.mk (some p) 0 0).v) hs hb h fun p2 w5 hs hb h=>q ?_)))
 obtain ⟨s1,w6,hv8,hk,h⟩:=h
 refine st (v:=s1.v) (jP rfl) (zH (args:=#[(Sl.mk (some p2) 0 0).v,r4.v]) (by kernel_rfl) (fun _=>rfl) hv8) ?_
 obtain ⟨hs,hb⟩:=hk.hh hs hb
 refine q ?_
 obtain ⟨s2,w7,hv7,hk,h⟩:=h
 refine st (v:=s2.v) (jP rfl) (zH (args:=#[s1.v,more1.v]) (by kernel_rfl) (fun _=>rfl) hv7) ?_
 obtain ⟨hs,hb⟩:=hk.hh hs hb
 refine q (ln (jA (eg (q (ln (jF ?_))))))
 obtain ⟨I1,mu1,h0,hr⟩:=h
 refine zI (σ:=Int×NP×World) (fun s ρ w=>w=s.2.2∧Has ρ [(6,(vp r3)),(9,(vp r6)),(10,(vp (some p1))),(11,s2.v),(12,(vi s.1))]∧Hst w0 s.2.1 w s.2.1 w∧HB s.2.1 w []∧I1 s.1 s.2.1 s.2.2) (fun s=>mu1 s.1 s.2.2) (0,H,w7) ⟨rfl,hm,hs,hb,h0⟩ ?_
 rintro ⟨i1,Hl1,wl1⟩ ρ w ⟨hw,hH,hs,hb,hI⟩
 dsimp only at hw hH hs hb;subst w
 have h:=hr i1 Hl1 wl1 hs hI
 refine jO hH (jA (eg (qd (ln (cbr h ?_ ?_)))))<;>intro h
 refine jC (jJ (jA (jF (eg (q (sc call21 (h.mono fun e w8 ⟨r7,k,hk,h⟩=>have ⟨hs,hb⟩:=hk.hh hs hb;⟨_,k,?_⟩)))))))
 refine q (ln (eg (q (nw5 (fun p=>(Sl.mk (some p) 0 0).v) hs hb h fun p3 w9 hs hb h=>qc (ql (isAgg52 _) h fun v1 h=>?_)))))
 obtain ⟨s3,w10,hv5,hk,h⟩:=h
 refine st (v:=s3.v) (jP rfl) (zH (args:=#[(Sl.mk (some p3) 0 0).v,v1.v]) (by kernel_rfl) (fun _=>rfl) hv5) ?_
 obtain ⟨hs,hb⟩:=hk.hh hs hb
 refine q (nw2 hs hb h xb fun p4 w11 hs hb h=>q (ln (jA ?_)))
 obtain ⟨C1,hC,h⟩:=h
 refine dr2 C1 [5,6,12,17,27] [] hC h hs hb fun w12 hs hb h=>?_
 have hs:=hs.here
 refine qx 0 (vp r6) Kp0 (qx 1 s2.v Kp1 (qx 2 (vi i1) Kp2 (qg 3 ?_)))
 obtain ⟨a1,hv4,h⟩:=h
 refine sy Kp3 (fun _ _=>xi (runUnderlying52 _) (sizeOf30 _) hv4) (qg 4 ?_)
 obtain ⟨v2,hv3,h⟩:=h
 refine sy Kp4 (fun _ k=>xl (isAgg30 _) (hv3 _ k)) (qx 7 (vp (some p1)) Kp7 (qx 8 s2.v Kp8 (qx 9 (vi i1) Kp9 (qg 10 ?_))))
 obtain ⟨a2,hv2,h⟩:=h
 refine sy (jL (S8 (jE (jE jK)))) (fun _ _=>xi (runUnderlying52 _) (sizeOf30 _) hv2) (qg 11 ?_)
 obtain ⟨v3,hv1,h⟩:=h
 refine sy (jL (S8 (jE (jE (jE jK))))) (fun _ k=>xl (isAgg30 _) (hv1 _ k)) (lg 5 (slc Kp5 call23 (h.mono ?_)))
 rintro e w13 ⟨r8,rfl,hC,hk,h⟩
 refine ⟨_,rfl,.inr hC,?_⟩
 obtain ⟨hs,hb⟩:=hk.hh hs hb
 refine lg 6 (slc Kp6 call22 (h.mono ?_))
 rintro e w14 ⟨r9,rfl,hC,hk,h⟩
 refine ⟨_,rfl,.inr hC,?_⟩
 obtain ⟨hs,hb⟩:=hk.hh hs hb
 refine lg 12 (slc (jL (S8 (S4 jK))) call24 (h.mono ?_))
 rintro e w15 ⟨r10,rfl,hC,hk,h⟩
 refine ⟨_,rfl,.inr hC,?_⟩
 obtain ⟨hs,hb⟩:=hk.hh hs hb
 refine qx 13 (vb (r9 != r10)) (jL (S8 (S4 (jE jK)))) (qx 14 (vb (r9 != r10)) (jL (S8 (S4 (jE (jE jK))))) (qg 15 ?_))
 obtain ⟨hg1,h⟩|⟨hg1,h⟩:=h.br
 refine kY (jL (S8 (S4 (jE (jE (jE jK)))))) (jS rfl (yD 75 hg1) rfl) (qn 16 (jL (S8 (S8 jK))) (jS rfl (yD 75 hg1) rfl) (lg 17 (kY (jL (S8 (S8 (jE jK)))) (jS rfl (yD 75 hg1) rfl) (qn 18 (jL (S8 (S8 (jE (jE jK))))) (jS rfl (yD 75 hg1) rfl) (qz 19 (vb true) (jL (S8 (S8 (jE (jE (jE jK)))))) (fun _ _=>(xT hg1)) (qx 20 (vb true) (jL (S8 (S8 (S4 jK)))) (qn 21 (jL (S8 (S8 (S4 (jE jK))))) (jS rfl (yD (c:=true) 81 rfl) rfl) (qn 22 (jL (S8 (S8 (S4 (jE (jE jK)))))) (jS rfl (yD (c:=true) 81 rfl) rfl) (qx 23 (vb true) (jL (S8 (S8 (S4 (jE (jE (jE jK))))))) (qx 24 (vb true) (jL (S8 (S8 (S8 jK)))) (qn 25 (jL (S8 (S8 (S8 (jE jK))))) (jS rfl (yD (c:=true) 85 rfl) rfl) (qn 26 (jL (S8 (S8 (S8 (jE (jE jK)))))) (jS rfl (yD (c:=true) 85 rfl) rfl) (lg 27 (kY (jL (S8 (S8 (S8 (jE (jE (jE jK))))))) (jS rfl (yD (c:=true) 85 rfl) rfl) (qn 28 (jL (S8 (S8 (S8 (S4 jK))))) (jS rfl (yD (c:=true) 85 rfl) rfl) (qx 29 (vb true) (jL (S8 (S8 (S8 (S4 (jE jK)))))) (wn (jJ (zS (by kernel_rfl) (eg (q0 (vb false) (jB ?_))))))))))))))))))))))
 refine jJ (er (kG (jW (jW (kG (jW (rs1 results4 ⟨false,rfl,h⟩)))))))
 refine sz (v:=(vp r6)) (jL (S8 (S4 (jE (jE (jE jK)))))) (wy 75 hg1) (fun _ _=>(by kernel_rfl)) (qw 16 (vp (some p1)) (jL (S8 (S8 jK))) (wy 75 hg1) (lg 17 (uR (jL (S8 (S8 (jE jK)))) (wy 75 hg1) (by kernel_rfl) (xc call25) (h.mono ?_))))
 rintro e w16 ⟨r11,rfl,hC,hk,h⟩
 refine ⟨_,rfl,.inr hC,?_⟩
 obtain ⟨hs,hb⟩:=hk.hh hs hb
 refine qw 18 (vb (!r11)) (jL (S8 (S8 (jE (jE jK))))) (wy 75 hg1) (qz 19 (vb (!r11)) (jL (S8 (S8 (jE (jE (jE jK)))))) (fun _ _=>(xF hg1)) (qx 20 (vb (!r11)) (jL (S8 (S8 (S4 jK)))) (qg 21 ?_)))
 obtain ⟨hg2,h⟩|⟨hg2,h⟩:=h.br
 refine kY (jL (S8 (S8 (S4 (jE jK))))) (jS rfl (yD 81 hg2) rfl) (qn 22 (jL (S8 (S8 (S4 (jE (jE jK)))))) (jS rfl (yD 81 hg2) rfl) (qz 23 (vb true) (jL (S8 (S8 (S4 (jE (jE (jE jK))))))) (fun _ _=>(xT hg2)) (qx 24 (vb true) (jL (S8 (S8 (S8 jK)))) (qn 25 (jL (S8 (S8 (S8 (jE jK))))) (jS rfl (yD (c:=true) 85 rfl) rfl) (qn 26 (jL (S8 (S8 (S8 (jE (jE jK)))))) (jS rfl (yD (c:=true) 85 rfl) rfl) (lg 27 (kY (jL (S8 (S8 (S8 (jE (jE (jE jK))))))) (jS rfl (yD (c:=true) 85 rfl) rfl) (qn 28 (jL (S8 (S8 (S8 (S4 jK))))) (jS rfl (yD (c:=true) 85 rfl) rfl) (qx 29 (vb true) (jL (S8 (S8 (S8 (S4 (jE jK)))))) (wn (jJ (zS (by kernel_rfl) (eg (q0 (vb false) (ln (er (kG (jW (jW (kG (jW (rs1 results4 ⟨false,rfl,h⟩))))))))))))))))))))))
 refine sz (v:=(vp r7)) (jL (S8 (S8 (S4 (jE jK))))) (wy 81 hg2) (fun _ _=>(by kernel_rfl)) (qg 22 (sz (v:=(vb (Option.isNone r7))) (jL (S8 (S8 (S4 (jE (jE jK)))))) (wy 81 hg2) (fun _ _=>(kC (by kernel_rfl) rfl underlying55)) (qz 23 (vb (Option.isNone r7)) (jL (S8 (S8 (S4 (jE (jE (jE jK))))))) (fun _ _=>(xF hg2)) (qx 24 (vb (Option.isNone r7)) (jL (S8 (S8 (S8 jK)))) (qg 25 ?_)))))
 obtain ⟨hg3,h⟩|⟨hg3,h⟩:=h.br
 refine kY (jL (S8 (S8 (S8 (jE jK))))) (jS rfl (yD 85 hg3) rfl) (qn 26 (jL (S8 (S8 (S8 (jE (jE jK)))))) (jS rfl (yD 85 hg3) rfl) (lg 27 (kY (jL (S8 (S8 (S8 (jE (jE (jE jK))))))) (jS rfl (yD 85 hg3) rfl) (qn 28 (jL (S8 (S8 (S8 (S4 jK))))) (jS rfl (yD 85 hg3) rfl) (qz 29 (vb true) (jL (S8 (S8 (S8 (S4 (jE jK)))))) (fun _ _=>(xT hg3)) (wn (jJ (zS (by kernel_rfl) (eg (q0 (vb false) (ln (er (kG (jW (jW (kG (jW (rs1 results4 ⟨false,rfl,h⟩))))))))))))))))))
 refine sz (v:=(vp r7)) (jL (S8 (S8 (S8 (jE jK))))) (wy 85 hg3) (fun _ _=>(by kernel_rfl)) (qw 26 (vp (some p4)) (jL (S8 (S8 (S8 (jE (jE jK)))))) (wy 85 hg3) (lg 27 (uR (jL (S8 (S8 (S8 (jE (jE (jE jK))))))) (wy 85 hg3) (by kernel_rfl) (xc call25) (h.mono ?_))))
 rintro e w17 ⟨r12,rfl,hC,hk,h⟩
 refine ⟨_,rfl,.inr hC,?_⟩
 obtain ⟨hs,hb⟩:=hk.hh hs hb
 refine qw 28 (vb (!r12)) (jL (S8 (S8 (S8 (S4 jK))))) (wy 85 hg3) (qz 29 (vb (!r12)) (jL (S8 (S8 (S8 (S4 (jE jK)))))) (fun _ _=>(xF hg3)) (wn (jJ (cbr h ?_ ?_))))<;>intro h
 refine eg (q (ln (er (kG (jW (jW (kG (jW (rs1 results4 ⟨false,rfl,h⟩)))))))))
 refine jC (kD (jJ (rg (qc (ln ⟨((q6.wrap (i1+1)),Hl1,w17),⟨rfl,hm,hs,hb,h.1⟩,h.2⟩)))))
 refine zE (kP (kP (kO (jJ (eg (q0 (vp r6) (q0 (vp (some p1)) (sc call25 (h.mono fun e w18 ⟨r13,k,hk,h⟩=>have ⟨hs,hb⟩:=hk.hh hs hb;⟨_,k,?_⟩)))))))))
 refine q ?_
 obtain ⟨hg4,h⟩|⟨hg4,h⟩:=h.br
 refine jV (wy 94 hg4) (xc call18) (h.mono ?_)
 rintro e w19 ⟨r14,rfl,hk,h⟩
 refine ⟨_,rfl,?_⟩
 obtain ⟨hs,hb⟩:=hk.hh hs hb
 refine q2 (vb r14) (xT hg4) (q (ln (er (rs1 results4 ⟨r14,rfl,h⟩))))
 refine sj 94 hg4 (q2 (vb false) (xF hg4) (q (ln (er (rs1 results4 ⟨false,rfl,h⟩)))))
 refine rg (q (sc call17 (h.mono fun e w20 ⟨r15,k,hk,h⟩=>have ⟨hs,hb⟩:=hk.hh hs hb;⟨_,k,?_⟩)))
 refine q (jH 4 (fun ρ wJ=>∃b1'0:Bool,∃HJ:NP,(r15=b1'0)∧Hst w0 None w20 HJ wJ∧HB HJ wJ []∧Has ρ [(0,l1.v),(1,more1.v),(21,(vb (b1'0 || (decide ((more1.len:Int)>20)))))]) ?_ ?_)
 rintro ρ w21 ⟨b1'0,H1,he0,hs,hb,hH⟩
 subst he0
 refine jM hH (jB ?_)
 have ⟨h,hs⟩:=hs.hr (h H1 w21)
 refine jJ ⟨(r15 || (decide ((more1.len:Int)>20))),H1,hm,hs,hb,h⟩
 rcases bte r15 with hg6 | hg6
 refine sj3 17 hg6 (q2 (vb true) (xT hg6) (jB ⟨true,_,hg6,hs,hb,hm⟩))
 refine qk 17 hg6 (qk 17 hg6 (qk 17 hg6 (q2 (vb (decide ((more1.len:Int)>20))) (xF hg6) (jB ⟨false,_,hg6,hs,hb,hm⟩))))
end Go.Proofs
end
section
open Go Go.SE
namespace Go.Proofs
open Tryz
attribute [local irreducible] Calls
structure KnAt (w0:World) (H:NP) (w:World) (p k:Addr) (L:Sp.Pool) (G:List Int) (S:List Sp.Way) (FP F:NP):Prop where
 pool:jN w p L FP
 know:zD w k p G S F
 pure:Pure w0 w
 oP:∀b,FP b→w0.heap.size≤b∧¬ H b
 oF:∀b,F b→w0.heap.size≤b∧¬ H b∧¬ FP b
 hs:Hst w0 H w H w
section
variable {w0 w w':World} {H H':NP} {p k:Addr} {L L':Sp.Pool} {G G':List Int} {S S':List Sp.Way} {FP FP' F F':NP}
theorem KnAt.pureE (h:KnAt w0 H w p k L G S FP F) (E:Pure w w'):KnAt w0 H w' p k L G S FP F:=⟨h.pool.pure E,h.know.pure E,h.pure.trans E,h.oP,h.oF,h.hs.again E.keptP⟩
theorem KnAt.hst (h:KnAt w0 H w p k L G S FP F) (hs:Hst w0 H w H' w'):KnAt w0 H' w' p k L G S FP F:=by
 have x1:=hs.disj (G:=FP) (fun b hb=>⟨h.pool.lt hb,(h.oP b hb).2⟩);have x2:=hs.disj (G:=F) (fun b hb=>⟨h.know.lt hb,(h.oF b hb).2.1⟩);exact ⟨h.pool.ext hs.ext x1,h.know.ext hs.ext x2,h.pure.hst hs,fun b hb=>⟨(h.oP b hb).1,x1 b hb⟩,fun b hb=>⟨(h.oF b hb).1,x2 b hb,(h.oF b hb).2.2⟩,hs.here⟩
theorem KnAt.make (h:KnAt w0 H w p k L G S FP F) (hP:jN w' p L' FP') (E:Ext FP w w') (hF:∀b,FP' b→FP b∨w.heap.size≤b):Kept H w w'∧KnAt w0 H w' p k L' G S FP' F:=by
 have hk:Kept H w w':=E.kept (fun b hb hf=>(h.oP b hf).2 hb);refine ⟨hk,hP,h.know.ext E (fun b hb=>(h.oF b hb).2.2),h.pure.trans' E (fun i hi hb=>by have:=(h.oP i hb).1;omega),fun b hb=>?_,fun b hb=>⟨(h.oF b hb).1,(h.oF b hb).2.1,fun hx=>?_⟩,h.hs.again hk⟩
 ·rcases hF b hb with h1 | h1
  ·exact h.oP b h1
  ·exact ⟨by have:=h.pure.size;omega,fun hh=>by have:=h.hs.lt b hh;omega⟩
 ·rcases hF b hx with h1 | h1
  ·exact (h.oF b hb).2.2 h1
  ·have:=h.know.lt hb;omega
theorem KnAt.add (h:KnAt w0 H w p k L G S FP F) (hK:zD w' k p G' S' F') (E:Ext F w w') (hF:∀b,F' b→F b∨w.heap.size≤b):Kept H w w'∧KnAt w0 H w' p k L G' S' FP F':=by
 have hk:Kept H w w':=E.kept (fun b hb hf=>(h.oF b hf).2.1 hb);refine ⟨hk,h.pool.ext E (fun b hb hf=>(h.oF b hf).2.2 hb),hK,h.pure.trans' E (fun i hi hb=>by have:=(h.oF i hb).1;omega),h.oP,fun b hb=>?_,h.hs.again hk⟩;rcases hF b hb with h1 | h1
 ·exact h.oF b h1
 ·exact ⟨by have:=h.pure.size;omega,fun hh=>by have:=h.hs.lt b hh;omega,fun hh=>by have:=h.pool.lt hh;omega⟩
end
theorem tm_box {w:World} {p:Addr} {T:TypeId} (t:Int) (h:Box w p [.int .i64 t] T):Lst (·=p.block) w 1 ⟨some p,1,1⟩ (tmr [t]):=by
 refine ⟨by simp [tmr],fun i hi=>?_⟩;have hi0:i=0:=by simpa [tmr] using hi
 subst hi0;refine ⟨p,⟨by omega,by simp,p,rfl,by simp [Addr.add]⟩,rfl,fun j hj=>?_⟩;have hj0:j=0:=by simpa [tmr] using hj
 subst hj0;have:=h.cell0;simpa [tmr,Addr.add] using this
theorem jFE (w0:World):Calls prog 18 #[] w0 (fun e w'=>∃r:Bool,e=.returned (.bool r)∧(r=true∧Pure w0 w')):=by
 refine w_J w0 (fun r w'=>r=true∧Pure w0 w') ?_;unfold m_J;refine (c_New w0).mono ?_;rintro _ w1 ⟨_,rfl,p,rfl,E1,FP1,hP1,hF1⟩;refine ⟨_,rfl,E1.keptP,?_⟩;refine (oJ p w1).mono ?_;rintro _ w2 ⟨_,rfl,k,F,rfl,hk2,E2,hF2⟩;refine ⟨_,rfl,E2.keptP,Br.f rfl ?_⟩;have A2:KnAt w0 None w2 p k [] [] [] FP1 F:=⟨hP1.pure E2,hk2,E1.trans E2,fun b hb=>⟨hF1 b hb,fun h=>h⟩,fun b hb=>⟨by have:=hF2 b hb;have:=E1.size;omega,fun h=>h,fun h=>by have:=hF2 b hb;have:=hP1.lt h;omega⟩,(Hst.start w0).again (E1.trans E2).keptP⟩;intro H1 w3 hs3;have A3:=A2.hst hs3;refine (c_Num p w3 A3.pool Sp.Wf.nil.ok 1).mono ?_;rintro _ w4 ⟨r3,r4,rfl,hr,FP4,hP4,E4,hF4⟩;rw [show (⟨2,0,0,1,⟨#[]⟩,0,0⟩:Sp.Node)=Sp.l8a from rfl,Sp.l8m1] at hr hP4;cases hr;obtain ⟨k4,A4⟩:=A3.make hP4 E4 hF4;refine ⟨_,_,rfl,k4,?_⟩;refine (c_Name p w4 A4.pool Sp.l8w1.ok 2).mono ?_;rintro _ w5 ⟨r5,r6,rfl,hr,FP5,hP5,E5,hF5⟩;rw [show (⟨1,2,0,0,⟨#[]⟩,0,0⟩:Sp.Node)=Sp.l8b from rfl,Sp.l8m2] at hr hP5;cases hr;obtain ⟨k5,A5⟩:=A4.make hP5 E5 hF5;refine ⟨_,_,rfl,k5,?_⟩;refine (c_Pair p w5 A5.pool Sp.l8w2.ok 1 2).mono ?_;rintro _ w6 ⟨r7,r8,rfl,hr,FP6,hP6,E6,hF6⟩;rw [show (⟨4,0,0,0,⟨#[]⟩,1,2⟩:Sp.Node)=Sp.l8c from rfl,Sp.l8m3] at hr hP6;cases hr;obtain ⟨k6,A6⟩:=A5.make hP6 E6 hF6;refine ⟨_,_,rfl,k6,?_⟩;refine (jEH p w6 A6.pool Sp.l8w3.ok 0 3).mono ?_;rintro _ w7 ⟨r9,r10,rfl,hr,FP7,hP7,E7,hF7⟩;rw [show (⟨7,0,0,0,⟨#[]⟩,3,0⟩:Sp.Node)=Sp.l8s from rfl,Sp.l8m4] at hr hP7;cases hr;obtain ⟨k7,A7⟩:=A6.make hP7 E7 hF7;refine ⟨_,_,rfl,k7,?_⟩;refine (c_Hash p w7 A7.pool Sp.l8w4.ok 1).mono ?_;rintro _ w8 ⟨r11,r12,rfl,hr,FP8,hP8,E8,hF8⟩;rw [show (⟨5,0,0,0,⟨#[]⟩,1,0⟩:Sp.Node)=Sp.l8h from rfl,Sp.l8m5] at hr hP8;cases hr;obtain ⟨k8,A8⟩:=A7.make hP8 E8 hF8;refine ⟨_,_,rfl,k8,?_⟩;refine (c_Key p w8 A8.pool Sp.l8w5.ok 0).mono ?_;rintro _ w9 ⟨r13,r14,rfl,hr,FP9,hP9,E9,hF9⟩;rw [show (⟨6,0,0,0,⟨#[]⟩,0,0⟩:Sp.Node)=Sp.l8k from rfl,Sp.l8m6] at hr hP9;cases hr;obtain ⟨k9,A9⟩:=A8.make hP9 E9 hF9;refine ⟨_,_,rfl,k9,?_⟩;refine (jEH p w9 A9.pool Sp.l8w6.ok 0 1).mono ?_;rintro _ w10 ⟨r15,r16,rfl,hr,FP,hP10,E10,hF10⟩;rw [show (⟨7,0,0,0,⟨#[]⟩,1,0⟩:Sp.Node)=Sp.l8u from rfl,Sp.l8m7] at hr hP10;cases hr;obtain ⟨k10,A10⟩:=A9.make hP10 E10 hF10;refine ⟨_,_,rfl,k10,?_⟩;have hW:=Sp.l8w7;refine (yA k p 4 w10 A10.know A10.pool hW (fun b hb=>(A10.oF b hb).2.2) (Sp.KnowOk.nil _)).mono ?_;rintro _ w11 ⟨_,rfl,rfl,S1,F1,hK1,ok1,X11,f11⟩;rw [show Sp.vN Sp.l87 [] 4=[4] by unfold Sp.vN;rw [if_pos Sp.l8in.1];rfl] at hK1 ok1;obtain ⟨k11,A11⟩:=A10.add hK1 X11 f11;refine ⟨_,rfl,k11,?_⟩;have hs1:∀t,t∈Sp.jG S1↔Sp.Seen Sp.l87 [4] t:=ok1.seen_iff;refine (gG k p 5 w11 hW ok1 A11.know A11.pool).mono ?_;rintro _ w12 ⟨r18,r19,rfl,l,hr18,hd19,_,hpf⟩;have h19:=hd19.2 Sp.l8hash;subst h19;obtain ⟨hne,hfol,hnd,hlast,_⟩:=hpf rfl;refine ⟨_,_,rfl,hr18.kept,?_⟩;have A12:=A11.pureE hr18.pure;intro p1 w13 h13;have E13:Pure w12 w13:=Ext.new h13;have A13:=A12.pureE E13;have hfew:l.length≤7:=by
  have:=Sp.kR (L:=Sp.l87) hnd (fun t ht=>by
   obtain ⟨s,hs,rfl⟩:=List.mem_map.1 ht;obtain ⟨i,hi,rfl⟩:=List.getElem_of_mem hs;exact Sp.jEG (hfol i hi))
  simpa [Sp.l87] using this
 refine (gH p _ r18 [4] l 5 w13 A13.pool hW.ok (tm_box 4 (Box.of_new h13)) (hr18.rows.pure E13).lst (by simp) (by omega)).mono ?_;rintro _ w14 ⟨r20,r21,rfl,hch,E14⟩;have hc0:Sp.yX Sp.l87 [4] l 5=(0,0):=by
  unfold Sp.yX;rw [Sp.xH hfol];have:l.length≠0:=fun h=>hne (List.length_eq_zero_iff.1 h);simp [this,hlast]
 rw [hc0] at hch;cases hch;have A14:=A13.pureE E14;refine ⟨_,_,rfl,E14.keptP,?_⟩;refine (vP k p 7 w14 hW ok1 A14.know A14.pool).mono ?_;rintro _ w15 ⟨r22,rfl,hd22,E15⟩;have h22:r22=false:=by
  cases r22 with
  | false=>rfl
  | true =>
   refine absurd (hd22.1 rfl) (Sp.l8u_no (fun h=>?_) (fun h=>?_))
   ·have:=Sp.jEF ((hs1 7).1 h);omega
   ·have:=Sp.jEF ((hs1 6).1 h);omega
 subst h22;have A15:=A14.pureE E15;refine ⟨_,rfl,E15.keptP,?_⟩;refine (yA k p 6 w15 A15.know A15.pool hW (fun b hb=>(A15.oF b hb).2.2) ok1).mono ?_;rintro _ w16 ⟨_,rfl,rfl,S2,F2,hK2,ok2,X16,f16⟩;rw [show Sp.vN Sp.l87 [4] 6=[4,6] by unfold Sp.vN;rw [if_pos Sp.l8in.2.1];rfl] at hK2 ok2;obtain ⟨k16,A16⟩:=A15.add hK2 X16 f16;refine ⟨_,rfl,k16,?_⟩;have hs2:∀t,t∈Sp.jG S2↔Sp.Seen Sp.l87 [4,6] t:=ok2.seen_iff;have hnil:Lst (fun _=>False) w16 1 Sl.nil (tmr []):=⟨rfl,fun i hi=>by simp [tmr] at hi⟩;have hnil4:Lst (fun _=>False) w16 4 Sl.nil (([]:List Sp.Step).map uD):=⟨rfl,fun i hi=>by simp at hi⟩;refine (gH p Sl.nil Sl.nil [] [] 5 w16 A16.pool hW.ok hnil hnil4 (by simp) (by simp)).mono ?_;rintro _ w17 ⟨r24,r25,rfl,hch,E17⟩;have hc1:Sp.yX Sp.l87 [] [] 5=(81,0):=by kernel_rfl
 rw [hc1] at hch;cases hch;have A17:=A16.pureE E17;refine ⟨_,_,rfl,E17.keptP,?_⟩;have l18:r18.len=l.length:=by rw [hr18.rows.len];simp
 rintro y1 rfl;refine Br.t ?_ ?_
 ·have hpos:0<l.length:=List.length_pos_iff.2 hne;simp [Sp.l8in.1,Sp.l8in.2.1,l18,hpos]
 intro H6 w27 hs27;have A27:=A17.hst hs27;refine (vP k p 7 w27 hW ok2 A27.know A27.pool).mono ?_;rintro _ w34 ⟨r30,rfl,hd30,E34⟩;have h30:=hd30.2 (Sp.jFA ((hs2 6).2 (.given (by simp))));subst h30;have A34:=A27.pureE E34;refine ⟨_,rfl,E34.keptP,?_⟩;unfold m_J_j1;refine Br.t rfl ?_;refine (qE k p 7 w34 A34.know).mono ?_;rintro _ w33 ⟨r29,rfl,rfl,E33⟩;have A33:=A34.pureE E33;refine ⟨_,rfl,E33.keptP,?_⟩;have n7:7 ∉ Sp.jG S2:=fun h=>by have:=Sp.l8see (fun t ht=>by simp at ht;exact ht) ((hs2 7).1 h);omega
 rw [show (!decide ((7:Int)∈Sp.jG S2))=true by simp [n7]];unfold m_J_j2;refine Br.t rfl ?_;refine (qE k p 1 w33 A33.know).mono ?_;rintro _ w32 ⟨r28,rfl,rfl,E32⟩;have A32:=A33.pureE E32;refine ⟨_,rfl,E32.keptP,?_⟩;have y1:(1:Int)∈Sp.jG S2:=(hs2 1).2 (Sp.l8seen (by simp));rw [decide_eq_true y1];unfold m_J_j3;refine Br.t rfl ?_;intro H7 w28 hs28;have A28:=A32.hst hs28;refine (qQ k p w28 A28.know (by simp)).mono ?_;rintro _ w31 ⟨r27,rfl,hr27⟩;have A31:=A28.pureE hr27.pure;refine ⟨_,rfl,hr27.kept,?_⟩;have l27:r27.len=2:=by rw [hr27.rows.len];rfl
 rw [l27];unfold m_J_j4;refine Br.t rfl ?_;refine (yA k p 99 w31 A31.know A31.pool hW (fun b hb=>(A31.oF b hb).2.2) ok2).mono ?_;rintro _ w29 ⟨_,rfl,rfl,S3,F3,hK3,ok3,X29,f29⟩;obtain ⟨k29,A29⟩:=A31.add hK3 X29 f29;refine ⟨_,rfl,k29,?_⟩;intro w30 hs30;exact ⟨by simp [Sp.l8in.2.2],(A29.hst hs30).pure⟩
end Go.Proofs
end
section
namespace Go.Sp
theorem tE (ts:List Tree) (t:Tree):cntAll (ts++[t])=cntAll ts+cnt t:=by
 induction ts with
 | nil=>simp [cntAll]
 | cons a ts ih=>rw [List.cons_append,cntAll,cntAll,ih];omega
theorem jCC (L:Pool) (n:Node):(make L n).2.2.length≤L.length+1:=by
 rcases lV L n with e | ⟨_,e⟩ <;> rw [e] <;> simp
theorem jCI (t:Tree):∀L,(zW L t).2.2.length≤L.length+cnt t:=by
 induction t using Tree.ind with
 | h k f t u x ks ih =>
  have:∀(ks:List Tree),(∀i (hi:i<ks.length),∀L,(zW L ks[i]).2.2.length≤L.length+cnt ks[i])→∀n i L,(zG n i L ks).2.2.length≤L.length+1+cntAll ks:=by
   intro ks;induction ks with
   | nil=>intro _ n i L;unfold zG;have:=jCC L n;simp only [cntAll];omega
   | cons t ts iht =>
    intro hh n i L
    have h0:=hh 0 (by simp) L
    simp only [List.getElem_cons_zero] at h0
    unfold zG
    simp only [cntAll]
    split
    ·simp only;omega
    ·have:=iht (fun i hi=>hh (i+1) (by simpa using hi)) (if i=0 then { n with a:=(zW L t).1 } else { n with b:=(zW L t).1 }) (i+1) (zW L t).2.2
     omega
  intro L
  have:=this ks ih ⟨k,f,t,u,x,0,0⟩ 0 L
  unfold zW
  rw [cnt];omega
theorem jEY (L:Pool) (t:Tree):(of L t).2.2.length≤L.length+cnt t:=by
 have:=jCI t L;unfold of;split
 ·simp only;omega
 ·split
  ·simp only;omega
  ·exact this
end Go.Sp
end
section
open Go Go.SE
namespace Go.Sp
def kS (q:Pool×List Int) (t:Tree):Pool×List Int:=((of q.1 t).2.2,q.2++[(of q.1 t).1])
def zV (ts:List Tree):Pool×List Int:=ts.foldl kS ([],[])
theorem gX (ts:List Tree):Wf (zV ts).1∧(zV ts).1.length≤cntAll ts∧(zV ts).2.length=ts.length:=by
 have:∀(ts:List Tree) q,Wf q.1→Wf (ts.foldl kS q).1∧(ts.foldl kS q).1.length≤q.1.length+cntAll ts∧(ts.foldl kS q).2.length=q.2.length+ts.length:=by
  intro ts;induction ts with
  | nil=>intro q h;exact ⟨h,by simp [cntAll],by simp⟩
  | cons t ts ih =>
   intro q h
   obtain ⟨h1,h2,h3⟩:=ih (kS q t) (of_wf h t)
   have:=jEY q.1 t
   refine ⟨h1,?_,?_⟩
   ·rw [List.foldl_cons,cntAll];unfold kS at h2 ⊢;simp only at h2;omega
   ·rw [List.foldl_cons,h3];simp [kS];omega
 obtain ⟨h1,h2,h3⟩:=this ts ([],[]) Wf.nil;exact ⟨h1,by unfold zV;simpa using h2,by unfold zV;simpa using h3⟩
end Go.Sp
namespace Go.Proofs
open Tryz
attribute [local irreducible] Calls
theorem oH {S:NP} (ts:List Sp.Tree) (s:Sl) (w0:World) (hT:TreeAt S w0 s (.mk 0 0 0 0 ⟨#[]⟩ ts)) (hS:∀b,S b→b<w0.heap.size) :
  Calls prog 17 #[s.v] w0 (fun e w'=>∃r:Bool,e=.returned (.bool r)∧((r=false→ts.length≤12∧Sp.cntAll ts≤400)∧Pure w0 w')):=by
 refine w_J1 _ w0 (fun r w'=>(r=false→ts.length≤12∧Sp.cntAll ts≤400)∧Pure w0 w') ?_
 unfold m_J1
 cases hT with
 | mk _ _ _ _ _ _ _ rs len fit row kid =>
 refine ⟨fun n i w'=>∃j:Nat,i=j∧j≤ts.length∧j≤13∧n=(Sp.cntAll (ts.take j):Nat)∧n<400∧Pure w0 w',fun _ i _=>(14 - i).toNat,⟨0,rfl,Nat.zero_le _,by omega,by simp [Sp.cntAll],by omega,Ext.refl _⟩,?_⟩
 rintro n _ wl ⟨j,rfl,hj,hj13,hn,hn4,E⟩
 unfold m_J1_l1
 refine ⟨fun h=>?_,fun h=>⟨fun hr=>?_,E⟩⟩
 ·rw [Bool.and_eq_true] at h
  have hlt:=zO len h.1
  have h12:=of_decide_eq_true h.2
  obtain ⟨a,hat,hSa,hrow⟩:=row j hlt
  have hkid:=kid j hlt
  have htk:ts.take (j+1)=ts.take j++[ts[j]]:=List.take_succ_eq_append_getElem hlt
  have hsn:=Sp.tE (ts.take j) ts[j]
  rw [← htk] at hsn
  generalize ts[j]=x at *
  generalize rs j=sx at *
  obtain ⟨xk,xf,xt,xu,xx,xks⟩:=x
  have hrl:Row wl a (qK (.mk xk xf xt xu xx xks) sx):=E.row hrow (fun h=>h)
  refine ⟨a,hat,_,_,_,_,_,sx,hrl,?_⟩
  refine (lE (.mk xk xf xt xu xx xks) sx 400 wl (by omega) (by omega) (hkid.pure E) (fun b hb=>by have:=hS b hb;have:=E.size;omega)).mono ?_
  rintro _ w1 ⟨r,rfl,rfl,E1⟩
  obtain ⟨p1,p2,p3⟩:=Sp.uW (.mk xk xf xt xu xx xks) 400 (by omega)
  generalize Sp.qG 400 (.mk xk xf xt xu xx xks)=r at *
  refine ⟨r,rfl,?_⟩
  rw [IntWalk.i64_in _ (by omega),IntWalk.i64_in _ (by omega)]
  refine ⟨fun h=>⟨(fun h=>by cases h),E.trans E1⟩,fun h=>?_⟩
  have h:=of_decide_eq_false h
  have hc:=p3 (by omega)
  refine ⟨⟨j+1,by omega,hlt,by omega,?_,by omega,E.trans E1⟩,by show (14 - ((j:Int)+1)).toNat<(14 - (j:Int)).toNat;omega⟩
  rw [hsn];omega
 ·have hr:=of_decide_eq_false hr
  have hjl:j=ts.length:=by
   rw [Bool.and_eq_false_iff] at h;rcases h with h | h
   ·exact kA len hj h
   ·have:=of_decide_eq_false h;omega
  subst hjl
  rw [List.take_length] at hn
  exact ⟨by omega,by omega⟩
structure Pl3 (w0:World) (H:NP) (w:World) (p q:Addr) (L1 L2:Sp.Pool) (t:Sl) (ids:List Int) (F1 F2:NP):Prop where
 pure:Pure w0 w
 pool:jN w p L1 F1
 ref:zT w q L2 F2
 ts:Rws w 30 1 t (tmr ids)
 o1:∀b,F1 b→w0.heap.size≤b∧¬ H b∧¬ F2 b∧¬ t.blk b
 o2:∀b,F2 b→w0.heap.size≤b∧¬ H b∧¬ t.blk b
 o3:∀b,t.blk b→w0.heap.size≤b∧¬ H b
section
variable {w0 w w':World} {H H':NP} {p q:Addr} {L1 L2:Sp.Pool} {t:Sl} {ids:List Int} {F1 F2:NP}
theorem Pl3.pureE (h:Pl3 w0 H w p q L1 L2 t ids F1 F2) (E:Pure w w'):Pl3 w0 H w' p q L1 L2 t ids F1 F2:=⟨h.pure.trans E,h.pool.pure E,h.ref.pure E,h.ts.pure E,h.o1,h.o2,h.o3⟩
theorem Pl3.hst (h:Pl3 w0 H w p q L1 L2 t ids F1 F2) (hs:Hst w0 H w H' w'):Pl3 w0 H' w' p q L1 L2 t ids F1 F2:=by
 have d:∀b,b<w.heap.size→¬ H b→¬ H' b:=fun b h1 h2=>hs.disj (G:=(·=b)) (fun c e=>by subst e;exact ⟨h1,h2⟩) b rfl;have d1:∀b,F1 b→¬ H' b:=fun b hb=>d b (h.pool.lt hb) (h.o1 b hb).2.1;have d2:∀b,F2 b→¬ H' b:=fun b hb=>d b (h.ref.lt hb) (h.o2 b hb).2.1;have d3:∀b,t.blk b→¬ H' b:=fun b hb=>d b (h.ts.lt hb) (h.o3 b hb).2;exact ⟨h.pure.hst hs,h.pool.ext hs.ext d1,h.ref.ext hs.ext d2,h.ts.ext hs.ext d3,fun b hb=>⟨(h.o1 b hb).1,d1 b hb,(h.o1 b hb).2.2⟩,fun b hb=>⟨(h.o2 b hb).1,d2 b hb,(h.o2 b hb).2.2⟩,fun b hb=>⟨(h.o3 b hb).1,d3 b hb⟩⟩
theorem Pl3.of1 (h:Pl3 w0 H w p q L1 L2 t ids F1 F2) (hH:∀b,H b→b<w.heap.size) {L:Sp.Pool} {F:NP} (hP:jN w' p L F) (hE:Ext F1 w w') (hF:∀b,F b→F1 b∨w.heap.size≤b):Pl3 w0 H w' p q L L2 t ids F F2:=by
 refine ⟨h.pure.trans' hE (fun i hi hb=>by have:=(h.o1 i hb).1;omega),hP,h.ref.ext hE (fun b hb h1=>(h.o1 b h1).2.2.1 hb),h.ts.ext hE (fun b hb h1=>(h.o1 b h1).2.2.2 hb),fun b hb=>?_,h.o2,h.o3⟩;rcases hF b hb with h1 | h1
 ·exact h.o1 b h1
 ·exact ⟨by have:=h.pure.size;omega,fun hh=>by have:=hH b hh;omega,fun hh=>by have:=h.ref.lt hh;omega,fun hh=>by have:=h.ts.lt hh;omega⟩
theorem Pl3.of2 (h:Pl3 w0 H w p q L1 L2 t ids F1 F2) (hH:∀b,H b→b<w.heap.size) {L:Sp.Pool} {F:NP} (hP:zT w' q L F) (hE:Ext F2 w w') (hF:∀b,F b→F2 b∨w.heap.size≤b):Pl3 w0 H w' p q L1 L t ids F1 F:=by
 refine ⟨h.pure.trans' hE (fun i hi hb=>by have:=(h.o2 i hb).1;omega),h.pool.ext hE (fun b hb h1=>(h.o1 b hb).2.2.1 h1),hP,h.ts.ext hE (fun b hb h1=>(h.o2 b h1).2.2 hb),fun b hb=>?_,fun b hb=>?_,h.o3⟩
 ·refine ⟨(h.o1 b hb).1,(h.o1 b hb).2.1,fun hh=>?_,(h.o1 b hb).2.2.2⟩;rcases hF b hh with h1 | h1
  ·exact (h.o1 b hb).2.2.1 h1
  ·have:=h.pool.lt hb;omega
 ·rcases hF b hb with h1 | h1
  ·exact h.o2 b h1
  ·exact ⟨by have:=h.pure.size;omega,fun hh=>by have:=hH b hh;omega,fun hh=>by have:=h.ts.lt hh;omega⟩
theorem Pl3.of3 (h:Pl3 w0 H w p q L1 L2 t ids F1 F2) (hH:∀b,H b→b<w.heap.size) {t':Sl} {ids':List Int} (hP:Rws w' 30 1 t' (tmr ids')) (hE:Ext t.blk w w') (hF:∀b,t'.blk b→t.blk b∨w.heap.size≤b):Pl3 w0 H w' p q L1 L2 t' ids' F1 F2:=by
 refine ⟨h.pure.trans' hE (fun i hi hb=>by have:=(h.o3 i hb).1;omega),h.pool.ext hE (fun b hb h1=>(h.o1 b hb).2.2.2 h1),h.ref.ext hE (fun b hb h1=>(h.o2 b hb).2.2 h1),hP,fun b hb=>?_,fun b hb=>?_,fun b hb=>?_⟩
 ·refine ⟨(h.o1 b hb).1,(h.o1 b hb).2.1,(h.o1 b hb).2.2.1,fun hh=>?_⟩;rcases hF b hh with h1 | h1
  ·exact (h.o1 b hb).2.2.2 h1
  ·have:=h.pool.lt hb;omega
 ·refine ⟨(h.o2 b hb).1,(h.o2 b hb).2.1,fun hh=>?_⟩;rcases hF b hh with h1 | h1
  ·exact (h.o2 b hb).2.2 h1
  ·have:=h.ref.lt hb;omega
 ·rcases hF b hb with h1 | h1
  ·exact h.o3 b h1
  ·exact ⟨by have:=h.pure.size;omega,fun hh=>by have:=hH b hh;omega⟩
end
theorem lH {S:NP} (ts:List Sp.Tree) (s:Sl) (w0:World) (hT:TreeAt S w0 s (.mk 0 0 0 0 ⟨#[]⟩ ts)) (hS:∀b,S b→b<w0.heap.size) (hn:ts.length≤12) :
  Calls prog 19 #[s.v] w0 (fun e w'=>∃r1:Option Addr,∃r2:Option Addr,∃r3:Sl,∃r4:Bool,e=.returned (.tuple #[.pointer r1,.pointer r2,r3.v,.bool r4])∧∃p q F1 F2,r1=some p∧r2=some q∧r4=true∧Pl3 w0 None w' p q (Sp.zV ts).1 (Sp.zV ts).1 r3 (Sp.zV ts).2 F1 F2):=by
 suffices key:∀K:Option Addr→Option Addr→Sl→Bool→WP,(∀p q F1 F2 H r3 w',Pl3 w0 H w' p q (Sp.zV ts).1 (Sp.zV ts).1 r3 (Sp.zV ts).2 F1 F2→K (some p) (some q) r3 true w')→m_E1 s w0 K from
  w_E1 _ w0 _ (key _ (fun p q F1 F2 H r3 w' h=>⟨p,q,F1,F2,rfl,rfl,rfl,h.pure,h.pool,h.ref,h.ts,fun b hb=>⟨(h.o1 b hb).1,id,(h.o1 b hb).2.2⟩,fun b hb=>⟨(h.o2 b hb).1,id,(h.o2 b hb).2.2⟩,fun b hb=>⟨(h.o3 b hb).1,id⟩⟩))
 intro K hK
 have hnil:∀b,Sl.nil.blk b→False:=fun b hb=>by obtain ⟨a,h,_⟩:=hb;cases h
 cases hT with
 | mk _ _ _ _ _ _ _ rs len fit row kid =>
 unfold m_E1
 refine (c_New w0).mono ?_
 rintro _ w1 ⟨_,rfl,p,rfl,E1,F1,hP1,hF1⟩
 refine ⟨_,rfl,E1.keptP,?_⟩
 refine (tG w1).mono ?_
 rintro _ w2 ⟨_,rfl,q,F2,rfl,hP2,E2,hF2⟩
 refine ⟨_,rfl,E2.keptP,Br.f rfl ?_⟩
 have S0:Pl3 w0 None w2 p q [] [] Sl.nil [] F1 F2:=⟨E1.trans E2,hP1.pure E2,hP2,Rws.nil _ _ _,
  fun b hb=>⟨hF1 b hb,id,fun h2=>by have:=hF2 b h2;have:=hP1.lt hb;omega,hnil b⟩,fun b hb=>⟨by have:=hF2 b hb;have:=E1.size;omega,id,hnil b⟩,fun b hb=>(hnil b hb).elim⟩
 refine ⟨fun t i H w'=>∃j:Nat,i=j∧j≤ts.length∧∃F1 F2,Pl3 w0 H w' p q (Sp.zV (ts.take j)).1 (Sp.zV (ts.take j)).1 t (Sp.zV (ts.take j)).2 F1 F2,fun _ i _=>((ts.length:Int) - i).toNat,⟨0,rfl,Nat.zero_le _,F1,F2,S0⟩,?_⟩
 rintro t _ Hl wl hl ⟨j,rfl,hj,F1,F2,hq⟩
 unfold m_E1_l1
 refine ⟨fun h=>?_,fun h=>?_⟩
 ·have hlt:=zO len h
  have htk:ts.take (j+1)=ts.take j++[ts[j]]:=List.take_succ_eq_append_getElem hlt
  obtain ⟨hW,_,hlens⟩:=Sp.gX (ts.take j)
  rw [List.length_take,Nat.min_eq_left (by omega)] at hlens
  have hstep:Sp.zV (ts.take (j+1))=Sp.kS (Sp.zV (ts.take j)) ts[j]:=by rw [htk];unfold Sp.zV;rw [List.foldl_append];rfl
  generalize Sp.zV (ts.take j)=Q at *
  obtain ⟨a,hat,hSa,hrow⟩:=row j hlt
  have hkid:=kid j hlt
  generalize ts[j]=x at *
  generalize rs j=sx at *
  obtain ⟨xk,xf,xt,xu,xx,xks⟩:=x
  have hrl:Row wl a (qK (.mk xk xf xt xu xx xks) sx):=hq.pure.row hrow (fun h=>h)
  refine ⟨a,hat,_,_,_,_,_,sx,hrl,?_⟩
  refine (c_Of (S:=S) p (.mk xk xf xt xu xx xks) sx wl (hkid.pure hq.pure) hq.pool hW.ok (fun b hb hh=>by have:=(hq.o1 b hb).1;have:=hS b hh;omega) (fun b hb=>by have:=hS b hb;have:=hq.pure.size;omega)).mono ?_
  rintro _ w3 ⟨r3,r4,rfl,h34,F1',hP3,E3,hF3⟩
  have k3:Kept Hl wl w3:=E3.kept (fun b hb h1=>(hq.o1 b h1).2.1 hb)
  refine ⟨_,_,rfl,k3,?_⟩
  have hq3:=hq.of1 (fun b hb=>hl.lt b hb) hP3 E3 hF3
  have hl3:=hl.again k3
  have hr3:Row w3 a (qK (.mk xk xf xt xu xx xks) sx):=hq3.pure.row hrow (fun h=>h)
  refine ⟨a,hat,_,_,_,_,_,sx,hr3,?_⟩
  refine (jAU (S:=S) q (.mk xk xf xt xu xx xks) sx w3 (hkid.pure hq3.pure) hq3.ref hW.ok (fun b hb hh=>by have:=(hq3.o2 b hb).1;have:=hS b hh;omega) (fun b hb=>by have:=hS b hb;have:=hq3.pure.size;omega)).mono ?_
  rintro _ w4 ⟨r5,r6,rfl,h56,F2',hP4,E4,hF4⟩
  have k4:Kept Hl w3 w4:=E4.kept (fun b hb h1=>(hq3.o2 b h1).2.1 hb)
  refine ⟨_,_,rfl,k4,?_⟩
  have hq4:=hq3.of2 (fun b hb=>hl3.lt b hb) hP4 E4 hF4
  have hl4:=hl3.again k4
  injection h34 with e3 e4
  injection h56 with e5 e6
  refine Br.f (by rw [e4,e6,e3,e5];simp) ?_
  intro H1 w6 hs6
  have hq6:=hq4.hst hs6
  intro pa w8 h8
  have E8:Pure w6 w8:=Ext.new h8
  have hq8:=hq6.pureE E8
  have hs8:=hs6.here.again E8.keptP
  obtain ⟨s1,w9,hr9,hR9,E9,hb9⟩:=hq8.ts.append (P:=prog) (ty:=52) (c:=1) qI (r:=[.int .i64 r5]) (Box.of_new h8).row rfl rfl (by simp [tmr];omega) (by simp [tmr,maxLen];omega)
  have k9:Kept H1 w8 w9:=E9.kept (fun b hb h1=>(hq8.o3 b h1).2 hb)
  refine ⟨s1,w9,hr9,k9,?_⟩
  have hq9:=hq8.of3 (fun b hb=>hs8.lt b hb) (ids':=Q.2++[r5]) (by simpa [tmr] using hR9) E9 hb9
  rw [zL hlt (by omega)]
  refine ⟨⟨j+1,rfl,hlt,F1',F2',?_⟩,kZ hlt⟩
  rw [hstep]
  unfold Sp.kS
  rw [← e5]
  exact hq9
 ·have hge:=kA len hj h
  subst hge
  rw [List.take_length] at hq
  exact hK _ _ _ _ _ _ _ hq
end Go.Proofs
end
section
open Go Go.SE
namespace Go.Proofs
attribute [local irreducible] Calls
theorem copied {P:Program} {t e:TypeId} {sz bytes:Nat} (T:SlType P t e sz bytes) {w w1:World} {ty:TypeId} {p:Addr} (hn:New w (.cells #[] e) p w1) {S:NP} {x:Sl} {qs:List (List Value)} (hx:Lst S w sz x qs) (hl:∀q∈qs,q.length=sz) (h1:∀q∈qs,q.all zN=true) (hb:qs.length*bytes≤140737488355328) (hm:qs.length≤maxLen) {H:NP} (hH:∀b,H b→b<w.heap.size) :
  ∃s' w2,(Builtin.append_ #[t,t] ty #[(Sl.mk (some p) 0 0).v,x.v]).run P w1=.ok s'.v w2∧Rws w2 e sz s' qs∧Pure w w2∧Kept H w1 w2∧∀b,s'.blk b→w.heap.size≤b:=by
 have E1:Pure w w1:=Ext.new hn
 obtain ⟨s2,w2,hr,hR,hE,hb'⟩:=(Rws.empty (sz:=sz) hn).appendL (P:=P) (ty:=ty) T (hx.pure E1) hl h1 (by simpa using hb) (by simpa using hm)
 have hp:=hn.at_size
 have hp':∀b,(Sl.mk (some p) 0 0).blk b→w.heap.size≤b:=fun b hb=>(by obtain ⟨a,ha,e⟩:=hb;cases ha;omega)
 exact ⟨s2,w2,hr,by simpa using hR,E1.trans' hE (fun i hi h=>by have:=hp' i h;omega),hE.kept (fun b hh hb=>by have:=hp' b hb;have:=hH b hh;omega),fun b h=>(hb' b h).elim (hp' b) (fun h=>by have:=E1.size;omega)⟩
structure KqAt (w0:World) (H:NP) (w:World) (p q k:Addr) (L:Sp.Pool) (G:List Int) (S:List Sp.Way) (FP FR F:NP):Prop where
 kn:KnAt w0 H w p k L G S FP F
 ref:zT w q L FR
 oR:∀b,FR b→¬ H b
section
variable {w0 w w':World} {H H':NP} {p q k:Addr} {L:Sp.Pool} {G:List Int} {S:List Sp.Way} {FP FR F:NP}
theorem KqAt.pureE (h:KqAt w0 H w p q k L G S FP FR F) (E:Pure w w'):KqAt w0 H w' p q k L G S FP FR F:=⟨h.kn.pureE E,h.ref.pure E,h.oR⟩
theorem KqAt.hst (h:KqAt w0 H w p q k L G S FP FR F) (hs:Hst w0 H w H' w'):KqAt w0 H' w' p q k L G S FP FR F:=by
 have x1:=hs.disj (G:=FR) (fun b hb=>⟨h.ref.lt hb,h.oR b hb⟩);exact ⟨h.kn.hst hs,h.ref.ext hs.ext x1,x1⟩
theorem KqAt.start {w1 w2 w3:World} {t:Sl} {ids:List Int} (hE:Pure w0 w1) (hs:Hst w0 H w1 H w1) (hq:Pl3 w1 None w2 p q L L t ids FP FR) (hk:zD w3 k p G S F) (E:Pure w2 w3) (hF:∀b,F b→w2.heap.size≤b):KqAt w0 H w3 p q k L G S FP FR F:=by
 have z1:=hE.size;have z2:=hq.pure.size;have z3:=E.size;refine ⟨⟨hq.pool.pure E,hk,(hE.trans hq.pure).trans E,fun b hb=>?_,fun b hb=>?_,(hs.again hq.pure.keptP).again E.keptP⟩,hq.ref.pure E,fun b hb hh=>?_⟩
 ·have:=(hq.o1 b hb).1;exact ⟨by omega,fun hh=>by have:=hs.lt b hh;omega⟩
 ·have:=hF b hb;exact ⟨by omega,fun hh=>by have:=hs.lt b hh;omega,fun hh=>by have:=hq.pool.lt hh;omega⟩
 ·have:=(hq.o2 b hb).1;have:=hs.lt b hh;omega
end
end Go.Proofs
end
section
open Go Go.SE
namespace Go.Proofs
open Tryz
attribute [local irreducible] Calls
theorem jCW {s:Sl} {i:Int} {n:Nat} {a b:Addr} (h:At s i n a) (k:At s i n b):a=b:=by
 obtain ⟨_,_,b1,hb1,rfl⟩:=h;obtain ⟨_,_,b2,hb2,rfl⟩:=k;rw [hb1] at hb2;cases hb2;rfl
theorem jBT {k:Int} (h:(cond (k == 7) (k == 7) (k == 8))=true):Sp.zJ k=true:=by
 unfold Sp.zJ;cases h7:(k == 7) <;> cases h8:(k == 8) <;> simp_all
theorem jAJ {k:Int} (h:(cond (k == 7) (k == 7) (k == 8))=false) (h9:(k == 9)=false):Sp.zJ k=false:=by
 unfold Sp.zJ;cases h7:(k == 7) <;> cases h8:(k == 8) <;> simp_all
theorem lG (x q:Addr) (w0:World) {L:Sp.Pool} {G:List Int} {F FR:NP} (h:xI w0 x q G F) (hP:zT w0 q L FR) (hW:Sp.Wf L) (hG:∀g∈G,Sp.inP L g=true) (hGn:G.length≤100000) :
  Calls prog 65 #[.pointer (some x)] w0 (fun e w'=>∃r:Sl,e=.returned r.v∧∃D,RetO w0 4 1 (brw (L.length+1) D) r w'∧∀t,Sp.inP L t=true→(D t=true↔Sp.Drv L (Sp.Seen L G) t)):=by
 suffices key:∀K:Sl→WP,(∀r w' D,RetO w0 4 1 (brw (L.length+1) D) r w'→(∀t,Sp.inP L t=true→(D t=true↔Sp.Drv L (Sp.Seen L G) t))→K r w')→m_C1 (some x) w0 K from
  w_C1 _ w0 _ (key _ (fun r w' D a b=>⟨D,a,b⟩))
 intro K hK
 unfold m_C1
 have hL:=hW.ok.few
 refine (xD x q w0 h hP hW hG hGn).mono ?_
 rintro _ w1 ⟨r1,rfl,V,hr,hV⟩
 have E1:=hr.pure
 refine ⟨r1,rfl,E1.keptP,?_⟩
 intro p1 w2 h2
 obtain ⟨s1,w3,hr3,R3,X3,k3,o3⟩:=copied (P:=prog) (ty:=117) tQ h2 hr.rows.lst (brw_sz _ _) (jFI _ _) (by rw [vQ];omega) (by rw [vQ];simp [maxLen];omega) (H:=None) (fun b h=>h.elim)
 refine ⟨s1,w3,hr3,k3,?_⟩
 have hl1:r1.len=L.length+1:=by rw [hr.rows.len,vQ]
 have E3:=E1.trans X3
 refine ⟨fun t H w'=>∃j:Nat,t=(j:Int)+1∧j≤L.length∧Pure w0 w'∧Own H w' 4 1 r1 (brw (L.length+1) V)∧∃D,Own H w' 4 1 s1 (brw (L.length+1) D)∧(∀u,1≤u→u<t→(D u=true↔Sp.Drv L (Sp.Seen L G) u))∧∀u,t≤u→D u=V u,fun t _=>((L.length:Int)+1 - t).toNat,
  ⟨0,by simp,Nat.zero_le _,E3,⟨hr.rows.pure X3,fun b _ h=>h⟩,V,⟨R3,fun b _ h=>h⟩,fun u h1 h2=>by omega,fun u _=>rfl⟩,?_⟩
 rintro _ Hl wl hl ⟨j,rfl,hj,El,Or,D,Os,hD1,hD2⟩
 unfold m_C1_l1
 refine ⟨fun hc=>?_,fun hc=>?_⟩
 ·have hc:=of_decide_eq_true hc
  have hlt:j<L.length:=by omega
  have hin:Sp.inP L ((j:Int)+1)=true:=Sp.zA.2 ⟨by omega,by omega⟩
  have hwr:IntKind.i64.wrap ((j:Int)+1+1)=((j+1:Nat):Int)+1:=by rw [IntWalk.i64_in _ (by omega)];omega
  have hmu:∀y:Int,y=((j+1:Nat):Int)+1→((L.length:Int)+1 - y).toNat<((L.length:Int)+1 - ((j:Int)+1)).toNat:=fun y e=>by omega
  generalize ht:(j:Int)+1=t at *
  have hVt:=hV t hin
  have hDt:D t=V t:=hD2 t (Int.le_refl _)
  have t1:1≤t:=by omega
  have tL:t≤L.length:=by omega
  obtain ⟨sg,h8,hF⟩:=h
  have h8':xI w0 x q G F:=⟨sg,h8,hF⟩
  refine ⟨x,rfl,_,(h8.box.pure El).cell0,?_⟩
  refine (uA q t wl (hP.pure El) hW.ok).mono ?_
  rintro _ w4 ⟨nk,nf,nt,nu,nx,na,nb,ok,rfl,⟨hn,_⟩,E4⟩
  refine ⟨_,_,_,_,_,_,_,_,rfl,E4.keptP,?_⟩
  have hk1:(Sp.jD L t).kind=nk:=by rw [← hn]
  have hfr:(Sp.jD L t).frm=nf:=by rw [← hn]
  have hto:(Sp.jD L t).to=nt:=by rw [← hn]
  have ha:(Sp.jD L t).a=na:=by rw [← hn]
  have hb:(Sp.jD L t).b=nb:=by rw [← hn]
  have El4:=El.trans E4
  have hs4:Hst w0 Hl w4 Hl w4:=hl.again E4.keptP
  have Or4:=Or.pure E4
  have Os4:=Os.pure E4
  obtain ⟨a0,at0,_,_⟩:=qR Os4.rows (t:=t) (by omega) (by omega)
  have rd:∀{H:NP} {w:World} (y:Int),Own H w 4 1 s1 (brw (L.length+1) D)→0≤y→y≤L.length→∃a,At s1 y 1 a∧w.cell? a=some (.bool (D y)):=fun y O h0 hy=>by
   obtain ⟨a,q1,_,q2⟩:=qR O.rows (t:=y) h0 (by omega);exact ⟨a,q1,q2⟩
  have rd0:∀{H:NP} {w:World},Own H w 4 1 s1 (brw (L.length+1) D)→w.cell? a0=some (.bool (D t)):=fun O=>by
   obtain ⟨a,q1,q2⟩:=rd t O (by omega) tL;rw [jCW at0 q1];exact q2
  have put : ∀ {H : NP} {w : World} (b : Bool), Pure w0 w → Own H w 4 1 r1 (brw (L.length + 1) V) → Own H w 4 1 s1 (brw (L.length + 1) D) → (b = true ↔ Sp.Drv L (Sp.Seen L G) t) → zQ w a0 ∧ ¬ H a0.block ∧ ∀ w' : World, w' = w.setCell a0 (.bool b) →
    (∃j:Nat,IntKind.i64.wrap (t+1)=(j:Int)+1∧j≤L.length∧Pure w0 w'∧Own H w' 4 1 r1 (brw (L.length+1) V)∧∃D,Own H w' 4 1 s1 (brw (L.length+1) D)∧(∀u,1≤u→u<IntKind.i64.wrap (t+1)→(D u=true↔Sp.Drv L (Sp.Seen L G) u))∧∀u,IntKind.i64.wrap (t+1)≤u→D u=V u)∧((L.length:Int)+1 - IntKind.i64.wrap (t+1)).toNat<((L.length:Int)+1 - t).toNat:=by
   intro H w b E Or Os hb
   obtain ⟨a,q1,hblk,cw,hput⟩:=lJ Os.rows (t:=t) (by omega) (by omega)
   have:=jCW q1 at0
   subst this
   refine ⟨cw,Os.vis _ hblk,?_⟩
   rintro _ rfl
   obtain ⟨R',X'⟩:=hput b
   have hdis:∀c,r1.blk c→¬ s1.blk c:=fun c hc hs=>by
    have:=hr.rows.lt hc;have:=o3 c hs;omega
   refine ⟨⟨j+1,hwr,hlt,E.trans' X' (fun i hi hb=>by have:=o3 i hb;have:=E1.size;omega),⟨Or.rows.ext X' hdis,Or.vis⟩,_,⟨R',Os.vis⟩,fun u h1 h2=>?_,fun u hu=>?_⟩,hmu _ hwr⟩
   ·rw [hwr] at h2
    simp only [Sp.upd]
    split
    ·rename_i e;rw [e];exact hb
    ·exact hD1 u h1 (by omega)
   ·rw [hwr] at hu
    simp only [Sp.upd]
    rw [if_neg (by omega)]
    exact hD2 u (by omega)
  have kidv:∀k,Sp.inP L k=true→k<t→(D k=true↔Sp.Drv L (Sp.Seen L G) k):=fun k hk hlt=>hD1 k (Sp.zA.1 hk).1 hlt
  rintro y1 rfl
  have hy:(cond ((nk:Int) == 1) ((nk:Int) == 1) (cond ((nk:Int) == 2) ((nk:Int) == 2) ((nk:Int) == 3)))=Sp.qH nk:=by
   unfold Sp.qH;cases (nk == 1) <;> cases (nk == 2) <;> simp
  rw [hy]
  have seenD:D t=true→Sp.Drv L (Sp.Seen L G) t:=fun h=>.seen (hVt.1 (hDt▸h))
  have unseen:D t=false→¬ Sp.Seen L G t:=fun h hs=>by have:=hVt.2 hs;rw [← hDt,h] at this;cases this
  refine ⟨fun hf=>?_,fun hf=>⟨fun k4=>?_,fun k4=>⟨fun k5=>?_,fun k5=>?_⟩⟩⟩
  ·refine ⟨a0,at0,?_⟩
   intro H2 w7 hs7
   exact put true (El4.hst hs7) (Or4.hst hs7) (Os4.hst hs7) ⟨fun _=>.free (by rw [hk1];exact hf),fun _=>rfl⟩
  ·have k4:nk=4:=by simpa using k4
   have hkid:=Sp.jAP hW hin (by rw [hk1];exact k4)
   rw [ha,hb] at hkid
   have na1:=Sp.zA.1 hkid.1.1
   have nb1:=Sp.zA.1 hkid.2.1
   have hda:=kidv na hkid.1.1 hkid.1.2
   have hdb:=kidv nb hkid.2.1 hkid.2.2
   have inv:D t=false→(Sp.Drv L (Sp.Seen L G) t↔Sp.Drv L (Sp.Seen L G) na∧Sp.Drv L (Sp.Seen L G) nb):=fun hdt=>by
    constructor
    ·intro hd;rcases hd.inv with h | h | ⟨_,h1,h2⟩ | ⟨h,_⟩ | ⟨h,_⟩
     ·exact absurd h (unseen hdt)
     ·rw [hk1,hf] at h;cases h
     ·rw [ha] at h1;rw [hb] at h2;exact ⟨h1,h2⟩
     ·rw [hk1,k4] at h;cases h
     ·rw [hk1,k4] at h;cases h
    ·intro h;exact .pair (by rw [hk1];exact k4) (by rw [ha];exact h.1) (by rw [hb];exact h.2)
   refine ⟨a0,at0,?_⟩
   intro H2 w7 hs7
   have E7:=El4.hst hs7
   have Or7:=Or4.hst hs7
   have Os7:=Os4.hst hs7
   refine ⟨_,rd0 Os7,fun hv=>⟨a0,at0,put true E7 Or7 Os7 ⟨fun _=>seenD hv,fun _=>rfl⟩⟩,fun hv=>?_⟩
   obtain ⟨a5,at5,c5⟩:=rd na Os7 (by omega) (by omega)
   refine ⟨a5,at5,_,c5,fun hva=>?_,fun hva=>⟨a0,at0,put false E7 Or7 Os7 ?_⟩⟩
   ·obtain ⟨a6,at6,c6⟩:=rd nb Os7 (by omega) (by omega)
    refine ⟨a6,at6,_,c6,a0,at0,put _ E7 Or7 Os7 ?_⟩
    rw [inv hv,hdb];exact ⟨fun h=>⟨hda.1 hva,h⟩,fun h=>h.2⟩
   ·rw [inv hv];exact ⟨(fun h=>by cases h),fun h=>by have:=hda.2 h.1;rw [hva] at this;cases this⟩
  ·have k4:¬ nk=4:=by simpa using k4
   have k5:nk=5:=by simpa using k5
   have hkid:=Sp.kids5 hW hin (by rw [hk1];exact k5)
   rw [ha] at hkid
   have na1:=Sp.zA.1 hkid.1
   have hda:=kidv na hkid.1 hkid.2
   refine ⟨a0,at0,?_⟩
   intro H2 w7 hs7
   have E7:=El4.hst hs7
   have Or7:=Or4.hst hs7
   have Os7:=Os4.hst hs7
   refine ⟨_,rd0 Os7,fun hv=>⟨a0,at0,put true E7 Or7 Os7 ⟨fun _=>seenD hv,fun _=>rfl⟩⟩,fun hv=>?_⟩
   obtain ⟨a6,at6,c6⟩:=rd na Os7 (by omega) (by omega)
   refine ⟨a6,at6,_,c6,a0,at0,put _ E7 Or7 Os7 ?_⟩
   rw [hda]
   constructor
   ·intro h;exact .hash (by rw [hk1];exact k5) (by rw [ha];exact h)
   ·intro hd
    rcases hd.inv with h | h | ⟨h,_⟩ | ⟨_,h⟩ | ⟨h,_⟩
    ·exact absurd h (unseen hv)
    ·rw [hk1,hf] at h;cases h
    ·rw [hk1,k5] at h;cases h
    ·rw [ha] at h;exact h
    ·rw [hk1,k5] at h;cases h
  ·have k4:¬ nk=4:=by simpa using k4
   have k5:¬ nk=5:=by simpa using k5
   have sgn : ∀ (who : Int) (H : NP) (w : World), Sp.zJ nk = true → who = Sp.kI (Sp.jD L t) → Hst w0 H w H w → Pure w0 w → Own H w 4 1 r1 (brw (L.length + 1) V) → Own H w 4 1 s1 (brw (L.length + 1) D) →
     ∃ v7 : Bool, w.cell? a0 = some (.bool v7) ∧ Br v7 (∃ a14 : Addr, At s1 t 1 a14 ∧ zQ w a14 ∧ ¬ H a14.block ∧ ∀ w15 : World, w15 = w.setCell a14 (.bool true) →
       (∃j:Nat,IntKind.i64.wrap (t+1)=(j:Int)+1∧j≤L.length∧Pure w0 w15∧Own H w15 4 1 r1 (brw (L.length+1) V)∧∃D,Own H w15 4 1 s1 (brw (L.length+1) D)∧(∀u,1≤u→u<IntKind.i64.wrap (t+1)→(D u=true↔Sp.Drv L (Sp.Seen L G) u))∧∀u,IntKind.i64.wrap (t+1)≤u→D u=V u)∧((L.length:Int)+1 - IntKind.i64.wrap (t+1)).toNat<((L.length:Int)+1 - t).toNat)
      (∃a15:Addr,At s1 na 1 a15∧∃v8:Bool,w.cell? a15=some (.bool v8)∧Br v8
       (Calls prog 101 #[.pointer (some x),r1.v,.int .i64 who] w (fun e w16=>∃r3:Bool,e=.returned (.bool r3)∧Kept H w w16∧∃a16:Addr,At s1 t 1 a16∧zQ w16 a16∧¬ H a16.block∧∀w17:World,w17=w16.setCell a16 (.bool r3) →
        (∃j:Nat,IntKind.i64.wrap (t+1)=(j:Int)+1∧j≤L.length∧Pure w0 w17∧Own H w17 4 1 r1 (brw (L.length+1) V)∧∃D,Own H w17 4 1 s1 (brw (L.length+1) D)∧(∀u,1≤u→u<IntKind.i64.wrap (t+1)→(D u=true↔Sp.Drv L (Sp.Seen L G) u))∧∀u,IntKind.i64.wrap (t+1)≤u→D u=V u)∧((L.length:Int)+1 - IntKind.i64.wrap (t+1)).toNat<((L.length:Int)+1 - t).toNat))
       (∃a17:Addr,At s1 t 1 a17∧zQ w a17∧¬ H a17.block∧∀w18:World,w18=w.setCell a17 (.bool false) →
        (∃j:Nat,IntKind.i64.wrap (t+1)=(j:Int)+1∧j≤L.length∧Pure w0 w18∧Own H w18 4 1 r1 (brw (L.length+1) V)∧∃D,Own H w18 4 1 s1 (brw (L.length+1) D)∧(∀u,1≤u→u<IntKind.i64.wrap (t+1)→(D u=true↔Sp.Drv L (Sp.Seen L G) u))∧∀u,IntKind.i64.wrap (t+1)≤u→D u=V u)∧((L.length:Int)+1 - IntKind.i64.wrap (t+1)).toNat<((L.length:Int)+1 - t).toNat)):=by
    rintro _ H w h7 rfl hs E Or Os
    obtain ⟨x4,x5,_,xf⟩:=Sp.tR h7
    have hkid:=Sp.jDT hW hin (by rw [hk1];exact h7)
    rw [ha] at hkid
    have na1:=Sp.zA.1 hkid.1
    have hda:=kidv na hkid.1 hkid.2
    have inv:D t=false→(Sp.Drv L (Sp.Seen L G) t↔Sp.Drv L (Sp.Seen L G) na∧(Sp.kF L (Sp.kI (Sp.jD L t))).2=true∧Sp.Seen L G (Sp.kF L (Sp.kI (Sp.jD L t))).1):=fun hdt=>by
     constructor
     ·intro hd;rcases hd.inv with h | h | ⟨h,_⟩ | ⟨h,_⟩ | ⟨_,h1,h2,h3⟩
      ·exact absurd h (unseen hdt)
      ·rw [hk1,xf] at h;cases h
      ·rw [hk1] at h;exact absurd h x4
      ·rw [hk1] at h;exact absurd h x5
      ·rw [ha] at h1;exact ⟨h1,h2,h3⟩
     ·rintro ⟨h1,h2,h3⟩;exact .signed (by rw [hk1];exact h7) (by rw [ha];exact h1) h2 h3
    refine ⟨_,rd0 Os,fun hv=>⟨a0,at0,put true E Or Os ⟨fun _=>seenD hv,fun _=>rfl⟩⟩,fun hv=>?_⟩
    obtain ⟨a5,at5,c5⟩:=rd na Os (by omega) (by omega)
    refine ⟨a5,at5,_,c5,fun hva=>?_,fun hva=>⟨a0,at0,put false E Or Os ?_⟩⟩
    ·refine (jCR x q _ r1 w (h8'.pure E) (hP.pure E) hW.ok Or.rows).mono ?_
     rintro _ w16 ⟨r3,rfl,rfl,E16⟩
     refine ⟨_,rfl,E16.keptP,a0,at0,put _ (E.trans E16) (Or.pure E16) (Os.pure E16) ?_⟩
     rw [inv hv,Bool.and_eq_true]
     constructor
     ·rintro ⟨g1,g2⟩;exact ⟨hda.1 hva,g1,(hV _ (Sp.qX g1).1).1 g2⟩
     ·rintro ⟨_,g1,g2⟩;exact ⟨g1,(hV _ (Sp.qX g1).1).2 g2⟩
    ·rw [inv hv];exact ⟨(fun h=>by cases h),fun h=>by have:=hda.2 h.1;rw [hva] at this;cases this⟩
   refine ⟨fun k7=>?_,fun k7=>⟨fun k9=>?_,fun k9=>?_⟩⟩
   ·have h7:Sp.zJ nk=true:=jBT k7
    have h9:¬ nk=9:=fun e=>by rw [e] at k7;cases k7
    refine ⟨a0,at0,?_⟩
    intro H3 w14 hs14
    exact sgn nf H3 w14 h7 (by unfold Sp.kI;rw [hk1,if_neg h9,hfr]) hs14.here (El4.hst hs14) (Or4.hst hs14) (Os4.hst hs14)
   ·have k9:nk=9:=by simpa using k9
    refine ⟨a0,at0,?_⟩
    intro H3 w14 hs14
    exact sgn nt H3 w14 (by rw [k9];rfl) (by unfold Sp.kI;rw [hk1,if_pos k9,hto]) hs14.here (El4.hst hs14) (Or4.hst hs14) (Os4.hst hs14)
   ·intro H3 w14 hs14
    have h7:Sp.zJ nk=false:=jAJ k7 k9
    have hdt:D t=true↔Sp.Drv L (Sp.Seen L G) t:=by
     refine ⟨seenD,fun hd=>?_⟩;rcases hd.inv with h | h | ⟨h,_⟩ | ⟨h,_⟩ | ⟨h,_⟩
     ·rw [hDt];exact hVt.2 h
     ·rw [hk1,hf] at h;cases h
     ·rw [hk1] at h;exact absurd h k4
     ·rw [hk1] at h;exact absurd h k5
     ·rw [hk1,h7] at h;cases h
    refine ⟨⟨j+1,hwr,hlt,El4.hst hs14,Or4.hst hs14,D,Os4.hst hs14,fun u h1 h2=>?_,fun u hu=>hD2 u (by rw [hwr] at hu;omega)⟩,hmu _ hwr⟩
    rw [hwr] at h2
    by_cases e:u=t
    ·rw [e];exact hdt
    ·exact hD1 u h1 (by omega)
 ·have hc:=of_decide_eq_false hc
  refine hK s1 wl D ⟨Os.rows,fun b hb=>by have:=o3 b hb;have:=E1.size;omega,El⟩ (fun t ht=>hD1 t (Sp.zA.1 ht).1 (by have:=(Sp.zA.1 ht).2;omega))
end Go.Proofs
end
section
open Go Go.SE
namespace Go.SE
theorem Ext.putObj (w:World) (r:Nat) (o:Obj):Ext (·=r) w (w.putObj r o):=⟨rfl,rfl,rfl,(by first | exact Nat.le_refl _ | exact Nat.le_succ _),by simp,fun b _ hne=>World.putObj_heap_other hne⟩
abbrev Yld (P:Program) (l:Nat) (args:Array Value) (w:World) (R:Ending→WP):Prop:=YieldAt Fence.wide 0 P l args w R
def tM (P:Program) (gf:FuncId) (lb:Array Value) {α:Type} (encs:α→Array Value) (xs:List α) (Rd:WP) (w:World):Prop :=
 ∀(l:Nat) (J Jx:List α→NP→WP) (W:World),Pure w W →
  (∀pre X A,J pre X A→Rd A) →
  (∀pre X A X' A',J pre X A→Hst W X A X' A'→J pre X' A') →
  (∀pre X A X' A',Jx pre X A→Hst W X A X' A'→Jx pre X' A') →
  (∀pre y X A,J pre X A→Hst W X A X A→(∃post,xs=pre++y :: post)→Yld P l (encs y) A (fun e A'=>(e=.returned (.bool true)∧Kept X A A'∧J (pre++[y]) X A')∨(e=.returned (.bool false)∧Kept X A A'∧Jx (pre++[y]) X A'))) →
  J [] None W →
  Calls P gf (#[.func (.yield l) #[] #[]]++lb) W (fun e A=>(∃v,e=.returned v)∧∃X,Hst W X A X A∧(J xs X A∨∃pre,Jx pre X A))
def jDK:List Nat→List Value→Env→Env
 | p :: ps,v :: vs,ρ=>jDK ps vs (upd ρ p v)
 | _,_,ρ=>ρ
theorem lQ {n:Nat}:∀(ps:List Nat) (vs:List Value) (ρ:Env) (t:Array Value),(∀p∈ps,p<n)→Rep [] n ρ { tmps:=t,defers:=[] } →
  Rep [] n (jDK ps vs ρ) { tmps:=(ps.zip vs).foldl (fun t (x:Nat×Value)=>t.setIfInBounds x.1 x.2) t,defers:=[] }
 | [],vs,ρ,t,_,h=>by cases vs <;> exact h
 | p :: ps,[],ρ,t,_,h=>h
 | p :: ps,v :: vs,ρ,t,hp,h=>by
  rw [List.zip_cons_cons,List.foldl_cons];exact lQ ps vs _ _ (fun q hq=>hp q (by simp [hq])) (h.put (d:=some p) (fun k hk=>by cases hk;exact hp p (by simp)) v)
def jED (id:Nat) (Y:NP) (A:World) (I Ix Ir:NP→WP):Exit→Env→WP
 | .normal,_,A'=>Kept Y A A'∧I Y A'
 | .exit id',_,A'=>id'=id∧Kept Y A A'∧Ix Y A'
 | .ret,_,A'=>Kept Y A A'∧Ir Y A'
 | _,_,_=>False
def jEJ (D:Nat) (Q:Exit→Env→WP):Exit→Env→WP
 | .ret,ρ,w=>w.heap[D]?=some (.deferred (some []))∧Q .ret ρ (w.putObj D (.deferred none))
 | _,_,_=>False
theorem Kept.trans {H:NP} {a b c:World} (h:Kept H a b) (k:Kept H b c):Kept H a c:=⟨Nat.le_trans h.size k.size,fun i hi hH=>(k.keep i (Nat.lt_of_lt_of_le hi h.size) hH).trans (h.keep i hi hH)⟩
theorem Kept.mono {H H':NP} {a b:World} (h:Kept H a b) (hs:∀b,H' b→H b):Kept H' a b:=⟨h.size,fun i hi hH=>h.keep i hi (hs i hH)⟩
structure RngI {α:Type} (w0:World) (Rd:WP) (I Ix Ir:List α→NP→WP):Prop where
 rd:∀pre Y A,I pre Y A→Rd A
 i:∀pre Y A Y' A',I pre Y A→Hst w0 Y A Y' A'→I pre Y' A'
 x:∀pre Y A Y' A',Ix pre Y A→Hst w0 Y A Y' A'→Ix pre Y' A'
 r:∀pre Y A Y' A',Ir pre Y A→Hst w0 Y A Y' A'→Ir pre Y' A'
def wpB (P:Program) (n:Nat) (c y:Code) (Q:Exit→Env→WP) (ρ:Env) (w:World):Prop:=∀a,Rep [] n ρ a→c.wpIn (fen none) 0 P (Exit.then (fun a w=>y.wpIn (fen none) 0 P (jCZ ⟨none,[]⟩ n Q) a w) (jCZ ⟨none,[]⟩ n Q)) a w
theorem jDD {P:Program} {n:Nat} {Q:Exit→Env→WP} {ρ:Env} {w:World} {a c y:Code} (h:wpE (x:=⟨none,[]⟩) P n a (yH (fun ρ w=>wpB P n c y Q ρ w) Q) ρ w):wpE (x:=⟨none,[]⟩) P n (.seq (.seq a c) y) Q ρ w:=fun a ha =>
 wpIn_seq (wpIn_seq (wpIn_mono (h a ha) (fun e a w hl=>by
  cases e with
  | normal=>obtain ⟨ρ',hr,hq⟩:=uZ hl;exact hq a hr
  | _=>exact hl)))
theorem af_r {D:Nat} {Q:Exit→Env→WP} {ρ:Env} {w:World} (h1:w.heap[D]?=some (.deferred (some []))) (h:∀w1,w1=w.putObj D (.deferred none)→Q .ret ρ w1):jEJ D Q .ret ρ w:=⟨h1,h _ rfl⟩
theorem rd_n {id:Nat} {Y:NP} {A A':World} {I Ix Ir:NP→WP} {ρ:Env} (h:Kept Y A A'∧I Y A'):jED id Y A I Ix Ir .normal ρ A':=h
theorem HBZ.behind {H Y:NP} {w A:World} {l:List HBx} {D:Nat} (hb:HB H w l) (hk:Kept H w A) (hH:∀b,H b→Y b) (hD:Y D) (hDe:A.heap[D]?=some (.deferred (some []))):HBZ [(D,.deferred (some []))] Y A l :=
 ⟨(hb.kept hk).box,fun x hx=>hH _ (hb.hid x hx),hb.ne,fun x hx=>by
  cases List.mem_singleton.1 hx;exact ⟨hD,hDe,rfl⟩⟩
theorem HBZ.leave {w0 wv:World} {Hv H:NP} {w:World} {l:List HBx} {D:Nat} (hb:HBZ [(D,.deferred (some []))] H w l) (hs:Hst w0 Hv wv H w) {w1:World} (h1:w1=w.putObj D (.deferred none)):Hst w0 Hv wv H w1∧HB H w1 l:=by
 have hz:=hb.fz _ (List.mem_singleton.2 rfl);have E:Ext (·=D) w w1:=by rw [h1];exact Ext.putObj w D _
 refine ⟨⟨h1▸hs.ext.trans' (Ext.putObj w D _) (fun b _ e=>by subst e;exact hz.1),hs.sub,hs.new,hs.old,fun b hb=>Nat.lt_of_lt_of_le (hs.lt b hb) E.size,Nat.le_trans hs.base E.size⟩,?_⟩;refine ⟨fun x hx=>(hb.box x hx).ext E (fun e=>?_),hb.hid,hb.ne,fun x hx=>by cases hx⟩;have h2:=(hb.box x hx).blk;rw [e,hz.2.1] at h2;cases h2
theorem HBZ.dead {H:NP} {w:World} {l:List HBx} {D:Nat} (hb:HBZ [(D,.deferred (some []))] H w l):w.heap[D]?=some (.deferred (some [])):=(hb.fz _ (List.mem_singleton.2 rfl)).2.1
theorem jEK {P:Program} {ε:Operand→Value} {w w':World} {d:Option Tmp} {ty:TypeId} {pos:String} {aft:Array Edge} {g:Option (Nat×Bool)} {l:Nat} {x:Operand} {v:Value} {c:List Operand} {ts:Array TypeId} {args:Array Value} {r:Next} (hx:ε x=v) (hv:v=.func (.yield l) #[] #[]) (ha:(c.map ε).toArray=args) (hr:(Instr.yield l args).run P w=.ok r w') :
  (execOp ε ⟨d,.call ⟨.value x,c.toArray,ts⟩,ty,pos,aft,g⟩).run P w=.ok r w':=by
 subst hv;subst ha
 simp [execOp,resolve,hx,Deferred.ofValue,invoke,hr]
theorem jDH {P:Program} {ops:Array Oper} {Q:Env→WP} {ρ:Env} {w:World} {rest:List Oper} {d:Option Tmp} {ty:TypeId} {pos:String} {aft:Array Edge} {g:Option (Nat×Bool)} {l:Nat} {x:Operand} {v:Value} {c:List Operand} {ts:Array TypeId} {args:Array Value}
  (hw:Region.wanted ⟨d,.call ⟨.value x,c.toArray,ts⟩,ty,pos,aft,g⟩ (jI ops ρ)=true) (hx:evE ρ x=v) (hv:v=.func (.yield l) #[] #[]) (ha:(c.map (evE ρ)).toArray=args)
  (h:Yld P l args w (fun e w''=>∃v,e=.returned v∧wpL P ops Q rest (put ρ d v) w'')):wpL P ops Q (⟨d,.call ⟨.value x,c.toArray,ts⟩,ty,pos,aft,g⟩ :: rest) ρ w:=by
 obtain ⟨fn,tmps,assign,body,hr,hR⟩:=h
 unfold wpL
 rw [if_pos hw]
 unfold yld
 rw [jEK hx hv ha hr]
 exact hR
theorem Yld.mono {P:Program} {l:Nat} {args:Array Value} {w:World} {R R':Ending→WP} (h:Yld P l args w R) (hr:∀e w,R e w→R' e w):Yld P l args w R':=by
 obtain ⟨fn,tmps,assign,body,h1,h2⟩:=h;exact ⟨fn,tmps,assign,body,h1,RoundIn.mono h2 hr⟩
section
variable {P:Program} {n:Nat} {Q:Exit→Env→WP} {ρ:Env} {w w0:World} {H Hv:NP} {wv:World}
theorem jBG {id:Nat} {g:Operand} {ps:Array Tmp} {assign body y:Code} {gf:FuncId} {lb:Array Value} {α:Type} {encs:α→Array Value} {xs:List α} {Rd:WP}
  (hg:evE ρ g=.func (.func gf) #[] lb) (eg:∀args w,(callFunc gf args).run P w=.ok (.enter gf args) w) (hit:tM P gf lb encs xs Rd w) (hps:∀z,(encs z).size=ps.size) (hpn:∀p∈ps.toList,p<n)
  (hs:Hst w0 Hv wv H w) (I Ix Ir:List α→NP→WP) (hRI:RngI w0 Rd I Ix Ir)
  (h0:I [] H w)
  (hround:∀l z A,wpE (x:=⟨some l,[]⟩) P n assign (yH (fun ρ' A'=>A'=A∧∀pre Y A,I pre Y A→Hst w0 Y A Y A→(∃post,xs=pre++z :: post)→wpE (x:=⟨some l,[]⟩) P n body (jED id Y A (I (pre++[z])) (Ix (pre++[z])) (Ir (pre++[z]))) ρ' A) (fun _ _ _=>False)) (jDK ps.toList (encs z).toList ρ) A)
  (hrest:∀D Y A,Hst w0 Y A Y A→Y D→A.heap[D]?=some (.deferred (some []))→(∀b,H b→Y b)→Kept H w A→(I xs Y A∨∃pre,Ix pre Y A)→wpE (x:=⟨none,[jEZ D]⟩) P n y (jEJ D Q) ρ A)
  (hret:∀D pre Y A,Hst w0 Y A Y A→Y D→A.heap[D]?=some (.deferred (some []))→Ir pre Y A→Q .ret ρ (A.putObj D (.deferred none))) :
  wpB P n (.block id (.rangeFunc g ps assign body)) y Q ρ w:=by
 obtain ⟨hRd,hI,hIx,hIr⟩:=hRI
 intro a ha
 refine wpIn_block (wpIn_rangeFunc ?_)
 intro fn _
 obtain ⟨rec,hrec⟩:∃rec:LoopState→Option Code→Loop,rec=fun st pe=>{ state:=st,pending:=pe,fn,tmps:=a.tmps,params:=ps,assign,body,defers:=w.heap.size }:=⟨_,rfl⟩
 obtain ⟨W1,hW1⟩:∃W1,(w.alloc (.deferred (some []))).alloc (.loop (rec .ready none))=W1:=⟨_,rfl⟩
 have hL1:W1.heap[w.heap.size+1]?=some (.loop (rec .ready none)):=by
  rw [← hW1];have:=World.alloc_heap_new (w.alloc (.deferred (some []))) (.loop (rec .ready none));rwa [World.size_alloc] at this
 have hK1:W1.heap[w.heap.size]?=some (.deferred (some [])):=by
  rw [← hW1];exact (RowKit.Below.heap_alloc _ _ _ (by simp)).trans (World.alloc_heap_new w _)
 have hsz:W1.heap.size=w.heap.size+2:=by rw [← hW1];simp
 have E1:Pure w W1:=by
  rw [← hW1];exact ⟨rfl,rfl,rfl,(by first | exact Nat.le_refl _ | exact Nat.le_succ _),by simp;omega,fun b hb _=>(RowKit.Below.heap_alloc _ _ _ (by simp;omega)).trans (RowKit.Below.heap_alloc _ _ _ hb)⟩
 let Yo:NP→NP:=fun X b=>H b∨b=w.heap.size∨b=w.heap.size+1∨X b
 have hHlt:∀b,H b→b<w.heap.size:=hs.lt
 have here:∀{X:NP} {A:World},Hst W1 X A X A→Hst w0 (Yo X) A (Yo X) A:=fun {X A} h =>
  ⟨Ext.refl _,fun _ h=>h,fun _ h=>.inl h,fun b hb=>by
   rcases hb with hb | rfl | rfl | hb
   ·exact hs.old b hb
   ·exact hs.base
   ·have:=hs.base;omega
   ·have:=h.old b hb;have:=hs.base;omega,fun b hb=>by
   have z:=h.base;rcases hb with hb | rfl | rfl | hb
   ·have:=hHlt b hb;omega
   ·omega
   ·omega
   ·exact h.lt b hb,by have:=h.base;have:=hs.base;omega⟩
 have up:∀{X X':NP} {A A':World},Hst W1 X A X A→Hst W1 X A X' A'→Hst w0 (Yo X) A (Yo X') A':=fun {X X' A A'} h k =>
  ⟨k.ext.mono (fun b _ hb=>.inr (.inr (.inr hb))),fun b hb=>by
   rcases hb with hb | hb | hb | hb
   ·exact .inl hb
   ·exact .inr (.inl hb)
   ·exact .inr (.inr (.inl hb))
   ·exact .inr (.inr (.inr (k.sub b hb))),fun b hb=>by
   rcases hb with hb | hb | hb | hb
   ·exact .inl (.inl hb)
   ·exact .inl (.inr (.inl hb))
   ·exact .inl (.inr (.inr (.inl hb)))
   ·exact (k.new b hb).imp_left (fun h=>.inr (.inr (.inr h))),(here k.here).old,(here k.here).lt,(here k.here).base⟩
 have nX:∀{X:NP} {A:World},Hst W1 X A X A→∀b,b<w.heap.size+2→¬ X b:=fun h b hb hx=>by have:=h.old b hx;omega
 have keepH:∀{X X':NP} {A A':World},Kept H w A→Hst W1 X A X' A'→Kept H w A':=fun {X X' A A'} hk k =>
  hk.trans (k.ext.kept (fun b hb hx=>nX k.here b (by have:=hHlt b hb;omega) hx))
 have turn:∀{X:NP} {A:World} (o:Obj),Hst W1 X A X A→Hst w0 (Yo X) A (Yo X) (A.putObj (w.heap.size+1) o):=fun {X A} o h =>
  ⟨(Ext.putObj A _ o).mono (fun b _ e=>by subst e;exact .inr (.inr (.inl rfl))),fun _ h=>h,fun _ h=>.inl h,(here h).old,fun b hb=>by have:=(here h).lt b hb;simpa using this,by simpa using (here h).base⟩
 have hstW:∀{X:NP} {A:World} (o:Obj),Hst W1 X A X A→Hst W1 X (A.putObj (w.heap.size+1) o) X (A.putObj (w.heap.size+1) o):=fun o h =>
  ⟨Ext.refl _,fun _ h=>h,fun _ h=>.inl h,h.old,fun b hb=>by have:=h.lt b hb;simpa using this,by simpa using h.base⟩
 have keepT:∀{A:World} (o:Obj),Kept H w A→Kept H w (A.putObj (w.heap.size+1) o):=fun {A} o hk=>hk.trans ((Ext.putObj A _ o).kept (fun b hb e=>by have:=hHlt b hb;omega))
 let Jc:Code→List α→NP→WP:=fun c pre Y A=>match c with
  | .ret=>Ir pre Y A
  | .exit id'=>id'=id∧Ix pre Y A
  | _=>False
 have hJc:∀c pre Y A Y' A',Jc c pre Y A→Hst w0 Y A Y' A'→Jc c pre Y' A':=by
  intro c pre Y A Y' A' h k;cases c <;> first | exact hIr _ _ _ _ _ h k | exact ⟨h.1,hIx _ _ _ _ _ h.2 k⟩ | exact h
 refine ⟨w.heap.size+1,[jEZ w.heap.size],W1,{ target:=.fn (.func gf) lb,args:=#[.func (.yield (w.heap.size+1)) #[] #[]] },W1,gf,
  #[.func (.yield (w.heap.size+1)) #[] #[]]++lb,W1,?_,?_,fun _ _=>trivial,?_,(fun h=>by cases h),callsIn_wide.2 ?_⟩
 ·rw [← hW1,hrec];exact run_enterLoop_outer _ _ _ _ _
 ·have hev:a.eval g=.func (.func gf) #[] lb:=by rw [ha.eval];exact hg
  simp only [resolve,hev]
  simp [go_sem]
 ·simp [invoke,go_sem,eg]
 have hst1:Hst W1 None W1 None W1:=Hst.start W1
 refine (hit (w.heap.size+1)
  (fun pre X A=>Hst W1 X A X A∧I pre (Yo X) A∧A.heap[w.heap.size+1]?=some (.loop (rec .ready none))∧A.heap[w.heap.size]?=some (.deferred (some []))∧Kept H w A)
  (fun pre X A=>Hst W1 X A X A∧∃c,Jc c pre (Yo X) A∧A.heap[w.heap.size+1]?=some (.loop (rec .done (some c)))∧A.heap[w.heap.size]?=some (.deferred (some []))∧Kept H w A)
  W1 E1 (fun pre X A h=>hRd _ _ _ h.2.1)
  (fun pre X A X' A' h k=>⟨k.here,hI _ _ _ _ _ h.2.1 (up h.1 k),k.ext.heap h.2.2.1 (nX k.here _ (by omega)),k.ext.heap h.2.2.2.1 (nX k.here _ (by omega)),keepH h.2.2.2.2 k⟩)
  (fun pre X A X' A' h k=>by
   obtain ⟨h1,c,h2,h3,h4,h5⟩:=h;exact ⟨k.here,c,hJc _ _ _ _ _ _ h2 (up h1 k),k.ext.heap h3 (nX k.here _ (by omega)),k.ext.heap h4 (nX k.here _ (by omega)),keepH h5 k⟩)
  ?_ ⟨hst1,hI _ _ _ _ _ h0 ⟨E1.pure,fun b hb=>.inl hb,fun b hb=>?_,(here hst1).old,(here hst1).lt,(here hst1).base⟩,hL1,hK1,E1.keptP⟩).mono ?_
 ·-- one round
  rintro pre z X A ⟨hX,hi,hl,hk,hkH⟩ _ hpost
  have hlt:w.heap.size+1<A.heap.size:=(Array.getElem?_eq_some_iff.1 hl).1
  have hy:=run_yield (P:=P) (args:=encs z) hl (by rw [hrec];exact hps z)
  rw [hrec] at hy
  refine ⟨fn,_,assign,body,hy,roundIn_of_wpIn (F:=Fence.wide) trivial ?_⟩
  have hrep:Rep [] n (jDK ps.toList (encs z).toList ρ) { tmps:=(ps.zip (encs z)).foldl (fun t (x:Nat×Value)=>t.setIfInBounds x.1 x.2) a.tmps,defers:=[] }:=by
   have:=lQ ps.toList (encs z).toList ρ a.tmps hpn ⟨rfl,ha.size,ha.get⟩;rw [← Array.foldl_toList,Array.toList_zip];exact this
  refine wpIn_mono (hround (w.heap.size+1) z A _ hrep) ?_
  rintro e a1 A1 ⟨ρ',hor⟩
  have hor:=hor.resolve_right (fun h=>by cases h.2.1)
  obtain ⟨hr1,hq⟩:=hor
  cases e <;> first | exact hq.elim | skip
  obtain ⟨rfl,hbody⟩:=hq
  refine ⟨_,run_beginRound hl (by rw [hrec]),?_⟩
  have T1:=turn (.loop { rec .ready none with state:=.busy }) hX
  have hX1:=hstW (.loop { rec .ready none with state:=.busy }) hX
  have hl2:(A1.putObj (w.heap.size+1) (.loop { rec .ready none with state:=.busy })).heap[w.heap.size+1]?=some (.loop { rec .ready none with state:=.busy }):=World.putObj_heap_same hlt
  have hk2:(A1.putObj (w.heap.size+1) (.loop { rec .ready none with state:=.busy })).heap[w.heap.size]?=some (.deferred (some [])):=(World.putObj_heap_other (by omega)).trans hk
  have hkH2:=keepT (.loop { rec .ready none with state:=.busy }) hkH
  have hi2:=hI _ _ _ _ _ hi T1
  refine wpIn_mono (hbody pre (Yo X) _ hi2 T1.here hpost a1 hr1) ?_
  have fin : ∀ (jump : Option Code) (A3 : World), Kept (Yo X) (A1.putObj (w.heap.size + 1) (.loop { rec .ready none with state := .busy })) A3 →
    (Instr.endRound (w.heap.size+1) jump).run P A3=.ok (.bool jump.isNone) (A3.putObj (w.heap.size+1) (.loop (rec (if jump.isNone then .ready else .done) jump))) ∧
    Hst W1 X (A3.putObj (w.heap.size+1) (.loop (rec (if jump.isNone then .ready else .done) jump))) X (A3.putObj (w.heap.size+1) (.loop (rec (if jump.isNone then .ready else .done) jump))) ∧
    Hst w0 (Yo X) A3 (Yo X) (A3.putObj (w.heap.size+1) (.loop (rec (if jump.isNone then .ready else .done) jump))) ∧
    (A3.putObj (w.heap.size+1) (.loop (rec (if jump.isNone then .ready else .done) jump))).heap[w.heap.size+1]?=some (.loop (rec (if jump.isNone then .ready else .done) jump)) ∧
    (A3.putObj (w.heap.size+1) (.loop (rec (if jump.isNone then .ready else .done) jump))).heap[w.heap.size]?=some (.deferred (some [])) ∧
    Kept H w (A3.putObj (w.heap.size+1) (.loop (rec (if jump.isNone then .ready else .done) jump))) ∧
    Kept X A1 (A3.putObj (w.heap.size+1) (.loop (rec (if jump.isNone then .ready else .done) jump))):=fun jump A3 hk3=>by
   have hl3:A3.heap[w.heap.size+1]?=some (.loop { rec .ready none with state:=.busy }):=by
    rw [hk3.keep _ (by simpa using hlt) (.inr (.inr (.inl rfl)))];exact hl2
   have hD3:A3.heap[w.heap.size]?=some (.deferred (some [])):=by
    rw [hk3.keep _ (by simp;omega) (.inr (.inl rfl))];exact hk2
   have hX3:Hst W1 X A3 X A3:=hX1.again (hk3.mono (fun b hb=>.inr (.inr (.inr hb))))
   have hrun:=run_endRound (P:=P) jump hl3
   rw [hrec] at hrun
   refine ⟨by rw [hrec];exact hrun,hstW _ hX3,turn _ hX3,World.putObj_heap_same (Array.getElem?_eq_some_iff.1 hl3).1,(World.putObj_heap_other (by omega)).trans hD3,keepT _ (hkH2.trans (hk3.mono (fun b hb=>.inl hb))),?_⟩
   have k1:Kept X A1 (A1.putObj (w.heap.size+1) (.loop { rec .ready none with state:=.busy })):=(Ext.putObj A1 _ _).kept (fun b hb e=>by have:=hX.old b hb;omega)
   exact (k1.trans (hk3.mono (fun b hb=>.inr (.inr (.inr hb))))).trans ((Ext.putObj A3 _ _).kept (fun b hb e=>by have:=hX.old b hb;omega))
  rintro e a3 A3 ⟨ρ3,hor⟩
  have hor:=hor.resolve_right (fun h=>by cases h.2.1)
  obtain ⟨hr3,hq⟩:=hor
  cases e with
  | normal =>
   obtain ⟨hk3,hi3⟩:=hq
   obtain ⟨f1,f2,f3,f4,f5,f6,f7⟩:=fin none A3 hk3
   exact ⟨_,_,f1,.inl ⟨rfl,f7,f2,hI _ _ _ _ _ hi3 f3,f4,f5,f6⟩⟩
  | ret =>
   obtain ⟨hk3,hi3⟩:=hq
   obtain ⟨f1,f2,f3,f4,f5,f6,f7⟩:=fin (some .ret) A3 hk3
   exact ⟨_,_,f1,.inr ⟨rfl,f7,f2,.ret,hIr _ _ _ _ _ hi3 f3,f4,f5,f6⟩⟩
  | exit id' =>
   obtain ⟨rfl,hk3,hi3⟩:=hq
   obtain ⟨f1,f2,f3,f4,f5,f6,f7⟩:=fin (some (.exit id')) A3 hk3
   exact ⟨_,_,f1,.inr ⟨rfl,f7,f2,.exit id',⟨rfl,hIx _ _ _ _ _ hi3 f3⟩,f4,f5,f6⟩⟩
  | goto t=>exact hq.elim
  | panic ch=>exact hq.elim
  | outgrown=>exact hq.elim
 ·rcases hb with hb | rfl | rfl | hb
  ·exact .inl hb
  ·exact .inr (Nat.le_refl _)
  ·exact .inr (by omega)
  ·exact hb.elim
 ·-- behind the iterator
  have hrepM:Rep [jEZ w.heap.size] n ρ { a with defers:=[jEZ w.heap.size]++a.defers }:=⟨by rw [show a.defers=[] from ha.defers];rfl,ha.size,ha.get⟩
  have go:∀(A:World),Hst w0 (Yo fun b=>H b∨b=w.heap.size∨b=w.heap.size+1) A (Yo fun b=>H b∨b=w.heap.size∨b=w.heap.size+1) A→True:=fun _ _=>trivial
  have rest : ∀ (X : NP) (A : World), Hst w0 (Yo X) A (Yo X) A → A.heap[w.heap.size]? = some (.deferred (some [])) → Kept H w A → (I xs (Yo X) A ∨ ∃ pre, Ix pre (Yo X) A) →
    y.wpIn (fen none) 0 P (jCZ ⟨none,[]⟩ n Q) { a with defers:=[jEZ w.heap.size]++a.defers } A:=by
   intro X A hA hD hkA hIA
   refine wpIn_mono (hrest w.heap.size (Yo X) A hA (.inr (.inl rfl)) hD (fun b hb=>.inl hb) hkA hIA _ hrepM) ?_
   rintro e a2 A2 ⟨ρ2,⟨hr2,hq⟩ | ⟨_,_,h,_⟩⟩
   ·cases e <;> first | exact hq.elim | skip
    exact ⟨ρ2,.inr ⟨rfl,rfl,rfl,w.heap.size,hr2,hq.1,hq.2⟩⟩
   ·cases h
  rintro e A ⟨⟨v,rfl⟩,X,_,⟨hX,hi,hl,hk,hkH⟩ | ⟨pre,hX,c,hc,hl,hk,hkH⟩⟩
  ·obtain ⟨o, hrun⟩ : ∃ o, (Instr.endLoop (w.heap.size + 1)).run P A = .ok none (A.putObj (w.heap.size + 1) o) := by
    have:=run_endLoop (P:=P) hl (by rw [hrec];simp);rw [hrec] at this;exact ⟨_,this⟩
   have T:=turn o hX
   exact ⟨none,_,hrun,rest X _ T.here ((World.putObj_heap_other (by omega)).trans hk) (keepT _ hkH) (.inl (hI _ _ _ _ _ hi T))⟩
  ·obtain ⟨o, hrun⟩ : ∃ o, (Instr.endLoop (w.heap.size + 1)).run P A = .ok (some c) (A.putObj (w.heap.size + 1) o) := by
    have:=run_endLoop (P:=P) hl (by rw [hrec];simp);rw [hrec] at this;exact ⟨_,this⟩
   have T:=turn o hX
   refine ⟨some c,_,hrun,?_⟩
   have hc':=hJc _ _ _ _ _ _ hc T
   have hD:=(World.putObj_heap_other (w:=A) (r:=w.heap.size+1) (o:=o) (k:=w.heap.size) (by omega)).trans hk
   cases c <;> first | exact hc.elim | skip
   case exit id' =>
    obtain ⟨rfl,hx⟩:=hc'
    refine wpIn_exit ?_
    simp only [Exit.inBlock,if_true]
    exact rest X _ T.here hD (keepT _ hkH) (.inr ⟨pre,hx⟩)
   case ret =>
    refine wpIn_ret ?_
    exact ⟨ρ,.inr ⟨rfl,rfl,rfl,w.heap.size,hrepM,hD,hret w.heap.size pre (Yo X) _ T.here (.inr (.inl rfl)) hD hc'⟩⟩
end
end Go.SE
namespace Go.SE
end Go.SE
end
section
open Go Go.SE
open Go.IntKind renaming i64 → q6
namespace Go.Proofs
open Tryz
set_option maxRecDepth 100000
set_option maxHeartbeats 4000000
attribute [local irreducible] wpL wpX opE wpE Calls
def m_K1_l1 (yield1:Value) (v1:Sl) (x1:Int) (wl1:World) (Kc1:Int→WP) (K:WP):Prop :=Br (decide (x1<(v1.len:Int))) (∃a1:Addr,At v1 x1 1 a1∧∃v2,wl1.cell? a1=some (vi v2)∧∃(ly1:Nat),yield1=.func (.yield ly1) #[] #[]∧Yld prog ly1 #[(vi v2)] wl1 (fun e w1=>∃b1,e=.returned (vb b1)∧Br (!b1) (K w1) (Kc1 (q6.wrap (x1+1)) w1))) (K wl1)
def m_K1 (yield1:Value) (cap1:Addr) (w0:World) (K:WP):Prop :=∃v1:Sl,w0.cell? cap1=some v1.v∧∃(I1:Int→WP) (mu1:Int→World→Nat),I1 0 w0∧∀(x1:Int) (wl1:World),I1 x1 wl1→m_K1_l1 yield1 v1 x1 wl1 (fun y'0 w'=>I1 y'0 w'∧mu1 y'0 w'<mu1 x1 wl1) K
theorem w_K1 (yield1 cap1 w0 K) (h:m_K1 yield1 cap1 w0 K):
  Calls prog 141 #[yield1,(vp (some cap1))] w0 (fun e w'=>e=.returned (.tuple #[])∧K  w'):=by
 refine cw (args:=[yield1,(vp (some cap1))]) func141 ntmps141 (eg ?_)
 refine ql (isAgg52 _) h fun v1 h=>qb (ln (jF ?_))
 obtain ⟨I1,mu1,h0,hr⟩:=h
 refine zI (σ:=Int×World) (fun s ρ w=>w=s.2∧Has ρ [(0,yield1),(5,v1.v),(6,(vi (v1.len:Int))),(7,(vi s.1))]∧I1 s.1 s.2) (fun s=>mu1 s.1 s.2) (0,w0) ⟨rfl,hm,h0⟩ ?_
 rintro ⟨x1,wl1⟩ ρ w ⟨hw,hH,hI⟩
 dsimp only at hw hH;subst w
 have h:=hr x1 wl1 hI
 refine jO hH (eg (q (ln (jA (cbr h ?_ ?_)))))<;>intro h
 refine jC (jJ (jA (jF (eg (qi (runUnderlying52 _) (sizeOf30 _) h fun a1 h=>ql (isAgg30 _) h fun v2 h=>q (ln (eg (qb ?_))))))))
 obtain ⟨ly1,hy1,h⟩:=h
 refine jDH (jP rfl) (by kernel_rfl) hy1 (by kernel_rfl) (h.mono ?_)
 rintro e w1 ⟨b1,rfl,h⟩
 refine ⟨_,rfl,?_⟩
 refine q (ln (cbr h ?_ ?_))<;>intro h
 refine er (kG (jW (jW (kG (jEE (.inl rfl) results141 ⟨rfl,h⟩)))))
 refine jC (kD (jJ (rg (qb (ln ⟨((q6.wrap (x1+1)),w1),⟨rfl,hm,h.1⟩,h.2⟩)))))
 refine zE (kP (kP (kO (jEE (.inr rfl) results141 ⟨rfl,h⟩))))
def m_Z2 (s1:Sl) (seq1:Value) (w0:World) (K:Sl→WP):Prop :=∀p1 w1,New w0 (.cells #[s1.v] 52) p1 w1→∃(f1:FuncId) (cs1:Array Value),seq1=.func (.func f1) #[] cs1∧(∀args w,(callFunc f1 args).run prog w=.ok (.enter f1 args) w)∧∃(xs1:List (Int)) (Rd1:WP),tM prog f1 cs1 (fun (z2:Int)=>#[(vi z2)]) xs1 Rd1 w1∧∃(I1:List (Int)→NP→WP),RngI w0 Rd1 I1 (fun _ _ _=>False) (fun _ _ _=>False)∧I1 [] None w1∧(∀(pre1:List (Int)) (z2:Int) (Y1:NP) (A1:World),I1 pre1 Y1 A1→Hst w0 Y1 A1 Y1 A1→(∃post,xs1=pre1++z2 :: post)→∃v1:Sl,A1.cell? p1=some v1.v∧∀p2 w3,New A1 (.cells #[(vi z2)] 30) p2 w3→∃s2:Sl,∃w4:World,(Builtin.append_ #[52,52] 52 #[v1.v,(Sl.mk (some p2) 1 1).v]).run prog w3=.ok s2.v w4∧Kept None w3 w4∧zQ w4 p1∧¬ None p1.block∧∀w5,w5=w4.setCell p1 s2.v→Kept Y1 A1 w5∧I1 (pre1++[z2]) Y1 w5)∧∀H1 w6,Hst w0 H1 w6 H1 w6→(∀b,None b→H1 b)→Kept None w1 w6→I1 xs1 H1 w6→∃v2:Sl,w6.cell? p1=some v2.v∧∀w7,Hst w0 H1 w6 H1 w7→K v2 w7
theorem w_Z2 (s1 seq1 w0 K) (h:m_Z2 s1 seq1 w0 K):
  Calls prog 153 #[s1.v,seq1] w0 (fun e w'=>∃r1:Sl,e=.returned r1.v∧K r1 w'):=by
 refine cw (args:=[s1.v,seq1]) func153 ntmps153 ?_
 obtain ⟨hs,hb⟩:=st0 w0
 refine eg (nw2 hs hb h xb fun p1 w1 hs hb h=>q (ln (jDD (rg (q0 seq1 (ln ?_))))))
 obtain ⟨f1,cs1,hv1,hf1,h⟩:=h
 obtain ⟨xs1,Rd1,hit,I1,hRI,h0,hbody,h⟩:=h
 refine jBG (encs:=(fun (z2:Int)=>#[(vi z2)])) (Eq.trans (b:=seq1) (by kernel_rfl) hv1) hf1 hit (fun _=>rfl) (by decide) hs I1 (fun _ _ _=>False) (fun _ _ _=>False) hRI h0 ?ha ?hr ?ht
 case ha =>
  intro l z2 w8
  refine rg (q (ln ⟨rfl,?_⟩))
  intro pre1 Y1 A1 hi hY hpost
  have h:=hbody pre1 z2 Y1 A1 hi hY hpost
  obtain ⟨hs,hb⟩:=st0 A1
  refine jF (rg (ql (isAgg52 _) h fun v1 h=>q (vU (O:=(.cells #[(vi z2)] 30)) (fun p=>(Sl.mk (some p) 1 1).v) (jP rfl) (zM (vs:=#[(0,(vi z2))]) (by kernel_rfl) (by kernel_rfl)) ?_)))
  intro p2 w3 hn2
  have h:=h p2 w3 hn2
  obtain ⟨hs,hb⟩:=hs.nw hb hn2
  obtain ⟨s2,w4,hv2,hk,h⟩:=h
  refine st (v:=s2.v) (jP rfl) (zH (args:=#[v1.v,(Sl.mk (some p2) 1 1).v]) (by kernel_rfl) (fun _=>rfl) hv2) ?_
  obtain ⟨hs,hb⟩:=hk.hh hs hb
  refine st2 (sizeOf52 _) hs hb h fun w5 hs hb h=>jB (kD ?_)
  exact rd_n h
 case hr =>
  intro D1 H1 w6 hs' hD hDe aA hk1 hio1
  have hb':=hb.behind hk1 aA hD hDe
  have hs:=hs'
  have hb:=hb'
  have h:=h H1 w6 hs aA hk1 (hio1.elim id (fun h=>h.elim (fun _ h=>h.elim)))
  refine eg (ql (isAgg52 _) h fun v2 h=>q (ln (er (af_r hb.dead ?_))))
  intro w7 hw'
  have hl:=hb.leave hs hw'
  obtain ⟨hs,hb⟩:=hl
  -- behind the loop
  have ⟨h,hs⟩:=hs.hr (h w7)
  refine rs1 results153 ⟨v2,rfl,h⟩
 case ht =>
  intro _ _ _ _ _ _ _ h
  exact h.elim
end Go.Proofs
end
section
open Go Go.SE
namespace Go.Proofs
open Tryz
set_option maxRecDepth 100000
set_option maxHeartbeats 4000000
attribute [local irreducible] wpL wpX opE wpE Calls
def m_A3 (seq1:Value) (w0:World) (K:Sl→WP):Prop :=Calls prog 153 #[Sl.nil.v,seq1] w0 (fun e w1=>∃r1:Sl,e=.returned r1.v∧K r1 w1)
theorem w_A3 (seq1 w0 K) (h:m_A3 seq1 w0 K):
  Calls prog 139 #[seq1] w0 (fun e w'=>∃r2:Sl,e=.returned r2.v∧K r2 w'):=by
 refine cw (args:=[seq1]) func139 ntmps139 (eg (q0 Sl.nil.v (ln (eg (q0 seq1 ?_)))))
 refine sc call153 (h.mono fun e w1 ⟨r1,k,h⟩=>⟨_,k,?_⟩)
 refine q (ln (er (rs1 results139 ⟨r1,rfl,h⟩)))
def m_B3 (seq1:Value) (w0:World) (K:Sl→WP):Prop :=Calls prog 139 #[seq1] w0 (fun e w1=>∃r1:Sl,e=.returned r1.v∧Calls prog 140 #[r1.v] w1 (fun e w2=>e=.returned (.tuple #[])∧K r1 w2))
theorem w_B3 (seq1 w0 K) (h:m_B3 seq1 w0 K):
  Calls prog 98 #[seq1] w0 (fun e w'=>∃r2:Sl,e=.returned r2.v∧K r2 w'):=by
 refine cw (args:=[seq1]) func98 ntmps98 (eg (q0 Sl.nil.v (ln (eg (q0 seq1 ?_)))))
 refine sc call139 (h.mono fun e w1 ⟨r1,k,h⟩=>⟨_,k,?_⟩)
 refine q (ln (eg (q (sc call140 (h.mono fun e w2 ⟨k,h⟩=>⟨_,k,?_⟩)))))
 refine ln (eg (qb (ln (er (rs1 results98 ⟨r1,rfl,h⟩)))))
def m_C3 (s1:Sl) (w0:World) (K:Value→WP):Prop :=∀p1 w1,New w0 (.cells #[s1.v] 52) p1 w1→K (.func (.func 141) #[] #[(vp (some p1))]) w1
theorem w_C3 (s1 w0 K) (h:m_C3 s1 w0 K):
  Calls prog 99 #[s1.v] w0 (fun e w'=>∃r1:Value,e=.returned r1∧K r1 w'):=by
 refine cw (args:=[s1.v]) func99 ntmps99 (eg (sn (O:=(.cells #[s1.v] 52)) xb ?_))
 intro p1 w1 hn1
 have h:=h p1 w1 hn1
 refine q (ln (eg (qb (ln (er (rs1 results99 ⟨(.func (.func 141) #[] #[(vp (some p1))]),rfl,h⟩))))))
end Go.Proofs
end
section
open Go Go.SE Go.Sort
namespace Go.Proofs
open Tryz
abbrev SP (w0:World) (s:Sl) (Q:List Int→Prop) (w':World):Prop:=∃l,Rws w' 30 1 s (tmr l)∧Ext s.blk w0 w'∧Q l
theorem tO (l:List Int):(tmr l).flatten=l.map (Value.int .i64):=by
 induction l with
 | nil=>rfl
 | cons a l ih=>simp only [tmr,List.map_cons,List.flatten_cons] at *;rw [ih];rfl
theorem c_Sort (s:Sl) (l:List Int) (w0:World) (h:Rws w0 30 1 s (tmr l)) (hn:l.length≤1000000) :
  Calls prog 140 #[s.v] w0 (fun e w'=>e=.returned (.tuple #[])∧SP w0 s (fun l'=>l'.Perm l∧l'.Pairwise (·≤·)) w'):=by
 have hl:s.len=l.length:=by rw [h.len];simp [tmr]
 rcases h.own with ⟨rfl,hnil⟩ | ⟨b,cur,ha,hg,hc,hm,hs,ht⟩
 ·have hd:l=[]:=by simpa [tmr] using hnil
  subst hd
  refine (show Calls prog 140 #[Sl.nil.v] w0 _ from AnyG.slices_Sort_int_none sortT none 0 w0).mono ?_
  rintro _ w' ⟨rfl,rfl⟩
  exact ⟨rfl,[],h,Ext.refl _,.refl _,.nil⟩
 have hlen:(tmr l).length=l.length:=by simp [tmr]
 rw [tO,hlen,Nat.mul_one] at ht
 rw [hlen] at hc
 rw [Nat.mul_one] at hs
 have hb:b<w0.heap.size:=vB hg
 have hget:∀j,j<l.length→∃hj:j<l.length,cur[j]?=some (.int .i64 l[j]):=fun j hj=>⟨hj,by
  have:cur.toList[j]?=(cur.toList.take l.length)[j]?:=by rw [List.getElem?_take_of_lt hj]
  rw [← Array.getElem?_toList,this,ht,List.getElem?_map,List.getElem?_eq_getElem hj];rfl⟩
 have hH:Holds (Value.int .i64) w0 b 0 l.toArray:=by
  intro j hj;have hj:j<l.length:=by simpa using hj
  obtain ⟨_,e⟩:=hget j hj;refine ⟨?_,?_⟩
  ·unfold World.cell?;rw [hg];simp only [Option.isSome_none,Bool.false_eq_true,if_false,Nat.zero_add];rw [e,getElem!_pos l.toArray j (by simpa using hj)];simp
  ·unfold World.frozen?;rw [hg];simp
 have hv:s.v=.slice (some ⟨b,0,none⟩) l.length s.cap:=by unfold Sl.v;rw [ha,hl]
 rw [hv]
 refine (show Calls prog 140 #[.slice (some ⟨b,0,none⟩) l.length s.cap] w0 _ from AnyG.slices_Sort_int sortT b 0 s.cap l w0 hH hb (by omega)).mono ?_
 rintro _ w' ⟨rfl,n,os,rfl⟩
 have hp:(l.mergeSort fun x y=>decide (x≤y)).Perm l:=List.mergeSort_perm l _
 have hsd:(l.mergeSort fun x y=>decide (x≤y)).Pairwise (·≤·):=by
  have:=List.pairwise_mergeSort (le:=fun x y:Int=>decide (x≤y)) (fun a b c h1 h2=>by simp at *;omega) (fun a b=>by simp;omega) l;simpa using this
 have hq:(l.mergeSort fun x y=>decide (x≤y)).length=l.length:=hp.length_eq
 generalize (l.mergeSort fun x y=>decide (x≤y))=q at *
 refine ⟨rfl,q,⟨?_,?_,.inr ⟨b,putCells (Value.int .i64) 0 q.toArray cur,ha,?_,by simp [tmr];omega,hm,by simp [putCells,hs],?_⟩⟩,?_,hp,hsd⟩
 ·intro r hr;simp [tmr] at hr;obtain ⟨t,_,rfl⟩:=hr;rfl
 ·rw [hl];simp [tmr,hq]
 ·rw [heap_grow_old _ _ (by simpa using hb)]
  simp [putRow,mapBlock,Sort.ahead,Array.getElem?_modify,hg,onCells]
 ·rw [tO]
  apply List.ext_getElem?
  intro j
  have e1:(tmr q).length*1=q.length:=by simp [tmr]
  rw [e1]
  by_cases hj:j<q.length
  ·rw [List.getElem?_take_of_lt hj,Array.getElem?_toList]
   unfold putCells
   rw [Array.getElem?_mapIdx,Array.getElem?_eq_getElem (show j<cur.size by omega),Option.map_some,if_pos ⟨Nat.zero_le _,by simp;omega⟩,Nat.sub_zero,getElem!_pos _ j (by simpa using hj),List.getElem?_map,List.getElem?_eq_getElem hj]
   simp
  ·rw [List.getElem?_eq_none (by simp;omega),List.getElem?_eq_none (by simp;omega)]
 ·refine ⟨rfl,rfl,rfl,Nat.le_add_right _ _,by simp [size_grow],fun i hi hf=>?_⟩
  have hne:b≠i:=fun e'=>hf ⟨_,ha,e'⟩
  rw [heap_grow_old _ _ (by simpa using hi)]
  simp [putRow,mapBlock,Sort.ahead,Array.getElem?_modify,hne]
end Go.Proofs
end
section
open Go Go.SE
namespace Go.Proofs
open Tryz
attribute [local irreducible] Calls
theorem tM.at' {P:Program} {gf:FuncId} {lb:Array Value} {α:Type} {encs:α→Array Value} {xs:List α} {Rd:WP} {w w1:World} (h:tM P gf lb encs xs Rd w) (E:Pure w w1):tM P gf lb encs xs Rd w1 :=
 fun l J Jx W hW=>h l J Jx W (E.trans hW)
theorem jCH {S:NP} {pc:Addr} {s:Sl} {xs:List Int} {w0:World} (hB:Box w0 pc [s.v] 52) (hn:xs.length≤1000000) :
  tM prog 141 #[.pointer (some pc)] (fun z:Int=>#[.int .i64 z]) xs (fun A=>Lst S A 1 s (tmr xs)) w0:=by
 intro l J Jx W E hRd hJ hJx hyield h0
 refine (w_K1 (.func (.yield l) #[] #[]) pc W (fun A=>∃X,Hst W X A X A∧(J xs X A∨∃pre,Jx pre X A)) ?_).mono (fun e A h=>⟨⟨_,h.1⟩,h.2⟩)
 unfold m_K1
 refine ⟨s,(hB.pure E).cell0,fun x A=>∃j:Nat,x=j∧j≤xs.length∧Hst W None A None A∧J (xs.take j) None A,fun x _=>((xs.length:Int) - x).toNat,⟨0,rfl,Nat.zero_le _,Hst.start W,h0⟩,?_⟩
 rintro _ A ⟨j,rfl,hj,hA,hJA⟩
 unfold m_K1_l1
 have hR:=hRd _ _ _ hJA
 have hlen:s.len=xs.length:=by rw [hR.len,jY]
 refine ⟨fun hc=>?_,fun hc=>?_⟩
 ·have hc:=zO hlen hc
  obtain ⟨a,hat,_,hv⟩:=gU hR hc
  refine ⟨a,hat,_,hv,l,rfl,?_⟩
  refine (hyield (xs.take j) xs[j] _ A hJA hA ⟨xs.drop (j+1),by rw [← List.drop_eq_getElem_cons hc,List.take_append_drop]⟩).mono ?_
  rintro e A' (⟨rfl,hk,hJ'⟩ | ⟨rfl,hk,hJ'⟩)
  ·refine ⟨_,rfl,Br.f rfl ⟨⟨j+1,zL hc (by omega),hc,hA.again hk,by rw [List.take_succ_eq_append_getElem hc];exact hJ'⟩,?_⟩⟩
   rw [zL hc (by omega)]
   exact kZ hc
  ·exact ⟨_,rfl,Br.t rfl ⟨_,hA.again hk,.inr ⟨_,hJ'⟩⟩⟩
 ·have hc:=kA hlen hj hc
  subst hc
  rw [List.take_length] at hJA
  exact ⟨_,hA,.inl hJA⟩
theorem tI {S:NP} {pc:Addr} {s:Sl} {xs:List Int} (w0:World) (hB:Box w0 pc [s.v] 52) (hL:Lst S w0 1 s (tmr xs)) (hS:∀b,S b→b<w0.heap.size) (hn:xs.length≤1000000) :
  Calls prog 153 #[Sl.nil.v,.func (.func 141) #[] #[.pointer (some pc)]] w0 (fun e w'=>∃r:Sl,e=.returned r.v∧RetO w0 30 1 (tmr xs) r w'):=by
 refine w_Z2 _ _ w0 (fun r w'=>RetO w0 30 1 (tmr xs) r w') ?_
 unfold m_Z2
 have hnil:∀b,¬ Sl.nil.blk b:=fun b hb=>by obtain ⟨a,h,_⟩:=hb;cases h
 intro p1 w1 h1
 have E1:Pure w0 w1:=Ext.new h1
 have s1:=h1.at_size
 have B1:=Box.of_new h1
 have l1:=B1.lt
 refine ⟨_,_,rfl,call141,xs,_,tM.at' (jCH (S:=S) hB hn) E1,?_⟩
 refine ⟨fun pre Y A=>∃so:Sl,Box A p1 [so.v] 52∧Rws A 30 1 so (tmr pre)∧Lst S A 1 s (tmr xs)∧Pure w0 A∧(∀b,so.blk b→w1.heap.size≤b∧¬ Y b)∧¬ Y p1.block∧w1.heap.size≤A.heap.size,⟨?_,?_,fun _ _ _ _ _ h=>h.elim,fun _ _ _ _ _ h=>h.elim⟩,?_,?_,?_⟩
 ·rintro pre Y A ⟨so,_,_,h,_⟩;exact h
 ·rintro pre Y A Y' A' ⟨so,b1,hR,hl,hE,ho,hp,hz⟩ hs
  have d1:¬ Y' p1.block:=hs.disj (G:=(·=p1.block)) (fun b e=>by subst e;exact ⟨b1.lt,hp⟩) _ rfl
  have d2:∀b,so.blk b→¬ Y' b:=hs.disj (G:=so.blk) (fun b hb=>⟨hR.lt hb,(ho b hb).2⟩)
  exact ⟨so,b1.ext hs.ext d1,hR.ext hs.ext d2,hl.hst hs hS,hE.hst hs,fun b hb=>⟨(ho b hb).1,d2 b hb⟩,d1,Nat.le_trans hz hs.ext.size⟩
 ·exact ⟨Sl.nil,B1,Rws.nil _ _ _,hL.pure E1,E1,fun b hb=>(hnil b hb).elim,id,Nat.le_refl _⟩
 ·rintro pre z Y A ⟨so,b1,hR,hl,hE,ho,hp,hz⟩ hsA ⟨post,hpost⟩
  have hpl:pre.length<xs.length:=by rw [hpost];simp
  refine ⟨so,b1.cell0,?_⟩
  intro p2 w2 h2
  have E2:Pure A w2:=Ext.new h2
  obtain ⟨s2,w3,hr3,R3,X3,f3⟩:=(hR.pure E2).append (P:=prog) (ty:=52) (c:=1) qI (r:=[.int .i64 z]) (Box.of_new h2).row rfl rfl (by rw [jY];omega) (by rw [jY];simp [maxLen];omega)
  have d1:¬ so.blk p1.block:=fun hb=>by have:=(ho _ hb).1;omega
  have b3:=(b1.pure E2).ext X3 d1
  have z2:=E2.size;have z3:=X3.size
  have hk3:Kept None w2 w3:=X3.kept (fun b hb=>hb.elim)
  refine ⟨s2,w3,hr3,hk3,b3.canW0 (by simp),id,fun w4 h4=>?_⟩
  have E4:Ext (·=p1.block) w3 w4:=by rw [h4];exact Ext.setCell p1 _
  have b4:Box w4 p1 [s2.v] 52:=by rw [h4];exact b3.set0
  have o2:∀b,s2.blk b→w1.heap.size≤b:=fun b hb=>(f3 b hb).elim (fun h=>(ho b h).1) (fun h=>by omega)
  have hYlt:=hsA.lt
  have XX:Ext (fun b=>so.blk b∨b=p1.block) A w4:=((E2.pure).trans (X3.mono (fun b _ h=>.inl h))).trans (E4.mono (fun b _ h=>.inr h))
  refine ⟨XX.kept (fun b hY hb=>hb.elim (fun h=>(ho b h).2 hY) (fun h=>hp (h▸hY))),s2,b4,?_,?_,?_,fun b hb=>⟨o2 b hb,fun hY=>(f3 b hb).elim (fun h=>(ho b h).2 hY) (fun h=>by have:=hYlt b hY;omega)⟩,hp,by have:=E4.size;omega⟩
  ·rw [show tmr (pre++[z])=tmr pre++[[.int .i64 z]] by simp [tmr]]
   exact R3.ext E4 (fun b hb e=>by have:=o2 b hb;omega)
  ·exact hl.ext XX (fun b hb h=>by have:=hS b hb;rcases h with h | h;(· have:=(ho b h).1;have:=E1.size;omega);(· omega))
  ·exact hE.trans' XX (fun i hi hb=>by rcases hb with h | h;(· have:=(ho i h).1;have:=E1.size;omega);(· omega))
 ·rintro H1 w5 hs5 _ _ ⟨so,b1,hR,hl,hE,ho,hp,hz⟩
  refine ⟨so,b1.cell0,fun w6 hs6=>⟨hR.ext hs6.ext (hs6.disj (G:=so.blk) (fun b hb=>⟨hR.lt hb,(ho b hb).2⟩)),fun b hb=>by have:=(ho b hb).1;have:=E1.size;omega,hE.hst hs6⟩⟩
theorem jCT {S:NP} {pc:Addr} {s:Sl} {xs:List Int} (w0:World) (hB:Box w0 pc [s.v] 52) (hL:Lst S w0 1 s (tmr xs)) (hS:∀b,S b→b<w0.heap.size) (hn:xs.length≤1000000) :
  Calls prog 98 #[.func (.func 141) #[] #[.pointer (some pc)]] w0 (fun e w'=>∃r:Sl,e=.returned r.v∧∃l,RetO w0 30 1 (tmr l) r w'∧l.Perm xs∧l.Pairwise (·≤·)):=by
 refine w_B3 _ w0 (fun r w'=>∃l,RetO w0 30 1 (tmr l) r w'∧l.Perm xs∧l.Pairwise (·≤·)) ?_
 unfold m_B3
 refine (w_A3 _ w0 (fun r w'=>RetO w0 30 1 (tmr xs) r w') ?_).mono ?_
 ·unfold m_A3
  refine (tI w0 hB hL hS hn).mono ?_
  rintro _ w1 ⟨r,rfl,hr⟩
  exact ⟨r,rfl,hr⟩
 ·rintro _ w1 ⟨r,rfl,hr⟩
  refine ⟨r,rfl,?_⟩
  refine (c_Sort r xs w1 hr.rows hn).mono ?_
  rintro _ w2 ⟨rfl,l,hl,hx,hp,hs⟩
  exact ⟨rfl,l,⟨hl,hr.own,hr.pure.trans' hx (fun i hi hb=>by have:=hr.own i hb;omega)⟩,hp,hs⟩
theorem jAY (k p:Addr) (w0:World) {G:List Int} {W:List Sp.Way} {F:NP} (h:zD w0 k p G W F) (hn:(Sp.jG W).length≤1000000) :
  Calls prog 62 #[.pointer (some k)] w0 (fun e w'=>∃r:Sl,e=.returned r.v∧∃l,RetO w0 30 1 (tmr l) r w'∧l.Perm (Sp.jG W)∧l.Pairwise (·≤·)):=by
 refine w_A2 _ w0 (fun r w'=>∃l,RetO w0 30 1 (tmr l) r w'∧l.Perm (Sp.jG W)∧l.Pairwise (·≤·)) ?_
 unfold m_A2
 obtain ⟨sg,m,sl,h,hF⟩:=h
 refine Br.f rfl ⟨k,rfl,sl,h.box.cell rfl,?_⟩
 refine (w_C3 sl w0 (fun r w'=>∃p1,r=.func (.func 141) #[] #[.pointer (some p1)]∧Box w' p1 [sl.v] 52∧Pure w0 w') ?_).mono ?_
 ·unfold m_C3
  intro p1 w1 h1
  exact ⟨p1,rfl,Box.of_new h1,Ext.new h1⟩
 ·rintro _ w1 ⟨r,rfl,p1,rfl,B1,E1⟩
  refine ⟨_,rfl,?_⟩
  refine (jCT (S:=sl.blk) w1 B1 (h.list.pure E1).lst (fun b hb=>(h.list.pure E1).lt hb) hn).mono ?_
  rintro _ w2 ⟨r2,rfl,l,hl,hp,hs⟩
  exact ⟨r2,rfl,l,⟨hl.rows,fun b hb=>by have:=hl.own b hb;have:=E1.size;omega,E1.trans hl.pure⟩,hp,hs⟩
theorem jAZ (k p:Addr) (w0:World) {G:List Int} {W:List Sp.Way} {F:NP} (h:zD w0 k p G W F) (hn:(Sp.jG W).length≤1000000) (hg:G.length≤1000000) :
  Calls prog 21 #[.pointer (some k)] w0 (fun e w'=>∃r:Option Addr,e=.returned (.pointer r)∧∃c F',r=some c∧zD w' c p G W F'∧Pure w0 w'∧∀b,F' b→w0.heap.size≤b):=by
 refine w_W1 _ w0 (fun r w'=>∃c F',r=some c∧zD w' c p G W F'∧Pure w0 w'∧∀b,F' b→w0.heap.size≤b) ?_
 unfold m_W1
 obtain ⟨sg,m,sl,h,hF⟩:=h
 have Ed:Pure w0 w0.drew:=Ext.drew w0
 have nilOf:∀{w:World} {s:Sl} {rs:List (List Value)},Rws w 30 1 s rs→s.a=none→s=Sl.nil:=fun hR hz=>by
  rcases hR.own with ⟨e,_⟩ | ⟨g,cur,ha,_⟩
  ·exact e
  ·rw [ha] at hz;cases hz
 refine Br.f rfl ⟨fun w'=>Pure w0 w',Ed,?_⟩
 rintro _ rfl
 refine ⟨k,rfl,some p,fun w' E=>(h.pure E).box.cell0,k,rfl,sg,fun w' E=>(h.pure E).box.cell rfl,k,rfl,some m,fun w' E=>(h.pure E).box.cell rfl,k,rfl,sl,fun w' E=>(h.pure E).box.cell rfl,?_⟩
 have hd:=h.pure Ed
 refine (gE sg G _ hd.giv.lst (nilOf hd.giv) hg).mono ?_
 rintro _ w2 ⟨r1,rfl,hr1⟩
 have E2:=Ed.trans hr1.pure
 refine ⟨r1,rfl,E2,hr1.kept,?_⟩
 have h2:=h.pure E2
 obtain ⟨arr,clock,hm,g1,g2,g3⟩:=h2.seen.map.ex
 refine (tH m arr clock w2 hm).mono ?_
 rintro _ w3 ⟨rfl,rfl⟩
 have N3:New w2 (.map arr clock) ⟨w2.heap.size,0,none⟩ (w2.alloc (.map arr clock)):=⟨rfl,rfl⟩
 have E3':Pure w2 (w2.alloc (.map arr clock)):=Ext.new N3
 have E3:=E2.trans E3'
 have M3:IMap wayv (w2.alloc (.map arr clock)) w2.heap.size (jEB W):=⟨⟨arr,clock,N3.block_new,g1,g2,g3⟩,h2.seen.nd⟩
 refine ⟨some w2.heap.size,rfl,E3,E3'.keptP,?_⟩
 generalize w2.alloc (.map arr clock)=w3 at *
 have h3:=h.pure E3
 refine (gE sl (Sp.jG W) w3 h3.list.lst (nilOf h3.list) hn).mono ?_
 rintro _ w4 ⟨r3,rfl,hr3⟩
 refine ⟨r3,rfl,E3.trans hr3.pure,hr3.kept,?_⟩
 intro p1 w5 h5
 have E5:Pure w4 w5:=Ext.new h5
 have n5:=h5.at_size
 have z0:w0.drew.heap.size=w0.heap.size:=rfl
 have z2:=E2.size;have z3:=E3'.size;have z4:=hr3.pure.size;have m3:=M3.lt
 have R1:=hr1.rows.pure (E3'.trans hr3.pure)
 refine ⟨(E3.trans hr3.pure).trans E5,p1,KF p1 r1 w2.heap.size r3,rfl,⟨r1,w2.heap.size,r3,⟨Box.of_new h5,R1.pure E5,(M3.pure hr3.pure).pure E5,hr3.rows.pure E5,by omega,fun hb=>by have:=R1.lt hb;omega,fun hb=>by have:=hr3.rows.lt hb;omega,fun hb=>by have:=hr1.rows.lt hb;omega,fun hb=>by have:=hr3.own _ hb;omega,fun b h1 h2=>by have:=hr1.rows.lt h1;have:=hr3.own _ h2;omega⟩,fun b=>Iff.rfl⟩,(E3.trans hr3.pure).trans E5,?_⟩
 rintro b (rfl | hb | rfl | hb)
 ·omega
 ·have:=hr1.own b hb;omega
 ·omega
 ·have:=hr3.own b hb;omega
end Go.Proofs
end
section
open Go Go.SE
namespace Go.Proofs
attribute [local irreducible] wpL wpX opE wpE Calls
end Go.Proofs
end
section
open Go Go.SE
namespace Go.Sp
end Go.Sp
namespace Go.Proofs
attribute [local irreducible] Calls
theorem TreeAt.one {S:NP} {w:World} {k f t u:Int} {x:ByteArray} {p:Addr} {A:Sp.Tree} {sa:Sl} {T:TypeId} (hB:Box w p (qK A sa) T) (hS:S p.block) (hA:TreeAt S w sa A):TreeAt S w ⟨some p,1,1⟩ (.mk k f t u x [A]):=by
 refine .mk k f t u x [A] _ (fun _=>sa) rfl (by simp) (fun i h=>?_) (fun i h=>?_)
 ·have:i=0:=by simpa using h
  subst this;exact ⟨p,⟨by omega,by simp,p,rfl,rfl⟩,hS,hB.row⟩
 ·have:i=0:=by simpa using h
  subst this;exact hA
theorem TreeAt.pair {S:NP} {w:World} {k f t u:Int} {x:ByteArray} {p:Addr} {A B:Sp.Tree} {sa sb:Sl} {T:TypeId} (hB:Box w p (qK A sa++qK B sb) T) (hS:S p.block) (hA:TreeAt S w sa A) (hB2:TreeAt S w sb B):TreeAt S w ⟨some p,2,2⟩ (.mk k f t u x [A,B]):=by
 refine .mk k f t u x [A,B] _ (fun i=>if i=0 then sa else sb) rfl (by simp) (fun i h=>?_) (fun i h=>?_)
 ·have:i=0∨i=1:=by simp at h;omega
  rcases this with rfl | rfl
  ·refine ⟨p,⟨by omega,by simp,p,rfl,rfl⟩,hS,fun i hi=>?_⟩;have:=hB.row i (by simp [qK] at hi ⊢;omega);have hi':i<6:=by simpa [qK] using hi
   rw [this];exact List.getElem?_append_left (by simp [qK];omega)
  ·refine ⟨p.add (1*6),⟨by omega,by simp,p,rfl,rfl⟩,by rw [jR];exact hS,fun i hi=>?_⟩;have hi':i<6:=by simpa [qK] using hi
   have:=hB.row (6+i) (by simp [qK];omega);rw [vX,this,List.getElem?_append_right (by simp [qK])];simp [qK]
 ·have:i=0∨i=1:=by simp at h;omega
  rcases this with rfl | rfl
  ·exact hA
  ·exact hB2
end Go.Proofs
end
section
open Go Go.SE
namespace Go.Proofs
attribute [local irreducible] Calls
end Go.Proofs
end
section
open Go Go.SE
namespace Go.Sp
theorem oV {l m:List Int} (hp:l.Perm m) (h1:l.Pairwise (·≤·)) (h2:m.Pairwise (·≤·)):l=m :=
 List.Perm.eq_of_pairwise (fun a b _ _ h1 h2=>Int.le_antisymm h1 h2) h1 h2 hp
theorem Drv.inp {L:Pool} {K:Int→Prop} {t:Int} (h:Drv L K t) (hK:K t→inP L t=true):inP L t=true:=by
 cases hin:inP L t with
 | true=>rfl
 | false =>
  have hk:(jD L t).kind=0:=by unfold jD;rw [kL hin];rfl
  cases h with
  | seen h=>rw [hK h] at hin;cases hin
  | free h=>rw [hk] at h;cases h
  | pair h _ _=>rw [hk] at h;cases h
  | hash h _=>rw [hk] at h;cases h
  | sign h _ _ _=>rw [hk] at h;cases h
end Go.Sp
namespace Go.Proofs
open Tryz
attribute [local irreducible] Calls
theorem jAV (x q:Addr) (t:Int) (w0:World) {L:Sp.Pool} {G:List Int} {F FR:NP} (h:xI w0 x q G F) (hP:zT w0 q L FR) (hn:G.length≤100000) :
  Calls prog 24 #[.pointer (some x),.int .i64 t] w0 (fun e w'=>∃r:Int,e=.returned (.int .i64 r)∧r=(if Sp.inP L t=true then 0 else 51)∧∃F',xI w' x q (Sp.vN L G t) F'∧Ext F w0 w'∧∀b,F' b→F b∨w0.heap.size≤b):=by
 refine w_X2 _ _ w0 (fun r w'=>r=(if Sp.inP L t=true then 0 else 51)∧∃F',xI w' x q (Sp.vN L G t) F'∧Ext F w0 w'∧∀b,F' b→F b∨w0.heap.size≤b) ?_
 unfold m_X2
 have hA:=h
 obtain ⟨sg,h,hF⟩:=h
 refine ⟨x,rfl,_,h.box.cell0,?_⟩
 refine (kU q t w0 hP).mono ?_
 rintro _ w0 ⟨r1,rfl,rfl,rfl⟩
 refine ⟨_,rfl,fun hc=>?_,fun hc=>?_⟩
 ·have hin:Sp.inP L t=false:=by simpa using hc
  have:Sp.vN L G t=G:=by unfold Sp.vN;rw [if_neg (by simp [hin])]
  rw [this];exact ⟨by rw [if_neg (by simp [hin])],F,hA,Ext.refl _,fun b hb=>.inl hb⟩
 have hin:Sp.inP L t=true:=by simpa using hc
 have hg:Sp.vN L G t=Sp.jBA G t:=by unfold Sp.vN;rw [if_pos hin]
 rw [hg]
 refine ⟨x,rfl,sg,h.box.cell rfl,?_⟩
 refine (oG sg G t w0 h.giv.lst (by omega)).mono ?_
 rintro _ w0 ⟨r2,rfl,rfl,rfl⟩
 refine ⟨_,rfl,fun hc=>?_,fun hc=>?_⟩
 ·have hnG:t ∉ G:=by simpa using hc
  have hadd:Sp.jBA G t=G++[t]:=if_neg hnG
  rw [hadd]
  refine ⟨x,rfl,sg,h.box.cell rfl,?_⟩
  intro p1 w3 h3
  have E3:Pure w0 w3:=Ext.new h3
  obtain ⟨s1,w4,hr4,R4,X4,f4⟩:=(h.giv.pure E3).append (P:=prog) (ty:=52) (c:=1) qI (r:=[.int .i64 t]) (Box.of_new h3).row rfl rfl (by rw [jY];omega) (by rw [jY];simp [maxLen];omega)
  have b4:=(h.box.pure E3).ext X4 h.n1
  refine ⟨s1,w4,hr4,x,rfl,b4.canW (by simp),?_⟩
  rintro _ rfl
  have E5:=Ext.setCell (w:=w4) (x.add 1) s1.v
  rw [jR] at E5
  have f4':∀b,s1.blk b→sg.blk b∨w0.heap.size≤b:=fun b hb=>(f4 b hb).imp_right (fun h=>by have:=E3.size;omega)
  have nx:¬ s1.blk x.block:=fun hh=>(f4' _ hh).elim h.n1 (fun hh=>by have:=h.box.lt;omega)
  refine ⟨by rw [if_pos hin],fun b=>b=x.block∨s1.blk b,⟨s1,⟨b4.set 1 s1.v,by rw [show tmr (G++[t])=tmr G++[[.int .i64 t]] by simp [tmr]];exact R4.ext E5 (fun b hb e=>nx (e▸hb)),nx⟩,fun b=>Iff.rfl⟩,?_,fun b hb=>?_⟩
  ·exact ((E3.pure (F:=F)).trans (X4.mono (fun b _ hb=>(hF b).2 (.inr hb)))).trans (E5.mono (fun b _ e=>(hF b).2 (.inl e)))
  ·rcases hb with hb | hb
   ·exact .inl ((hF b).2 (.inl hb))
   ·exact (f4' b hb).imp_left (fun h=>(hF b).2 (.inr h))
 ·have hG:t∈G:=by simpa using hc
  have hadd:Sp.jBA G t=G:=if_pos hG
  rw [hadd];exact ⟨by rw [if_pos hin],F,hA,Ext.refl _,fun b hb=>.inl hb⟩
theorem yM {S:NP} (sl sm:Sl) (l m:List Int) (w0:World) (hl:Lst S w0 1 sl (tmr l)) (hm:Lst S w0 1 sm (tmr m)) (hn:l.length≤1000000) :
  Calls prog 63 #[sl.v,sm.v] w0 (fun e w'=>∃r:Bool,e=.returned (.bool r)∧(r=decide (l=m)∧Pure w0 w')):=by
 refine w_H1 _ _ w0 (fun r w'=>r=decide (l=m)∧Pure w0 w') ?_
 unfold m_H1
 have l3:sl.len=l.length:=by rw [hl.len,jY]
 have l4:sm.len=m.length:=by rw [hm.len,jY]
 refine ⟨fun h=>⟨?_,Ext.refl _⟩,fun h=>?_⟩
 ·rw [l3,l4] at h
  symm;rw [decide_eq_false_iff_not];intro e;subst e;simp at h
 have hlen:l.length=m.length:=by
  rw [l3,l4] at h;have h:(l.length:Int)=m.length:=by simpa using h
  omega
 refine ⟨fun i _ w'=>∃j:Nat,i=j∧j≤l.length∧l.take j=m.take j∧Pure w0 w',fun i _=>((l.length:Int) - i).toNat,⟨0,rfl,Nat.zero_le _,by simp,Ext.refl _⟩,?_⟩
 rintro _ Hl wl hsl ⟨j,rfl,hj,hp,E⟩
 unfold m_H1_l1
 refine ⟨fun h=>?_,fun h=>?_⟩
 ·have hlt:=zO l3 h
  obtain ⟨a,hat,_,hrow⟩:=hl.at_ j (by simpa [tmr] using hlt)
  refine ⟨a,hat,fun w1 hs1=>?_⟩
  have E1:Pure w0 w1:=E.hst hs1
  have hc':w1.cell? a=some (.int .i64 l[j]):=qA (by simpa [tmr] using E1.row hrow (fun h=>h))
  obtain ⟨b,hbt,_,hb⟩:=gU (hm.pure E1) (by omega:j<m.length)
  refine ⟨_,hc',b,hbt,_,hb,?_⟩
  refine ⟨fun hne=>⟨?_,E1⟩,fun he=>⟨⟨j+1,zL hlt (by omega),hlt,?_,E1⟩,?_⟩⟩
  ·symm;rw [decide_eq_false_iff_not];intro e;subst e;simp at hne
  ·rw [List.take_succ_eq_append_getElem hlt,List.take_succ_eq_append_getElem (by omega:j<m.length),hp]
   have:l[j]=m[j]:=by simpa using he
   rw [this]
  ·rw [zL hlt (by omega)];exact kZ hlt
 ·have hge:=kA l3 hj h
  subst hge
  rw [List.take_length,hlen,List.take_length] at hp
  exact ⟨by rw [hp];simp,E⟩
theorem xE (x q:Addr) (w0:World) {L:Sp.Pool} {G:List Int} {F FR:NP} (h:xI w0 x q G F) (hP:zT w0 q L FR) (hW:Sp.Wf L) (hG:∀g∈G,Sp.inP L g=true) (hGn:G.length≤100000) :
  Calls prog 64 #[.pointer (some x)] w0 (fun e w'=>∃r:Sl,e=.returned r.v∧∃l,RetO w0 30 1 (tmr l) r w'∧(∀y,y∈l↔Sp.inP L y=true∧Sp.Seen L G y)∧l.Pairwise (·<·)):=by
 refine w_I1 _ w0 (fun r w'=>∃l,RetO w0 30 1 (tmr l) r w'∧(∀y,y∈l↔Sp.inP L y=true∧Sp.Seen L G y)∧l.Pairwise (·<·)) ?_
 unfold m_I1
 have hnil:∀b,¬ Sl.nil.blk b:=fun b hb=>by obtain ⟨a,h,_⟩:=hb;cases h
 have hL:=hW.ok.few
 refine (xD x q w0 h hP hW hG hGn).mono ?_
 rintro _ w1 ⟨r1,rfl,V,hR,hV⟩
 refine ⟨_,rfl,?_⟩
 have lr:r1.len=L.length+1:=by rw [hR.rows.len,vQ]
 refine ⟨fun l t w'=>∃(j:Nat) (ls:List Int),t=(j:Int)+1∧j≤L.length∧Pure w1 w'∧Rws w' 30 1 l (tmr ls)∧(∀b,l.blk b→w1.heap.size≤b)∧(∀y,y∈ls↔(1≤y∧y≤j)∧V y=true)∧ls.Pairwise (·<·)∧ls.length≤j,fun _ t _=>((L.length:Int)+1 - t).toNat,
  ⟨0,[],by omega,Nat.zero_le _,Ext.refl _,Rws.nil _ _ _,fun b hb=>(hnil b hb).elim,fun y=>⟨fun h=>by (cases h),fun h=>by omega⟩,List.Pairwise.nil,Nat.le_refl _⟩,?_⟩
 rintro l _ wl ⟨j,ls,rfl,hj,E,hl,hln,hm,hpw,hlen⟩
 unfold m_I1_l1
 rw [lr]
 refine ⟨fun hc=>?_,fun hc=>?_⟩
 ·have hc:=of_decide_eq_true hc
  have hj':j<L.length:=by omega
  have hw:IntKind.i64.wrap ((j:Int)+1+1)=((j+1:Nat):Int)+1:=by rw [IntWalk.i64_in _ (by omega)];omega
  obtain ⟨a,hat,_,hv⟩:=qR (hR.rows.pure E) (t:=(j:Int)+1) (by omega) (by omega)
  refine ⟨a,hat,_,hv,fun ht=>?_,fun hf=>?_⟩
  ·intro p1 w2 h2
   have E2:Pure wl w2:=Ext.new h2
   obtain ⟨s1,w3,hr3,R3,X3,f3⟩:=(hl.pure E2).append (P:=prog) (ty:=52) (c:=1) qI (r:=[.int .i64 ((j:Int)+1)]) (Box.of_new h2).row rfl rfl (by rw [jY];omega) (by rw [jY];simp [maxLen];omega)
   refine ⟨s1,w3,hr3,?_⟩
   rw [hw]
   refine ⟨⟨j+1,ls++[(j:Int)+1],rfl,hj',(E.trans E2).trans' X3 (fun i hi hb=>by have:=hln i hb;omega),by rw [show tmr (ls++[(j:Int)+1])=tmr ls++[[.int .i64 ((j:Int)+1)]] by simp [tmr]];exact R3,fun b hb=>(f3 b hb).elim (hln b) (fun h=>by have:=(E.trans E2).size;omega),fun y=>?_,?_,by simp;omega⟩,by show ((L.length:Int)+1 - (((j+1:Nat):Int)+1)).toNat<((L.length:Int)+1 - ((j:Int)+1)).toNat;omega⟩
   ·rw [List.mem_append,hm,List.mem_singleton]
    constructor
    ·rintro (⟨h1,h2⟩ | rfl)
     ·exact ⟨by omega,h2⟩
     ·exact ⟨by omega,ht⟩
    ·rintro ⟨h1,h2⟩
     by_cases e:y=(j:Int)+1
     ·exact .inr e
     ·exact .inl ⟨by omega,h2⟩
   ·rw [List.pairwise_append]
    exact ⟨hpw,by simp,fun a ha b hb=>by simp at hb;have:=((hm a).1 ha).1;omega⟩
  ·rw [hw]
   refine ⟨⟨j+1,ls,rfl,hj',E,hl,hln,fun y=>?_,hpw,by omega⟩,by show ((L.length:Int)+1 - (((j+1:Nat):Int)+1)).toNat<((L.length:Int)+1 - ((j:Int)+1)).toNat;omega⟩
   rw [hm]
   constructor
   ·rintro ⟨h1,h2⟩;exact ⟨by omega,h2⟩
   ·rintro ⟨h1,h2⟩
    by_cases e:y=(j:Int)+1
    ·subst e;rw [h2] at hf;cases hf
    ·exact ⟨by omega,h2⟩
 ·have hc:=of_decide_eq_false hc
  have hj':j=L.length:=by omega
  subst hj'
  refine ⟨ls,⟨hl,fun b hb=>by have:=hln b hb;have:=hR.pure.size;omega,hR.pure.trans E⟩,fun y=>?_,hpw⟩
  rw [hm,← Sp.zA]
  exact and_congr_right fun hy=>hV y hy
end Go.Proofs
end
section
open Go Go.SE
namespace Go.SE
theorem Lst.weak {S S':NP} {w:World} {sz:Nat} {s:Sl} {rs:List (List Value)} (h:Lst S w sz s rs) (hd:∀b,S b→S' b):Lst S' w sz s rs:=⟨h.len,fun i hi=>let ⟨a,h1,h2,h3⟩:=h.at_ i hi;⟨a,h1,hd _ h2,h3⟩⟩
end Go.SE
namespace Go.Proofs
open Tryz
attribute [local irreducible] Calls
theorem jBZ {w:World} {s:Sl} {rs:List Int} (h:Rws w 30 1 s (tmr rs)) {j:Nat} (hj:j<rs.length) (v:Int) :
  ∃a,At s j 1 a∧s.blk a.block∧zQ w a∧∀w',w'=w.setCell a (.int .i64 v)→Rws w' 30 1 s (tmr (rs.set j v))∧Ext s.blk w w':=by
 obtain ⟨a,hat,hw,hst⟩:=h.set (i:=j) (by rw [jY];exact hj) (r:=[.int .i64 v]) rfl (k:=(j:Int)) rfl
 obtain ⟨a',h1,_,hblk⟩:=h.at (i:=(j:Int)) (by omega) (by rw [jY];omega)
 have oQ:a'=a:=by
  obtain ⟨_,_,b1,hb1,rfl⟩:=h1;obtain ⟨_,_,b2,hb2,rfl⟩:=hat;rw [hb1] at hb2;cases hb2;rfl
 subst oQ
 have h00:a'.add 0=a':=by simp [Addr.add]
 refine ⟨a',hat,hblk,by have:=hw 0 (by omega);rwa [h00] at this,fun w' hw'=>?_⟩
 obtain ⟨r1,r2⟩:=hst w' (by rw [hw'];show _=w.setCell (a'.add 0) _;rw [h00])
 exact ⟨by rw [show tmr (rs.set j v)=(tmr rs).set j [.int .i64 v] by simp [tmr,List.map_set]];exact r1,r2⟩
theorem vO (k p x q:Addr) (w0:World) {L:Sp.Pool} {G:List Int} {S:List Sp.Way} {F FP FX FR:NP} (hW:Sp.Wf L) (hk:Sp.KnowOk L G S) (h:zD w0 k p G S F) (hP:jN w0 p L FP) (hx:xI w0 x q G FX) (hR:zT w0 q L FR) :
  Calls prog 25 #[.pointer (some k),.pointer (some x)] w0 (fun e w'=>∃r:Bool,e=.returned (.bool r)∧(r=true∧Pure w0 w')):=by
 refine w_F _ _ w0 (fun r w'=>r=true∧Pure w0 w') ?_
 unfold m_F
 have hL:=hW.ok.few
 have hG:∀g∈G,Sp.inP L g=true:=fun g hg=>hk.inp g (hk.giv g hg)
 have hGn:G.length≤L.length:=Sp.kR hk.gnd hG
 have hSn:(Sp.jG S).length≤L.length:=Sp.kR hk.nodup hk.inp
 have hseen:∀t,t∈Sp.jG S↔Sp.Seen L G t:=hk.seen_iff
 have hfun:(fun t=>t∈Sp.jG S)=Sp.Seen L G:=funext fun t=>propext (hseen t)
 refine (qQ k p w0 h (by omega)).mono ?_
 rintro _ w1 ⟨r1,rfl,hr1⟩
 refine ⟨r1,rfl,hr1.kept,?_⟩
 have E1:=hr1.pure
 refine (jAY k p w1 (h.pure E1) (by omega)).mono ?_
 rintro _ w2 ⟨r2,rfl,l,hr2,hl1,hl2⟩
 refine ⟨r2,rfl,hr2.kept,?_⟩
 have E2:=E1.trans hr2.pure
 obtain ⟨sg,hxs,hFX⟩:=id hx
 refine ⟨x,rfl,sg,(hxs.box.pure E2).cell rfl,?_⟩
 refine (yM (S:=fun _=>True) r1 sg G G w2 ((hr1.rows.pure hr2.pure).lst.weak (fun _ _=>trivial)) ((hxs.giv.pure E2).lst.weak (fun _ _=>trivial)) (by omega)).mono ?_
 rintro _ w17 ⟨r10,rfl,hr10,E17'⟩
 rw [decide_eq_true rfl] at hr10
 subst hr10
 have E17:=E2.trans E17'
 refine ⟨_,rfl,E17'.keptP,Br.f rfl ?_⟩
 refine (xE x q w17 (hx.pure E17) (hR.pure E17) hW hG (by omega)).mono ?_
 rintro _ w18 ⟨r11,rfl,l',hr11,hm',hp'⟩
 have E18:=E17.trans hr11.pure
 refine ⟨r11,rfl,hr11.kept,?_⟩
 have hnd':l'.Nodup:=hp'.imp (fun h=>by omega)
 have hle':l'.Pairwise (·≤·):=hp'.imp (fun h=>by omega)
 have hll:l=l':=by
  refine Sp.oV (hl1.trans ?_) hl2 hle';rw [List.perm_ext_iff_of_nodup hk.nodup hnd'];intro y;rw [hm',hseen];exact ⟨fun h=>⟨hk.inp y ((hseen y).2 h),h⟩,fun h=>h.2⟩
 subst hll
 have hln:l.length≤L.length:=by rw [hl1.length_eq];exact hSn
 refine (yM (S:=fun _=>True) r2 r11 l l w18 (((hr2.rows.pure E17').pure hr11.pure).lst.weak (fun _ _=>trivial)) (hr11.rows.lst.weak (fun _ _=>trivial)) (by omega)).mono ?_
 rintro _ w19 ⟨r12,rfl,hr12,E19'⟩
 rw [decide_eq_true rfl] at hr12
 subst hr12
 refine ⟨_,rfl,E19'.keptP,?_⟩
 have E19:=E18.trans E19'
 unfold m_F_j1
 refine Br.f rfl ?_
 have R1:Rws w19 30 1 r1 (tmr G):=(((hr1.rows.pure hr2.pure).pure E17').pure hr11.pure).pure E19'
 have R2:Rws w19 30 1 r2 (tmr l):=((hr2.rows.pure E17').pure hr11.pure).pure E19'
 have d12:∀b,r1.blk b→¬ r2.blk b:=fun b h1 h2=>by have:=hr1.rows.lt h1;have:=hr2.own b h2;omega
 have n2:∀b,r2.blk b→w0.heap.size≤b:=fun b hb=>by have:=hr2.own b hb;have:=E1.size;omega
 refine ⟨fun i H w'=>∃(j:Nat) (rs:List Int),i=j∧j≤G.length∧(∀b,¬ H b)∧Pure w0 w'∧Rws w' 30 1 r1 (tmr rs)∧rs.length=G.length∧Rws w' 30 1 r2 (tmr l),fun i _=>((G.length:Int) - i).toNat,
  ⟨0,G,rfl,Nat.zero_le _,fun b h=>h,E19,R1,rfl,R2⟩,?_⟩
 rintro _ H1 wa hsa ⟨j,rs,rfl,hj,hH1,Ea,Ra,hrs,R2a⟩
 unfold m_F_l2
 have lr1:r1.len=G.length:=by rw [hr1.rows.len,jY]
 have lr2:r2.len=l.length:=by rw [hr2.rows.len,jY]
 refine ⟨fun hc=>?_,fun hc=>?_⟩
 ·have hlt:=zO lr1 hc
  obtain ⟨a,a1,a2,a3,a4⟩:=jBZ Ra (j:=j) (by omega) (-9)
  refine ⟨a,a1,a3,fun hh=>hH1 _ hh,fun w3 hw3=>?_⟩
  obtain ⟨g1,g2⟩:=a4 w3 hw3
  rw [zL hlt (by omega)]
  exact ⟨⟨j+1,_,rfl,hlt,hH1,Ea.trans' g2 (fun i hi hb=>by have:=hr1.own i hb;omega),g1,by simpa using hrs,R2a.ext g2 (fun b hb hh=>d12 b hh hb)⟩,kZ hlt⟩
 refine ⟨fun i H w'=>∃(j:Nat) (rs:List Int),i=j∧j≤l.length∧(∀b,¬ H b)∧Pure w0 w'∧Rws w' 30 1 r2 (tmr rs)∧rs.length=l.length,fun i _=>((l.length:Int) - i).toNat,
  ⟨0,l,rfl,Nat.zero_le _,hH1,Ea,R2a,rfl⟩,?_⟩
 rintro _ H2 wb hsb ⟨j2,rs2,rfl,hj2,hH2,Eb,Rb,hrs2⟩
 unfold m_F_l3
 refine ⟨fun hc2=>?_,fun hc2=>?_⟩
 ·have hlt:=zO lr2 hc2
  obtain ⟨a,a1,a2,a3,a4⟩:=jBZ Rb (j:=j2) (by omega) (-9)
  refine ⟨a,a1,a3,fun hh=>hH2 _ hh,fun w3 hw3=>?_⟩
  obtain ⟨g1,g2⟩:=a4 w3 hw3
  rw [zL hlt (by omega)]
  exact ⟨⟨j2+1,_,rfl,hlt,hH2,Eb.trans' g2 (fun i hi hb=>by have:=n2 i hb;omega),g1,by simpa using hrs2⟩,kZ hlt⟩
 refine (lG x q wb (hx.pure Eb) (hR.pure Eb) hW hG (by omega)).mono ?_
 rintro _ w5 ⟨r3,rfl,D,hD,hDs⟩
 refine ⟨r3,rfl,hD.kept,?_⟩
 have E5:=Eb.trans hD.pure
 have lr3:r3.len=L.length+1:=by rw [hD.rows.len,vQ]
 refine ⟨fun t H w'=>∃j:Nat,t=(j:Int) - 1∧j≤L.length+3∧Pure w0 w'∧Own H w' 4 1 r3 (brw (L.length+1) D),fun t _=>((L.length:Int)+2 - t).toNat,⟨0,by omega,by omega,E5,⟨hD.rows,fun b hb hh=>hH2 b hh⟩⟩,?_⟩
 rintro _ H3 wl hsl ⟨j3,rfl,hj3,El,O3⟩
 unfold m_F_l4
 obtain ⟨v1,v2,v3,hbx,_⟩:=id hR
 have lv1:v1.len=L.length:=by rw [hbx.r1.len];simp
 refine ⟨x,rfl,some q,(hxs.box.pure El).cell0,q,rfl,v1,(hbx.box.pure El).cell0,?_⟩
 rw [lv1,IntWalk.i64_in _ (by omega)]
 refine ⟨fun hc3 H4 w7 hs7=>?_,fun hc3=>?_⟩
 ·have hc3:=of_decide_eq_true hc3
  have E7:=El.hst hs7
  have O7:=O3.hst hs7
  have hw:IntKind.i64.wrap (((j3:Int) - 1)+1)=((j3+1:Nat):Int) - 1:=by rw [IntWalk.i64_in _ (by omega)];omega
  generalize ht:(j3:Int) - 1=t at *
  refine (vP k p t w7 hW hk (h.pure E7) (hP.pure E7)).mono ?_
  rintro _ w9 ⟨r4,rfl,hr4,E9'⟩
  have E9:=E7.trans E9'
  refine ⟨r4,rfl,E9'.keptP,?_⟩
  have O9:=O7.pure E9'
  rw [hfun] at hr4
  have rest:∀(x3:Bool) ,(x3=true↔Sp.Drv L (Sp.Seen L G) t)→m_F_j5 (some k) (some x) r3 t r4 x3 w0 H4 w9 (fun y0 H' w'=>(∃j:Nat,y0=(j:Int) - 1∧j≤L.length+3∧Pure w0 w'∧Own H' w' 4 1 r3 (brw (L.length+1) D))∧((L.length:Int)+2 - y0).toNat<((L.length:Int)+2 - t).toNat) (fun r w'=>r=true∧Pure w0 w'):=by
   intro x3 hx3;have e43:r4=x3:=Bool.eq_iff_iff.2 (hr4.trans hx3.symm);unfold m_F_j5;refine Br.f (by rw [e43];simp) ?_;refine (qE k p t w9 (h.pure E9)).mono ?_;rintro _ w10 ⟨r5,rfl,hr5,E10'⟩;have E10:=E9.trans E10';refine ⟨r5,rfl,E10'.keptP,?_⟩;have O10:=O9.pure E10';have last:∀(x4:Bool) (w:World),x4=decide (t∈Sp.jG S)→Pure w0 w→Own H4 w 4 1 r3 (brw (L.length+1) D)→Hst w0 H4 w H4 w→m_F_j6 t r4 x3 r5 x4 w0 H4 w (fun y0 H' w'=>(∃j:Nat,y0=(j:Int) - 1∧j≤L.length+3∧Pure w0 w'∧Own H' w' 4 1 r3 (brw (L.length+1) D))∧((L.length:Int)+2 - y0).toNat<((L.length:Int)+2 - t).toNat) (fun r w'=>r=true∧Pure w0 w'):=by
    intro x4 w hx4 E O hs;unfold m_F_j6;refine Br.f (by rw [e43,hr5,hx4];simp) (fun H5 w11 hs11=>?_);rw [hw];exact ⟨⟨j3+1,rfl,by omega,E.hst hs11,O.hst hs11⟩,by omega⟩
   have hs10:Hst w0 H4 w10 H4 w10:=(hs7.here.again E9'.keptP).again E10'.keptP;rw [lr3];refine ⟨fun hin=>?_,fun hout=>?_⟩
   ·refine (xE x q w10 (hx.pure E10) (hR.pure E10) hW hG (by omega)).mono ?_;rintro _ w12 ⟨r6,rfl,l6,hr6,hm6,hp6⟩;refine ⟨r6,rfl,hr6.kept,?_⟩;have hl6:l6.length≤L.length:=Sp.kR (hp6.imp (fun h=>by omega)) (fun y hy=>((hm6 y).1 hy).1);refine (oG r6 l6 t w12 hr6.rows.lst (by omega)).mono ?_;rintro _ w13 ⟨r7,rfl,hr7,rfl⟩;refine ⟨r7,rfl,Kept.refl _,?_⟩;refine last r7 _ ?_ (E10.trans hr6.pure) (O10.pure hr6.pure) (hs10.again hr6.kept);rw [hr7];have:t∈l6↔t∈Sp.jG S:=by rw [hm6,hseen];exact ⟨fun h=>h.2,fun h=>⟨hk.inp t ((hseen t).2 h),h⟩⟩
    exact decide_eq_decide.2 this
   ·refine last false _ ?_ E10 O10 hs10;symm;rw [decide_eq_false_iff_not];intro hmem;have:=Sp.zA.1 (hk.inp t hmem);rw [Bool.and_eq_false_iff] at hout;rcases hout with h | h <;> (have:=of_decide_eq_false h;omega)
  rw [lr3]
  refine ⟨fun hin=>?_,fun hout=>?_⟩
  ·rw [Bool.and_eq_true] at hin
   have i1:=of_decide_eq_true hin.1
   have i2:=of_decide_eq_true hin.2
   obtain ⟨a,hat,_,hv⟩:=qR O9.rows (t:=t) (by omega) (by omega)
   refine ⟨a,hat,_,hv,rest _ (hDs t (Sp.zA.2 ⟨by omega,by omega⟩))⟩
  ·refine rest false ⟨fun h=>by (cases h),fun hd=>?_⟩
   have:=Sp.zA.1 (hd.inp (fun h=>hk.inp t ((hseen t).2 h)))
   rw [Bool.and_eq_false_iff] at hout
   rcases hout with h | h <;> (have:=of_decide_eq_false h;omega)
 ·have Ed:Pure wl wl.drew:=Ext.drew wl
  refine ⟨fun w'=>Pure w0 w',El.trans Ed,?_⟩
  rintro _ rfl
  refine ⟨x,rfl,sg,fun w' hw'=>(hxs.box.pure hw').cell rfl,?_⟩
  have E14:=El.trans Ed
  refine (qQ k p _ (h.pure E14) (by omega)).mono ?_
  rintro _ w15 ⟨r8,rfl,hr8⟩
  refine ⟨r8,rfl,E14.trans hr8.pure,hr8.kept,?_⟩
  have E15:=E14.trans hr8.pure
  refine (yM (S:=fun _=>True) r8 sg G G w15 (hr8.rows.lst.weak (fun _ _=>trivial)) ((hxs.giv.pure E15).lst.weak (fun _ _=>trivial)) (by omega)).mono ?_
  rintro _ w16 ⟨r9,rfl,hr9,E16'⟩
  rw [decide_eq_true rfl] at hr9
  exact ⟨r9,rfl,E15.trans E16',E16'.keptP,hr9,E15.trans E16'⟩
end Go.Proofs
end
section
open Go Go.SE
namespace Go.Proofs
open Tryz
attribute [local irreducible] Calls
structure PlyAt (w0:World) (H:NP) (w:World) (p q k x:Addr) (L:Sp.Pool) (G:List Int) (S:List Sp.Way) (FP FR F FX:NP):Prop where
 pool:jN w p L FP
 ref:zT w q L FR
 know:zD w k p G S F
 doc:xI w x q G FX
 ok:Sp.KnowOk L G S
 d1:∀b,F b→¬ FP b∧¬ FR b∧¬ FX b
 d2:∀b,FX b→¬ FP b∧¬ FR b
 new:∀b,F b∨FX b→w0.heap.size≤b∧¬ H b
 pure:Pure w0 w
theorem PlyAt.pureE {w0 w w':World} {H:NP} {p q k x:Addr} {L:Sp.Pool} {G:List Int} {S:List Sp.Way} {FP FR F FX:NP} (h:PlyAt w0 H w p q k x L G S FP FR F FX) (E:Pure w w'):PlyAt w0 H w' p q k x L G S FP FR F FX :=
 ⟨h.pool.pure E,h.ref.pure E,h.know.pure E,h.doc.pure E,h.ok,h.d1,h.d2,h.new,h.pure.trans E⟩
theorem qO {S0 Sg:NP} (ts:List Sp.Tree) (more:List Int) (sT sm:Sl) (w0:World) (hT:TreeAt S0 w0 sT (.mk 0 0 0 0 ⟨#[]⟩ ts)) (hS:∀b,S0 b→b<w0.heap.size) (hm:Lst Sg w0 1 sm (tmr more)) :
  Calls prog 4 #[sT.v,sm.v] w0 (fun e w'=>∃r:Bool,e=.returned (.bool r)∧(r=true∧Pure w0 w')):=by
 refine w_P _ _ w0 (fun r w'=>r=true∧Pure w0 w') ?_
 unfold m_P
 have hnil:∀b,¬ Sl.nil.blk b:=fun b hb=>by obtain ⟨a,h,_⟩:=hb;cases h
 have live:∀(H:NP) (w:World),Pure w0 w→Calls prog 18 #[] w (fun e w'=>∃r:Bool,e=.returned (.bool r)∧Kept H w w'∧(r=true∧Pure w0 w')):=fun H w E=>by
  refine (jFE w).mono ?_;rintro _ w' ⟨r,rfl,hr,E'⟩;exact ⟨_,rfl,E'.keptP,hr,E.trans E'⟩
 refine (oH ts sT w0 hT hS).mono ?_
 rintro _ w20 ⟨r15,rfl,hwd,E20⟩
 refine ⟨_,rfl,E20.keptP,fun H1 w21 hs21=>?_⟩
 have E21:Pure w0 w21:=E20.hst hs21
 have lm:sm.len=more.length:=by rw [hm.len,jY]
 unfold m_P_j1
 refine ⟨fun _=>live _ _ E21,fun hno=>?_⟩
 rw [Bool.or_eq_false_iff] at hno
 obtain ⟨hn1,hn2⟩:=hwd hno.1
 have hmn:more.length≤20:=by have:=of_decide_eq_false hno.2;omega
 refine (lH ts sT w21 (hT.pure E21) (fun b hb=>by have:=hS b hb;have:=E21.size;omega) hn1).mono ?_
 obtain ⟨hW,hlen,hids⟩:=Sp.gX ts
 generalize Sp.zV ts=Q at *
 obtain ⟨L,ids⟩:=Q
 simp only at hW hlen hids ⊢
 rintro _ w2 ⟨_,_,r4,_,rfl,p,q,FP,FR,rfl,rfl,rfl,P2⟩
 refine ⟨_,_,r4,_,rfl,P2.pure.keptP,Br.f rfl ?_⟩
 have hH1:∀b,H1 b→b<w21.heap.size:=hs21.lt
 have z21:=P2.pure.size
 have E2:Pure w0 w2:=E21.trans P2.pure
 refine (oJ p w2).mono ?_
 rintro _ w3 ⟨_,rfl,k,F,rfl,hk3,E3,hF3⟩
 refine ⟨_,rfl,E3.keptP,fun p1 w4 h4=>Br.f rfl ?_⟩
 have E4:Pure w3 w4:=Ext.new h4
 have n4:=h4.at_size
 have z3:=E3.size;have z4:=E4.size
 intro p2 w5 h5
 have E24:Pure w2 w4:=E3.trans E4
 have R4:=P2.ts.pure E24
 obtain ⟨s1,w6,hr6,R6,E6,hk6,b6⟩:=copied (P:=prog) (ty:=52) qI h5 R4.lst (tN ids) (xR ids) (by rw [jY];omega) (by rw [jY];simp only [maxLen];omega) (H:=H1) (fun b hb=>by have:=hH1 b hb;omega)
 refine ⟨s1,w6,hr6,hk6,?_⟩
 have E06:Pure w0 w6:=(E2.trans E24).trans E6
 obtain ⟨s2,w7,hr7,R7,X7,b7⟩:=R6.appendL (P:=prog) (ty:=52) qI (hm.pure E06) (tN more) (xR more) (by rw [jY,jY];omega) (by rw [jY,jY];simp only [maxLen];omega)
 have z6:=E6.size
 have E47:Pure w4 w7:=E6.trans' X7 (fun i hi hb=>by have:=b6 i hb;omega)
 refine ⟨s2,w7,hr7,X7.kept (fun b hb hh=>by have:=b6 b hh;have:=hH1 b hb;omega),?_⟩
 have b7':∀b,s2.blk b→w4.heap.size≤b:=fun b hb=>(b7 b hb).elim (b6 b) (fun h=>by omega)
 have e7:tmr ids++tmr more=tmr (ids++more):=by simp [tmr]
 rw [e7] at R7
 have l2:s2.len=(ids++more).length:=by rw [R7.len,jY]
 have hgn:(ids++more).length≤32:=by rw [List.length_append];omega
 generalize ids++more=give at *
 have A4:PlyAt w0 H1 w4 p q k p1 L [] [] FP FR F (fun b=>b=p1.block∨Sl.nil.blk b):=by
  refine ⟨P2.pool.pure E24,P2.ref.pure E24,hk3.pure E4,⟨Sl.nil,⟨Box.of_new h4,Rws.nil _ _ _,hnil _⟩,fun b=>Iff.rfl⟩,Sp.KnowOk.nil L,fun b hb=>⟨fun h=>?_,fun h=>?_,fun h=>?_⟩,fun b hb=>⟨fun h=>?_,fun h=>?_⟩,fun b hb=>?_,E2.trans E24⟩
  ·have:=hF3 b hb;have:=P2.pool.lt h;omega
  ·have:=hF3 b hb;have:=P2.ref.lt h;omega
  ·rcases h with rfl | h
   ·have:=hk3.lt hb;omega
   ·exact hnil b h
  ·rcases hb with rfl | hb
   ·have:=P2.pool.lt h;omega
   ·exact hnil b hb
  ·rcases hb with rfl | hb
   ·have:=P2.ref.lt h;omega
   ·exact hnil b hb
  ·have zz:=E2.size;rcases hb with hb | rfl | hb
   ·have:=hF3 b hb;exact ⟨by omega,fun hh=>by have:=hH1 b hh;omega⟩
   ·exact ⟨by omega,fun hh=>by have:=hH1 _ hh;omega⟩
   ·exact (hnil b hb).elim
 have A7:=A4.pureE E47
 have hcF:∀b,F b∨(b=p1.block∨Sl.nil.blk b)→b<w4.heap.size:=fun b hb=>by
  rcases hb with hb | rfl | hb
  ·have:=hk3.lt hb;omega
  ·exact (Box.of_new h4).lt
  ·exact (hnil b hb).elim
 refine ⟨fun i H w'=>∃(j:Nat) (G:List Int) (S:List Sp.Way) (F FX:NP),i=j∧j≤give.length∧PlyAt w0 H w' p q k p1 L G S FP FR F FX∧Rws w' 30 1 s2 (tmr give)∧∀b,s2.blk b→¬ F b∧¬ FX b,fun i _=>((give.length:Int) - i).toNat,
  ⟨0,[],[],F,_,rfl,Nat.zero_le _,A7,R7,fun b hb=>⟨fun h=>by have:=hcF b (.inl h);have:=b7' b hb;omega,fun h=>by have:=hcF b (.inr h);have:=b7' b hb;omega⟩⟩,?_⟩
 rintro _ Hl wl hsl ⟨j,G,S,F,FX,rfl,hj,A,R2,hd⟩
 have hL:=hW.ok.few
 have hGi:∀{G S},Sp.KnowOk L G S→∀g∈G,Sp.inP L g=true:=fun hk g hg=>hk.inp g (hk.giv g hg)
 have hGn:G.length≤L.length:=Sp.kR A.ok.gnd (hGi A.ok)
 have hSn:(Sp.jG S).length≤L.length:=Sp.kR A.ok.nodup A.ok.inp
 unfold m_P_l2
 refine ⟨fun hc=>?_,fun hc=>?_⟩
 ·have hlt:=zO l2 hc
  refine (jAZ k p wl A.know (by omega) (by omega)).mono ?_
  rintro _ w8 ⟨_,rfl,c,Fc,rfl,hc8,E8,hFc⟩
  refine ⟨_,rfl,E8.keptP,?_⟩
  intro p3 w9 h9
  have A8:=A.pureE E8
  obtain ⟨sg,hx8,hFX8⟩:=id A8.doc
  have E9:Pure w8 w9:=Ext.new h9
  refine ⟨sg,(hx8.box.pure E9).cell rfl,?_⟩
  have hlH:∀b,Hl b→b<w8.heap.size:=fun b hb=>by have:=hsl.lt b hb;have:=E8.size;omega
  obtain ⟨s3,w10,hr10,R10,E10,hk10,b10⟩:=copied (P:=prog) (ty:=52) qI h9 hx8.giv.lst (tN G) (xR G) (by rw [jY];omega) (by rw [jY];simp only [maxLen];omega) (H:=Hl) hlH
  refine ⟨s3,w10,hr10,hk10,?_⟩
  intro p4 w11 h11
  have n11:=h11.at_size
  have E11:Pure w10 w11:=Ext.new h11
  have Ed:Pure w11 w11.drew:=Ext.drew w11
  have X12:Pure w8 w11.drew:=(E10.trans E11).trans Ed
  have z8:=E8.size;have z10:=E10.size;have z11:=E11.size
  have zd:w11.drew.heap.size=w11.heap.size:=rfl
  have Y12:xI w11.drew p4 q G (fun b=>b=p4.block∨s3.blk b):=⟨s3,⟨(Box.of_new h11).pure Ed,(R10.pure E11).pure Ed,fun hb=>by have:=R10.lt hb;omega⟩,fun b=>Iff.rfl⟩
  have Ynew:∀b,(b=p4.block∨s3.blk b)→wl.heap.size≤b:=fun b hb=>by
   rcases hb with rfl | hb
   ·omega
   ·have:=b10 b hb;omega
  have A12:=A8.pureE X12
  have C12:=hc8.pure X12
  have R12:=(R2.pure E8).pure X12
  have flt:∀b,F b∨FX b→b<wl.heap.size:=fun b hb=>hb.elim (fun h=>A.know.lt h) (fun h=>by
   obtain ⟨sgx,hxx,hFF⟩:=A.doc;rcases (hFF b).1 h with rfl | h
   ·exact hxx.box.lt
   ·exact hxx.giv.lt h)
  refine ⟨fun w'=>Ext (fun b=>F b∨FX b) w11.drew w',Ext.refl _,?_⟩
  generalize w11.drew=w12x at *
  rintro w12 rfl
  obtain ⟨a,hat,hSa,hrow⟩:=R12.lst.at_ j (by simpa [tmr] using hlt)
  have hcell:∀w',Ext (fun b=>F b∨FX b) w12 w'→w'.cell? a=some (.int .i64 give[j]):=fun w' E=>qA (by simpa [tmr] using E.row hrow (fun h=>h.elim (hd _ hSa).1 (hd _ hSa).2))
  refine ⟨a,hat,_,hcell,a,hat,_,hcell,?_⟩
  refine (yA k p give[j] w12 A12.know A12.pool hW (fun b hb=>(A12.d1 b hb).1) A12.ok).mono ?_
  rintro _ w13 ⟨r8,rfl,hr8,S',F1,hk13,ok13,X13,f13⟩
  have XX13:Ext (fun b=>F b∨FX b) w12 w13:=X13.mono (fun b _ h=>.inl h)
  refine ⟨_,rfl,XX13,X13.kept (fun b hb h1=>(A.new b (.inl h1)).2 hb),?_⟩
  refine (p_D1 r8 w13).mono ?_
  rintro _ w14 ⟨rfl,E14⟩
  refine ⟨_,rfl,XX13.thenPure E14,E14.keptP,?_⟩
  have dFX:∀b,FX b→¬ F b:=fun b h1 h2=>(A.d1 b h2).2.2 h1
  have D13:=(A12.doc.ext X13 dFX).pure E14
  have Rf14:=(A12.ref.ext X13 (fun b h1 h2=>(A.d1 b h2).2.1 h1)).pure E14
  have Po14:=(A12.pool.ext X13 (fun b h1 h2=>(A.d1 b h2).1 h1)).pure E14
  refine (jAV p1 q give[j] w14 D13 Rf14 (by omega)).mono ?_
  rintro _ w15 ⟨r10,rfl,hr10',FX1,D15,X15,f15⟩
  have XX15:Ext (fun b=>F b∨FX b) w12 w15:=(XX13.thenPure E14).trans (X15.mono (fun b _ h=>.inr h))
  refine ⟨_,rfl,XX15,X15.kept (fun b hb h1=>(A.new b (.inr h1)).2 hb),Br.f ?_ ?_⟩
  ·rw [hr10'];show (r8 != _)=false;rw [hr8];simp
  have z12:wl.heap.size≤w12.heap.size:=by have:=X12.size;omega
  have z13:=X13.size;have z14:=E14.size
  have K15:zD w15 k p (Sp.vN L G give[j]) S' F1:=(hk13.pure E14).ext X15 (fun b h1 h2=>by
   rcases f13 b h1 with h | h
   ·exact (A.d1 b h).2.2 h2
   ·have:=flt b (.inr h2);omega)
  have Po15:=Po14.ext X15 (fun b h1 h2=>(A.d2 b h2).1 h1)
  have Rf15:=Rf14.ext X15 (fun b h1 h2=>(A.d2 b h2).2 h1)
  have P15:Pure w0 w15:=A12.pure.trans' XX15 (fun i hi hb=>by have:=(A.new i hb).1;omega)
  refine (vO k p p1 q w15 hW ok13 K15 Po15 D15 Rf15).mono ?_
  rintro _ w16 ⟨r11,rfl,rfl,E16⟩
  refine ⟨_,rfl,XX15.thenPure E16,E16.keptP,Br.f rfl (Br.f rfl ?_)⟩
  have C16:zD w16 c p G S Fc:=(C12.ext XX15 (fun b h1 h2=>by have:=hFc b h1;have:=flt b h2;omega)).pure E16
  have Y16:xI w16 p4 q G (fun b=>b=p4.block∨s3.blk b):=(Y12.ext XX15 (fun b h1 h2=>by have:=Ynew b h1;have:=flt b h2;omega)).pure E16
  refine (vO c p p4 q w16 hW A.ok C16 (Po15.pure E16) Y16 (Rf15.pure E16)).mono ?_
  rintro _ w17 ⟨r12,rfl,rfl,E17⟩
  refine ⟨_,rfl,(XX15.thenPure E16).thenPure E17,E17.keptP,Br.f rfl ?_⟩
  rw [zL hlt (by omega)]
  have f1lt:∀b,F1 b→b<w13.heap.size:=fun b hb=>hk13.lt hb
  have fp:∀b,FP b→b<wl.heap.size:=fun b hb=>A.pool.lt hb
  have fr:∀b,FR b→b<wl.heap.size:=fun b hb=>A.ref.lt hb
  have R15:=(R12.ext XX15 (fun b h1 h2=>h2.elim (hd b h1).1 (hd b h1).2)).pure (E16.trans E17)
  have hHl:=hsl.lt
  refine ⟨⟨j+1,_,S',F1,FX1,rfl,hlt,⟨(Po15.pure E16).pure E17,(Rf15.pure E16).pure E17,(K15.pure E16).pure E17,(D15.pure E16).pure E17,ok13,fun b hb=>?_,fun b hb=>?_,fun b hb=>?_,(P15.trans E16).trans E17⟩,R15,fun b hb=>?_⟩,kZ hlt⟩
  ·have hFX1 : ¬ FX1 b := fun h => by
    rcases f15 b h with h' | h'
    ·rcases f13 b hb with g | g
     ·exact (A.d1 b g).2.2 h'
     ·have:=flt b (.inr h');omega
    ·have:=f1lt b hb;omega
   rcases f13 b hb with g | g
   ·exact ⟨(A.d1 b g).1,(A.d1 b g).2.1,hFX1⟩
   ·exact ⟨fun h=>by have:=fp b h;omega,fun h=>by have:=fr b h;omega,hFX1⟩
  ·rcases f15 b hb with g | g
   ·exact A.d2 b g
   ·exact ⟨fun h=>by have:=fp b h;omega,fun h=>by have:=fr b h;omega⟩
  ·have zz:=A.pure.size
   rcases hb with hb | hb
   ·rcases f13 b hb with g | g
    ·exact A.new b (.inl g)
    ·exact ⟨by omega,fun h=>by have:=hHl b h;omega⟩
   ·rcases f15 b hb with g | g
    ·exact A.new b (.inr g)
    ·exact ⟨by omega,fun h=>by have:=hHl b h;omega⟩
  ·have s2lt:b<wl.heap.size:=R2.lt hb
   exact ⟨fun h=>(f13 b h).elim (hd b hb).1 (fun g=>by omega),fun h=>(f15 b h).elim (hd b hb).2 (fun g=>by omega)⟩
 ·refine (vO k p p1 q wl hW A.ok A.know A.pool A.doc A.ref).mono ?_
  rintro _ w18 ⟨r13,rfl,rfl,E18⟩
  exact ⟨_,rfl,E18.keptP,Br.t rfl (live _ _ (A.pure.trans E18))⟩
end Go.Proofs
end
section
namespace Go.SE
open Go.ChangeShapes Go.WideShapes Go.ChangeAt Go.RowKit
section
variable {H:Type} {enc:TypeId×Value→H} {P:Program}
theorem yB (hl:laidOutB P=true) {W W':World} (hb:Below W.heap.size W W'):∀(ts:List TypeId) (vs:List Value) (ds:List (DataW H)) (ps:List MemPlace),(ts.all fun t=>P.readableRec t && decide (t<P.types.size))=true →
  DataW.TrodAll enc P W 0 (fun _=>true) true ts vs ds ps→(∀x∈ps,x.block<W.heap.size)→DataW.TrodAll enc P W' 0 (fun b=>decide (b<W.heap.size)) true ts vs ds ps
 | [],_,_,_,_,h,_=>by
  obtain ⟨rfl,rfl,rfl⟩:=trodAll_nil h;exact h
 | t :: ts,_,_,_,hr,h,hlt=>by
  obtain ⟨v,vs1,d,ds1,a,b,rfl,rfl,rfl,h1,h2⟩:=trodAll_cons h;simp only [List.all_cons,Bool.and_eq_true,decide_eq_true_eq] at hr;exact ⟨a,b,Below.trod hl hr.1.1 hr.1.2 h1 hb (fun x hx=>hlt x (by simp [hx])),yB hl hb ts vs1 ds1 b (by simpa using hr.2) h2 (fun x hx=>hlt x (by simp [hx])),rfl⟩
theorem jDS {f:Func} {s:ChangeSpec} {W W':World} {args:Array Value} {ds gs:List (DataW H)} {before:List MemPlace} {t:TypeId} (hl:laidOutB P=true)
  (hv:s.vars=[]) (hf:∀ds:List (DataW H),ds.length=f.params.size→s.fn H ds={ results:=[.lit (.bool true)],args:=ds }) (hrt:f.resultTypes=#[t]) (ht:P.underlying t=some .bool)
  (hr:(f.params.toList.all fun t=>P.readableRec t && decide (t<P.types.size))=true)
  (hW:DataW.Whole enc P f.params.toList s.vars false W args.toList ds gs before) (E:Pure W W') :
  s.post enc P f false true false false W args (.bool true) W':=by
 have hW':=hW
 obtain ⟨p,q,hA,hV,rfl,hfz,hnd⟩:=hW
 rw [hv] at hV
 obtain ⟨rfl,rfl⟩:=trodVars_none hV
 have hlen:ds.length=f.params.size:=by
  have:∀(ts:List TypeId) (vs:List Value) (ds:List (DataW H)) (ps:List MemPlace),DataW.TrodAll enc P W 0 (fun _=>true) true ts vs ds ps→ds.length=ts.length:=by
   intro ts;induction ts with
   | nil=>intro vs ds ps h;obtain ⟨_,rfl,_⟩:=trodAll_nil h;rfl
   | cons t ts ih =>
    intro vs ds ps h
    obtain ⟨v,vs1,d,ds1,a,b,_,rfl,_,_,h2⟩:=trodAll_cons h
    simp [ih _ _ _ h2]
  simpa using this _ _ _ _ hA
 have hfn:=hf ds hlen
 have hfn':s.fn H (ds++[])={ results:=[.lit (.bool true)],args:=ds }:=by rw [List.append_nil];exact hfn
 have hlt:∀x∈p,x.block<W.heap.size:=fun x hx=>by simpa using hW'.lt x (by simp [hx])
 have bel:=E.below
 refine ⟨ds,[],p++[],[],p,[],hW',?_,?_,?_,bel.frame _,fun h=>by cases h⟩
 ·rw [hfn',hrt];exact trodAll_mk1 (shut_bool ht _)
 ·rw [hfn'];exact yB hl bel _ _ _ _ hr hA hlt
 ·rw [hfn',hv];exact hV
theorem jAO {C:Checked} {os:Os} {f:FuncId} {fn:Func} {s:ChangeSpec} {t:TypeId} (hl:laidOutB C.prog=true)
  (hv:s.vars=[]) (hf:∀ds:List (DataW H),ds.length=fn.params.size→s.fn H ds={ results:=[.lit (.bool true)],args:=ds }) (hrt:fn.resultTypes=#[t]) (ht:C.prog.underlying t=some .bool)
  (hr:(fn.params.toList.all fun t=>C.prog.readableRec t && decide (t<C.prog.types.size))=true)
  (own:ownKnob C.prog.godebug=none) (started:os.Started) (noInit:C.prog.inits.idxOf? f=none) (hfn:C.prog.funcs[f]?=some fn)
  (witness:∃(w:World) (tape:Tape) (i:Input),w.os=os∧(w.forCall tape i).Shaped C.prog∧i.vars=[]∧Input.okWide C.prog (w.forCall tape i) .any w.heap.size f i ∧
   s.pre6 enc C.prog fn [] false (w.forCall tape i).memory i.args∧({}:Assume).holds C.prog (lone (Frame.enter C.prog f i.args .normal) [] (w.forCall tape i)))
  (contract:∀(W:World) (base:Nat) (args:Array Value) (ds:List (DataW H)) (p:List MemPlace),
   (∀(j:Nat) t v,fn.params[j]?=some t→args[j]?=some v→Value.okWide C.prog W .any base t v) →
   DataW.TrodAll enc C.prog W 0 (fun _=>true) true fn.params.toList args.toList ds p→(∀x∈p,x.block<W.heap.size) →
   Calls C.prog f args W (fun e W'=>∃r:Bool,e=.returned (.bool r)∧(r=true∧Pure W W'))) :
  ReturnsInHanded {} C os f .any (s.pre6 enc C.prog fn [] false) (s.post enc C.prog fn false true false false):=by
 refine returnsInHanded_of_change own started noInit hfn witness ?_
 intro W base args ds gs before hval hW _ _
 have hW':=hW
 obtain ⟨p,q,hA,hV,rfl,hfz,hnd⟩:=hW
 refine (contract W base args ds p hval hA (fun x hx=>by simpa using hW'.lt x (by simp [hx]))).mono fun e W' ⟨r,he,h1,h2⟩=>?_
 subst h1
 exact ⟨_,he,jDS hl hv hf hrt ht hr hW' h2⟩
end
end Go.SE
namespace Go.SE
open Go.ChangeShapes Go.WideShapes Go.ChangeAt Go.RowKit
section
variable {P:Program} {W:World} {r:Reach} {b0:Nat} {t:TypeId} {v:Value}
theorem lS {e:TypeId} (ht:P.underlying t=some (.slice e)) (h:Value.okWide P W r b0 t v):∃a n c,v=.slice a n c:=by
 unfold Value.okWide at h;rw [ht] at h;simp only at h;unfold Cell.okWide at h;rw [ht] at h;cases v <;> simp [Cell.ok,ht] at h;exact ⟨_,_,_,rfl⟩
end
end Go.SE
end
section
open Go Go.SE
namespace Go.Proofs
open Tryz
theorem yK {α β:Type} {f:α→Option β}:∀{l:List α} {r:List β},l.mapM f=some r→r.length=l.length∧∀(i:Nat) (a:α),l[i]?=some a→∃b,f a=some b∧r[i]?=some b
 | [],r,h=>by
  have:r=[]:=by simpa using h.symm
  subst this;exact ⟨rfl,fun i a h=>by simp at h⟩
 | x :: xs,r,h=>by
  rw [List.mapM_cons] at h;cases hx:f x with
  | none=>simp [hx] at h
  | some y =>
   cases hxs:xs.mapM f with
   | none=>simp [hx,hxs] at h
   | some ys =>
    have:r=y :: ys:=by simpa [hx,hxs] using h.symm
    subst this
    obtain ⟨h1,h2⟩:=yK hxs
    refine ⟨by simp [h1],fun i a ha=>?_⟩
    cases i with
    | zero=>cases ha;exact ⟨y,hx,rfl⟩
    | succ i=>exact h2 i a (by simpa using ha)
theorem oB {w:World} {base:Nat} {a:Addr} {n:Nat} {cs:List Value} (h:w.cells? base a n=some cs):cs.length=n∧Row w a cs:=by
 obtain ⟨_,h1,h2⟩:=World.cells?_some h;exact ⟨h1,fun j hj=>h2 j (by omega)⟩
section
variable {H:Type} {enc:TypeId×Value→H} {P:Program} {W:World} {base:Nat} {sp:Nat→Bool} {held:Bool}
theorem uO {t:TypeId} {k:IntKind} (ht:P.underlying t=some (.int k)) {n:Nat} {c:Value} {x:DataW H×List MemPlace} (h:DataW.trod enc P W base sp held n t [c]=some x):∃m,c=.int k m:=by
 cases n with
 | zero=>cases h
 | succ n =>
  rw [DataW.trod_step] at h
  unfold DataW.trodStep at h
  rw [ht] at h
  cases c <;> simp at h
  obtain ⟨⟨rfl,_⟩,_⟩:=h
  exact ⟨_,rfl⟩
theorem jDE {t:TypeId} (ht:P.underlying t=some (.int .u64)) {n:Nat} {c:Value} {x:DataW H×List MemPlace} (h:DataW.trod enc P W base sp held n t [c]=some x):∃m,c=.int .u64 m∧Sp.isNum m:=by
 cases n with
 | zero=>cases h
 | succ n =>
  rw [DataW.trod_step] at h
  unfold DataW.trodStep at h
  rw [ht] at h
  cases c with
  | int k z =>
   simp only at h
   split at h
   ·rename_i hw
    obtain ⟨rfl,hw⟩:=hw
    have h1:IntKind.u64.min=0:=by rfl
    have h2:IntKind.u64.max=18446744073709551615:=by rfl
    simp only [Lit.wf,Bool.and_eq_true,decide_eq_true_eq,h1,h2] at hw
    exact ⟨z,rfl,by omega,by omega⟩
   ·cases h
  | _=>simp at h
theorem jBK {t:TypeId} (ht:P.underlying t=some .string) {n:Nat} {c:Value} {x:DataW H×List MemPlace} (h:DataW.trod enc P W base sp held n t [c]=some x):∃m,c=.string m:=by
 cases n with
 | zero=>cases h
 | succ n =>
  rw [DataW.trod_step] at h
  unfold DataW.trodStep at h
  rw [ht] at h
  cases c <;> simp at h
  exact ⟨_,rfl⟩
theorem uN {t e:TypeId} (ht:P.underlying t=some (.slice e)) {n:Nat} {c:Value} {x:DataW H×List MemPlace} (h:DataW.trod enc P W base sp held (n+1) t [c]=some x) :
  c=.slice none 0 0∨∃a len cap,c=.slice (some a) len cap∧len≤cap∧cap≤maxLen∧∀i,i<len→∃cs y,W.cells? base (a.add (i*P.cellsOf e)) (P.cellsOf e)=some cs∧DataW.trod enc P W base sp held n e cs=some y:=by
 rw [DataW.trod_step] at h
 unfold DataW.trodStep at h
 rw [ht] at h
 cases c with
 | slice a len cap =>
  cases a with
  | none =>
   cases len with
   | zero=>cases cap with
    | zero=>exact .inl rfl
    | succ c=>simp at h
   | succ l=>simp at h
  | some a =>
   right
   simp only at h
   split at h
   ·rename_i hc
    refine ⟨a,len,cap,rfl,hc.2.1,hc.2.2,fun i hi=>?_⟩
    cases hm:(List.range len).mapM fun i=>(W.cells? base (a.add (i*P.cellsOf e)) (P.cellsOf e)).bind (DataW.trod enc P W base sp held n e) with
    | none=>rw [hm] at h;cases h
    | some r =>
     obtain ⟨b,hb,_⟩:=(yK hm).2 i i (by simp [hi])
     obtain ⟨cs,h1,h2⟩:=Option.bind_eq_some_iff.1 hb
     exact ⟨cs,b,h1,h2⟩
   ·cases h
 | _=>simp at h
structure TreeTypes (P:Program) (tS tT:TypeId):Prop where
 ex:∃ti tu ts:TypeId,∃f0 f1 f2 f3 f4 f5:Field,P.underlying tS=some (.slice tT)∧P.underlying tT=some (.struct #[f0,f1,f2,f3,f4,f5])∧P.cellsOf tT=6 ∧
  (f0.type=ti∧f1.type=ti∧f2.type=ti∧f3.type=tu∧f4.type=ts∧f5.type=tS)∧(f0.offset=0∧f1.offset=1∧f2.offset=2∧f3.offset=3∧f4.offset=4∧f5.offset=5) ∧
  P.underlying ti=some (.int .i64)∧P.underlying tu=some (.int .u64)∧P.underlying ts=some .string∧P.cellsOf ti=1∧P.cellsOf tu=1∧P.cellsOf ts=1∧P.cellsOf tS=1
theorem jBJ {tS tT:TypeId} (hTT:TreeTypes P tS tT):∀n:Nat,
  (∀(c:Value) (x:DataW H×List MemPlace),DataW.trod enc P W base sp held n tS [c]=some x→∃s:Sl,∃ts:List Sp.Tree,c=s.v∧(∀(k f t u:Int) (tx:ByteArray),TreeAt (fun _=>True) W s (.mk k f t u tx ts))∧∀i (hi:i<ts.length),Sp.NumT ts[i]) ∧
  (∀(cs:List Value) (x:DataW H×List MemPlace),DataW.trod enc P W base sp held n tT cs=some x→∃t s,cs=qK t s∧TreeAt (fun _=>True) W s t∧Sp.NumT t):=by
 obtain ⟨ti,tu,tx,f0,f1,f2,f3,f4,f5,hS,hT,hc6,⟨e0,e1,e2,e3,e4,e5⟩,⟨o0,o1,o2,o3,o4,o5⟩,ui,uu,us,ci,cu,cs1,cS⟩:=hTT.ex
 intro n
 induction n with
 | zero=>exact ⟨fun c x h=>(by cases h),fun cs x h=>(by cases h)⟩
 | succ n ih =>
  refine ⟨fun c x h=>?_,fun cs x h=>?_⟩
  ·rcases uN hS h with rfl | ⟨a,len,cap,rfl,hle,hcm,hel⟩
   ·exact ⟨Sl.nil,[],rfl,fun k f t u tx=>.mk k f t u tx [] Sl.nil (fun _=>Sl.nil) rfl (by simp) (fun i h=>by simp at h) (fun i h=>by simp at h),fun i hi=>absurd hi (Nat.not_lt_zero i)⟩
   ·rw [hc6] at hel
    have hex:∀i,∃q:Sp.Tree×Sl,i<len→Row W (a.add (i*6)) (qK q.1 q.2)∧TreeAt (fun _=>True) W q.2 q.1∧Sp.NumT q.1:=by
     intro i;by_cases hi:i<len
     ·obtain ⟨cs,y,h1,h2⟩:=hel i hi;obtain ⟨tr,s,e,hTr⟩:=ih.2 cs y h2;exact ⟨(tr,s),fun _=>⟨e▸(oB h1).2,hTr⟩⟩
     ·exact ⟨(Sp.Tree.mk 0 0 0 0 ⟨#[]⟩ [],Sl.nil),fun h=>absurd h hi⟩
    obtain ⟨q,hq⟩:=Classical.axiomOfChoice hex
    refine ⟨⟨some a,len,cap⟩,(List.range len).map fun i=>(q i).1,rfl,?_,fun i hi=>by rw [List.getElem_map,List.getElem_range];exact (hq i (by simpa using hi)).2.2⟩
    refine fun k f t u tx=>.mk k f t u tx _ _ (fun i=>(q i).2) (by simp) (by simp only [maxLen] at hcm;simp;omega) (fun i h=>?_) (fun i h=>?_)
    ·have hi:i<len:=by simpa using h
     refine ⟨a.add (i*6),⟨by omega,by simpa using hi,a,rfl,by simp⟩,trivial,?_⟩
     simpa using (hq i hi).1
    ·have hi:i<len:=by simpa using h
     simpa using (hq i hi).2.1
  ·rw [DataW.trod_step] at h
   unfold DataW.trodStep at h
   rw [hT] at h
   simp only at h
   split at h
   ·rename_i hl
    rw [hc6] at hl
    match cs,hl with
    | [c0,c1,c2,c3,c4,c5],_ =>
     cases hm:([f0,f1,f2,f3,f4,f5]:List Field).mapM (fun f=>DataW.trod enc P W base sp held n f.type ((([c0,c1,c2,c3,c4,c5]:List Value).drop f.offset).take (P.cellsOf f.type))) with
     | none=>rw [hm] at h;cases h
     | some r =>
      have hf:=(yK hm).2
      obtain ⟨_,h0,_⟩:=hf 0 f0 rfl
      obtain ⟨_,h1,_⟩:=hf 1 f1 rfl
      obtain ⟨_,h2,_⟩:=hf 2 f2 rfl
      obtain ⟨_,h3,_⟩:=hf 3 f3 rfl
      obtain ⟨_,h4,_⟩:=hf 4 f4 rfl
      obtain ⟨_,h5,_⟩:=hf 5 f5 rfl
      rw [e0,o0,ci] at h0;rw [e1,o1,ci] at h1;rw [e2,o2,ci] at h2;rw [e3,o3,cu] at h3;rw [e4,o4,cs1] at h4;rw [e5,o5,cS] at h5
      obtain ⟨m0,rfl⟩:=uO ui h0
      obtain ⟨m1,rfl⟩:=uO ui h1
      obtain ⟨m2,rfl⟩:=uO ui h2
      obtain ⟨m3,rfl,hu⟩:=jDE uu h3
      obtain ⟨m4,rfl⟩:=jBK us h4
      obtain ⟨s,ts,rfl,hTr,hNr⟩:=ih.1 c5 _ h5
      exact ⟨.mk m0 m1 m2 m3 m4 ts,s,rfl,hTr m0 m1 m2 m3 m4,.mk _ _ _ _ _ _ hu hNr⟩
   ·cases h
theorem xQ {tS tT:TypeId} (hTT:TreeTypes P tS tT) {v:Value} {d:DataW H} {ps:List MemPlace} (h:DataW.Trod enc P W base sp held tS v d ps) (hv:∃a n c,v=.slice a n c) :
  ∃s:Sl,∃ts:List Sp.Tree,v=s.v∧TreeAt (fun b=>b<W.heap.size) W s (.mk 0 0 0 0 ⟨#[]⟩ ts):=by
 obtain ⟨n,h⟩:=h
 obtain ⟨a,m,c,rfl⟩:=hv
 obtain ⟨s,ts,e,hT,_⟩:=(jBJ hTT n).1 _ _ h
 exact ⟨s,ts,e,(hT 0 0 0 0 ⟨#[]⟩).lt.mono (fun b hb=>hb.2)⟩
end
theorem jBL:TreeTypes prog 22 49 :=
 ⟨3,47,9,_,_,_,_,_,_,underlying22,underlying49,by kernel_rfl,⟨rfl,rfl,rfl,rfl,rfl,rfl⟩,⟨rfl,rfl,rfl,rfl,rfl,rfl⟩,underlying3,underlying47,underlying9,by kernel_rfl,by kernel_rfl,by kernel_rfl,by kernel_rfl⟩
section
variable {H:Type} {enc:TypeId×Value→H} {P:Program} {W:World} {base:Nat} {sp:Nat→Bool} {held:Bool}
theorem row_lt {a:Addr} {v:Value} {vs:List Value} (h:Row W a (v :: vs)):a.block<W.heap.size:=by
 have:=h 0 (by simp);have:=World.block_lt_of_cell? W (a.add 0) this;rwa [jR] at this
theorem lX {α:Type} {tS e:TypeId} {sz:Nat} {f:α→List Value} (hS:P.underlying tS=some (.slice e)) (hc:P.cellsOf e=sz) (hf:∀a,∃v vs,f a=v :: vs) (x0:α)
  (hel:∀(n:Nat) (cs:List Value) (x:DataW H×List MemPlace),DataW.trod enc P W base sp held n e cs=some x→∃a,cs=f a) {n:Nat} {c:Value} {x:DataW H×List MemPlace} (h:DataW.trod enc P W base sp held n tS [c]=some x) :
  ∃s:Sl,∃xs:List α,c=s.v∧Lst (fun b=>b<W.heap.size) W sz s (xs.map f):=by
 cases n with
 | zero=>cases h
 | succ n =>
  rcases uN hS h with rfl | ⟨a,len,cap,rfl,hle,hcm,hall⟩
  ·exact ⟨Sl.nil,[],rfl,⟨rfl,fun i hi=>by simp at hi⟩⟩
  ·rw [hc] at hall
   have hex:∀i,∃q:α,i<len→Row W (a.add (i*sz)) (f q):=by
    intro i;by_cases hi:i<len
    ·obtain ⟨cs,y,h1,h2⟩:=hall i hi;obtain ⟨q,rfl⟩:=hel n cs y h2;exact ⟨q,fun _=>(oB h1).2⟩
    ·exact ⟨x0,fun h=>absurd h hi⟩
   obtain ⟨q,hq⟩:=Classical.axiomOfChoice hex
   refine ⟨⟨some a,len,cap⟩,(List.range len).map q,rfl,⟨by simp,fun i hi=>?_⟩⟩
   have hi:i<len:=by simpa using hi
   have hr:=hq i hi
   obtain ⟨v,vs,e⟩:=hf (q i)
   refine ⟨a.add (i*sz),⟨by omega,by simpa using hi,a,rfl,by simp⟩,?_,by simpa using hr⟩
   rw [e] at hr;exact row_lt hr
theorem xS {tS e:TypeId} (hS:P.underlying tS=some (.slice e)) (he:P.underlying e=some (.int .i64)) (hc:P.cellsOf e=1) {n:Nat} {c:Value} {x:DataW H×List MemPlace} (h:DataW.trod enc P W base sp held n tS [c]=some x) :
  ∃s:Sl,∃ts:List Int,c=s.v∧Lst (fun b=>b<W.heap.size) W 1 s (tmr ts):=by
 have:=lX (f:=fun t:Int=>[Value.int .i64 t]) hS hc (fun a=>⟨_,_,rfl⟩) 0 (fun n cs x h=>?_) h
 ·exact this
 ·cases n with
  | zero=>cases h
  | succ n =>
   rw [DataW.trod_step] at h
   unfold DataW.trodStep at h
   rw [he] at h
   cases cs with
   | nil=>simp at h
   | cons c l =>
    cases l with
    | cons c2 l2=>cases c <;> simp at h
    | nil =>
     cases c <;> simp at h
     obtain ⟨⟨rfl,_⟩,_⟩:=h
     exact ⟨_,rfl⟩
end
section
variable {H:Type} {enc:TypeId×Value→H} {W:World} {base:Nat} {sp:Nat→Bool} {held:Bool}
theorem jDF {n:Nat} {c:Value} {x:DataW H×List MemPlace} (h:DataW.trod enc prog W base sp held n 52 [c]=some x):∃s:Sl,∃ts:List Int,c=s.v∧Lst (fun b=>b<W.heap.size) W 1 s (tmr ts) :=
 xS underlying52 underlying30 (by kernel_rfl) h
end
end Go.Proofs
end
