import Derived.Test.YtkafbiknboamlaaGreatDoorProg
import Derived.KernelRfl
import Derived.Test.YtkafbiknboamlaaGreatDoorPa2
import Derived.Test.YtkafbiknboamlaaGreatDoorPa3
section
open Go Go.SE
open Go.IntKind renaming i64 → q6
namespace Go.Proofs
open Tryz
set_option maxRecDepth 100000
set_option maxHeartbeats 4000000
attribute [local irreducible] wpL wpX opE wpE Calls
def m_J3  (w0:World) (K:(Array Value)→WP):Prop :=∀p1 w1,New w0 (.cells #[(vb false),(vb false),(vb false),ve,(vb false),(vb false),(vb false),ve,(vb false),(vb false),(vb false),ve,(vb false),(vb false),(vb false),ve,(vb false),(vb false),(vb false),ve,(vb false),(vb false),(vb false),ve,(vb false),(vb false),(vb false),ve,(vb false),(vb false),(vb false),ve] 121) p1 w1→(∀j,j<32→zT w1 (p1.add j))∧∀w2,w2=storeRow w1 p1 [(vb false),(vb false),(vb false),ve,(vb true),(vb true),(vb true),(vs (⟨#[112,114,111,109,105,115,101]⟩:ByteArray)),(vb true),(vb true),(vb false),(vs (⟨#[115,105,103,110]⟩:ByteArray)),(vb false),(vb false),(vb false),(vs (⟨#[97,98,111,114,116]⟩:ByteArray)),(vb true),(vb true),(vb true),(vs (⟨#[114,101,115,111,108,118,101]⟩:ByteArray)),(vb false),(vb false),(vb false),(vs (⟨#[116,111,107,101,110]⟩:ByteArray)),(vb false),(vb true),(vb false),(vs (⟨#[105,110,115,116,101,97,100]⟩:ByteArray)),(vb false),(vb false),(vb false),(vs (⟨#[102,117,108,108]⟩:ByteArray))]→∃cT:Array Value,(cT.size=32∧Row w2 p1 cT.toList)∧K cT w2
theorem w_J3  (w0:World) (K:(Array Value)→WP) (h:m_J3  w0 K) :
  Calls prog 73 #[] w0 (fun e w'=>∃r1:Array Value,e=.returned (.agg r1)∧K r1 w'):=by
 refine cw (args:=[]) func73 ntmps73 (eg (sn (O:=(.cells #[(vb false),(vb false),(vb false),ve,(vb false),(vb false),(vb false),ve,(vb false),(vb false),(vb false),ve,(vb false),(vb false),(vb false),ve,(vb false),(vb false),(vb false),ve,(vb false),(vb false),(vb false),ve,(vb false),(vb false),(vb false),ve,(vb false),(vb false),(vb false),ve] 121)) (zI (zeroValue121 _) rfl) ?_))
 intro p1 w1 hn2
 have h:=h p1 w1 hn2
 refine ln (eg (qd (qd (sro (sizeOf121 _) h fun w2 h=>ln (er ?_)))))
 obtain ⟨cT,hv1,h⟩:=h
 refine gg1 results73 (RV.cellAr (A:=p1) (vs:=cT) (by kernel_rfl) (isAgg121 _) (sizeOf121 _) hv1) ⟨cT,rfl,h⟩
def m_P_j3 (aC:ByteArray) (aD:Bool) (a1:Addr) (x2:Bool) (w0:World) (H:NP) (w:World) (K:Int→WP):Prop :=Br x2 (K 110 w) (∃v1,w.cell? (a1.add 2)=some (vb v1)∧Br ((!v1) && aD) (∀H6 w6,Hst w0 H w H6 w6→K 110 w6) (Br (decide ((aC.size:Int)>64)) (∀H6 w6,Hst w0 H w H6 w6→K 1 w6) (∀H6 w6,Hst w0 H w H6 w6→K 0 w6)))
def m_P_j2 (aC:ByteArray) (aD:Bool) (a1:Addr) (x1:Bool) (w0:World) (H:NP) (w:World) (K:Int→WP):Prop :=Br x1 (K 110 w) (∃v2,w.cell? (a1.add 1)=some (vb v2)∧∀H7 w7,Hst w0 H w H7 w7→m_P_j3 aC aD a1 ((!v2) && (!(decide (aC=⟨#[]⟩)))) w0 H7 w7 K)
def m_P_j1 (aB:Int) (aC:ByteArray) (aD:Bool) (a1:Addr) (w0:World) (H:NP) (w:World) (K:Int→WP):Prop :=Br ((aB != 0) && (aB != 1)) (∀H4 w4,Hst w0 H w H4 w4→K 110 w4) (∀H4 w4,Hst w0 H w H4 w4→∃v3,w4.cell? a1=some (vb v3)∧∀H8 w8,Hst w0 H4 w4 H8 w8→m_P_j2 aC aD a1 ((!v3) && (aB != 0)) w0 H8 w8 K)
def m_P (aA aB aE:Int) (aC:ByteArray) (aD:Bool) (w0:World) (K:Int→WP):Prop :=Br ((decide (aA<1)) || (decide (aA>7))) (∀H2 w2,Hst w0 None w0 H2 w2→K 110 w2) (∀H2 w2,Hst w0 None w0 H2 w2→∃C1:WP,C1 w2.drew∧∀w9,w9=w2.drew→(Calls prog 73 #[] w9 (fun e w10=>∃r1:Array Value,e=.returned (.agg r1)∧C1 w10∧Kept H2 w9 w10∧∃efrom1 etext1 efake1 eword1,(∀w',C1 w'→(Instr.index 121 (.agg r1) (vi aA)).run prog w'=.ok (.agg #[(vb efrom1),(vb etext1),(vb efake1),(vs eword1)]) w')∧∀p2 w11,New w10 (.cells #[(vb false),(vb false),(vb false),ve] 120) p2 w11→C1 w11∧(∀j,j<4→zT w11 (p2.add j))∧¬ H2 p2.block∧∀w12,w12=storeRow w11 p2 [(vb efrom1),(vb etext1),(vb efake1),(vs eword1)]→m_P_j1 aB aC aD p2 w0 H2 w12 K))∧(∀p3 w13,New w9 (.cells #[(vb false),(vb false),(vb false),ve] 120) p3 w13→C1 w13∧Calls prog 73 #[] w13 (fun e w14=>∃r2:Array Value,e=.returned (.agg r2)∧C1 w14∧Kept H2 w13 w14∧∃efrom2 etext2 efake2 eword2,(∀w',C1 w'→(Instr.index 121 (.agg r2) (vi aA)).run prog w'=.ok (.agg #[(vb efrom2),(vb etext2),(vb efake2),(vs eword2)]) w')∧(∀j,j<4→zT w14 (p3.add j))∧¬ H2 p3.block∧∀w15,w15=storeRow w14 p3 [(vb efrom2),(vb etext2),(vb efake2),(vs eword2)]→m_P_j1 aB aC aD p3 w0 H2 w15 K)))
theorem w_P (aA aB aE aC aD w0 K) (h:m_P aA aB aE aC aD w0 K):
  Calls prog 31 #[(.agg #[(vi aA),(vi aB),(vu aE),(vs aC),(vb aD)])] w0 (fun e w'=>∃r3,e=.returned (vi r3)∧K r3 w'):=by
 refine cw (args:=[(Af aA aB aE aC aD)]) func31 ntmps31 ?_
 obtain ⟨hs,hb⟩:=st0 w0
 refine eg (nw3 (Ab aA aB aE aC aD) 56 hs hb xb fun p1 w1 H1 hs hb=>q (ln (zB (zB (vJ (fun ρ wJ=>∃b1'0:Bool,∃HJ:NP,((decide (aA<1))=b1'0)∧Hst w0 None w0 HJ wJ∧HB HJ wJ [(p1,(Ab aA aB aE aC aD),56)]∧Has ρ [(1,(vp (some p1))),(11,(vb (b1'0 || (decide (aA>7)))))]) ?_ ?_)))))
 refine rg (q (q3 (xl (isAgg3 _) (hb.d0 0 gZ)) (qb ?_)))
 rcases bte (decide (aA<1)) with hg2 | hg2
 refine sj3 7 hg2 (q2 (vb true) (xT hg2) (ln ⟨true,_,hg2,hs,hb,hm⟩))
 refine qk 7 hg2 (q4 7 hg2 (xl (isAgg3 _) (hb.d0 0 gZ)) (qk 7 hg2 (q2 (vb (decide (aA>7))) (xF hg2) (ln ⟨false,_,hg2,hs,hb,hm⟩))))
 rintro ρ w2 ⟨b1'0,H2,he0,hs,hb,hH⟩
 subst he0
 refine zW hH (zN (cbr h ?_ ?_))<;>intro h
 refine eg (q (ln (er (vA ?_))))
 have ⟨h,hs⟩:=hs.hr (h H2 w2)
 refine rs1 results31 ⟨110,rfl,h⟩
 refine zD (zN (zB (zY (fun ρ w=>∃a1:Addr,∃H:NP,Has ρ [(1,(vp (some p1))),(3,(vp (some a1)))]∧Hst w0 H w H w∧HB H w [(p1,(Ab aA aB aE aC aD),56)]∧m_P_j1 aB aC aD a1 w0 H w K) ?_ ?_)))
 rintro ρ w ⟨a1,H,hH,hs,hb,h⟩
 refine zQ hH (zB (zL (zB (zB (vJ (fun ρ wJ=>∃HJ:NP,Hst w0 H w HJ wJ∧HB HJ wJ [(p1,(Ab aA aB aE aC aD),56)]∧Has ρ [(1,(vp (some p1))),(3,(vp (some a1))),(16,(vb ((aB != 0) && (aB != 1))))]) ?_ ?_)))))
 refine rg (q (q3 (xl (isAgg3 _) (hb.d 0 1 gZ)) (qb (zK 4 (fun ρ wJ=>∃b4'0:Bool,∃HJ:NP,((aB != 0)=b4'0)∧Hst w0 H w HJ wJ∧HB HJ wJ [(p1,(Ab aA aB aE aC aD),56)]∧Has ρ [(1,(vp (some p1))),(3,(vp (some a1))),(24,(vb (b4'0 && (aB != 1))))]) ?_ ?_))))
 rintro ρ w5 ⟨b4'0,H5,he0,hs,hb,hH⟩
 subst he0
 refine zP hH (q (ln ⟨_,hs,hb,hm⟩))
 rcases bte (aB != 0) with hg6 | hg6
 refine qk 20 hg6 (q4 20 hg6 (xl (isAgg3 _) (hb.d 0 1 gZ)) (qk 20 hg6 (q2 (vb (aB != 1)) (xT hg6) (zC ⟨true,_,hg6,hs,hb,hm⟩))))
 refine sj3 20 hg6 (q2 (vb false) (xF hg6) (zC ⟨false,_,hg6,hs,hb,hm⟩))
 rintro ρ w4 ⟨H4,hs,hb,hH⟩
 refine zW hH (zN (cbr' h (fun hc2 h=>?_) (fun hc2 h=>?_)))
 refine zD (zN (tZ (t:=((aB != 0) && (aB != 1))) (by kernel_rfl) hc2 (eg (q0 (vi 110) (ln (er (yC (vA ?_))))))))
 have ⟨h,hs⟩:=hs.hr (h H4 w4)
 refine rs1 results31 ⟨110,rfl,h⟩
 refine zB (zY (fun ρ w=>∃x1,∃H:NP,Has ρ [(1,(vp (some p1))),(3,(vp (some a1))),(16,(vb x1))]∧Hst w0 H w H w∧HB H w [(p1,(Ab aA aB aE aC aD),56)]∧m_P_j2 aC aD a1 x1 w0 H w K) ?_ ?_)
 rintro ρ w ⟨x1,H,hH,hs,hb,h⟩
 refine zQ hH (cbr' h (fun hc3 h=>?_) (fun hc3 h=>?_))
 refine zD (zN (tZ (t:=x1) (by kernel_rfl) hc3 (eg (q0 (vi 110) (ln (er (yC (vA (rs1 results31 ⟨110,rfl,h⟩)))))))))
 refine zB (zY (fun ρ w=>∃x2,∃H:NP,Has ρ [(1,(vp (some p1))),(3,(vp (some a1))),(16,(vb x2))]∧Hst w0 H w H w∧HB H w [(p1,(Ab aA aB aE aC aD),56)]∧m_P_j3 aC aD a1 x2 w0 H w K) ?_ ?_)
 rintro ρ w ⟨x2,H,hH,hs,hb,h⟩
 refine zQ hH (cbr' h (fun hc4 h=>?_) (fun hc4 h=>?_))
 refine zD (zN (tZ (t:=x2) (by kernel_rfl) hc4 (eg (q0 (vi 110) (ln (er (yC (vA (rs1 results31 ⟨110,rfl,h⟩)))))))))
 refine rg (q (ql (isAgg4 _) h fun v1 h=>qb (zK 3 (fun ρ wJ=>∃b5'0:Bool,∃HJ:NP,((!v1)=b5'0)∧Hst w0 H w HJ wJ∧HB HJ wJ [(p1,(Ab aA aB aE aC aD),56)]∧Has ρ [(1,(vp (some p1))),(47,(vb (b5'0 && aD)))]) ?_ ?_)))
 rintro ρ w6 ⟨b5'0,H6,he0,hs,hb,hH⟩
 subst he0
 refine zP hH (q (ln (cbr h ?_ ?_)))<;>intro h
 refine eg (q (ln (er (yC (vA ?_)))))
 have ⟨h,hs⟩:=hs.hr (h H6 w6)
 refine rs1 results31 ⟨110,rfl,h⟩
 refine eg (q (q3 (xl (isAgg9 _) (hb.d 0 3 gZ)) (qc (ln (cbr h ?_ ?_)))))<;>intro h
 refine eg (q (ln (er (yC (vA ?_)))))
 have ⟨h,hs⟩:=hs.hr (h H6 w6)
 refine rs1 results31 ⟨1,rfl,h⟩
 refine zD (xE (zN (eg (q (ln (er ?_))))))
 have ⟨h,hs⟩:=hs.hr (h H6 w6)
 refine rs1 results31 ⟨0,rfl,h⟩
 rcases bte (!v1) with hg8 | hg8
 refine qk 44 hg8 (q4 44 hg8 (xl (isAgg4 _) (hb.d 0 4 gZ)) (q2 (vb aD) (xT hg8) (zC ⟨true,_,hg8,hs,hb,hm⟩)))
 refine sj2 44 hg8 (q2 (vb false) (xF hg8) (zC ⟨false,_,hg8,hs,hb,hm⟩))
 refine rg (q (ql (isAgg4 _) h fun v2 h=>qb (zK 4 (fun ρ wJ=>∃b6'0:Bool,∃HJ:NP,((!v2)=b6'0)∧Hst w0 H w HJ wJ∧HB HJ wJ [(p1,(Ab aA aB aE aC aD),56)]∧Has ρ [(1,(vp (some p1))),(3,(vp (some a1))),(40,(vb (b6'0 && (!(decide (aC=⟨#[]⟩))))))]) ?_ ?_)))
 rintro ρ w7 ⟨b6'0,H7,he0,hs,hb,hH⟩
 subst he0
 refine zP hH (q (zC ?_))
 have ⟨h,hs⟩:=hs.hr (h H7 w7)
 refine zN ⟨((!v2) && (!(decide (aC=⟨#[]⟩)))),H7,hm,hs,hb,h⟩
 rcases bte (!v2) with hg10 | hg10
 refine qk 36 hg10 (q4 36 hg10 (xl (isAgg9 _) (hb.d 0 3 gZ)) (stq (v:=(vb (!(decide (aC=⟨#[]⟩))))) (wy 36 hg10) (uO (by kernel_rfl) (by kernel_rfl)) (q2 (vb (!(decide (aC=⟨#[]⟩)))) (xT hg10) (zC ⟨true,_,hg10,hs,hb,hm⟩))))
 refine sj3 36 hg10 (q2 (vb false) (xF hg10) (zC ⟨false,_,hg10,hs,hb,hm⟩))
 refine rg (q ?_)
 have ⟨h,hs⟩:=hs.hr (h H4 w4)
 refine ql (isAgg4 _) h fun v3 h=>qb (zK 4 (fun ρ wJ=>∃b7'0:Bool,∃HJ:NP,((!v3)=b7'0)∧Hst w0 H4 w4 HJ wJ∧HB HJ wJ [(p1,(Ab aA aB aE aC aD),56)]∧Has ρ [(1,(vp (some p1))),(3,(vp (some a1))),(32,(vb (b7'0 && (aB != 0))))]) ?_ ?_)
 rintro ρ w8 ⟨b7'0,H8,he0,hs,hb,hH⟩
 subst he0
 refine zP hH (q (zC ?_))
 have ⟨h,hs⟩:=hs.hr (h H8 w8)
 refine zN ⟨((!v3) && (aB != 0)),H8,hm,hs,hb,h⟩
 rcases bte (!v3) with hg12 | hg12
 refine qk 28 hg12 (q4 28 hg12 (xl (isAgg3 _) (hb.d 0 1 gZ)) (qk 28 hg12 (q2 (vb (aB != 0)) (xT hg12) (zC ⟨true,_,hg12,hs,hb,hm⟩))))
 refine sj3 28 hg12 (q2 (vb false) (xF hg12) (zC ⟨false,_,hg12,hs,hb,hm⟩))
 have ⟨h,hs⟩:=hs.hr (h H2 w2)
 obtain ⟨C1,hC,h⟩:=h
 refine dr2 (fun x=>C1 x∧HB H2 x _) [0,4,5] [5] ⟨hC,hb.drew⟩ h hs hb fun w9 hs hb h=>?_
 have hs:=hs.here
 refine qx 1 (vp (some p1)) Kp1 (qz 2 (vi aA) Kp2 (fun w' hw'=>(xl (isAgg3 _) (hw'.2.cell0 0 gZ (by kernel_rfl)))) (jRE (k:=0) (k':=4) (by kernel_rfl) ?_ ?_))
 have h:=h.1
 refine slc Kp0 call73 (h.mono ?_)
 rintro e w10 ⟨r1,rfl,hC,hk,h⟩
 refine ⟨_,rfl,.inr ⟨hC,hb.kept hk⟩,?_⟩
 obtain ⟨hs,hb⟩:=hk.hh hs hb
 refine qg 3 ?_
 obtain ⟨efrom1,etext1,efake1,eword1,hv4,h⟩:=h
 refine sy (v:=(.agg #[(vb efrom1),(vb etext1),(vb efake1),(vs eword1)])) Kp3 (fun w' hw'=>(jAP (by kernel_rfl) (by kernel_rfl) (hv4 w' hw'.1))) (lg 4 (qL (O:=(.cells #[(vb false),(vb false),(vb false),ve] 120)) (fun p=>.pointer (some p)) Kp4 (zJ rfl) (by kernel_rfl) (zI (zeroValue120 _) rfl) ?_))
 intro p2 w11 hn3
 have h:=h p2 w11 hn3
 refine ⟨.inr ⟨h.1,hb.kept (Ext.new (F:=None) hn3).keptP⟩,?_⟩
 have h:=h.2
 obtain ⟨hs,hb⟩:=hs.nw hb hn3
 refine lg 5 ?_
 obtain ⟨hp1,hnh,h⟩:=h
 refine tP Kp5 (zJ rfl) (by kernel_rfl) (xo p2 [(vb efrom1),(vb etext1),(vb efake1),(vs eword1)] (sizeOf120 _) hp1) ?_
 intro w12 hn2
 have h:=h w12 hn2
 refine ⟨.inl (by kernel_rfl),?_⟩
 have hk:Kept H2 w11 w12:=by rw [hn2];exact Kept.storeRow hnh
 obtain ⟨hs,hb⟩:=hk.hh hs hb
 refine wn (zN ⟨p2,H2,hm,hs,hb,h⟩)
 have h:=h.2
 refine qL (O:=(.cells #[(vb false),(vb false),(vb false),ve] 120)) (fun p=>.pointer (some p)) Kp4 (zJ rfl) (by kernel_rfl) (zI (zeroValue120 _) rfl) ?_
 intro p3 w13 hn5
 have h:=h p3 w13 hn5
 refine ⟨.inr ⟨h.1,hb.kept (Ext.new (F:=None) hn5).keptP⟩,?_⟩
 have h:=h.2
 obtain ⟨hs,hb⟩:=hs.nw hb hn5
 refine lg 0 (slc Kp0 call73 (h.mono ?_))
 rintro e w14 ⟨r2,rfl,hC,hk,h⟩
 refine ⟨_,rfl,.inr ⟨hC,hb.kept hk⟩,?_⟩
 obtain ⟨hs,hb⟩:=hk.hh hs hb
 refine qg 3 ?_
 obtain ⟨efrom2,etext2,efake2,eword2,hv5,h⟩:=h
 refine sy (v:=(.agg #[(vb efrom2),(vb etext2),(vb efake2),(vs eword2)])) Kp3 (fun w' hw'=>(jAP (by kernel_rfl) (by kernel_rfl) (hv5 w' hw'.1))) (lg 5 ?_)
 obtain ⟨hp2,hnh,h⟩:=h
 refine tP Kp5 (zJ rfl) (by kernel_rfl) (xo p3 [(vb efrom2),(vb etext2),(vb efake2),(vs eword2)] (sizeOf120 _) hp2) ?_
 intro w15 hn4
 have h:=h w15 hn4
 refine ⟨.inl (by kernel_rfl),?_⟩
 have hk:Kept H2 w14 w15:=by rw [hn4];exact Kept.storeRow hnh
 obtain ⟨hs,hb⟩:=hk.hh hs hb
 refine wn (zN ⟨p3,H2,hm,hs,hb,h⟩)
def s_X (s1:ByteArray):Int×Int×Int×Int×ByteArray×Sl :=(3,0,0,0,s1,Sl.nil)
theorem pw_X (s1:ByteArray) (w0:World) :
  Calls prog 128 #[(vs s1)] w0 (fun e w'=>(e=.returned (.agg #[(vi 3),(vi 0),(vi 0),(vu 0),(vs s1),Sl.nil.v]))∧Pure w0 w'):=by
 refine cw (args:=[(vs s1)]) func128 ntmps128 ?_
 obtain ⟨hs,hb⟩:=st0 w0
 refine eg (nw3 [(vi 0),(vi 0),(vi 0),(vu 0),ve,Sl.nil.v] 28 hs hb (zI (zeroValue28 _) rfl) fun p1 w1 H1 hs hb=>ln (eg (qb (yK (zJ rfl) (xo p1 [(vi 3),(vi 0),(vi 0),(vu 0),(vs s1),Sl.nil.v] (sizeOf28 _) (hb.k0 0 6 gZ)) ?_))))
 intro w2 hn2
 obtain ⟨hs,hb⟩:=hb.st1 0 hs hn2 gZ
 refine ln (er (jDY (.inl rfl) (vs:=[(.agg #[(vi 3),(vi 0),(vi 0),(vu 0),(vs s1),Sl.nil.v])]) (v:=(.agg #[(vi 3),(vi 0),(vi 0),(vu 0),(vs s1),Sl.nil.v])) results128 ⟨(rva (isAgg28 _) (sizeOf28 _) (hb.r0 0 6 gZ)),trivial⟩ (by kernel_rfl) ⟨by kernel_rfl,(Ext.refl (F:=None) _).hst hs⟩))
theorem p_X (s1:ByteArray) (w0:World):Calls prog 128 #[(.string s1)] w0 (fun e w'=>e=.returned (.agg #[(.int .i64 (s_X s1).1),(.int .i64 (s_X s1).2.1),(.int .i64 (s_X s1).2.2.1),(.int .u64 (s_X s1).2.2.2.1),(.string (s_X s1).2.2.2.2.1),(s_X s1).2.2.2.2.2.v])∧Pure w0 w'):=pw_X s1 w0
def s_B1 (n1:Int):Int×Int×Int×Int×ByteArray×Sl :=(2,0,0,n1,⟨#[]⟩,Sl.nil)
theorem pw_B1 (n1:Int) (w0:World) :
  Calls prog 129 #[(vu n1)] w0 (fun e w'=>(e=.returned (.agg #[(vi 2),(vi 0),(vi 0),(vu n1),ve,Sl.nil.v]))∧Pure w0 w'):=by
 refine cw (args:=[(vu n1)]) func129 ntmps129 ?_
 obtain ⟨hs,hb⟩:=st0 w0
 refine eg (nw3 [(vi 0),(vi 0),(vi 0),(vu 0),ve,Sl.nil.v] 28 hs hb (zI (zeroValue28 _) rfl) fun p1 w1 H1 hs hb=>ln (eg (qb (yK (zJ rfl) (xo p1 [(vi 2),(vi 0),(vi 0),(vu n1),ve,Sl.nil.v] (sizeOf28 _) (hb.k0 0 6 gZ)) ?_))))
 intro w2 hn2
 obtain ⟨hs,hb⟩:=hb.st1 0 hs hn2 gZ
 refine ln (er (jDY (.inl rfl) (vs:=[(.agg #[(vi 2),(vi 0),(vi 0),(vu n1),ve,Sl.nil.v])]) (v:=(.agg #[(vi 2),(vi 0),(vi 0),(vu n1),ve,Sl.nil.v])) results129 ⟨(rva (isAgg28 _) (sizeOf28 _) (hb.r0 0 6 gZ)),trivial⟩ (by kernel_rfl) ⟨by kernel_rfl,(Ext.refl (F:=None) _).hst hs⟩))
theorem p_B1 (n1:Int) (w0:World):Calls prog 129 #[(.int .u64 n1)] w0 (fun e w'=>e=.returned (.agg #[(.int .i64 (s_B1 n1).1),(.int .i64 (s_B1 n1).2.1),(.int .i64 (s_B1 n1).2.2.1),(.int .u64 (s_B1 n1).2.2.2.1),(.string (s_B1 n1).2.2.2.2.1),(s_B1 n1).2.2.2.2.2.v])∧Pure w0 w'):=pw_B1 n1 w0
def m_K3 (aL aM:Int) (aN aO:Int) (aP:ByteArray) (aQ:Sl) (bJ bK:Int) (bL bM:Int) (bN:ByteArray) (bO:Sl) (w0:World) (K:Int→Int→Int→Int→ByteArray→Sl→WP):Prop :=∀H3 w3,Hst w0 None w0 H3 w3→∀p4 w4,New w3 (.cells #[(vi aL),(vi aM),(vi aN),(vu aO),(vs aP),aQ.v,(vi bJ),(vi bK),(vi bL),(vu bM),(vs bN),bO.v] 28) p4 w4→∀w5,Hst w0 H3 w4 H3 w5→K 4 0 0 0 ⟨#[]⟩ (Sl.mk (some p4) 2 2) w5
theorem w_K3 (aL aM aN aO aP aQ bJ bK bL bM bN bO w0 K) (h:m_K3 aL aM aN aO aP aQ bJ bK bL bM bN bO w0 K):
  Calls prog 127 #[(.agg #[(vi aL),(vi aM),(vi aN),(vu aO),(vs aP),aQ.v]),(.agg #[(vi bJ),(vi bK),(vi bL),(vu bM),(vs bN),bO.v])] w0 (fun e w'=>∃aF aG aH aI aJ aK,e=.returned (Aa aF aG aH aI aJ aK)∧K aF aG aH aI aJ aK w'):=by
 refine cw (args:=[(Aa aL aM aN aO aP aQ),(Aa bJ bK bL bM bN bO)]) func127 ntmps127 ?_
 obtain ⟨hs,hb⟩:=st0 w0
 refine eg (nw3 (Ad aL aM aN aO aP aQ) 28 hs hb xb fun p1 w1 H1 hs hb=>nw3 (Ad bJ bK bL bM bN bO) 28 hs hb xb fun p2 w2 H2 hs hb=>nw3 [(vi 0),(vi 0),(vi 0),(vu 0),ve,Sl.nil.v] 28 hs hb (zI (zeroValue28 _) rfl) fun p3 w3 H3 hs hb=>ln (eg (q2 (Aa aL aM aN aO aP aQ) (xa p1 (Ad aL aM aN aO aP aQ) (isAgg28 _) (sizeOf28 _) (hb.r0 2 6 (gS (gS gZ)))) (q2 (Aa bJ bK bL bM bN bO) (xa p2 (Ad bJ bK bL bM bN bO) (isAgg28 _) (sizeOf28 _) (hb.r0 1 6 (gS gZ))) ?_))))
 have ⟨h,hs⟩:=hs.hr (h H3 w3)
 refine nw5 (fun p=>(Sl.mk (some p) 2 2).v) hs hb h fun p4 w4 hs hb h=>q (yK (zJ rfl) (xo p3 [(vi 4),(vi 0),(vi 0),(vu 0),ve,(Sl.mk (some p4) 2 2).v] (sizeOf28 _) (hb.k0 0 6 gZ)) ?_)
 intro w5 hn4
 obtain ⟨hs,hb⟩:=hb.st1 0 hs hn4 gZ
 refine ln (er ?_)
 have ⟨h,hs⟩:=hs.hr (h w5)
 refine jDY (.inl rfl) (vs:=[(.agg #[(vi 4),(vi 0),(vi 0),(vu 0),ve,(Sl.mk (some p4) 2 2).v])]) (v:=(.agg #[(vi 4),(vi 0),(vi 0),(vu 0),ve,(Sl.mk (some p4) 2 2).v])) results127 ⟨(rva (isAgg28 _) (sizeOf28 _) (hb.r0 0 6 gZ)),trivial⟩ (by kernel_rfl) ⟨4,0,0,0,⟨#[]⟩,(Sl.mk (some p4) 2 2),rfl,h⟩
def m_L3 (c1:Int) (text1:ByteArray) (w0:World) (K:Int→Int→Int→Int→ByteArray→Sl→WP):Prop :=∀H1 w4,Hst w0 None w0 H1 w4→Calls prog 127 #[(.agg #[(vi 2),(vi 0),(vi 0),(vu c1),ve,Sl.nil.v]),(.agg #[(vi 3),(vi 0),(vi 0),(vu 0),(vs text1),Sl.nil.v])] w4 (fun e w5=>∃aF aG aH aI aJ aK,e=.returned (Aa aF aG aH aI aJ aK)∧Kept H1 w4 w5∧Calls prog 127 #[(.agg #[(vi 3),(vi 0),(vi 0),(vu 0),(vs (⟨#[100,101,97,108]⟩:ByteArray)),Sl.nil.v]),(.agg #[(vi aF),(vi aG),(vi aH),(vu aI),(vs aJ),aK.v])] w5 (fun e w6=>∃aR aS aT aU aV aW,e=.returned (Aa aR aS aT aU aV aW)∧Kept H1 w5 w6∧∀w7,Hst w0 H1 w6 H1 w7→K aR aS aT aU aV aW w7))
theorem w_L3 (c1 text1 w0 K) (h:m_L3 c1 text1 w0 K):
  Calls prog 93 #[(vu c1),(vs text1)] w0 (fun e w'=>∃aX aY aZ bA bB bC,e=.returned (Aa aX aY aZ bA bB bC)∧K aX aY aZ bA bB bC w'):=by
 refine cw (args:=[(vu c1),(vs text1)]) func93 ntmps93 ?_
 obtain ⟨hs,hb⟩:=st0 w0
 refine eg (nw3 [(vi 0),(vi 0),(vi 0),(vu 0),ve,Sl.nil.v] 28 hs hb (zI (zeroValue28 _) rfl) fun p1 w1 H1 hs hb=>ln (eg (sc call128 ((p_X (⟨#[100,101,97,108]⟩:ByteArray) w1).mono ?_))))
 rintro e w2 ⟨he,hE⟩
 refine ⟨_,he,?_⟩
 obtain ⟨hs,hb⟩:=hs.pp hb hE
 refine q (sc call129 ((p_B1 c1 w2).mono ?_))
 rintro e w3 ⟨he,hE⟩
 refine ⟨_,he,?_⟩
 obtain ⟨hs,hb⟩:=hs.pp hb hE
 refine q (sc call128 ((p_X text1 w3).mono ?_))
 rintro e w4 ⟨he,hE⟩
 refine ⟨_,he,?_⟩
 obtain ⟨hs,hb⟩:=hs.pp hb hE
 have ⟨h,hs⟩:=hs.hr (h H1 w4)
 refine sc call127 (h.mono fun e w5 ⟨aF,aG,aH,aI,aJ,aK,k,hk,h⟩=>have ⟨hs,hb⟩:=hk.hh hs hb;⟨_,k,?_⟩)
 refine sc call127 (h.mono fun e w6 ⟨aR,aS,aT,aU,aV,aW,k,hk,h⟩=>have ⟨hs,hb⟩:=hk.hh hs hb;⟨_,k,?_⟩)
 refine sbx 0 (Ad aR aS aT aU aV aW) (sizeOf28 _) hs hb gZ fun w7 hs hb=>ln (er ?_)
 have ⟨h,hs⟩:=hs.hr (h w7)
 refine jDY (.inl rfl) (vs:=[(Aa aR aS aT aU aV aW)]) (v:=(Aa aR aS aT aU aV aW)) results93 ⟨(rva (isAgg28 _) (sizeOf28 _) (hb.r0 0 6 gZ)),trivial⟩ (by kernel_rfl) ⟨aR,aS,aT,aU,aV,aW,rfl,h⟩
def m_M3 (from1:Int) (fake1:Bool) (bD bE:Int) (bF bG:Int) (bH:ByteArray) (bI:Sl) (w0:World) (K:Int→Int→Int→Int→ByteArray→Sl→WP):Prop :=∀H3 w3,Hst w0 None w0 H3 w3→∀p3 w4,New w3 (.cells #[(vi bD),(vi bE),(vi bF),(vu bG),(vs bH),bI.v] 28) p3 w4→∀w5,Hst w0 H3 w4 H3 w5→K (cond fake1 9 8) from1 (q6.wrap (1 - from1)) 0 ⟨#[]⟩ (Sl.mk (some p3) 1 1) w5
theorem w_M3 (from1 fake1 bD bE bF bG bH bI w0 K) (h:m_M3 from1 fake1 bD bE bF bG bH bI w0 K):
  Calls prog 125 #[(vi from1),(vb fake1),(.agg #[(vi bD),(vi bE),(vi bF),(vu bG),(vs bH),bI.v])] w0 (fun e w'=>∃aF aG aH aI aJ aK,e=.returned (Aa aF aG aH aI aJ aK)∧K aF aG aH aI aJ aK w'):=by
 refine cw (args:=[(vi from1),(vb fake1),(Aa bD bE bF bG bH bI)]) func125 ntmps125 ?_
 obtain ⟨hs,hb⟩:=st0 w0
 refine eg (nw3 (Ad bD bE bF bG bH bI) 28 hs hb xb fun p1 w1 H1 hs hb=>nw3 [(vi 0),(vi 0),(vi 0),(vu 0),ve,Sl.nil.v] 28 hs hb (zI (zeroValue28 _) rfl) fun p2 w2 H2 hs hb=>ln (eg (q (ln (zB (eg (q (zC (zN (vJ (fun ρ wJ=>∃b1'0:Bool,∃HJ:NP,(fake1=b1'0)∧Hst w0 None w0 HJ wJ∧HB HJ wJ [(p2,[(vi 0),(vi 0),(vi 0),(vu 0),ve,Sl.nil.v],28),(p1,(Ad bD bE bF bG bH bI),28)]∧Has ρ [(0,(vi from1)),(5,(vp (some p1))),(6,(vp (some p2))),(7,(vi (cond b1'0 9 8)))]) ?_ ?_))))))))))
 refine vI (t:=fake1) (by kernel_rfl) (fun hc2=>?_) (fun hc2=>?_)
 refine rg (q (ln ⟨true,_,hc2,hs,hb,hm⟩))
 refine zD (zN ⟨false,_,hc2,hs,hb,hm⟩)
 rintro ρ w3 ⟨b1'0,H3,he0,hs,hb,hH⟩
 subst he0
 refine zW hH (zN (eg (qd (q2 (Aa bD bE bF bG bH bI) (xa p1 (Ad bD bE bF bG bH bI) (isAgg28 _) (sizeOf28 _) (hb.r0 1 6 (gS gZ))) ?_))))
 have ⟨h,hs⟩:=hs.hr (h H3 w3)
 refine nw5 (fun p=>(Sl.mk (some p) 1 1).v) hs hb h fun p3 w4 hs hb h=>q (yK (zJ rfl) (xo p2 [(vi (cond fake1 9 8)),(vi from1),(vi (q6.wrap (1 - from1))),(vu 0),ve,(Sl.mk (some p3) 1 1).v] (sizeOf28 _) (hb.k0 0 6 gZ)) ?_)
 intro w5 hn3
 obtain ⟨hs,hb⟩:=hb.st1 0 hs hn3 gZ
 refine ln (er ?_)
 have ⟨h,hs⟩:=hs.hr (h w5)
 refine jDY (.inl rfl) (vs:=[(.agg #[(vi (cond fake1 9 8)),(vi from1),(vi (q6.wrap (1 - from1))),(vu 0),ve,(Sl.mk (some p3) 1 1).v])]) (v:=(.agg #[(vi (cond fake1 9 8)),(vi from1),(vi (q6.wrap (1 - from1))),(vu 0),ve,(Sl.mk (some p3) 1 1).v])) results125 ⟨(rva (isAgg28 _) (sizeOf28 _) (hb.r0 0 6 gZ)),trivial⟩ (by kernel_rfl) ⟨(cond fake1 9 8),from1,(q6.wrap (1 - from1)),0,⟨#[]⟩,(Sl.mk (some p3) 1 1),rfl,h⟩
def m_N3 (who1 aL:Int) (aM aN aO:Int) (aP:ByteArray) (aQ:Sl) (w0:World) (K:Int→Int→Int→Int→ByteArray→Sl→WP):Prop :=∀H2 w2,Hst w0 None w0 H2 w2→∀p3 w3,New w2 (.cells #[(vi aL),(vi aM),(vi aN),(vu aO),(vs aP),aQ.v] 28) p3 w3→∀w4,Hst w0 H2 w3 H2 w4→K 7 who1 0 0 ⟨#[]⟩ (Sl.mk (some p3) 1 1) w4
theorem w_N3 (who1 aL aM aN aO aP aQ w0 K) (h:m_N3 who1 aL aM aN aO aP aQ w0 K):
  Calls prog 126 #[(vi who1),(.agg #[(vi aL),(vi aM),(vi aN),(vu aO),(vs aP),aQ.v])] w0 (fun e w'=>∃aF aG aH aI aJ aK,e=.returned (Aa aF aG aH aI aJ aK)∧K aF aG aH aI aJ aK w'):=by
 refine cw (args:=[(vi who1),(Aa aL aM aN aO aP aQ)]) func126 ntmps126 ?_
 obtain ⟨hs,hb⟩:=st0 w0
 refine eg (nw3 (Ad aL aM aN aO aP aQ) 28 hs hb xb fun p1 w1 H1 hs hb=>nw3 [(vi 0),(vi 0),(vi 0),(vu 0),ve,Sl.nil.v] 28 hs hb (zI (zeroValue28 _) rfl) fun p2 w2 H2 hs hb=>ln (eg (q (q2 (Aa aL aM aN aO aP aQ) (xa p1 (Ad aL aM aN aO aP aQ) (isAgg28 _) (sizeOf28 _) (hb.r0 1 6 (gS gZ))) ?_))))
 have ⟨h,hs⟩:=hs.hr (h H2 w2)
 refine nw5 (fun p=>(Sl.mk (some p) 1 1).v) hs hb h fun p3 w3 hs hb h=>q (yK (zJ rfl) (xo p2 [(vi 7),(vi who1),(vi 0),(vu 0),ve,(Sl.mk (some p3) 1 1).v] (sizeOf28 _) (hb.k0 0 6 gZ)) ?_)
 intro w4 hn3
 obtain ⟨hs,hb⟩:=hb.st1 0 hs hn3 gZ
 refine ln (er ?_)
 have ⟨h,hs⟩:=hs.hr (h w4)
 refine jDY (.inl rfl) (vs:=[(.agg #[(vi 7),(vi who1),(vi 0),(vu 0),ve,(Sl.mk (some p3) 1 1).v])]) (v:=(.agg #[(vi 7),(vi who1),(vi 0),(vu 0),ve,(Sl.mk (some p3) 1 1).v])) results126 ⟨(rva (isAgg28 _) (sizeOf28 _) (hb.r0 0 6 gZ)),trivial⟩ (by kernel_rfl) ⟨7,who1,0,0,⟨#[]⟩,(Sl.mk (some p3) 1 1),rfl,h⟩
def m_O3 (aA aB aE:Int) (aC:ByteArray) (aD:Bool) (w0:World) (K:Int→Int→Int→Int→ByteArray→Sl→WP):Prop :=∀H2 w2,Hst w0 None w0 H2 w2→Calls prog 93 #[(vu aE),(vs aC)] w2 (fun e w3=>∃aF aG aH aI aJ aK,e=.returned (Aa aF aG aH aI aJ aK)∧Kept H2 w2 w3∧Br (aA == 1) (∀H3 w5,Hst w0 H2 w3 H3 w5→Calls prog 125 #[(vi aB),(vb aD),(.agg #[(vi aF),(vi aG),(vi aH),(vu aI),(vs aJ),aK.v])] w5 (fun e w6=>∃aR aS aT aU aV aW,e=.returned (Aa aR aS aT aU aV aW)∧Kept H3 w5 w6∧∀w7,Hst w0 H3 w6 H3 w7→K aR aS aT aU aV aW w7)) (Br (aA == 2) (∀H3 w5,Hst w0 H2 w3 H3 w5→Calls prog 126 #[(vi aB),(.agg #[(vi aF),(vi aG),(vi aH),(vu aI),(vs aJ),aK.v])] w5 (fun e w8=>∃aX aY aZ bA bB bC,e=.returned (Aa aX aY aZ bA bB bC)∧Kept H3 w5 w8∧∀w9,Hst w0 H3 w8 H3 w9→K aX aY aZ bA bB bC w9)) (Br (aA == 3) (∀H3 w5,Hst w0 H2 w3 H3 w5→∃C1:WP,C1 w5.drew∧∀w10,w10=w5.drew→Calls prog 128 #[(vs (⟨#[97,98,111,114,116]⟩:ByteArray))] w10 (fun e w11=>∃cU cV cW cX cY cZ,e=.returned (Aa cU cV cW cX cY cZ)∧C1 w11∧Kept H3 w10 w11∧Calls prog 129 #[(vu aE)] w11 (fun e w12=>∃dA dB dC dD dE dF,e=.returned (Aa dA dB dC dD dE dF)∧Kept H3 w11 w12∧Calls prog 127 #[(.agg #[(vi cU),(vi cV),(vi cW),(vu cX),(vs cY),cZ.v]),(.agg #[(vi dA),(vi dB),(vi dC),(vu dD),(vs dE),dF.v])] w12 (fun e w13=>∃dG dH dI dJ dK dL,e=.returned (Aa dG dH dI dJ dK dL)∧Kept H3 w12 w13∧Calls prog 126 #[(vi 0),(.agg #[(vi dG),(vi dH),(vi dI),(vu dJ),(vs dK),dL.v])] w13 (fun e w14=>∃bP bQ bR bS bT bU,e=.returned (Aa bP bQ bR bS bT bU)∧Kept H3 w13 w14∧∀w15,Hst w0 H3 w14 H3 w15→K bP bQ bR bS bT bU w15))))) (Br (aA == 4) (∀H3 w5,Hst w0 H2 w3 H3 w5→∃C2:WP,C2 w5.drew∧∀w16,w16=w5.drew→Calls prog 128 #[(vs (⟨#[114,101,115,111,108,118,101]⟩:ByteArray))] w16 (fun e w17=>∃dM dN dO dP dQ dR,e=.returned (Aa dM dN dO dP dQ dR)∧C2 w17∧Kept H3 w16 w17∧Calls prog 125 #[(vi 0),(vb aD),(.agg #[(vi aF),(vi aG),(vi aH),(vu aI),(vs aJ),aK.v])] w17 (fun e w18=>∃dS dT dU dV dW dX,e=.returned (Aa dS dT dU dV dW dX)∧C2 w18∧Kept H3 w17 w18∧Calls prog 125 #[(vi 1),(vb aD),(.agg #[(vi aF),(vi aG),(vi aH),(vu aI),(vs aJ),aK.v])] w18 (fun e w19=>∃dY dZ eA eB eC eD,e=.returned (Aa dY dZ eA eB eC eD)∧C2 w19∧Kept H3 w18 w19∧Calls prog 127 #[(.agg #[(vi dS),(vi dT),(vi dU),(vu dV),(vs dW),dX.v]),(.agg #[(vi dY),(vi dZ),(vi eA),(vu eB),(vs eC),eD.v])] w19 (fun e w20=>∃eE eF eG eH eI eJ,e=.returned (Aa eE eF eG eH eI eJ)∧C2 w20∧Kept H3 w19 w20∧Calls prog 127 #[(.agg #[(vi dM),(vi dN),(vi dO),(vu dP),(vs dQ),dR.v]),(.agg #[(vi eE),(vi eF),(vi eG),(vu eH),(vs eI),eJ.v])] w20 (fun e w21=>∃eK eL eM eN eO eP,e=.returned (Aa eK eL eM eN eO eP)∧C2 w21∧Kept H3 w20 w21∧Calls prog 126 #[(vi aB),(.agg #[(vi eK),(vi eL),(vi eM),(vu eN),(vs eO),eP.v])] w21 (fun e w22=>∃bV bW bX bY bZ cA,e=.returned (Aa bV bW bX bY bZ cA)∧Kept H3 w21 w22∧∀w23,Hst w0 H3 w22 H3 w23→K bV bW bX bY bZ cA w23))))))) (Br (aA == 5) (∀H3 w5,Hst w0 H2 w3 H3 w5→∃C3:WP,C3 w5.drew∧∀w24,w24=w5.drew→Calls prog 128 #[(vs (⟨#[97,98,111,114,116,101,100]⟩:ByteArray))] w24 (fun e w25=>∃eQ eR eS eT eU eV,e=.returned (Aa eQ eR eS eT eU eV)∧C3 w25∧Kept H3 w24 w25∧Calls prog 129 #[(vu aE)] w25 (fun e w26=>∃eW eX eY eZ fA fB,e=.returned (Aa eW eX eY eZ fA fB)∧Kept H3 w25 w26∧Calls prog 127 #[(.agg #[(vi eQ),(vi eR),(vi eS),(vu eT),(vs eU),eV.v]),(.agg #[(vi eW),(vi eX),(vi eY),(vu eZ),(vs fA),fB.v])] w26 (fun e w27=>∃fC fD fE fF fG fH,e=.returned (Aa fC fD fE fF fG fH)∧Kept H3 w26 w27∧Calls prog 126 #[(vi 2),(.agg #[(vi fC),(vi fD),(vi fE),(vu fF),(vs fG),fH.v])] w27 (fun e w28=>∃cB cC cD cE cF cG,e=.returned (Aa cB cC cD cE cF cG)∧Kept H3 w27 w28∧∀w29,Hst w0 H3 w28 H3 w29→K cB cC cD cE cF cG w29))))) (Br (aA == 6) (∀H3 w5,Hst w0 H2 w3 H3 w5→∃C4:WP,C4 w5.drew∧∀w30,w30=w5.drew→Calls prog 128 #[(vs (⟨#[105,110,115,116,101,97,100]⟩:ByteArray))] w30 (fun e w31=>∃fI fJ fK fL fM fN,e=.returned (Aa fI fJ fK fL fM fN)∧C4 w31∧Kept H3 w30 w31∧Calls prog 127 #[(.agg #[(vi fI),(vi fJ),(vi fK),(vu fL),(vs fM),fN.v]),(.agg #[(vi aF),(vi aG),(vi aH),(vu aI),(vs aJ),aK.v])] w31 (fun e w32=>∃fO fP fQ fR fS fT,e=.returned (Aa fO fP fQ fR fS fT)∧Kept H3 w31 w32∧Calls prog 126 #[(vi 2),(.agg #[(vi fO),(vi fP),(vi fQ),(vu fR),(vs fS),fT.v])] w32 (fun e w33=>∃cH cI cJ cK cL cM,e=.returned (Aa cH cI cJ cK cL cM)∧Kept H3 w32 w33∧∀w34,Hst w0 H3 w33 H3 w34→K cH cI cJ cK cL cM w34)))) (∀H3 w5,Hst w0 H2 w3 H3 w5→∃C5:WP,C5 w5.drew∧∀w35,w35=w5.drew→Calls prog 128 #[(vs (⟨#[102,117,108,108]⟩:ByteArray))] w35 (fun e w36=>∃fU fV fW fX fY fZ,e=.returned (Aa fU fV fW fX fY fZ)∧C5 w36∧Kept H3 w35 w36∧Calls prog 129 #[(vu aE)] w36 (fun e w37=>∃gA gB gC gD gE gF,e=.returned (Aa gA gB gC gD gE gF)∧Kept H3 w36 w37∧Calls prog 127 #[(.agg #[(vi fU),(vi fV),(vi fW),(vu fX),(vs fY),fZ.v]),(.agg #[(vi gA),(vi gB),(vi gC),(vu gD),(vs gE),gF.v])] w37 (fun e w38=>∃cN cO cP cQ cR cS,e=.returned (Aa cN cO cP cQ cR cS)∧Kept H3 w37 w38∧∀w39,Hst w0 H3 w38 H3 w39→K cN cO cP cQ cR cS w39))))))))))
theorem w_O3 (aA aB aE aC aD w0 K) (h:m_O3 aA aB aE aC aD w0 K):
  Calls prog 70 #[(.agg #[(vi aA),(vi aB),(vu aE),(vs aC),(vb aD)])] w0 (fun e w'=>∃gG gH gI gJ gK gL,e=.returned (Aa gG gH gI gJ gK gL)∧K gG gH gI gJ gK gL w'):=by
 refine cw (args:=[(Af aA aB aE aC aD)]) func70 ntmps70 ?_
 obtain ⟨hs,hb⟩:=st0 w0
 refine eg (nw3 (Ab aA aB aE aC aD) 56 hs hb xb fun p1 w1 H1 hs hb=>nw3 [(vi 0),(vi 0),(vi 0),(vu 0),ve,Sl.nil.v] 28 hs hb (zI (zeroValue28 _) rfl) fun p2 w2 H2 hs hb=>ln (eg (q (q3 (xl (isAgg26 _) (hb.d 1 2 (gS gZ))) (q (q3 (xl (isAgg9 _) (hb.d 1 3 (gS gZ))) ?_))))))
 have ⟨h,hs⟩:=hs.hr (h H2 w2)
 refine sc call93 (h.mono fun e w3 ⟨aF,aG,aH,aI,aJ,aK,k,hk,h⟩=>have ⟨hs,hb⟩:=hk.hh hs hb;⟨_,k,?_⟩)
 refine nw3 [(vi 0),(vi 0),(vi 0),(vu 0),ve,Sl.nil.v] 28 hs hb (zI (zeroValue28 _) rfl) fun p3 w4 H3 hs hb=>sbx 0 (Ad aF aG aH aI aJ aK) (sizeOf28 _) hs hb gZ fun w5 hs hb=>ln (zB (eg (q (q3 (xl (isAgg3 _) (hb.d0 2 (gS (gS gZ)))) (ln (zL (eg (qb (ln (cbr h ?_ ?_))))))))))<;>intro h
 refine eg (q (q3 (xl (isAgg3 _) (hb.d 2 1 (gS (gS gZ)))) (q (q3 (xl (isAgg4 _) (hb.d 2 4 (gS (gS gZ)))) (q2 (Aa aF aG aH aI aJ aK) (xa p3 (Ad aF aG aH aI aJ aK) (isAgg28 _) (sizeOf28 _) (hb.r0 0 6 gZ)) ?_)))))
 have ⟨h,hs⟩:=hs.hr (h H3 w5)
 refine sc call125 (h.mono fun e w6 ⟨aR,aS,aT,aU,aV,aW,k,hk,h⟩=>have ⟨hs,hb⟩:=hk.hh hs hb;⟨_,k,?_⟩)
 refine sbx 1 (Ad aR aS aT aU aV aW) (sizeOf28 _) hs hb (gS gZ) fun w7 hs hb=>ln (er (yC (vA ?_)))
 have ⟨h,hs⟩:=hs.hr (h w7)
 refine jDY (.inl rfl) (vs:=[(Aa aR aS aT aU aV aW)]) (v:=(Aa aR aS aT aU aV aW)) results70 ⟨(rva (isAgg28 _) (sizeOf28 _) (hb.r0 1 6 (gS gZ))),trivial⟩ (by kernel_rfl) ⟨aR,aS,aT,aU,aV,aW,rfl,h⟩
 refine eg (qb (ln (cbr h ?_ ?_)))<;>intro h
 refine eg (q (q3 (xl (isAgg3 _) (hb.d 2 1 (gS (gS gZ)))) (q2 (Aa aF aG aH aI aJ aK) (xa p3 (Ad aF aG aH aI aJ aK) (isAgg28 _) (sizeOf28 _) (hb.r0 0 6 gZ)) ?_)))
 have ⟨h,hs⟩:=hs.hr (h H3 w5)
 refine sc call126 (h.mono fun e w8 ⟨aX,aY,aZ,bA,bB,bC,k,hk,h⟩=>have ⟨hs,hb⟩:=hk.hh hs hb;⟨_,k,?_⟩)
 refine sbx 1 (Ad aX aY aZ bA bB bC) (sizeOf28 _) hs hb (gS gZ) fun w9 hs hb=>ln (er (yC (vA ?_)))
 have ⟨h,hs⟩:=hs.hr (h w9)
 refine jDY (.inl rfl) (vs:=[(Aa aX aY aZ bA bB bC)]) (v:=(Aa aX aY aZ bA bB bC)) results70 ⟨(rva (isAgg28 _) (sizeOf28 _) (hb.r0 1 6 (gS gZ))),trivial⟩ (by kernel_rfl) ⟨aX,aY,aZ,bA,bB,bC,rfl,h⟩
 refine eg (qb (ln (cbr h ?_ ?_)))<;>intro h
 refine zB ?_
 have ⟨h,hs⟩:=hs.hr (h H3 w5)
 obtain ⟨C1,hC,h⟩:=h
 refine dr2 (fun x=>C1 x∧HB H3 x _) [0,3,4,5,6] [3,4,5,6] ⟨hC,hb.drew⟩ h hs hb fun w10 hs hb h=>?_
 have hs:=hs.here
 refine qx 1 (vp (some (p1.add 2))) Kp1 (qz 2 (vu aE) Kp2 (fun w' hw'=>(xl (isAgg26 _) (hw'.2.cell 2 2 (gS (gS gZ)) (by kernel_rfl)))) (lg 0 (slc Kp0 call128 (h.mono ?_))))
 rintro e w11 ⟨cU,cV,cW,cX,cY,cZ,rfl,hC,hk,h⟩
 refine ⟨_,rfl,.inr ⟨hC,hb.kept hk⟩,?_⟩
 obtain ⟨hs,hb⟩:=hk.hh hs hb
 refine lg 3 (slc Kp3 call129 (h.mono ?_))
 rintro e w12 ⟨dA,dB,dC,dD,dE,dF,rfl,hk,h⟩
 refine ⟨_,rfl,.inl (by kernel_rfl),?_⟩
 obtain ⟨hs,hb⟩:=hk.hh hs hb
 refine lg 4 (slc Kp4 call127 (h.mono ?_))
 rintro e w13 ⟨dG,dH,dI,dJ,dK,dL,rfl,hk,h⟩
 refine ⟨_,rfl,.inl (by kernel_rfl),?_⟩
 obtain ⟨hs,hb⟩:=hk.hh hs hb
 refine lg 5 (slc Kp5 call126 (h.mono ?_))
 rintro e w14 ⟨bP,bQ,bR,bS,bT,bU,rfl,hk,h⟩
 refine ⟨_,rfl,.inl (by kernel_rfl),?_⟩
 obtain ⟨hs,hb⟩:=hk.hh hs hb
 refine lg 6 (tP Kp6 (zJ rfl) (by kernel_rfl) (xo p2 (Ad bP bQ bR bS bT bU) (sizeOf28 _) (hb.k0 1 6 (gS gZ))) ?_)
 intro w15 hn7
 obtain ⟨hs,hb⟩:=hb.st1 1 hs hn7 (gS gZ)
 refine ⟨.inl (by kernel_rfl),?_⟩
 refine wn (zN (er (yC (vA ?_))))
 have ⟨h,hs⟩:=hs.hr (h w15)
 refine jDY (.inl rfl) (vs:=[(Aa bP bQ bR bS bT bU)]) (v:=(Aa bP bQ bR bS bT bU)) results70 ⟨(rva (isAgg28 _) (sizeOf28 _) (hb.r0 1 6 (gS gZ))),trivial⟩ (by kernel_rfl) ⟨bP,bQ,bR,bS,bT,bU,rfl,h⟩
 refine eg (qb (ln (cbr h ?_ ?_)))<;>intro h
 refine zB ?_
 have ⟨h,hs⟩:=hs.hr (h H3 w5)
 obtain ⟨C2,hC,h⟩:=h
 refine dr2 (fun x=>C2 x∧HB H3 x _) [2,6,10,11,12,13,14] [13,14] ⟨hC,hb.drew⟩ h hs hb fun w16 hs hb h=>?_
 have hs:=hs.here
 refine qx 0 (vp (some (p1.add 1))) Kp0 (qz 1 (vi aB) Kp1 (fun w' hw'=>(xl (isAgg3 _) (hw'.2.cell 2 1 (gS (gS gZ)) (by kernel_rfl)))) (qx 3 (vp (some (p1.add 4))) Kp3 (qz 4 (vb aD) Kp4 (fun w' hw'=>(xl (isAgg4 _) (hw'.2.cell 2 4 (gS (gS gZ)) (by kernel_rfl)))) (qz 5 (Aa aF aG aH aI aJ aK) Kp5 (fun w' hw'=>(xa p3 (Ad aF aG aH aI aJ aK) (isAgg28 _) (sizeOf28 _) (hw'.2.r0 0 6 gZ))) (qx 7 (vp (some (p1.add 4))) Kp7 (qz 8 (vb aD) Kp8 (fun w' hw'=>(xl (isAgg4 _) (hw'.2.cell 2 4 (gS (gS gZ)) (by kernel_rfl)))) (qz 9 (Aa aF aG aH aI aJ aK) Kp9 (fun w' hw'=>(xa p3 (Ad aF aG aH aI aJ aK) (isAgg28 _) (sizeOf28 _) (hw'.2.r0 0 6 gZ))) (lg 2 (slc Kp2 call128 (h.mono ?_))))))))))
 rintro e w17 ⟨dM,dN,dO,dP,dQ,dR,rfl,hC,hk,h⟩
 refine ⟨_,rfl,.inr ⟨hC,hb.kept hk⟩,?_⟩
 obtain ⟨hs,hb⟩:=hk.hh hs hb
 refine lg 6 (slc Kp6 call125 (h.mono ?_))
 rintro e w18 ⟨dS,dT,dU,dV,dW,dX,rfl,hC,hk,h⟩
 refine ⟨_,rfl,.inr ⟨hC,hb.kept hk⟩,?_⟩
 obtain ⟨hs,hb⟩:=hk.hh hs hb
 refine lg 10 (slc (zG (S8 (zA (zA zF)))) call125 (h.mono ?_))
 rintro e w19 ⟨dY,dZ,eA,eB,eC,eD,rfl,hC,hk,h⟩
 refine ⟨_,rfl,.inr ⟨hC,hb.kept hk⟩,?_⟩
 obtain ⟨hs,hb⟩:=hk.hh hs hb
 refine lg 11 (slc (zG (S8 (zA (zA (zA zF))))) call127 (h.mono ?_))
 rintro e w20 ⟨eE,eF,eG,eH,eI,eJ,rfl,hC,hk,h⟩
 refine ⟨_,rfl,.inr ⟨hC,hb.kept hk⟩,?_⟩
 obtain ⟨hs,hb⟩:=hk.hh hs hb
 refine lg 12 (slc (zG (S8 (S4 zF))) call127 (h.mono ?_))
 rintro e w21 ⟨eK,eL,eM,eN,eO,eP,rfl,hC,hk,h⟩
 refine ⟨_,rfl,.inr ⟨hC,hb.kept hk⟩,?_⟩
 obtain ⟨hs,hb⟩:=hk.hh hs hb
 refine lg 13 (slc (zG (S8 (S4 (zA zF)))) call126 (h.mono ?_))
 rintro e w22 ⟨bV,bW,bX,bY,bZ,cA,rfl,hk,h⟩
 refine ⟨_,rfl,.inl (by kernel_rfl),?_⟩
 obtain ⟨hs,hb⟩:=hk.hh hs hb
 refine lg 14 (tP (zG (S8 (S4 (zA (zA zF))))) (zJ rfl) (by kernel_rfl) (xo p2 (Ad bV bW bX bY bZ cA) (sizeOf28 _) (hb.k0 1 6 (gS gZ))) ?_)
 intro w23 hn8
 obtain ⟨hs,hb⟩:=hb.st1 1 hs hn8 (gS gZ)
 refine ⟨.inl (by kernel_rfl),?_⟩
 refine wn (zN (er (yC (vA ?_))))
 have ⟨h,hs⟩:=hs.hr (h w23)
 refine jDY (.inl rfl) (vs:=[(Aa bV bW bX bY bZ cA)]) (v:=(Aa bV bW bX bY bZ cA)) results70 ⟨(rva (isAgg28 _) (sizeOf28 _) (hb.r0 1 6 (gS gZ))),trivial⟩ (by kernel_rfl) ⟨bV,bW,bX,bY,bZ,cA,rfl,h⟩
 refine eg (qb (ln (cbr h ?_ ?_)))<;>intro h
 refine zB ?_
 have ⟨h,hs⟩:=hs.hr (h H3 w5)
 obtain ⟨C3,hC,h⟩:=h
 refine dr2 (fun x=>C3 x∧HB H3 x _) [0,3,4,5,6] [3,4,5,6] ⟨hC,hb.drew⟩ h hs hb fun w24 hs hb h=>?_
 have hs:=hs.here
 refine qx 1 (vp (some (p1.add 2))) Kp1 (qz 2 (vu aE) Kp2 (fun w' hw'=>(xl (isAgg26 _) (hw'.2.cell 2 2 (gS (gS gZ)) (by kernel_rfl)))) (lg 0 (slc Kp0 call128 (h.mono ?_))))
 rintro e w25 ⟨eQ,eR,eS,eT,eU,eV,rfl,hC,hk,h⟩
 refine ⟨_,rfl,.inr ⟨hC,hb.kept hk⟩,?_⟩
 obtain ⟨hs,hb⟩:=hk.hh hs hb
 refine lg 3 (slc Kp3 call129 (h.mono ?_))
 rintro e w26 ⟨eW,eX,eY,eZ,fA,fB,rfl,hk,h⟩
 refine ⟨_,rfl,.inl (by kernel_rfl),?_⟩
 obtain ⟨hs,hb⟩:=hk.hh hs hb
 refine lg 4 (slc Kp4 call127 (h.mono ?_))
 rintro e w27 ⟨fC,fD,fE,fF,fG,fH,rfl,hk,h⟩
 refine ⟨_,rfl,.inl (by kernel_rfl),?_⟩
 obtain ⟨hs,hb⟩:=hk.hh hs hb
 refine lg 5 (slc Kp5 call126 (h.mono ?_))
 rintro e w28 ⟨cB,cC,cD,cE,cF,cG,rfl,hk,h⟩
 refine ⟨_,rfl,.inl (by kernel_rfl),?_⟩
 obtain ⟨hs,hb⟩:=hk.hh hs hb
 refine lg 6 (tP Kp6 (zJ rfl) (by kernel_rfl) (xo p2 (Ad cB cC cD cE cF cG) (sizeOf28 _) (hb.k0 1 6 (gS gZ))) ?_)
 intro w29 hn9
 obtain ⟨hs,hb⟩:=hb.st1 1 hs hn9 (gS gZ)
 refine ⟨.inl (by kernel_rfl),?_⟩
 refine wn (zN (er (yC (vA ?_))))
 have ⟨h,hs⟩:=hs.hr (h w29)
 refine jDY (.inl rfl) (vs:=[(Aa cB cC cD cE cF cG)]) (v:=(Aa cB cC cD cE cF cG)) results70 ⟨(rva (isAgg28 _) (sizeOf28 _) (hb.r0 1 6 (gS gZ))),trivial⟩ (by kernel_rfl) ⟨cB,cC,cD,cE,cF,cG,rfl,h⟩
 refine eg (qb (ln (cbr h ?_ ?_)))<;>intro h
 refine zB ?_
 have ⟨h,hs⟩:=hs.hr (h H3 w5)
 obtain ⟨C4,hC,h⟩:=h
 refine dr2 (fun x=>C4 x∧HB H3 x _) [0,2,3,4] [2,3,4] ⟨hC,hb.drew⟩ h hs hb fun w30 hs hb h=>?_
 have hs:=hs.here
 refine qz 1 (Aa aF aG aH aI aJ aK) Kp1 (fun w' hw'=>(xa p3 (Ad aF aG aH aI aJ aK) (isAgg28 _) (sizeOf28 _) (hw'.2.r0 0 6 gZ))) (lg 0 (slc Kp0 call128 (h.mono ?_)))
 rintro e w31 ⟨fI,fJ,fK,fL,fM,fN,rfl,hC,hk,h⟩
 refine ⟨_,rfl,.inr ⟨hC,hb.kept hk⟩,?_⟩
 obtain ⟨hs,hb⟩:=hk.hh hs hb
 refine lg 2 (slc Kp2 call127 (h.mono ?_))
 rintro e w32 ⟨fO,fP,fQ,fR,fS,fT,rfl,hk,h⟩
 refine ⟨_,rfl,.inl (by kernel_rfl),?_⟩
 obtain ⟨hs,hb⟩:=hk.hh hs hb
 refine lg 3 (slc Kp3 call126 (h.mono ?_))
 rintro e w33 ⟨cH,cI,cJ,cK,cL,cM,rfl,hk,h⟩
 refine ⟨_,rfl,.inl (by kernel_rfl),?_⟩
 obtain ⟨hs,hb⟩:=hk.hh hs hb
 refine lg 4 (tP Kp4 (zJ rfl) (by kernel_rfl) (xo p2 (Ad cH cI cJ cK cL cM) (sizeOf28 _) (hb.k0 1 6 (gS gZ))) ?_)
 intro w34 hn10
 obtain ⟨hs,hb⟩:=hb.st1 1 hs hn10 (gS gZ)
 refine ⟨.inl (by kernel_rfl),?_⟩
 refine wn (zN (er (yC (vA ?_))))
 have ⟨h,hs⟩:=hs.hr (h w34)
 refine jDY (.inl rfl) (vs:=[(Aa cH cI cJ cK cL cM)]) (v:=(Aa cH cI cJ cK cL cM)) results70 ⟨(rva (isAgg28 _) (sizeOf28 _) (hb.r0 1 6 (gS gZ))),trivial⟩ (by kernel_rfl) ⟨cH,cI,cJ,cK,cL,cM,rfl,h⟩
 refine zD (xE (zN (zB ?_)))
 have ⟨h,hs⟩:=hs.hr (h H3 w5)
 obtain ⟨C5,hC,h⟩:=h
 refine dr2 (fun x=>C5 x∧HB H3 x _) [0,3,4,5] [3,4,5] ⟨hC,hb.drew⟩ h hs hb fun w35 hs hb h=>?_
 have hs:=hs.here
 refine qx 1 (vp (some (p1.add 2))) Kp1 (qz 2 (vu aE) Kp2 (fun w' hw'=>(xl (isAgg26 _) (hw'.2.cell 2 2 (gS (gS gZ)) (by kernel_rfl)))) (lg 0 (slc Kp0 call128 (h.mono ?_))))
 rintro e w36 ⟨fU,fV,fW,fX,fY,fZ,rfl,hC,hk,h⟩
 refine ⟨_,rfl,.inr ⟨hC,hb.kept hk⟩,?_⟩
 obtain ⟨hs,hb⟩:=hk.hh hs hb
 refine lg 3 (slc Kp3 call129 (h.mono ?_))
 rintro e w37 ⟨gA,gB,gC,gD,gE,gF,rfl,hk,h⟩
 refine ⟨_,rfl,.inl (by kernel_rfl),?_⟩
 obtain ⟨hs,hb⟩:=hk.hh hs hb
 refine lg 4 (slc Kp4 call127 (h.mono ?_))
 rintro e w38 ⟨cN,cO,cP,cQ,cR,cS,rfl,hk,h⟩
 refine ⟨_,rfl,.inl (by kernel_rfl),?_⟩
 obtain ⟨hs,hb⟩:=hk.hh hs hb
 refine lg 5 (tP Kp5 (zJ rfl) (by kernel_rfl) (xo p2 (Ad cN cO cP cQ cR cS) (sizeOf28 _) (hb.k0 1 6 (gS gZ))) ?_)
 intro w39 hn11
 obtain ⟨hs,hb⟩:=hb.st1 1 hs hn11 (gS gZ)
 refine ⟨.inl (by kernel_rfl),?_⟩
 refine wn (zN (er ?_))
 have ⟨h,hs⟩:=hs.hr (h w39)
 refine jDY (.inl rfl) (vs:=[(Aa cN cO cP cQ cR cS)]) (v:=(Aa cN cO cP cQ cR cS)) results70 ⟨(rva (isAgg28 _) (sizeOf28 _) (hb.r0 1 6 (gS gZ))),trivial⟩ (by kernel_rfl) ⟨cN,cO,cP,cQ,cR,cS,rfl,h⟩
def m_P3 (p1:Option Addr) (aA aB aE:Int) (aC:ByteArray) (aD:Bool) (w0:World) (K:Int→Int→WP):Prop :=∀H1 w1,Hst w0 None w0 H1 w1→Calls prog 31 #[(.agg #[(vi aA),(vi aB),(vu aE),(vs aC),(vb aD)])] w1 (fun e w2=>∃r1,e=.returned (vi r1)∧Kept H1 w1 w2∧Br (r1 != 0) (K 0 r1 w2) (Br (Option.isNone p1) (K 0 2 w2) (Calls prog 70 #[(.agg #[(vi aA),(vi aB),(vu aE),(vs aC),(vb aD)])] w2 (fun e w3=>∃aF aG aH aI aJ aK,e=.returned (Aa aF aG aH aI aJ aK)∧Kept H1 w2 w3∧Calls prog 13 #[(vp p1),(.agg #[(vi aF),(vi aG),(vi aH),(vu aI),(vs aJ),aK.v])] w3 (fun e w4=>∃r2 r3,e=.returned (.tuple #[(vi r2),(vi r3)])∧Kept H1 w3 w4∧K r2 r3 w4)))))
theorem w_P3 (p1 aA aB aE aC aD w0 K) (h:m_P3 p1 aA aB aE aC aD w0 K):
  Calls prog 26 #[(vp p1),(.agg #[(vi aA),(vi aB),(vu aE),(vs aC),(vb aD)])] w0 (fun e w'=>∃r4 r5,e=.returned (.tuple #[(vi r4),(vi r5)])∧K r4 r5 w'):=by
 refine cw (args:=[(vp p1),(Af aA aB aE aC aD)]) func26 ntmps26 ?_
 obtain ⟨hs,hb⟩:=st0 w0
 refine eg (nw3 (Ab aA aB aE aC aD) 56 hs hb xb fun p2 w1 H1 hs hb=>qb (ln (zB (eg (q2 (Af aA aB aE aC aD) (xa p2 (Ab aA aB aE aC aD) (isAgg56 _) (sizeOf56 _) (hb.r0 0 5 gZ)) ?_)))))
 have ⟨h,hs⟩:=hs.hr (h H1 w1)
 refine sc call31 (h.mono fun e w2 ⟨r1,k,hk,h⟩=>have ⟨hs,hb⟩:=hk.hh hs hb;⟨_,k,?_⟩)
 refine q (ln (eg (qb (ln (cbr h ?_ ?_)))))<;>intro h
 refine eg (qc (ln (er (vA (xC (.inl rfl) results26 (v:=(vi 0)) (by kernel_rfl) (v':=(vi r1)) (by kernel_rfl) ⟨0,r1,rfl,h⟩)))))
 refine zD (zN (zB (eg (q (q2 (vb (Option.isNone p1)) (uF (by kernel_rfl) rfl underlying29) (ln (cbr h ?_ ?_)))))))<;>intro h
 refine eg (qb (ln (er (vA (xC (.inl rfl) results26 (v:=(vi 0)) (by kernel_rfl) (v':=(vi 2)) (by kernel_rfl) ⟨0,2,rfl,h⟩)))))
 refine zD (zN (eg (q (q2 (Af aA aB aE aC aD) (xa p2 (Ab aA aB aE aC aD) (isAgg56 _) (sizeOf56 _) (hb.r0 0 5 gZ)) (sc call70 (h.mono fun e w3 ⟨aF,aG,aH,aI,aJ,aK,k,hk,h⟩=>have ⟨hs,hb⟩:=hk.hh hs hb;⟨_,k,?_⟩))))))
 refine sc call13 (h.mono fun e w4 ⟨r2,r3,k,hk,h⟩=>have ⟨hs,hb⟩:=hk.hh hs hb;⟨_,k,?_⟩)
 refine qd (ln (er (xC (.inl rfl) results26 (v:=(vi r2)) (by kernel_rfl) (v':=(vi r3)) (by kernel_rfl) ⟨r2,r3,rfl,h⟩)))
def m_Q3 (aA aB aE:Int) (aC:ByteArray) (aD:Bool) (w0:World) (K:Int→WP):Prop :=∀H1 w1,Hst w0 None w0 H1 w1→Calls prog 31 #[(.agg #[(vi aA),(vi aB),(vu aE),(vs aC),(vb aD)])] w1 (fun e w2=>∃r1,e=.returned (vi r1)∧Kept H1 w1 w2∧Br (r1 != 0) (K (-1) w2) (Br (cond (aA == 1) (aA == 1) (aA == 2)) (∀H2 w3,Hst w0 H1 w2 H2 w3→K (q6.wrap (1 - aB)) w3) (Br (cond (aA == 3) (aA == 3) (aA == 4)) (∀H3 w4,Hst w0 H1 w2 H3 w4→K 2 w4) (∀H3 w4,Hst w0 H1 w2 H3 w4→K (-1) w4))))
theorem w_Q3 (aA aB aE aC aD w0 K) (h:m_Q3 aA aB aE aC aD w0 K):
  Calls prog 33 #[(.agg #[(vi aA),(vi aB),(vu aE),(vs aC),(vb aD)])] w0 (fun e w'=>∃r2,e=.returned (vi r2)∧K r2 w'):=by
 refine cw (args:=[(Af aA aB aE aC aD)]) func33 ntmps33 ?_
 obtain ⟨hs,hb⟩:=st0 w0
 refine eg (nw3 (Ab aA aB aE aC aD) 56 hs hb xb fun p1 w1 H1 hs hb=>q (ln (zB (eg (q2 (Af aA aB aE aC aD) (xa p1 (Ab aA aB aE aC aD) (isAgg56 _) (sizeOf56 _) (hb.r0 0 5 gZ)) ?_)))))
 have ⟨h,hs⟩:=hs.hr (h H1 w1)
 refine sc call31 (h.mono fun e w2 ⟨r1,k,hk,h⟩=>have ⟨hs,hb⟩:=hk.hh hs hb;⟨_,k,?_⟩)
 refine q (ln (cbr h ?_ ?_))<;>intro h
 refine eg (q (ln (er (vA (rs1 results33 ⟨(-1),rfl,h⟩)))))
 refine zD (zN (zB (eg (q (q3 (xl (isAgg3 _) (hb.d0 0 gZ)) (ln (zL (zB (zB (rg (qb (ln (vJ (fun ρ wJ=>∃b1'0:Bool,∃HJ:NP,((aA == 1)=b1'0)∧Hst w0 H1 w2 HJ wJ∧HB HJ wJ [(p1,(Ab aA aB aE aC aD),56)]∧Has ρ [(1,(vp (some p1))),(7,(vi aA)),(8,(vb (cond b1'0 (aA == 1) (aA == 2))))]) ?_ ?_)))))))))))))
 refine vI (t:=(aA == 1)) (by kernel_rfl) (fun hc3=>?_) (fun hc3=>?_)
 refine zD (zN ⟨true,_,hc3,hs,hb,hm⟩)
 refine rg (qb (ln ⟨false,_,hc3,hs,hb,hm⟩))
 rintro ρ w3 ⟨b1'0,H2,he0,hs,hb,hH⟩
 subst he0
 refine zW hH (zN (cbr h ?_ ?_))<;>intro h
 refine eg (q (q3 (xl (isAgg3 _) (hb.d 0 1 gZ)) (qb (ln (er (yC (vA ?_)))))))
 have ⟨h,hs⟩:=hs.hr (h H2 w3)
 refine rs1 results33 ⟨(q6.wrap (1 - aB)),rfl,h⟩
 refine zB (eg (qb (ln (vJ (fun ρ wJ=>∃b2'0:Bool,∃HJ:NP,((aA == 3)=b2'0)∧Hst w0 H1 w2 HJ wJ∧HB HJ wJ [(p1,(Ab aA aB aE aC aD),56)]∧Has ρ [(14,(vb (cond b2'0 (aA == 3) (aA == 4))))]) ?_ ?_))))
 refine vI (t:=(aA == 3)) (by kernel_rfl) (fun hc6=>?_) (fun hc6=>?_)
 refine zD (zN ⟨true,_,hc6,hs,hb,hm⟩)
 refine rg (qb (ln ⟨false,_,hc6,hs,hb,hm⟩))
 rintro ρ w4 ⟨b2'0,H3,he0,hs,hb,hH⟩
 subst he0
 refine zW hH (zN (cbr h ?_ ?_))<;>intro h
 refine eg (q (ln (er (yC (vA ?_)))))
 have ⟨h,hs⟩:=hs.hr (h H3 w4)
 refine rs1 results33 ⟨2,rfl,h⟩
 refine zD (xE (zN (eg (q (ln (er ?_))))))
 have ⟨h,hs⟩:=hs.hr (h H3 w4)
 refine rs1 results33 ⟨(-1),rfl,h⟩
end Go.Proofs
end
section
open Go Go.SE
namespace Go.Proofs
open Tryz
attribute [local irreducible] Calls
def jIC:Array Value:=#[.bool false,.bool false,.bool false,.string ⟨#[]⟩,.bool true,.bool true,.bool true,.string ⟨#[112,114,111,109,105,115,101]⟩,.bool true,.bool true,.bool false,.string ⟨#[115,105,103,110]⟩,.bool false,.bool false,.bool false,.string ⟨#[97,98,111,114,116]⟩,.bool true,.bool true,.bool true,.string ⟨#[114,101,115,111,108,118,101]⟩,.bool false,.bool false,.bool false,.string ⟨#[116,111,107,101,110]⟩,.bool false,.bool true,.bool false,.string ⟨#[105,110,115,116,101,97,100]⟩,.bool false,.bool false,.bool false,.string ⟨#[102,117,108,108]⟩]
theorem jBV (w:World):Calls prog 73 #[] w (fun e w'=>∃r:Array Value,e=.returned (.agg r)∧(r=jIC∧Pure w w')):=by
 refine w_J3 w (fun r w'=>r=jIC∧Pure w w') ?_;unfold m_J3;intro p1 w1 h1;have E1:Pure w w1:=Ext.new h1;have hp:=New.own (Ext.refl w) h1;have b1:=Box.of_newA h1;clear h1;refine bx 32 b1 (by kernel_rfl) (by kernel_rfl) (fun w' b E=>?_);exact ⟨jIC,⟨by kernel_rfl,b.row_eq (by kernel_rfl)⟩,rfl,E1.own hp E⟩
theorem c_chk (l:Sp.Letter) (hk:1≤l.kind∧l.kind≤7) (p:Addr) {w0 w:World} {H:NP} {wd:ByteArray} {T:TypeId} (hB:Box w p [.bool (Sp.isSigned l.kind),.bool (Sp.isTexted l.kind),.bool (l.kind == 1 || l.kind == 4),.string wd] T) (hv:¬ H p.block) (hE:Pure w0 w) :
  m_P_j1 l.frm l.text l.fake p w0 H w (fun x w'=>x=Sp.qO l∧Pure w0 w'):=by
 obtain ⟨k,f,c,x,fk⟩:=l
 simp only at *
 have vis:∀{H H':NP} {w w':World},Box w p [.bool (Sp.isSigned k),.bool (Sp.isTexted k),.bool (k == 1 || k == 4),.string wd] T→¬ H p.block→Hst w0 H w H' w'→¬ H' p.block∧Box w' p [.bool (Sp.isSigned k),.bool (Sp.isTexted k),.bool (k == 1 || k == 4),.string wd] T:=fun hB hv hs=>by
  have h:=hs.disj (G:=(·=p.block)) (fun b e=>by subst e;exact ⟨hB.lt,hv⟩) _ rfl;exact ⟨h,hB.ext hs.ext h⟩
 unfold m_P_j1
 have bad:(f≠0∧f≠1)∨(Sp.isSigned k=false∧f≠0)∨(Sp.isTexted k=false∧x≠⟨#[]⟩)∨(fk=true∧k≠1∧k≠4)→(110:Int)=Sp.qO ⟨k,f,c,x,fk⟩:=fun h=>by
  unfold Sp.qO;rw [if_pos];rcases h with h | h | h | h
  ·exact .inr (.inr (.inl h))
  ·exact .inr (.inr (.inr (.inl h)))
  ·exact .inr (.inr (.inr (.inr (.inl h))))
  ·exact .inr (.inr (.inr (.inr (.inr h))))
 refine ⟨fun hc H4 w4 hs4=>⟨bad (.inl ?_),hE.hst hs4⟩,fun hc H4 w4 hs4=>?_⟩
 ·rw [Bool.and_eq_true] at hc;exact ⟨bne_iff_ne.1 hc.1,bne_iff_ne.1 hc.2⟩
 have hf:f=0∨f=1:=by
  rw [Bool.and_eq_false_iff] at hc;exact hc.imp (fun h=>by simpa using h) (fun h=>by simpa using h)
 obtain ⟨v4,B4⟩:=vis hB hv hs4
 have E4:=hE.hst hs4
 refine ⟨_,B4.cell0,fun H8 w8 hs8=>?_⟩
 obtain ⟨v8,B8⟩:=vis B4 v4 hs8
 have E8:=E4.hst hs8
 unfold m_P_j2
 refine ⟨fun hc2=>⟨bad (.inr (.inl ?_)),E8⟩,fun hc2=>?_⟩
 ·rw [Bool.and_eq_true] at hc2;exact ⟨by simpa using hc2.1,bne_iff_ne.1 hc2.2⟩
 have hs:¬ (Sp.isSigned k=false∧f≠0):=fun h=>by
  rw [Bool.and_eq_false_iff] at hc2;exact hc2.elim (fun h2=>by rw [h.1] at h2;cases h2) (fun h2=>h.2 (by simpa using h2))
 refine ⟨_,B8.cell (i:=1) rfl,fun H7 w7 hs7=>?_⟩
 obtain ⟨v7,B7⟩:=vis B8 v8 hs7
 have E7:=E8.hst hs7
 unfold m_P_j3
 refine ⟨fun hc3=>⟨bad (.inr (.inr (.inl ?_))),E7⟩,fun hc3=>?_⟩
 ·rw [Bool.and_eq_true] at hc3
  exact ⟨by simpa using hc3.1,by simpa using hc3.2⟩
 have ht:¬ (Sp.isTexted k=false∧x≠⟨#[]⟩):=fun h=>by
  rw [Bool.and_eq_false_iff] at hc3;exact hc3.elim (fun h2=>by rw [h.1] at h2;cases h2) (fun h2=>h.2 (by simpa using h2))
 refine ⟨_,B7.cell (i:=2) rfl,fun hc4 H6 w6 hs6=>⟨bad (.inr (.inr (.inr ?_))),E7.hst hs6⟩,fun hc4=>?_⟩
 ·rw [Bool.and_eq_true] at hc4
  have h1:(k == 1 || k == 4)=false:=by simpa using hc4.1
  rw [Bool.or_eq_false_iff] at h1
  exact ⟨hc4.2,by simpa using h1.1,by simpa using h1.2⟩
 have hfk:¬ (fk=true∧k≠1∧k≠4):=fun h=>by
  rw [Bool.and_eq_false_iff] at hc4;refine hc4.elim (fun h2=>?_) (fun h2=>by rw [h.1] at h2;cases h2);have h1:(k == 1 || k == 4)=true:=by
   cases hh:(k == 1 || k == 4) with
   | true=>rfl
   | false=>rw [hh] at h2;cases h2
  rw [Bool.or_eq_true] at h1;exact h1.elim (fun h3=>h.2.1 (by simpa using h3)) (fun h3=>h.2.2 (by simpa using h3))
 have good:¬ (k<1∨k>7∨(f≠0∧f≠1)∨(Sp.isSigned k=false∧f≠0)∨(Sp.isTexted k=false∧x≠⟨#[]⟩)∨(fk=true∧k≠1∧k≠4)):=by
  rintro (h | h | h | h | h | h)
  ·omega
  ·omega
  ·omega
  ·exact hs h
  ·exact ht h
  ·exact hfk h
 refine ⟨fun hc5 H6 w6 hs6=>⟨?_,E7.hst hs6⟩,fun hc5 H6 w6 hs6=>⟨?_,E7.hst hs6⟩⟩
 ·have:=of_decide_eq_true hc5
  unfold Sp.qO;rw [if_neg good,if_pos (by simp only;omega)]
 ·have:=of_decide_eq_false hc5
  unfold Sp.qO;rw [if_neg good,if_neg (by simp only;omega)]
theorem jBW (l:Sp.Letter) (w0:World):Calls prog 31 #[.agg #[.int .i64 l.kind,.int .i64 l.frm,.int .u64 l.c,.string l.text,.bool l.fake]] w0 (fun e w'=>∃r:Int,e=.returned (.int .i64 r)∧(r=Sp.qO l∧Pure w0 w')):=by
 refine w_P _ _ _ _ _ w0 (fun r w'=>r=Sp.qO l∧Pure w0 w') ?_;unfold m_P;refine ⟨fun hc H2 w2 hs2=>⟨?_,hs2.first⟩,fun hc H2 w2 hs2=>?_⟩
 ·unfold Sp.qO;rw [if_pos];rw [Bool.or_eq_true] at hc;exact hc.elim (fun h=>.inl (of_decide_eq_true h)) (fun h=>.inr (.inl (of_decide_eq_true h)))
 have hk:1≤l.kind∧l.kind≤7:=by
  rw [Bool.or_eq_false_iff] at hc;have h1:=of_decide_eq_false hc.1;have h2:=of_decide_eq_false hc.2;omega
 have E2:Pure w0 w2:=hs2.first;have idx:∃wd:ByteArray,∀w':World,(Instr.index 121 (.agg jIC) (.int .i64 l.kind)).run prog w'=.ok (.agg #[.bool (Sp.isSigned l.kind),.bool (Sp.isTexted l.kind),.bool (l.kind == 1 || l.kind == 4),.string wd]) w':=by
  have:l.kind=1∨l.kind=2∨l.kind=3∨l.kind=4∨l.kind=5∨l.kind=6∨l.kind=7:=by omega
  rcases this with e | e | e | e | e | e | e <;> rw [e]
  ·exact ⟨⟨#[112,114,111,109,105,115,101]⟩,fun w'=>by kernel_rfl⟩
  ·exact ⟨⟨#[115,105,103,110]⟩,fun w'=>by kernel_rfl⟩
  ·exact ⟨⟨#[97,98,111,114,116]⟩,fun w'=>by kernel_rfl⟩
  ·exact ⟨⟨#[114,101,115,111,108,118,101]⟩,fun w'=>by kernel_rfl⟩
  ·exact ⟨⟨#[116,111,107,101,110]⟩,fun w'=>by kernel_rfl⟩
  ·exact ⟨⟨#[105,110,115,116,101,97,100]⟩,fun w'=>by kernel_rfl⟩
  ·exact ⟨⟨#[102,117,108,108]⟩,fun w'=>by kernel_rfl⟩
 obtain ⟨wd,idx⟩:=idx;refine ⟨fun _=>True,trivial,?_⟩;rintro w9 e9;have E9:Pure w2 w9:=by rw [e9];exact Ext.drew w2
 have hH:∀b,H2 b→b<w9.heap.size:=fun b hb=>by have:=hs2.lt b hb;have:=E9.size;omega
 refine ⟨?_,?_⟩
 ·refine (jBV w9).mono ?_;rintro _ w10 ⟨_,rfl,rfl,E10⟩;refine ⟨_,rfl,trivial,E10.keptP,_,_,_,_,fun w' _=>idx w',?_⟩;intro p2 w11 n11;have b11:=n11.at_size;have z10:=E10.size;have hv:¬ H2 p2.block:=fun hh=>by have:=hH _ hh;omega
  refine ⟨trivial,(Box.of_newA n11).canWs (by simp),hv,?_⟩;rintro w12 e12;have X:Ext (·=p2.block) w11 w12:=by rw [e12];exact Ext.storeRow _ _ _
  have B:Box w12 p2 [.bool (Sp.isSigned l.kind),.bool (Sp.isTexted l.kind),.bool (l.kind == 1 || l.kind == 4),.string wd] 120:=by rw [e12];exact (Box.of_newA n11).store rfl
  have z2:=E2.size;have z9:=E9.size;exact c_chk l hk p2 B hv ((((E2.trans E9).trans E10).trans (Ext.new n11)).own (by omega) X)
 ·intro p3 w13 n13;refine ⟨trivial,?_⟩;have b13:=n13.at_size;have E13:Pure w9 w13:=Ext.new n13;have hv:¬ H2 p3.block:=fun hh=>by have:=hH _ hh;omega
  refine (jBV w13).mono ?_;rintro _ w14 ⟨_,rfl,rfl,E14⟩;have B14:=(Box.of_newA n13).pure E14;refine ⟨_,rfl,trivial,E14.keptP,_,_,_,_,fun w' _=>idx w',B14.canWs (by simp),hv,?_⟩;rintro w15 e15;have X:Ext (·=p3.block) w14 w15:=by rw [e15];exact Ext.storeRow _ _ _
  have B:Box w15 p3 [.bool (Sp.isSigned l.kind),.bool (Sp.isTexted l.kind),.bool (l.kind == 1 || l.kind == 4),.string wd] 120:=by rw [e15];exact B14.store rfl
  have z2:=E2.size;have z9:=E9.size;exact c_chk l hk p3 B hv ((((E2.trans E9).trans E13).trans E14).own (by omega) X)
abbrev RetS (S:NP) (w:World) (T:Sp.Tree) (e:Ending) (w':World):Prop:=∃s,e=.returned (.agg (yV T s).toArray)∧TreeAt S w' s T∧Pure w w'
theorem jBD {S:NP} (w:World) {A:Sp.Tree} {sa:Sl} {H3:NP} {w3 w4 w5:World} {p:Addr} {o:Obj} (hA:TreeAt S w sa A) (hs3:Hst w None w H3 w3) (n4:New w3 o p w4) (hs5:Hst w H3 w4 H3 w5):TreeAt S w5 sa A:=by
 have E3:Pure w w3:=hs3.first;have E4:Pure w3 w4:=Ext.new n4;exact (((hA.lt.pure E3).pure E4).ext hs5.ext (fun b hb hh=>by have:=hs3.old b hh;omega)).mono (fun b hb=>hb.1)
section
variable {S:NP} (w:World) (hS:∀b,w.heap.size≤b→S b)
include hS
theorem xP (A B:Sp.Tree) (sa sb:Sl) (hA:TreeAt S w sa A) (hB:TreeAt S w sb B):Calls prog 127 #[.agg (yV A sa).toArray,.agg (yV B sb).toArray] w (RetS S w (Sp.xH A B)):=by
 obtain ⟨k,f,t,u,x,ks⟩:=A;obtain ⟨k2,f2,t2,u2,x2,ks2⟩:=B;refine (w_K3 k f t u x sa k2 f2 t2 u2 x2 sb w (fun k' f' t' u' y s w'=>(⟨k',f',t',u',y,0,0⟩:Sp.Node)=(Sp.xH (.mk k f t u x ks) (.mk k2 f2 t2 u2 x2 ks2)).node∧TreeAt S w' s (Sp.xH (.mk k f t u x ks) (.mk k2 f2 t2 u2 x2 ks2))∧Pure w w') ?_).mono ?_
 ·unfold m_K3;intro H3 w3 hs3 p4 w4 n4 w5 hs5;have b4:=n4.at_size;have z3:=hs3.first.size;have B4:Box w4 p4 (yV (.mk k f t u x ks) sa++yV (.mk k2 f2 t2 u2 x2 ks2) sb) 28:=Box.of_newA n4;exact ⟨rfl,TreeAt.pair (B4.ext hs5.ext (fun hh=>by have:=hs3.lt _ hh;omega)) (hS _ (by omega)) (jBD w hA hs3 n4 hs5) (jBD w hB hs3 n4 hs5),(hs3.first.trans (Ext.new n4)).hst hs5⟩
 ·rintro _ w' ⟨k,f,t,u,y,s,rfl,hn,hT,E⟩;cases hn;exact ⟨s,rfl,hT,E⟩
theorem jBU (n:Int) (A:Sp.Tree) (sa:Sl) (hA:TreeAt S w sa A):Calls prog 126 #[.int .i64 n,.agg (yV A sa).toArray] w (RetS S w (Sp.jDU n A)):=by
 obtain ⟨k,f,t,u,x,ks⟩:=A;refine (w_N3 n k f t u x sa w (fun k' f' t' u' y s w'=>(⟨k',f',t',u',y,0,0⟩:Sp.Node)=(Sp.jDU n (.mk k f t u x ks)).node∧TreeAt S w' s (Sp.jDU n (.mk k f t u x ks))∧Pure w w') ?_).mono ?_
 ·unfold m_N3;intro H3 w3 hs3 p4 w4 n4 w5 hs5;have b4:=n4.at_size;have z3:=hs3.first.size;have B4:Box w4 p4 (yV (.mk k f t u x ks) sa) 28:=Box.of_newA n4;exact ⟨rfl,TreeAt.one (B4.ext hs5.ext (fun hh=>by have:=hs3.lt _ hh;omega)) (hS _ (by omega)) (jBD w hA hs3 n4 hs5),(hs3.first.trans (Ext.new n4)).hst hs5⟩
 ·rintro _ w' ⟨k,f,t,u,y,s,rfl,hn,hT,E⟩;cases hn;exact ⟨s,rfl,hT,E⟩
theorem jAX (n:Int) (hn:n=0∨n=1) (fk:Bool) (A:Sp.Tree) (sa:Sl) (hA:TreeAt S w sa A):Calls prog 125 #[.int .i64 n,.bool fk,.agg (yV A sa).toArray] w (RetS S w (Sp.tI n A fk)):=by
 obtain ⟨k,f,t,u,x,ks⟩:=A;refine (w_M3 n fk k f t u x sa w (fun k' f' t' u' y s w'=>(⟨k',f',t',u',y,0,0⟩:Sp.Node)=(Sp.tI n (.mk k f t u x ks) fk).node∧TreeAt S w' s (Sp.tI n (.mk k f t u x ks) fk)∧Pure w w') ?_).mono ?_
 ·unfold m_M3;intro H3 w3 hs3 p4 w4 n4 w5 hs5;have b4:=n4.at_size;have z3:=hs3.first.size;have B4:Box w4 p4 (yV (.mk k f t u x ks) sa) 28:=Box.of_newA n4;refine ⟨?_,TreeAt.one (B4.ext hs5.ext (fun hh=>by have:=hs3.lt _ hh;omega)) (hS _ (by omega)) (jBD w hA hs3 n4 hs5),(hs3.first.trans (Ext.new n4)).hst hs5⟩;have:IntKind.i64.wrap (1 - n)=1 - n:=IntWalk.i64_in _ (by omega);rw [this];cases fk <;> rfl
 ·rintro _ w' ⟨k,f,t,u,y,s,rfl,hn,hT,E⟩;cases hn;exact ⟨s,rfl,hT,E⟩
theorem jSC (c:Int) (x:ByteArray):Calls prog 93 #[.int .u64 c,.string x] w (RetS S w (Sp.yB c x)):=by
 refine (w_L3 c x w (fun k f t u y s w'=>(⟨k,f,t,u,y,0,0⟩:Sp.Node)=(Sp.yB c x).node∧TreeAt S w' s (Sp.yB c x)∧Pure w w') ?_).mono ?_
 ·unfold m_L3;intro H1 w4 hs4;have E4:Pure w w4:=hs4.first;have z4:=E4.size;have hH:∀b,H1 b→b<w4.heap.size:=fun b hb=>hs4.lt b hb;refine (xP (S:=(w4.heap.size≤·)) w4 (fun _ h=>h) (Sp.jGH c) (Sp.yR x) Sl.nil Sl.nil TreeAt.leaf TreeAt.leaf).mono ?_;rintro _ w5 ⟨s5,rfl,hT5,E5⟩;refine ⟨_,_,_,_,_,s5,rfl,E5.keptP,?_⟩;refine (xP (S:=(w4.heap.size≤·)) w5 (fun b h=>by have:=E5.size;show w4.heap.size≤b;omega) (Sp.yR Sp.jBC) (Sp.xH (Sp.jGH c) (Sp.yR x)) Sl.nil s5 TreeAt.leaf hT5).mono ?_;rintro _ w6 ⟨s6,rfl,hT6,E6⟩;refine ⟨_,_,_,_,_,s6,rfl,E6.keptP,fun w7 hs7=>⟨rfl,?_,((E4.trans E5).trans E6).hst hs7⟩⟩;exact (hT6.ext hs7.ext (fun b hb hh=>by have:=hH b hh;have:w4.heap.size≤b:=hb;omega)).mono (fun b hb=>hS b (by have:w4.heap.size≤b:=hb;omega))
 ·rintro _ w' ⟨k,f,t,u,y,s,rfl,hn,hT,E⟩;cases hn;exact ⟨s,rfl,hT,E⟩
end
theorem jSB (l:Sp.Letter) (hf:l.frm=0∨l.frm=1) (w0:World):Calls prog 70 #[.agg #[.int .i64 l.kind,.int .i64 l.frm,.int .u64 l.c,.string l.text,.bool l.fake]] w0 (RetS (w0.heap.size≤·) w0 (Sp.vW l true true)):=by
 obtain ⟨kd,f,c,x,fk⟩:=l;simp only at hf;generalize hR:Sp.vW ⟨kd,f,c,x,fk⟩ true true=R;refine (w_O3 kd f c x fk w0 (fun k f t u y s w'=>(⟨k,f,t,u,y,0,0⟩:Sp.Node)=R.node∧TreeAt (w0.heap.size≤·) w' s R∧Pure w0 w') ?_).mono ?_
 ·unfold m_O3;intro H2 w2 hs2;have E2:Pure w0 w2:=hs2.first;have z2:=E2.size;refine (jSC (S:=(w2.heap.size≤·)) w2 (fun _ h=>h) c x).mono ?_;rintro _ w3 ⟨sd,rfl,hT3,E3⟩;refine ⟨_,_,_,_,_,sd,rfl,E3.keptP,?_⟩;have z3:=E3.size;have go:∀{H3:NP} {w5:World},Hst w0 H2 w3 H3 w5→TreeAt (fun b=>w0.heap.size≤b∧¬ H3 b) w5 sd (Sp.yB c x)∧Pure w0 w5∧(∀w:World,w5.heap.size≤w.heap.size→∀b,w.heap.size≤b→w0.heap.size≤b∧¬ H3 b):=fun {H3 w5} hs=>by
   have hd:∀b,(w2.heap.size≤b∧b<w3.heap.size)→¬ H3 b:=hs.disj (fun b hb=>⟨hb.2,fun hh=>by have:=hs2.lt b hh;omega⟩);refine ⟨(hT3.lt.ext hs.ext (fun b hb=>hd b hb)).mono (fun b hb=>⟨by have:=hb.1;omega,hd b hb⟩),(E2.trans E3).hst hs,fun w hw b hb=>⟨by have:=hs.ext.size;omega,fun hh=>by have:=hs.lt b hh;omega⟩⟩
  have fin:∀{H3:NP} {wa wb:World} {s:Sl} {T:Sp.Tree},TreeAt (fun b=>w0.heap.size≤b∧¬ H3 b) wa s T→Pure w0 wa→Hst w0 H3 wa H3 wb→T=R→R.node=R.node∧TreeAt (w0.heap.size≤·) wb s R∧Pure w0 wb:=fun {H3 wa wb s T} h E hs e=>by
   subst e;exact ⟨rfl,(h.ext hs.ext (fun b hb=>hb.2)).mono (fun b hb=>hb.1),E.hst hs⟩
  have fin2:∀{H3:NP} {wa wb:World} {s:Sl} {T:Sp.Tree},TreeAt (fun b=>w0.heap.size≤b∧¬ H3 b) wa s T→Pure w0 wa→Hst w0 H3 wa H3 wb→R=T→(⟨T.node.kind,T.node.frm,T.node.to,T.node.num,T.node.text,0,0⟩:Sp.Node)=R.node∧TreeAt (w0.heap.size≤·) wb s R∧Pure w0 wb:=fun {H3 wa wb s T} h E hs e=>by
   subst e;refine ⟨?_,(fin h E hs rfl).2⟩;cases R;rfl
  refine ⟨fun hk H3 w5 hs5=>?_,fun h1=>⟨fun hk H3 w5 hs5=>?_,fun h2=>⟨fun hk H3 w5 hs5=>?_,fun h3=>⟨fun hk H3 w5 hs5=>?_,fun h4=>⟨fun hk H3 w5 hs5=>?_,fun h5=>⟨fun hk H3 w5 hs5=>?_,fun h6 H3 w5 hs5=>?_⟩⟩⟩⟩⟩⟩
  ·have hk:=beq_iff_eq.1 hk;obtain ⟨hD,E5,hS⟩:=go hs5;refine (jAX w5 (hS w5 (Nat.le_refl _)) f hf fk _ sd hD).mono ?_;rintro _ w6 ⟨s6,rfl,hT6,E6⟩;refine ⟨_,_,_,_,_,s6,rfl,E6.keptP,fun w7 hs7=>fin2 hT6 (E5.trans E6) hs7 ?_⟩;rw [← hR];unfold Sp.vW;rw [if_pos hk]
  ·have hk:=beq_iff_eq.1 hk;obtain ⟨hD,E5,hS⟩:=go hs5;refine (jBU w5 (hS w5 (Nat.le_refl _)) f _ sd hD).mono ?_;rintro _ w6 ⟨s6,rfl,hT6,E6⟩;refine ⟨_,_,_,_,_,s6,rfl,E6.keptP,fun w7 hs7=>fin2 hT6 (E5.trans E6) hs7 ?_⟩;rw [← hR];unfold Sp.vW;rw [if_neg (fun e=>beq_eq_false_iff_ne.1 h1 e),if_pos hk]
  ·have hk:=beq_iff_eq.1 hk;obtain ⟨hD,E5,hS⟩:=go hs5;refine ⟨fun _=>True,trivial,?_⟩;rintro w10 e10;have E10:Pure w5 w10:=by rw [e10];exact Ext.drew w5
   refine (p_X _ w10).mono ?_;rintro _ w11 ⟨rfl,E11⟩;refine ⟨_,_,_,_,_,_,rfl,trivial,E11.keptP,?_⟩;refine (p_B1 _ w11).mono ?_;rintro _ w12 ⟨rfl,E12⟩;refine ⟨_,_,_,_,_,_,rfl,E12.keptP,?_⟩;have z12:=((E10.trans E11).trans E12).size;refine (xP w12 (hS w12 z12) (Sp.yR Sp.xK) (Sp.jGH c) Sl.nil Sl.nil TreeAt.leaf TreeAt.leaf).mono ?_;rintro _ w13 ⟨s13,rfl,hT13,E13⟩;refine ⟨_,_,_,_,_,s13,rfl,E13.keptP,?_⟩;refine (jBU w13 (hS w13 (by have:=E13.size;omega)) 0 _ s13 hT13).mono ?_;rintro _ w14 ⟨s14,rfl,hT14,E14⟩;refine ⟨_,_,_,_,_,s14,rfl,E14.keptP,fun w15 hs15=>fin2 hT14 (((((E5.trans E10).trans E11).trans E12).trans E13).trans E14) hs15 ?_⟩;rw [← hR];unfold Sp.vW;rw [if_neg (fun e=>beq_eq_false_iff_ne.1 h1 e),if_neg (fun e=>beq_eq_false_iff_ne.1 h2 e),if_pos hk]
  ·have hk:=beq_iff_eq.1 hk;obtain ⟨hD,E5,hS⟩:=go hs5;refine ⟨fun _=>True,trivial,?_⟩;rintro w16 e16;have E16:Pure w5 w16:=by rw [e16];exact Ext.drew w5
   refine (p_X _ w16).mono ?_;rintro _ w17 ⟨rfl,E17⟩;refine ⟨_,_,_,_,_,_,rfl,trivial,E17.keptP,?_⟩;have E57:=E16.trans E17;refine (jAX w17 (hS w17 E57.size) 0 (.inl rfl) fk _ sd (hD.pure E57)).mono ?_;rintro _ w18 ⟨s18,rfl,hT18,E18⟩;refine ⟨_,_,_,_,_,s18,rfl,trivial,E18.keptP,?_⟩;have E58:=E57.trans E18;refine (jAX w18 (hS w18 E58.size) 1 (.inr rfl) fk _ sd (hD.pure E58)).mono ?_;rintro _ w19 ⟨s19,rfl,hT19,E19⟩;refine ⟨_,_,_,_,_,s19,rfl,trivial,E19.keptP,?_⟩;have E59:=E58.trans E19;refine (xP w19 (hS w19 E59.size) _ _ s18 s19 (hT18.pure E19) hT19).mono ?_;rintro _ w20 ⟨s20,rfl,hT20,E20⟩;refine ⟨_,_,_,_,_,s20,rfl,trivial,E20.keptP,?_⟩;have E510:=E59.trans E20;refine (xP w20 (hS w20 E510.size) (Sp.yR Sp.yL) _ Sl.nil s20 TreeAt.leaf hT20).mono ?_;rintro _ w21 ⟨s21,rfl,hT21,E21⟩;refine ⟨_,_,_,_,_,s21,rfl,trivial,E21.keptP,?_⟩;have E511:=E510.trans E21;refine (jBU w21 (hS w21 E511.size) f _ s21 hT21).mono ?_;rintro _ w22 ⟨s22,rfl,hT22,E22⟩;refine ⟨_,_,_,_,_,s22,rfl,E22.keptP,fun w23 hs23=>fin2 hT22 ((E5.trans E511).trans E22) hs23 ?_⟩;rw [← hR];unfold Sp.vW;rw [if_neg (fun e=>beq_eq_false_iff_ne.1 h1 e),if_neg (fun e=>beq_eq_false_iff_ne.1 h2 e),if_neg (fun e=>beq_eq_false_iff_ne.1 h3 e),if_pos hk];simp only [Bool.and_true]
  ·have hk:=beq_iff_eq.1 hk;obtain ⟨hD,E5,hS⟩:=go hs5;refine ⟨fun _=>True,trivial,?_⟩;rintro w10 e10;have E10:Pure w5 w10:=by rw [e10];exact Ext.drew w5
   refine (p_X _ w10).mono ?_;rintro _ w11 ⟨rfl,E11⟩;refine ⟨_,_,_,_,_,_,rfl,trivial,E11.keptP,?_⟩;refine (p_B1 _ w11).mono ?_;rintro _ w12 ⟨rfl,E12⟩;refine ⟨_,_,_,_,_,_,rfl,E12.keptP,?_⟩;have z12:=((E10.trans E11).trans E12).size;refine (xP w12 (hS w12 z12) (Sp.yR Sp.yA) (Sp.jGH c) Sl.nil Sl.nil TreeAt.leaf TreeAt.leaf).mono ?_;rintro _ w13 ⟨s13,rfl,hT13,E13⟩;refine ⟨_,_,_,_,_,s13,rfl,E13.keptP,?_⟩;refine (jBU w13 (hS w13 (by have:=E13.size;omega)) 2 _ s13 hT13).mono ?_;rintro _ w14 ⟨s14,rfl,hT14,E14⟩;refine ⟨_,_,_,_,_,s14,rfl,E14.keptP,fun w15 hs15=>fin2 hT14 (((((E5.trans E10).trans E11).trans E12).trans E13).trans E14) hs15 ?_⟩;rw [← hR];unfold Sp.vW;rw [if_neg (fun e=>beq_eq_false_iff_ne.1 h1 e),if_neg (fun e=>beq_eq_false_iff_ne.1 h2 e),if_neg (fun e=>beq_eq_false_iff_ne.1 h3 e),if_neg (fun e=>beq_eq_false_iff_ne.1 h4 e),if_pos hk]
  ·have hk:=beq_iff_eq.1 hk;obtain ⟨hD,E5,hS⟩:=go hs5;refine ⟨fun _=>True,trivial,?_⟩;rintro w10 e10;have E10:Pure w5 w10:=by rw [e10];exact Ext.drew w5
   refine (p_X _ w10).mono ?_;rintro _ w11 ⟨rfl,E11⟩;refine ⟨_,_,_,_,_,_,rfl,trivial,E11.keptP,?_⟩;have z11:=(E10.trans E11).size;refine (xP w11 (hS w11 z11) (Sp.yR Sp.yM) _ Sl.nil sd TreeAt.leaf (hD.pure (E10.trans E11))).mono ?_;rintro _ w13 ⟨s13,rfl,hT13,E13⟩;refine ⟨_,_,_,_,_,s13,rfl,E13.keptP,?_⟩;refine (jBU w13 (hS w13 (by have:=E13.size;omega)) 2 _ s13 hT13).mono ?_;rintro _ w14 ⟨s14,rfl,hT14,E14⟩;refine ⟨_,_,_,_,_,s14,rfl,E14.keptP,fun w15 hs15=>fin2 hT14 ((((E5.trans E10).trans E11).trans E13).trans E14) hs15 ?_⟩;rw [← hR];unfold Sp.vW;rw [if_neg (fun e=>beq_eq_false_iff_ne.1 h1 e),if_neg (fun e=>beq_eq_false_iff_ne.1 h2 e),if_neg (fun e=>beq_eq_false_iff_ne.1 h3 e),if_neg (fun e=>beq_eq_false_iff_ne.1 h4 e),if_neg (fun e=>beq_eq_false_iff_ne.1 h5 e),if_pos hk]
  ·obtain ⟨hD,E5,hS⟩:=go hs5;refine ⟨fun _=>True,trivial,?_⟩;rintro w10 e10;have E10:Pure w5 w10:=by rw [e10];exact Ext.drew w5
   refine (p_X _ w10).mono ?_;rintro _ w11 ⟨rfl,E11⟩;refine ⟨_,_,_,_,_,_,rfl,trivial,E11.keptP,?_⟩;refine (p_B1 _ w11).mono ?_;rintro _ w12 ⟨rfl,E12⟩;refine ⟨_,_,_,_,_,_,rfl,E12.keptP,?_⟩;have z12:=((E10.trans E11).trans E12).size;refine (xP w12 (hS w12 z12) (Sp.yR Sp.jJO) (Sp.jGH c) Sl.nil Sl.nil TreeAt.leaf TreeAt.leaf).mono ?_;rintro _ w13 ⟨s13,rfl,hT13,E13⟩;refine ⟨_,_,_,_,_,s13,rfl,E13.keptP,fun w15 hs15=>fin2 hT13 ((((E5.trans E10).trans E11).trans E12).trans E13) hs15 ?_⟩;rw [← hR];unfold Sp.vW;rw [if_neg (fun e=>beq_eq_false_iff_ne.1 h1 e),if_neg (fun e=>beq_eq_false_iff_ne.1 h2 e),if_neg (fun e=>beq_eq_false_iff_ne.1 h3 e),if_neg (fun e=>beq_eq_false_iff_ne.1 h4 e),if_neg (fun e=>beq_eq_false_iff_ne.1 h5 e),if_neg (fun e=>beq_eq_false_iff_ne.1 h6 e)]
 ·rintro _ w' ⟨k,f,t,u,y,s,rfl,hn,hT,E⟩;obtain ⟨k2,f2,t2,u2,x2,ks⟩:=R;cases hn;exact ⟨s,rfl,hT,E⟩
theorem jFQ {l:Sp.Letter} (h:Sp.qO l=0):l.frm=0∨l.frm=1:=by
 unfold Sp.qO at h;split at h
 ·cases h
 ·rename_i h1;simp only [not_or] at h1;have:=h1.2.2.1;by_cases h0:l.frm=0
  ·exact .inl h0
  ·exact .inr (Classical.byContradiction (fun h2=>this ⟨h0,h2⟩))
def vO (L:Sp.Pool) (l:Sp.Letter):Int×Int×Sp.Pool:=if Sp.qO l≠0 then (0,Sp.qO l,L) else Sp.of L (Sp.vW l true true)
theorem jKS (p:Addr) (l:Sp.Letter) (w0:World) {L:Sp.Pool} {F:NP} (hP:zS w0 p L F) (hok:Sp.Ok L) :
  Calls prog 26 #[.pointer (some p),.agg #[.int .i64 l.kind,.int .i64 l.frm,.int .u64 l.c,.string l.text,.bool l.fake]] w0 (fun e w'=>∃r1 r2:Int,e=.returned (.tuple #[.int .i64 r1,.int .i64 r2])∧(r1=(vO L l).1∧r2=(vO L l).2.1∧∃F',zS w' p (vO L l).2.2 F'∧Ext F w0 w'∧∀b,F' b→F b∨w0.heap.size≤b)):=by
 refine w_P3 (some p) l.kind l.frm l.c l.text l.fake w0 (fun r1 r2 w'=>r1=(vO L l).1∧r2=(vO L l).2.1∧∃F',zS w' p (vO L l).2.2 F'∧Ext F w0 w'∧∀b,F' b→F b∨w0.heap.size≤b) ?_
 unfold m_P3
 intro H1 w1 hs1
 have E1:Pure w0 w1:=hs1.first
 have hF:∀b,F b→b<w0.heap.size:=fun b hb=>hP.lt hb
 refine (jBW l w1).mono ?_
 rintro _ w2 ⟨_,rfl,rfl,E2⟩
 have E02:=E1.trans E2
 refine ⟨_,rfl,E2.keptP,fun hc=>?_,fun hc=>⟨fun h=>(by cases h),fun _=>?_⟩⟩
 ·have hc:=bne_iff_ne.1 hc
  have e:vO L l=(0,Sp.qO l,L):=by unfold vO;rw [if_pos hc]
  rw [e];exact ⟨rfl,rfl,F,hP.pure E02,Ext.pure E02,fun b hb=>.inl hb⟩
 ·have hc:Sp.qO l=0:=by simpa using hc
  have e:vO L l=Sp.of L (Sp.vW l true true):=by unfold vO;rw [if_neg (by simpa using hc)]
  rw [e]
  refine (jSB l (jFQ hc) w2).mono ?_
  rintro _ w3 ⟨s3,he,hT3,E3⟩
  generalize Sp.vW l true true=T at *
  obtain ⟨tk,tf,tt,tu,tx,tks⟩:=T
  have he:_=Ending.returned (.agg #[.int .i64 tk,.int .i64 tf,.int .i64 tt,.int .u64 tu,.string tx,s3.v]):=he
  refine ⟨tk,tf,tt,tu,tx,s3,he,E3.keptP,?_⟩
  have E03:=E02.trans E3
  refine (c_Of (S:=fun b=>w2.heap.size≤b∧b<w3.heap.size) p (.mk tk tf tt tu tx tks) s3 w3 hT3.lt (hP.pure E03) hok (fun b hb hh=>by have:=hF b hb;have:=E02.size;omega) (fun b hb=>hb.2)).mono ?_
  rintro _ w4 ⟨r1,r2,rfl,h12,F',hP4,X4,hF4⟩
  obtain ⟨e1,e2⟩:=Prod.mk.inj h12
  refine ⟨r1,r2,rfl,X4.kept (fun b hb hh=>by have:=hs1.old b hb;have:=hF b hh;omega),e1,e2,F',hP4,(Ext.pure E03).trans X4,fun b hb=>(hF4 b hb).imp id (fun h=>by have:=E03.size;omega)⟩
end Go.Proofs
end
section
open Go Go.SE
namespace Go.Proofs
open Tryz
set_option maxRecDepth 100000
set_option maxHeartbeats 4000000
attribute [local irreducible] wpL wpX opE wpE Calls
def m_R3 (s1:Sl) (w0:World) (K:Sl→WP):Prop :=∃b1,(Go.binOp .eql 54 s1.v Sl.nil.v).run prog w0=.ok (vb b1) w0∧Br b1 (K Sl.nil w0) (∀p1 w1,New w0 (.cells #[] 5) p1 w1→∃s2:Sl,∃w2:World,(Builtin.append_ #[54,54] 54 #[(Sl.mk (some p1) 0 0).v,s1.v]).run prog w1=.ok s2.v w2∧K s2 w2)
theorem w_R3 (s1 w0 K) (h:m_R3 s1 w0 K):
  Calls prog 211 #[s1.v] w0 (fun e w'=>∃r1:Sl,e=.returned r1.v∧K r1 w'):=by
 refine cw (args:=[s1.v]) func211 ntmps211 (eg (q0 Sl.nil.v (ln (zB (eg (q0 s1.v ?_))))))
 obtain ⟨b1,hv2,h⟩:=h
 refine q2 (vb b1) (qN (by kernel_rfl) (by kernel_rfl) (by kernel_rfl) hv2) (ln (cbr h ?_ ?_))<;>intro h
 refine eg (q (ln (er (vA (rs1 results211 ⟨Sl.nil,rfl,h⟩)))))
 refine zD (zN (eg (nw4 (fun p=>(Sl.mk (some p) 0 0).v) h fun p1 w1 h=>q ?_)))
 obtain ⟨s2,w2,hv1,h⟩:=h
 refine st (v:=s2.v) (zJ rfl) (vC (args:=#[(Sl.mk (some p1) 0 0).v,s1.v]) (by kernel_rfl) (fun _=>rfl) hv1) (q0 s2.v (ln (er (rs1 results211 ⟨s2,rfl,h⟩))))
end Go.Proofs
end
section
namespace Go.SE
variable {P:Program}
def yldP (P:Program) (o:Oper) (ε:Operand→Value) (w:World) (R:Value→World→Prop) (X:List PanicEntry→World→Prop):Prop :=
 (∀c,o.op≠.defer c)∧match (execOp ε o).run P w with
 | .ok (.value v) w'=>R v w'
 | .ok .skip w'=>R undef w'
 | .ok (.enter f args) w'=>Calls P f args w' (fun e w''=>(∃v,e=.returned v∧R v w'')∨∃ch,e=.panicked ch∧X ch w'')
 | .ok (.row row args) w'=>Rows P row args w' R
 | .ok (.round l f tmps assign body) w'=>RoundIn Fence.wide 0 P l f tmps assign body w' (fun e w''=>∃v,e=.returned v∧R v w'')
 | .halt (.panic v) w'=>X [{ v,recovered:=false }] w'
 | _=>False
theorem jGY {o:Oper} {ε:Operand→Value} {w:World} {R R':Value→World→Prop} {X X':List PanicEntry→World→Prop} (h:yldP P o ε w R X) (hr:∀v w',R v w'→R' v w') (hx:∀ch w',X ch w'→X' ch w'):yldP P o ε w R' X':=by
 unfold yldP at *;refine ⟨h.1,?_⟩;have h:=h.2;generalize (execOp ε o).run P w=r at *;cases r with
 | ok n w' =>
  cases n <;> simp only at h ⊢ <;> first
   | exact hr _ _ h
   | exact RoundIn.mono h fun e w'' ⟨v,he,hR⟩=>⟨v,he,hr _ _ hR⟩
   | exact Calls.mono h fun e w'' hh=>hh.elim (fun ⟨v,he,hR⟩=>.inl ⟨v,he,hr _ _ hR⟩) (fun ⟨ch,he,hX⟩=>.inr ⟨ch,he,hx _ _ hX⟩)
   | exact h.mono hr
 | halt x w'=>cases x <;> simp only at h ⊢ <;> exact hx _ _ h
theorem jGX {o:Oper} {ε:Operand→Value} {w:World} {R:Value→World→Prop} {X:List PanicEntry→World→Prop} (h:yld P o ε w R):yldP P o ε w R X:=by
 refine ⟨jGW h,?_⟩;unfold yld at h;generalize (execOp ε o).run P w=r at *;cases r with
 | ok n w' =>
  cases n <;> simp only at h ⊢ <;> first
   | exact h
   | exact Calls.mono h fun e w'' ⟨v,he,hR⟩=>.inl ⟨v,he,hR⟩
 | halt x w'=>exact h.elim
theorem jCK {ro:Option Nat} {m:Nat} {o:Oper} {a:Act} {w:World} {K:Act→World→Prop} {Q:Exit→Act→World→Prop} (h:yldP P o a.eval w (fun v w'=>K (a.put o.dst v) w') (fun ch w'=>Q (.panic ch) a w')):o.wpIn (fen ro) m P a w K Q:=by
 obtain ⟨h0,h⟩:=h;refine ⟨fun f _=>jIJ ro f,?_⟩;rw [jII,Oper.semAt_eq _ _ _ h0];have hd:(fen ro).depth.isSome=true→1≤m:=fun h=>by rw [jIK] at h;cases h
 generalize (execOp a.eval o).run P w=r at *;cases r with
 | ok n w' =>
  cases n <;> simp only at h <;> simp only [Oper.uponIn]
  case value=>exact h
  case skip=>exact h
  case enter =>
   refine ⟨hd,(Calls.fen h).mono ?_⟩
   rintro e w'' (⟨v,rfl,hR⟩ | ⟨ch,rfl,hX⟩)
   ·exact hR
   ·exact hX
  case row=>exact ⟨hd,Rows.fen h⟩
  case round=>exact ⟨hd,(RoundIn.fen h).mono fun e w'' ⟨v,he,hR⟩=>by subst he;exact hR⟩
 | halt x w'=>cases x <;> simp only at h <;> simp only [Oper.uponIn];exact h
def jJM (P:Program) (ops:Array Oper) (Q:Env→World→Prop) (X:List PanicEntry→World→Prop):List Oper→Env→World→Prop
 | [],ρ,w=>Q ρ w
 | o :: rest,ρ,w =>
  if Region.wanted o (zO ops ρ) then yldP P o (evE ρ) w (fun v w'=>jJM P ops Q X rest (put ρ o.dst v) w') X
  else jJM P ops Q X rest (put ρ o.dst undef) w
section
variable {x:Cx} {n:Nat} {Q:Exit→Env→World→Prop} {ρ:Env} {w:World}
theorem xQ {ops:Array Oper} {Q':Env→World→Prop} {X:List PanicEntry→World→Prop} (hQ:∀ρ a w,Rep x.ds n ρ a→Q' ρ w→jMR x n Q .normal a w) (hX:∀ρ a ch w,Rep x.ds n ρ a→X ch w→jMR x n Q (.panic ch) a w) :
  ∀(l:List Oper) (ρ:Env) (a:Act) (w:World),uZ n l=true→Rep x.ds n ρ a→jJM P ops Q' X l ρ w→wpListIn (fen x.ro) 0 P ops (jMR x n Q) l a w
 | [],ρ,a,w,_,hr,h=>hQ _ _ _ hr h
 | o :: l,ρ,a,w,hd,hr,h=>by
  obtain ⟨hk,hd'⟩:=jEP hd;unfold jJM at h;unfold wpListIn;rw [hr.yielded];split
  ·rename_i hw;rw [if_pos hw] at h;apply jCK;rw [hr.eval];exact jGY h (fun v w' hh=>xQ hQ hX l _ _ _ hd' (hr.put hk v) hh) (fun ch w' hh=>hX ρ a ch w' hr hh)
  ·rename_i hw;rw [if_neg hw] at h;exact ⟨fun f _=>jIJ x.ro f,xQ hQ hX l _ _ _ hd' (hr.put hk undef) h⟩
theorem qJ {id:Nat} {l:List Oper} (hd:uZ n l=true) (h:jJM P l.toArray (fun ρ w=>Q .normal ρ w) (fun ch w=>∀ρ,Q (.panic ch) ρ w) l ρ w):wpE (x:=x) P n (.region id l.toArray false) Q ρ w:=fun a ha =>
 wpIn_region_lit (xQ (fun ρ' _ _ hr hq=>⟨ρ',.inl ⟨hr,hq⟩⟩) (fun ρ' _ _ _ hr hq=>⟨ρ',.inl ⟨hr,hq ρ'⟩⟩) l ρ a w hd ha h)
end
def jTB (P:Program) (fn:Func) (n:Nat) (R:Ending→World→Prop):Exit→Env→World→Prop
 | .normal,ρ,w | .ret,ρ,w=>∃v,(∀ds a,Rep ds n ρ a→(results fn a.tmps).run P w=.ok v w)∧R (.returned v) w
 | .panic ch,_,w=>R (.panicked ch) w
 | _,_,_=>False
theorem uB {n:Nat} {w:World} {f:FuncId} {fn:Func} {c:Code} {args:List Value} {R:Ending→World→Prop} (hf:P.funcs[f]?=some fn) (hb:fn.body=some c) (hn:fn.ntmps=n) (hl:args.length≤n)
  (h:wpE (x:=⟨none,[]⟩) P n c (jTB P fn n R) (jGU args) w):Calls P f args.toArray w R:=by
 subst hn
 refine callsIn_wide.1 (callsIn_of_wp_marks (n:=0) hf hb trivial ?_)
 refine wpIn_mono (h _ (jDE args hl)) ?_
 rintro e a w' ⟨ρ',⟨hr,hq⟩ | ⟨rfl,_,_,D,hr,hD,hq⟩⟩
 ·have hd:a.defers=[]:=hr.defers
  cases e with
  | normal=>obtain ⟨v,hv,hR⟩:=hq;simp only [bodyPostM,hd];exact uS (hv _ a hr) hR
  | ret=>obtain ⟨v,hv,hR⟩:=hq;simp only [bodyPostM,hd];exact uS (hv _ a hr) hR
  | exit _=>exact hq.elim
  | goto _=>exact hq.elim
  | panic ch=>simp only [bodyPostM,hd];exact hq
  | outgrown=>exact hq.elim
 ·obtain ⟨v,hv,hR⟩:=hq
  have hd:a.defers=[jSO D]:=hr.defers
  simp only [bodyPostM,hd]
  exact ⟨by simp,.inl ⟨D,_,rfl,run_takeDeferred hD,uS (hv _ a hr) hR⟩⟩
theorem ep {n:Nat} {fn:Func} {R:Ending→World→Prop} {e:Exit} {ρ:Env} {w:World} (h:jEU P fn n R e ρ w):jTB P fn n R e ρ w:=by
 cases e <;> first | exact h | exact h.elim
theorem qB {ops:Array Oper} {Q:Env→World→Prop} {X:List PanicEntry→World→Prop}:∀(k:Nat) {l:List Oper} {ρ:Env} {w:World},wpL P ops (fun ρ w=>jJM P ops Q X (l.drop k) ρ w) (l.take k) ρ w→jJM P ops Q X l ρ w
 | 0,l,ρ,w,h=>by simpa [wpL] using h
 | k+1,[],ρ,w,h=>by simpa [wpL] using h
 | k+1,o :: l,ρ,w,h=>by
  simp only [List.take_succ_cons,List.drop_succ_cons] at h;unfold wpL at h;unfold jJM;split
  ·rename_i hw;rw [if_pos hw] at h;exact jGY (jGX (X:=X) h) (fun v w' hh=>qB k hh) (fun _ _ h=>h)
  ·rename_i hw;rw [if_neg hw] at h;exact qB k h
theorem jBA {ops:Array Oper} {Q:Env→World→Prop} {X:List PanicEntry→World→Prop} {l:List Oper} {ρ:Env} {w:World} (h:wpL P ops Q l ρ w):jJM P ops Q X l ρ w :=
 qB l.length (by rw [List.take_length,List.drop_length];exact jDB (fun ρ w hq=>hq) h)
section
variable {ε:Operand→Value} {w:World} {d:Option Tmp} {ty:TypeId} {pos:String} {aft:Array Edge} {g:Option (Nat×Bool)}
theorem jDI {x:Operand} {t:TypeId} {v:Value} (hx:ε x=.iface t v):(execOp ε ⟨d,.panic x,ty,pos,aft,g⟩).run P w=.halt (.panic (.iface t v)) w:=by
 simp [execOp,hx];rfl
end
section
variable {ops:Array Oper} {Q:Env→World→Prop} {X:List PanicEntry→World→Prop} {ρ:Env} {w w':World} {rest:List Oper} {o:Oper} {v:Value}
theorem jQG (h:Q ρ w):jJM P ops Q X [] ρ w:=h
theorem jDS {f:FuncId} {args:Array Value} (hw:Region.wanted o (zO ops ρ)=true) (hd:∀c,o.op≠.defer c) (hr:(execOp (evE ρ) o).run P w=.ok (.enter f args) w') (h:Calls P f args w' fun e w''=>(∃v,e=.returned v∧jJM P ops Q X rest (put ρ o.dst v) w'')∨∃ch,e=.panicked ch∧X ch w''):jJM P ops Q X (o :: rest) ρ w:=by
 unfold jJM;rw [if_pos hw];exact ⟨hd,by rw [hr];exact h⟩
theorem jBF {pv:Value} (hw:Region.wanted o (zO ops ρ)=true) (hd:∀c,o.op≠.defer c) (hr:(execOp (evE ρ) o).run P w=.halt (.panic pv) w') (h:X [{ v:=pv,recovered:=false }] w'):jJM P ops Q X (o :: rest) ρ w:=by
 unfold jJM;rw [if_pos hw];exact ⟨hd,by rw [hr];exact h⟩
end
section
variable {ε:Operand→Value} {w:World} {d:Option Tmp} {ty:TypeId} {pos:String} {aft:Array Edge} {g:Option (Nat×Bool)}
end
end Go.SE
end
section
open Go Go.SE
open Go.IntKind renaming i64 → q6
namespace Go.Proofs
open Tryz
set_option maxRecDepth 100000
set_option maxHeartbeats 4000000
attribute [local irreducible] wpL wpX opE wpE Calls
def m_S3  (w0:World) (K:(Option Addr)→WP):Prop :=∀p1 w1,New w0 (.cells #[Sl.nil.v,Sl.nil.v,Sl.nil.v] 52) p1 w1→K (some p1) w1
theorem w_S3  (w0:World) (K:(Option Addr)→WP) (h:m_S3  w0 K) :
  Calls prog 12 #[] w0 (fun e w'=>∃r1,e=.returned (vp r1)∧K r1 w'):=by
 refine cw (args:=[]) func12 ntmps12 (eg (q0 (vp none) (ln (eg (q0 (.agg #[Sl.nil.v,Sl.nil.v,Sl.nil.v]) (sn (O:=(.cells #[Sl.nil.v,Sl.nil.v,Sl.nil.v] 52)) xb ?_))))))
 intro p1 w1 hn1
 have h:=h p1 w1 hn1
 refine q (ln (er (rs1 results12 ⟨(some p1),rfl,h⟩)))
def s_F1 (aD aE:Int) (aF aG:Int) (aH:ByteArray) (aI:Sl):Int×Int×Int×Int×ByteArray×Int×Int :=(aD,aE,aF,aG,aH,0,0)
theorem pw_F1 (aD aE:Int) (aF aG:Int) (aH:ByteArray) (aI:Sl) (w0:World) :
  Calls prog 111 #[(.agg #[(vi aD),(vi aE),(vi aF),(vu aG),(vs aH),aI.v])] w0 (fun e w'=>(e=.returned (Ae aD aE aF aG aH 0 0))∧Pure w0 w'):=by
 refine cw (args:=[(Aa aD aE aF aG aH aI)]) func111 ntmps111 ?_
 obtain ⟨hs,hb⟩:=st0 w0
 refine eg (nw3 (Ad aD aE aF aG aH aI) 28 hs hb xb fun p1 w1 H1 hs hb=>nw3 (Ai 0 0 0 0 0 0) 103 hs hb (zI (zeroValue103 _) rfl) fun p2 w2 H2 hs hb=>ln (eg (q (q3 (xl (isAgg3 _) (hb.d0 1 (gS gZ))) (q (q3 (xl (isAgg3 _) (hb.d 1 1 (gS gZ))) (q (q3 (xl (isAgg3 _) (hb.d 1 2 (gS gZ))) (q (q3 (xl (isAgg26 _) (hb.d 1 3 (gS gZ))) (q (q3 (xl (isAgg9 _) (hb.d 1 4 (gS gZ))) (q (yK (zJ rfl) (xo p2 (Ac aD aE aF aG aH 0 0) (sizeOf103 _) (hb.k0 0 7 gZ)) ?_))))))))))))))
 intro w3 hn3
 obtain ⟨hs,hb⟩:=hb.st1 0 hs hn3 gZ
 refine ln (er (jDY (.inl rfl) (vs:=[(Ae aD aE aF aG aH 0 0)]) (v:=(Ae aD aE aF aG aH 0 0)) results111 ⟨(rva (isAgg103 _) (sizeOf103 _) (hb.r0 0 7 gZ)),trivial⟩ (by kernel_rfl) ⟨by kernel_rfl,(Ext.refl (F:=None) _).hst hs⟩))
theorem p_F1 (aD aE:Int) (aF aG:Int) (aH:ByteArray) (aI:Sl) (w0:World):Calls prog 111 #[(.agg #[(.int .i64 aD),(.int .i64 aE),(.int .i64 aF),(.int .u64 aG),(.string aH),aI.v])] w0 (fun e w'=>e=.returned (.agg #[(.int .i64 (s_F1 aD aE aF aG aH aI).1),(.int .i64 (s_F1 aD aE aF aG aH aI).2.1),(.int .i64 (s_F1 aD aE aF aG aH aI).2.2.1),(.int .u64 (s_F1 aD aE aF aG aH aI).2.2.2.1),(.string (s_F1 aD aE aF aG aH aI).2.2.2.2.1),(.int .i64 (s_F1 aD aE aF aG aH aI).2.2.2.2.2.1),(.int .i64 (s_F1 aD aE aF aG aH aI).2.2.2.2.2.2)])∧Pure w0 w'):=pw_F1 aD aE aF aG aH aI w0
def s_B2 (kind1:Int):Bool :=((kind1 == 8) || (kind1 == 9))
theorem pw_B2 (kind1:Int) (w0:World) :
  Calls prog 208 #[(vi kind1)] w0 (fun e w'=>(e=.returned (vb ((kind1 == 8) || (kind1 == 9))))∧Pure w0 w'):=by
 refine cw (args:=[(vi kind1)]) func208 ntmps208 (eg (q0 (vb false) (ln (zB ?_))))
 refine vJ (fun ρ wJ=>w0=wJ∧Has ρ [(2,(vb ((kind1 == 8) || (kind1 == 9))))]) ?_ ?_
 refine rg (qc (zK 3 (fun ρ wJ=>∃b3'0:Bool,((kind1 == 8)=b3'0)∧w0=wJ∧Has ρ [(8,(vb (b3'0 || (kind1 == 9))))]) ?_ ?_))
 rintro ρ w3 ⟨b3'0,he0,hw,hH⟩
 subst he0
 subst hw
 refine zP hH (q (ln ⟨rfl,hm⟩))
 rcases bte (kind1 == 8) with hg4 | hg4
 refine sj2 5 hg4 (q2 (vb true) (xT hg4) (zC ⟨true,hg4,rfl,hm⟩))
 refine qk 5 hg4 (qk 5 hg4 (q2 (vb (kind1 == 9)) (xF hg4) (zC ⟨false,hg4,rfl,hm⟩)))
 rintro ρ w2 ⟨hw,hH⟩
 subst hw
 refine zW hH (zN (er (rs1 results208 (v:=(vb ((kind1 == 8) || (kind1 == 9)))) ⟨by kernel_rfl,Ext.refl _⟩)))
theorem p_B2 (kind1:Int) (w0:World):Calls prog 208 #[(.int .i64 kind1)] w0 (fun e w'=>e=.returned (.bool (s_B2 kind1))∧Pure w0 w'):=pw_B2 kind1 w0
def s_D (kind1:Int):Bool :=((((kind1 == 1) || (kind1 == 6)) || (kind1 == 7)) || ((kind1 == 8) || (kind1 == 9)))
theorem pw_D (kind1:Int) (w0:World) :
  Calls prog 206 #[(vi kind1)] w0 (fun e w'=>(e=.returned (vb ((((kind1 == 1) || (kind1 == 6)) || (kind1 == 7)) || ((kind1 == 8) || (kind1 == 9)))))∧Pure w0 w'):=by
 refine cw (args:=[(vi kind1)]) func206 ntmps206 ?_
 obtain ⟨hs,hb⟩:=st0 w0
 refine eg (q (ln (zB (vJ (fun ρ wJ=>∃HJ:NP,Hst w0 None w0 HJ wJ∧HB HJ wJ []∧Has ρ [(2,(vb ((((kind1 == 1) || (kind1 == 6)) || (kind1 == 7)) || ((kind1 == 8) || (kind1 == 9)))))]) ?_ ?_))))
 refine rg (qc (zK 3 (fun ρ wJ=>∃b5'0:Bool,∃HJ:NP,((kind1 == 1)=b5'0)∧Hst w0 None w0 HJ wJ∧HB HJ wJ []∧Has ρ [(0,(vi kind1)),(8,(vb (b5'0 || (kind1 == 6))))]) ?_ ?_))
 rintro ρ w7 ⟨b5'0,H5,he0,hs,hb,hH⟩
 subst he0
 refine zP hH (q (zK 3 (fun ρ wJ=>∃b6'0:Bool,∃HJ:NP,(((kind1 == 1) || (kind1 == 6))=b6'0)∧Hst w0 None w0 HJ wJ∧HB HJ wJ []∧Has ρ [(0,(vi kind1)),(12,(vb (b6'0 || (kind1 == 7))))]) ?_ ?_))
 rintro ρ w8 ⟨b6'0,H6,he0,hs,hb,hH⟩
 subst he0
 refine zP hH (q (zK 3 (fun ρ wJ=>∃b7'0:Bool,∃HJ:NP,((((kind1 == 1) || (kind1 == 6)) || (kind1 == 7))=b7'0)∧Hst w0 None w0 HJ wJ∧HB HJ wJ []∧Has ρ [(16,(vb (b7'0 || ((kind1 == 8) || (kind1 == 9)))))]) ?_ ?_))
 rintro ρ w10 ⟨b7'0,H7,he0,hs,hb,hH⟩
 subst he0
 refine zP hH (q (ln ⟨_,hs,hb,hm⟩))
 rcases bte (((kind1 == 1) || (kind1 == 6)) || (kind1 == 7)) with hg12 | hg12
 refine sj2 13 hg12 (q2 (vb true) (xT hg12) (zC ⟨true,_,hg12,hs,hb,hm⟩))
 refine qk 13 hg12 (qG (wy 13 hg12) (xc call208) ((p_B2 kind1 w8).mono ?_))
 rintro e w11 ⟨he,hE⟩
 refine ⟨_,he,?_⟩
 obtain ⟨hs,hb⟩:=hs.pp hb hE
 refine q2 (vb ((kind1 == 8) || (kind1 == 9))) (xF hg12) (zC ⟨false,_,hg12,hs,hb,hm⟩)
 rcases bte ((kind1 == 1) || (kind1 == 6)) with hg10 | hg10
 refine sj2 9 hg10 (q2 (vb true) (xT hg10) (zC ⟨true,_,hg10,hs,hb,hm⟩))
 refine qk 9 hg10 (qk 9 hg10 (q2 (vb (kind1 == 7)) (xF hg10) (zC ⟨false,_,hg10,hs,hb,hm⟩)))
 rcases bte (kind1 == 1) with hg8 | hg8
 refine sj2 5 hg8 (q2 (vb true) (xT hg8) (zC ⟨true,_,hg8,hs,hb,hm⟩))
 refine qk 5 hg8 (qk 5 hg8 (q2 (vb (kind1 == 6)) (xF hg8) (zC ⟨false,_,hg8,hs,hb,hm⟩)))
 rintro ρ w6 ⟨H4,hs,hb,hH⟩
 refine zW hH (zN (er (rs1 results206 (v:=(vb ((((kind1 == 1) || (kind1 == 6)) || (kind1 == 7)) || ((kind1 == 8) || (kind1 == 9))))) ⟨by kernel_rfl,(Ext.refl (F:=None) _).hst hs⟩)))
theorem p_D (kind1:Int) (w0:World):Calls prog 206 #[(.int .i64 kind1)] w0 (fun e w'=>e=.returned (.bool (s_D kind1))∧Pure w0 w'):=pw_D kind1 w0
def s_A (kind1:Int):Int :=(cond (kind1 == 4) 2 (cond (cond (kind1 == 5) (kind1 == 5) (cond (kind1 == 7) (kind1 == 7) (cond (kind1 == 8) (kind1 == 8) (kind1 == 9)))) 1 0))
theorem pw_A (kind1:Int) (w0:World) :
  Calls prog 64 #[(vi kind1)] w0 (fun e w'=>∃b'0 b'1:Bool,((kind1 == 4)=b'0∧(cond (kind1 == 5) (kind1 == 5) (cond (kind1 == 7) (kind1 == 7) (cond (kind1 == 8) (kind1 == 8) (kind1 == 9))))=b'1)∧(e=.returned (vi (cond b'0 2 (cond b'1 1 0))))∧Pure w0 w'):=by
 refine cw (args:=[(vi kind1)]) func64 ntmps64 (eg (q0 (vi 0) (ln (zB (eg (q0 (vi kind1) (ln ?_)))))))
 refine zL (eg (qb (ln (vI (t:=(kind1 == 4)) (by kernel_rfl) (fun hc1=>?_) (fun hc1=>?_)))))
 refine eg (q (ln (er (yC (vA (rs1 results64 (v:=(vi 2)) ⟨true,_,⟨hc1,rfl⟩,by kernel_rfl,Ext.refl _⟩))))))
 refine zB (eg (qb (ln (vJ (fun ρ wJ=>∃b1'0 b1'1 b1'2:Bool,((kind1 == 5)=b1'0)∧((kind1 == 7)=b1'1)∧((kind1 == 8)=b1'2)∧w0=wJ∧Has ρ [(6,(vb (cond b1'0 (kind1 == 5) (cond b1'1 (kind1 == 7) (cond b1'2 (kind1 == 8) (kind1 == 9))))))]) ?_ ?_))))
 refine vI (t:=(kind1 == 5)) (by kernel_rfl) (fun hc5=>?_) (fun hc5=>?_)
 refine zD (zN ⟨true,_,_,hc5,rfl,rfl,rfl,hm⟩)
 refine eg (qb (ln (vI (t:=(kind1 == 7)) (by kernel_rfl) (fun hc6=>?_) (fun hc6=>?_))))
 refine zD (zN ⟨false,true,_,hc5,hc6,rfl,rfl,hm⟩)
 refine eg (qb (ln (vI (t:=(kind1 == 8)) (by kernel_rfl) (fun hc7=>?_) (fun hc7=>?_))))
 refine zD (zN ⟨false,false,true,hc5,hc6,hc7,rfl,hm⟩)
 refine rg (qb (ln ⟨false,false,false,hc5,hc6,hc7,rfl,hm⟩))
 rintro ρ w1 ⟨b1'0,b1'1,b1'2,he0,he1,he2,hw,hH⟩
 subst he0
 subst he1
 subst he2
 subst hw
 refine zW hH (zN (vI (t:=(cond (kind1 == 5) (kind1 == 5) (cond (kind1 == 7) (kind1 == 7) (cond (kind1 == 8) (kind1 == 8) (kind1 == 9))))) (by kernel_rfl) (fun hc8=>?_) (fun hc8=>?_)))
 refine eg (q (ln (er (yC (vA (rs1 results64 (v:=(vi 1)) ⟨false,true,⟨hc1,hc8⟩,by kernel_rfl,Ext.refl _⟩))))))
 refine zD (xE (zN (eg (q (ln (er (rs1 results64 (v:=(vi 0)) ⟨false,false,⟨hc1,hc8⟩,by kernel_rfl,Ext.refl _⟩)))))))
theorem p_A (kind1:Int) (w0:World):Calls prog 64 #[(.int .i64 kind1)] w0 (fun e w'=>e=.returned (.int .i64 (s_A kind1))∧Pure w0 w'):=by
 refine (pw_A kind1 w0).mono ?_;rintro e w' ⟨b'0,b'1,⟨e0,e1⟩,h,E⟩;subst e0;subst e1;exact ⟨h,E⟩
def s_G1 (aA aB:Int) (aC aK:Int) (aJ:ByteArray) (aL aM:Int):Bool :=(!((decide (aA<1)) || (decide (aA>9))) && (((((((s_D aA) || (aB == 0)) && (((aA == 8) || (aA == 9)) || (aC == 0))) && ((aA == 2) || (aK == 0))) && ((aA == 3) || (decide (aJ=⟨#[]⟩)))) && ((decide ((s_A aA)≥1)) || (aL == 0))) && ((((s_A aA):Int) == 2) || (aM == 0))))
theorem pw_G1 (aA aB:Int) (aC aK:Int) (aJ:ByteArray) (aL aM:Int) (w0:World) :
  Calls prog 205 #[(.agg #[(vi aA),(vi aB),(vi aC),(vu aK),(vs aJ),(vi aL),(vi aM)])] w0 (fun e w'=>∃b'0:Bool,(((decide (aA<1)) || (decide (aA>9)))=b'0)∧(e=.returned (vb (!b'0 && (((((((s_D aA) || (aB == 0)) && (((aA == 8) || (aA == 9)) || (aC == 0))) && ((aA == 2) || (aK == 0))) && ((aA == 3) || (decide (aJ=⟨#[]⟩)))) && ((decide ((s_A aA)≥1)) || (aL == 0))) && ((((s_A aA):Int) == 2) || (aM == 0))))))∧Pure w0 w'):=by
 refine cw (args:=[(Ae aA aB aC aK aJ aL aM)]) func205 ntmps205 ?_
 obtain ⟨hs,hb⟩:=st0 w0
 refine eg (nw3 (Ac aA aB aC aK aJ aL aM) 103 hs hb xb fun p1 w1 H1 hs hb=>q (ln (zB (zB (vJ (fun ρ wJ=>∃b1'0:Bool,∃HJ:NP,((decide (aA<1))=b1'0)∧Hst w0 None w0 HJ wJ∧HB HJ wJ [(p1,(Ac aA aB aC aK aJ aL aM),103)]∧Has ρ [(1,(vp (some p1))),(10,(vb (b1'0 || (decide (aA>9)))))]) ?_ ?_)))))
 refine rg (q (q3 (xl (isAgg3 _) (hb.d0 0 gZ)) (qb ?_)))
 rcases bte (decide (aA<1)) with hg2 | hg2
 refine sj3 6 hg2 (q2 (vb true) (xT hg2) (ln ⟨true,_,hg2,hs,hb,hm⟩))
 refine qk 6 hg2 (q4 6 hg2 (xl (isAgg3 _) (hb.d0 0 gZ)) (qk 6 hg2 (q2 (vb (decide (aA>9))) (xF hg2) (ln ⟨false,_,hg2,hs,hb,hm⟩))))
 rintro ρ w2 ⟨b1'0,H2,he0,hs,hb,hH⟩
 subst he0
 refine zW hH (zN (vI (t:=((decide (aA<1)) || (decide (aA>9)))) (by kernel_rfl) (fun hc1=>?_) (fun hc1=>?_)))
 refine eg (q (ln (er (vA (rs1 results205 (v:=(vb false)) ⟨true,hc1,by kernel_rfl,(Ext.refl (F:=None) _).hst hs⟩)))))
 refine zD (zN (zB (vJ (fun ρ wJ=>∃HJ:NP,Hst w0 None w0 HJ wJ∧HB HJ wJ [(p1,(Ac aA aB aC aK aJ aL aM),103)]∧Has ρ [(2,(vb (((((((s_D aA) || (aB == 0)) && (((aA == 8) || (aA == 9)) || (aC == 0))) && ((aA == 2) || (aK == 0))) && ((aA == 3) || (decide (aJ=⟨#[]⟩)))) && ((decide ((s_A aA)≥1)) || (aL == 0))) && ((((s_A aA):Int) == 2) || (aM == 0)))))]) ?_ ?_)))
 refine rg (q (q3 (xl (isAgg3 _) (hb.d0 0 gZ)) (sc call206 ((p_D aA w2).mono ?_))))
 rintro e w27 ⟨he,hE⟩
 refine ⟨_,he,?_⟩
 obtain ⟨hs,hb⟩:=hs.pp hb hE
 refine q (zK 4 (fun ρ wJ=>∃b19'0:Bool,∃HJ:NP,((s_D aA)=b19'0)∧Hst w0 None w0 HJ wJ∧HB HJ wJ [(p1,(Ac aA aB aC aK aJ aL aM),103)]∧Has ρ [(1,(vp (some p1))),(18,(vb (b19'0 || (aB == 0))))]) ?_ ?_)
 rintro ρ w28 ⟨b19'0,H20,he0,hs,hb,hH⟩
 subst he0
 refine zP hH (q (zK 9 (fun ρ wJ=>∃b21'0:Bool,∃HJ:NP,(((s_D aA) || (aB == 0))=b21'0)∧Hst w0 None w0 HJ wJ∧HB HJ wJ [(p1,(Ac aA aB aC aK aJ aL aM),103)]∧Has ρ [(1,(vp (some p1))),(28,(vb (b21'0 && (((aA == 8) || (aA == 9)) || (aC == 0)))))]) ?_ ?_))
 rintro ρ w31 ⟨b21'0,H22,he0,hs,hb,hH⟩
 subst he0
 refine zP hH (q (zK 9 (fun ρ wJ=>∃b24'0:Bool,∃HJ:NP,((((s_D aA) || (aB == 0)) && (((aA == 8) || (aA == 9)) || (aC == 0)))=b24'0)∧Hst w0 None w0 HJ wJ∧HB HJ wJ [(p1,(Ac aA aB aC aK aJ aL aM),103)]∧Has ρ [(1,(vp (some p1))),(38,(vb (b24'0 && ((aA == 2) || (aK == 0)))))]) ?_ ?_))
 rintro ρ w35 ⟨b24'0,H25,he0,hs,hb,hH⟩
 subst he0
 refine zP hH (q (zK 9 (fun ρ wJ=>∃b27'0:Bool,∃HJ:NP,(((((s_D aA) || (aB == 0)) && (((aA == 8) || (aA == 9)) || (aC == 0))) && ((aA == 2) || (aK == 0)))=b27'0)∧Hst w0 None w0 HJ wJ∧HB HJ wJ [(p1,(Ac aA aB aC aK aJ aL aM),103)]∧Has ρ [(1,(vp (some p1))),(48,(vb (b27'0 && ((aA == 3) || (decide (aJ=⟨#[]⟩))))))]) ?_ ?_))
 rintro ρ w38 ⟨b27'0,H28,he0,hs,hb,hH⟩
 subst he0
 refine zP hH (q (zK 10 (fun ρ wJ=>∃b30'0:Bool,∃HJ:NP,((((((s_D aA) || (aB == 0)) && (((aA == 8) || (aA == 9)) || (aC == 0))) && ((aA == 2) || (aK == 0))) && ((aA == 3) || (decide (aJ=⟨#[]⟩))))=b30'0)∧Hst w0 None w0 HJ wJ∧HB HJ wJ [(p1,(Ac aA aB aC aK aJ aL aM),103)]∧Has ρ [(1,(vp (some p1))),(59,(vb (b30'0 && ((decide ((s_A aA)≥1)) || (aL == 0)))))]) ?_ ?_))
 rintro ρ w42 ⟨b30'0,H31,he0,hs,hb,hH⟩
 subst he0
 refine zP hH (q (zK 10 (fun ρ wJ=>∃b33'0:Bool,∃HJ:NP,(((((((s_D aA) || (aB == 0)) && (((aA == 8) || (aA == 9)) || (aC == 0))) && ((aA == 2) || (aK == 0))) && ((aA == 3) || (decide (aJ=⟨#[]⟩)))) && ((decide ((s_A aA)≥1)) || (aL == 0)))=b33'0)∧Hst w0 None w0 HJ wJ∧HB HJ wJ [(p1,(Ac aA aB aC aK aJ aL aM),103)]∧Has ρ [(70,(vb (b33'0 && ((((s_A aA):Int) == 2) || (aM == 0)))))]) ?_ ?_))
 rintro ρ w47 ⟨b33'0,H34,he0,hs,hb,hH⟩
 subst he0
 refine zP hH (q (ln ⟨_,hs,hb,hm⟩))
 rcases bte ((((((s_D aA) || (aB == 0)) && (((aA == 8) || (aA == 9)) || (aC == 0))) && ((aA == 2) || (aK == 0))) && ((aA == 3) || (decide (aJ=⟨#[]⟩)))) && ((decide ((s_A aA)≥1)) || (aL == 0))) with hg64 | hg64
 refine qk 60 hg64 (q4 60 hg64 (xl (isAgg3 _) (hb.d0 0 gZ)) (qG (wy 60 hg64) (xc call64) ((p_A aA w42).mono ?_)))
 rintro e w48 ⟨he,hE⟩
 refine ⟨_,he,?_⟩
 obtain ⟨hs,hb⟩:=hs.pp hb hE
 refine qk 60 hg64 (qk 60 hg64 (zK 4 (fun ρ wJ=>∃b34'0:Bool,∃HJ:NP,((((s_A aA):Int) == 2)=b34'0)∧Hst w0 None w0 HJ wJ∧HB HJ wJ [(p1,(Ac aA aB aC aK aJ aL aM),103)]∧Has ρ [(60,(vb ((((((s_D aA) || (aB == 0)) && (((aA == 8) || (aA == 9)) || (aC == 0))) && ((aA == 2) || (aK == 0))) && ((aA == 3) || (decide (aJ=⟨#[]⟩)))) && ((decide ((s_A aA)≥1)) || (aL == 0))))),(69,(vb (b34'0 || (aM == 0))))]) ?_ ?_))
 rintro ρ w49 ⟨b34'0,H35,he0,hs,hb,hH⟩
 subst he0
 refine zP hH (q2 (vb ((((s_A aA):Int) == 2) || (aM == 0))) (xT hg64) (zC ⟨true,_,hg64,hs,hb,hm⟩))
 rcases bte (((s_A aA):Int) == 2) with hg66 | hg66
 refine sj3 65 hg66 (stq (v:=(vb true)) (wy 60 hg64) (xT hg66) (zC ⟨true,_,hg66,hs,hb,hm⟩))
 refine qk 65 hg66 (q4 65 hg66 (xl (isAgg23 _) (hb.d 0 6 gZ)) (qk 65 hg66 (stq (v:=(vb (aM == 0))) (wy 60 hg64) (xF hg66) (zC ⟨false,_,hg66,hs,hb,hm⟩))))
 refine sj5 60 hg64 (sm (sm (sm (sj 60 hg64 (q2 (vb false) (xF hg64) (zC ⟨false,_,hg64,hs,hb,hm⟩))))))
 rcases bte (((((s_D aA) || (aB == 0)) && (((aA == 8) || (aA == 9)) || (aC == 0))) && ((aA == 2) || (aK == 0))) && ((aA == 3) || (decide (aJ=⟨#[]⟩)))) with hg58 | hg58
 refine qk 49 hg58 (q4 49 hg58 (xl (isAgg3 _) (hb.d0 0 gZ)) (qG (wy 49 hg58) (xc call64) ((p_A aA w38).mono ?_)))
 rintro e w43 ⟨he,hE⟩
 refine ⟨_,he,?_⟩
 obtain ⟨hs,hb⟩:=hs.pp hb hE
 refine qk 49 hg58 (qk 49 hg58 (zK 4 (fun ρ wJ=>∃b31'0:Bool,∃HJ:NP,((decide ((s_A aA)≥1))=b31'0)∧Hst w0 None w0 HJ wJ∧HB HJ wJ [(p1,(Ac aA aB aC aK aJ aL aM),103)]∧Has ρ [(1,(vp (some p1))),(49,(vb (((((s_D aA) || (aB == 0)) && (((aA == 8) || (aA == 9)) || (aC == 0))) && ((aA == 2) || (aK == 0))) && ((aA == 3) || (decide (aJ=⟨#[]⟩)))))),(58,(vb (b31'0 || (aL == 0))))]) ?_ ?_))
 rintro ρ w44 ⟨b31'0,H32,he0,hs,hb,hH⟩
 subst he0
 refine zP hH (q2 (vb ((decide ((s_A aA)≥1)) || (aL == 0))) (xT hg58) (zC ⟨true,_,hg58,hs,hb,hm⟩))
 rcases bte (decide ((s_A aA)≥1)) with hg60 | hg60
 refine sj3 54 hg60 (stq (v:=(vb true)) (wy 49 hg58) (xT hg60) (zC ⟨true,_,hg60,hs,hb,hm⟩))
 refine qk 54 hg60 (q4 54 hg60 (xl (isAgg23 _) (hb.d 0 5 gZ)) (qk 54 hg60 (stq (v:=(vb (aL == 0))) (wy 49 hg58) (xF hg60) (zC ⟨false,_,hg60,hs,hb,hm⟩))))
 refine sj5 49 hg58 (sm (sm (sm (sj 49 hg58 (q2 (vb false) (xF hg58) (zC ⟨false,_,hg58,hs,hb,hm⟩))))))
 rcases bte ((((s_D aA) || (aB == 0)) && (((aA == 8) || (aA == 9)) || (aC == 0))) && ((aA == 2) || (aK == 0))) with hg52 | hg52
 refine qk 39 hg52 (q4 39 hg52 (xl (isAgg3 _) (hb.d0 0 gZ)) (qk 39 hg52 (qk 39 hg52 (zK 4 (fun ρ wJ=>∃b28'0:Bool,∃HJ:NP,((aA == 3)=b28'0)∧Hst w0 None w0 HJ wJ∧HB HJ wJ [(p1,(Ac aA aB aC aK aJ aL aM),103)]∧Has ρ [(1,(vp (some p1))),(39,(vb ((((s_D aA) || (aB == 0)) && (((aA == 8) || (aA == 9)) || (aC == 0))) && ((aA == 2) || (aK == 0))))),(47,(vb (b28'0 || (decide (aJ=⟨#[]⟩)))))]) ?_ ?_))))
 rintro ρ w39 ⟨b28'0,H29,he0,hs,hb,hH⟩
 subst he0
 refine zP hH (q2 (vb ((aA == 3) || (decide (aJ=⟨#[]⟩)))) (xT hg52) (zC ⟨true,_,hg52,hs,hb,hm⟩))
 rcases bte (aA == 3) with hg54 | hg54
 refine sj3 43 hg54 (stq (v:=(vb true)) (wy 39 hg52) (xT hg54) (zC ⟨true,_,hg54,hs,hb,hm⟩))
 refine qk 43 hg54 (q4 43 hg54 (xl (isAgg9 _) (hb.d 0 4 gZ)) (stq (v:=(vb (decide (aJ=⟨#[]⟩)))) (wy 43 hg54) (jAO (by kernel_rfl) (by kernel_rfl)) (stq (v:=(vb (decide (aJ=⟨#[]⟩)))) (wy 39 hg52) (xF hg54) (zC ⟨false,_,hg54,hs,hb,hm⟩))))
 refine sj4 39 hg52 (sm (sm (sm (sj 39 hg52 (q2 (vb false) (xF hg52) (zC ⟨false,_,hg52,hs,hb,hm⟩))))))
 rcases bte (((s_D aA) || (aB == 0)) && (((aA == 8) || (aA == 9)) || (aC == 0))) with hg46 | hg46
 refine qk 29 hg46 (q4 29 hg46 (xl (isAgg3 _) (hb.d0 0 gZ)) (qk 29 hg46 (qk 29 hg46 (zK 4 (fun ρ wJ=>∃b25'0:Bool,∃HJ:NP,((aA == 2)=b25'0)∧Hst w0 None w0 HJ wJ∧HB HJ wJ [(p1,(Ac aA aB aC aK aJ aL aM),103)]∧Has ρ [(1,(vp (some p1))),(29,(vb (((s_D aA) || (aB == 0)) && (((aA == 8) || (aA == 9)) || (aC == 0))))),(37,(vb (b25'0 || (aK == 0))))]) ?_ ?_))))
 rintro ρ w36 ⟨b25'0,H26,he0,hs,hb,hH⟩
 subst he0
 refine zP hH (q2 (vb ((aA == 2) || (aK == 0))) (xT hg46) (zC ⟨true,_,hg46,hs,hb,hm⟩))
 rcases bte (aA == 2) with hg48 | hg48
 refine sj3 33 hg48 (stq (v:=(vb true)) (wy 29 hg46) (xT hg48) (zC ⟨true,_,hg48,hs,hb,hm⟩))
 refine qk 33 hg48 (q4 33 hg48 (xl (isAgg26 _) (hb.d 0 3 gZ)) (qk 33 hg48 (stq (v:=(vb (aK == 0))) (wy 29 hg46) (xF hg48) (zC ⟨false,_,hg48,hs,hb,hm⟩))))
 refine sj4 29 hg46 (sm (sm (sm (sj 29 hg46 (q2 (vb false) (xF hg46) (zC ⟨false,_,hg46,hs,hb,hm⟩))))))
 rcases bte ((s_D aA) || (aB == 0)) with hg40 | hg40
 refine qk 19 hg40 (q4 19 hg40 (xl (isAgg3 _) (hb.d0 0 gZ)) (qG (wy 19 hg40) (xc call208) ((p_B2 aA w28).mono ?_)))
 rintro e w32 ⟨he,hE⟩
 refine ⟨_,he,?_⟩
 obtain ⟨hs,hb⟩:=hs.pp hb hE
 refine qk 19 hg40 (zK 4 (fun ρ wJ=>∃b22'0:Bool,∃HJ:NP,(((aA == 8) || (aA == 9))=b22'0)∧Hst w0 None w0 HJ wJ∧HB HJ wJ [(p1,(Ac aA aB aC aK aJ aL aM),103)]∧Has ρ [(1,(vp (some p1))),(19,(vb ((s_D aA) || (aB == 0)))),(27,(vb (b22'0 || (aC == 0))))]) ?_ ?_)
 rintro ρ w33 ⟨b22'0,H23,he0,hs,hb,hH⟩
 subst he0
 refine zP hH (q2 (vb (((aA == 8) || (aA == 9)) || (aC == 0))) (xT hg40) (zC ⟨true,_,hg40,hs,hb,hm⟩))
 rcases bte ((aA == 8) || (aA == 9)) with hg42 | hg42
 refine sj3 23 hg42 (stq (v:=(vb true)) (wy 19 hg40) (xT hg42) (zC ⟨true,_,hg42,hs,hb,hm⟩))
 refine qk 23 hg42 (q4 23 hg42 (xl (isAgg3 _) (hb.d 0 2 gZ)) (qk 23 hg42 (stq (v:=(vb (aC == 0))) (wy 19 hg40) (xF hg42) (zC ⟨false,_,hg42,hs,hb,hm⟩))))
 refine sj4 19 hg40 (sm (sm (sm (sj 19 hg40 (q2 (vb false) (xF hg40) (zC ⟨false,_,hg40,hs,hb,hm⟩))))))
 rcases bte (s_D aA) with hg36 | hg36
 refine sj3 14 hg36 (q2 (vb true) (xT hg36) (zC ⟨true,_,hg36,hs,hb,hm⟩))
 refine qk 14 hg36 (q4 14 hg36 (xl (isAgg3 _) (hb.d 0 1 gZ)) (qk 14 hg36 (q2 (vb (aB == 0)) (xF hg36) (zC ⟨false,_,hg36,hs,hb,hm⟩))))
 rintro ρ w26 ⟨H19,hs,hb,hH⟩
 refine zW hH (zN (er (rs1 results205 (v:=(vb (((((((s_D aA) || (aB == 0)) && (((aA == 8) || (aA == 9)) || (aC == 0))) && ((aA == 2) || (aK == 0))) && ((aA == 3) || (decide (aJ=⟨#[]⟩)))) && ((decide ((s_A aA)≥1)) || (aL == 0))) && ((((s_A aA):Int) == 2) || (aM == 0))))) ⟨false,hc1,by kernel_rfl,(Ext.refl (F:=None) _).hst hs⟩)))
theorem p_G1 (aA aB:Int) (aC aK:Int) (aJ:ByteArray) (aL aM:Int) (w0:World):Calls prog 205 #[(.agg #[(.int .i64 aA),(.int .i64 aB),(.int .i64 aC),(.int .u64 aK),(.string aJ),(.int .i64 aL),(.int .i64 aM)])] w0 (fun e w'=>e=.returned (.bool (s_G1 aA aB aC aK aJ aL aM))∧Pure w0 w'):=by
 refine (pw_G1 aA aB aC aK aJ aL aM w0).mono ?_;rintro e w' ⟨b'0,e0,h,E⟩;subst e0;exact ⟨h,E⟩
def s_J2 (n1:Int):Bool :=((decide (n1≥0)) && (decide (n1<16)))
theorem pw_J2 (n1:Int) (w0:World) :
  Calls prog 207 #[(vi n1)] w0 (fun e w'=>(e=.returned (vb ((decide (n1≥0)) && (decide (n1<16)))))∧Pure w0 w'):=by
 refine cw (args:=[(vi n1)]) func207 ntmps207 (eg (q0 (vb false) (ln (zB ?_))))
 refine vJ (fun ρ wJ=>w0=wJ∧Has ρ [(2,(vb ((decide (n1≥0)) && (decide (n1<16)))))]) ?_ ?_
 refine rg (qc (zK 3 (fun ρ wJ=>∃b3'0:Bool,((decide (n1≥0))=b3'0)∧w0=wJ∧Has ρ [(8,(vb (b3'0 && (decide (n1<16)))))]) ?_ ?_))
 rintro ρ w3 ⟨b3'0,he0,hw,hH⟩
 subst he0
 subst hw
 refine zP hH (q (ln ⟨rfl,hm⟩))
 rcases bte (decide (n1≥0)) with hg4 | hg4
 refine qk 5 hg4 (qk 5 hg4 (q2 (vb (decide (n1<16))) (xT hg4) (zC ⟨true,hg4,rfl,hm⟩)))
 refine sj2 5 hg4 (q2 (vb false) (xF hg4) (zC ⟨false,hg4,rfl,hm⟩))
 rintro ρ w2 ⟨hw,hH⟩
 subst hw
 refine zW hH (zN (er (rs1 results207 (v:=(vb ((decide (n1≥0)) && (decide (n1<16))))) ⟨by kernel_rfl,Ext.refl _⟩)))
theorem p_J2 (n1:Int) (w0:World):Calls prog 207 #[(.int .i64 n1)] w0 (fun e w'=>e=.returned (.bool (s_J2 n1))∧Pure w0 w'):=pw_J2 n1 w0
def s_I (aA aB:Int) (aC aK:Int) (aJ:ByteArray) (aL aM:Int):Int :=(cond (!(s_G1 aA aB aC aK aJ aL aM)) 53 (cond (((s_D aA) && (!((decide (aB≥0)) && (decide (aB<16))))) || (((aA == 8) || (aA == 9)) && ((!((decide (aC≥0)) && (decide (aC<16)))) || (aB == aC)))) 50 (cond (decide ((aJ.size:Int)>64)) 1 0)))
theorem pw_I (aA aB:Int) (aC aK:Int) (aJ:ByteArray) (aL aM:Int) (w0:World) :
  Calls prog 153 #[(.agg #[(vi aA),(vi aB),(vi aC),(vu aK),(vs aJ),(vi aL),(vi aM)])] w0 (fun e w'=>∃b'0 b'1 b'2:Bool,((!(s_G1 aA aB aC aK aJ aL aM))=b'0∧(((s_D aA) && (!((decide (aB≥0)) && (decide (aB<16))))) || (((aA == 8) || (aA == 9)) && ((!((decide (aC≥0)) && (decide (aC<16)))) || (aB == aC))))=b'1∧(decide ((aJ.size:Int)>64))=b'2)∧(e=.returned (vi (cond b'0 53 (cond b'1 50 (cond b'2 1 0)))))∧Pure w0 w'):=by
 refine cw (args:=[(Ae aA aB aC aK aJ aL aM)]) func153 ntmps153 ?_
 obtain ⟨hs,hb⟩:=st0 w0
 refine eg (nw3 (Ac aA aB aC aK aJ aL aM) 103 hs hb xb fun p1 w1 H1 hs hb=>q (ln (zB (eg (q2 (Ae aA aB aC aK aJ aL aM) (xa p1 (Ac aA aB aC aK aJ aL aM) (isAgg103 _) (sizeOf103 _) (hb.r0 0 7 gZ)) (sc call205 ((p_G1 aA aB aC aK aJ aL aM w1).mono ?_)))))))
 rintro e w2 ⟨he,hE⟩
 refine ⟨_,he,?_⟩
 obtain ⟨hs,hb⟩:=hs.pp hb hE
 refine q (ln (vI (t:=(!(s_G1 aA aB aC aK aJ aL aM))) (by kernel_rfl) (fun hc1=>?_) (fun hc1=>?_)))
 refine eg (q (ln (er (vA (rs1 results153 (v:=(vi 53)) ⟨true,_,_,⟨hc1,rfl,rfl⟩,by kernel_rfl,(Ext.refl (F:=None) _).hst hs⟩)))))
 refine zD (zN (zB (zB (vJ (fun ρ wJ=>∃b5'0:Bool,∃HJ:NP,(((s_D aA) && (!((decide (aB≥0)) && (decide (aB<16)))))=b5'0)∧Hst w0 None w0 HJ wJ∧HB HJ wJ [(p1,(Ac aA aB aC aK aJ aL aM),103)]∧Has ρ [(1,(vp (some p1))),(32,(vb (b5'0 || (((aA == 8) || (aA == 9)) && ((!((decide (aC≥0)) && (decide (aC<16)))) || (aB == aC))))))]) ?_ ?_))))
 refine rg (q (q3 (xl (isAgg3 _) (hb.d0 0 gZ)) (sc call206 ((p_D aA w2).mono ?_))))
 rintro e w14 ⟨he,hE⟩
 refine ⟨_,he,?_⟩
 obtain ⟨hs,hb⟩:=hs.pp hb hE
 refine q (zK 5 (fun ρ wJ=>∃b6'0:Bool,∃HJ:NP,((s_D aA)=b6'0)∧Hst w0 None w0 HJ wJ∧HB HJ wJ [(p1,(Ac aA aB aC aK aJ aL aM),103)]∧Has ρ [(1,(vp (some p1))),(14,(vb (b6'0 && (!((decide (aB≥0)) && (decide (aB<16)))))))]) ?_ ?_)
 rintro ρ w16 ⟨b6'0,H7,he0,hs,hb,hH⟩
 subst he0
 refine zP hH (q ?_)
 rcases bte ((s_D aA) && (!((decide (aB≥0)) && (decide (aB<16))))) with hg12 | hg12
 refine sj4 15 hg12 (sm (sm (sm (sm (sm (sm (sm (sm (sm (sm (sm (sj 15 hg12 (q2 (vb true) (xT hg12) (ln ⟨true,_,hg12,hs,hb,hm⟩))))))))))))))
 refine qk 15 hg12 (q4 15 hg12 (xl (isAgg3 _) (hb.d0 0 gZ)) (qG (wy 15 hg12) (xc call208) ((p_B2 aA w16).mono ?_)))
 rintro e w18 ⟨he,hE⟩
 refine ⟨_,he,?_⟩
 obtain ⟨hs,hb⟩:=hs.pp hb hE
 refine qk 15 hg12 (zK 12 (fun ρ wJ=>∃b8'0:Bool,∃HJ:NP,(((aA == 8) || (aA == 9))=b8'0)∧Hst w0 None w0 HJ wJ∧HB HJ wJ [(p1,(Ac aA aB aC aK aJ aL aM),103)]∧Has ρ [(1,(vp (some p1))),(15,(vb ((s_D aA) && (!((decide (aB≥0)) && (decide (aB<16))))))),(31,(vb (b8'0 && ((!((decide (aC≥0)) && (decide (aC<16)))) || (aB == aC)))))]) ?_ ?_)
 rintro ρ w21 ⟨b8'0,H9,he0,hs,hb,hH⟩
 subst he0
 refine zP hH (q2 (vb (((aA == 8) || (aA == 9)) && ((!((decide (aC≥0)) && (decide (aC<16)))) || (aB == aC)))) (xF hg12) (ln ⟨false,_,hg12,hs,hb,hm⟩))
 rcases bte ((aA == 8) || (aA == 9)) with hg16 | hg16
 refine qk 19 hg16 (q4 19 hg16 (xl (isAgg3 _) (hb.d 0 2 gZ)) (qG (wy 19 hg16) (xc call207) ((p_J2 aC w18).mono ?_)))
 rintro e w22 ⟨he,hE⟩
 refine ⟨_,he,?_⟩
 obtain ⟨hs,hb⟩:=hs.pp hb hE
 refine qk 19 hg16 (qk 19 hg16 (zK 6 (fun ρ wJ=>∃b9'0:Bool,∃HJ:NP,((!((decide (aC≥0)) && (decide (aC<16))))=b9'0)∧Hst w0 None w0 HJ wJ∧HB HJ wJ [(p1,(Ac aA aB aC aK aJ aL aM),103)]∧Has ρ [(1,(vp (some p1))),(15,(vb ((s_D aA) && (!((decide (aB≥0)) && (decide (aB<16))))))),(19,(vb ((aA == 8) || (aA == 9)))),(30,(vb (b9'0 || (aB == aC))))]) ?_ ?_))
 rintro ρ w23 ⟨b9'0,H10,he0,hs,hb,hH⟩
 subst he0
 refine zP hH (stq (v:=(vb ((!((decide (aC≥0)) && (decide (aC<16)))) || (aB == aC)))) (wy 15 hg12) (xT hg16) (zC ⟨true,_,hg16,hs,hb,hm⟩))
 rcases bte (!((decide (aC≥0)) && (decide (aC<16)))) with hg18 | hg18
 refine sj5 24 hg18 (stq (v:=(vb true)) (wy 19 hg16) (xT hg18) (zC ⟨true,_,hg18,hs,hb,hm⟩))
 refine qk 24 hg18 (q4 24 hg18 (xl (isAgg3 _) (hb.d 0 1 gZ)) (qk 24 hg18 (q4 24 hg18 (xl (isAgg3 _) (hb.d 0 2 gZ)) (qk 24 hg18 (stq (v:=(vb (aB == aC))) (wy 19 hg16) (xF hg18) (zC ⟨false,_,hg18,hs,hb,hm⟩))))))
 refine sj5 19 hg16 (sm (sm (sm (sm (sm (sj 19 hg16 (stq (v:=(vb false)) (wy 15 hg12) (xF hg16) (zC ⟨false,_,hg16,hs,hb,hm⟩))))))))
 rcases bte (s_D aA) with hg11 | hg11
 refine qk 9 hg11 (q4 9 hg11 (xl (isAgg3 _) (hb.d 0 1 gZ)) (qG (wy 9 hg11) (xc call207) ((p_J2 aB w14).mono ?_)))
 rintro e w17 ⟨he,hE⟩
 refine ⟨_,he,?_⟩
 obtain ⟨hs,hb⟩:=hs.pp hb hE
 refine qk 9 hg11 (q2 (vb (!((decide (aB≥0)) && (decide (aB<16))))) (xT hg11) (zC ⟨true,_,hg11,hs,hb,hm⟩))
 refine sj4 9 hg11 (q2 (vb false) (xF hg11) (zC ⟨false,_,hg11,hs,hb,hm⟩))
 rintro ρ w13 ⟨b5'0,H6,he0,hs,hb,hH⟩
 subst he0
 refine zW hH (zN (vI (t:=(((s_D aA) && (!((decide (aB≥0)) && (decide (aB<16))))) || (((aA == 8) || (aA == 9)) && ((!((decide (aC≥0)) && (decide (aC<16)))) || (aB == aC))))) (by kernel_rfl) (fun hc2=>?_) (fun hc2=>?_)))
 refine eg (q (ln (er (vA (rs1 results153 (v:=(vi 50)) ⟨false,true,_,⟨hc1,hc2,rfl⟩,by kernel_rfl,(Ext.refl (F:=None) _).hst hs⟩)))))
 refine zD (zN (zB (eg (q (q3 (xl (isAgg9 _) (hb.d 0 4 gZ)) (qb (ln (vI (t:=(decide ((aJ.size:Int)>64))) (by kernel_rfl) (fun hc3=>?_) (fun hc3=>?_)))))))))
 refine eg (q (ln (er (vA (rs1 results153 (v:=(vi 1)) ⟨false,false,true,⟨hc1,hc2,hc3⟩,by kernel_rfl,(Ext.refl (F:=None) _).hst hs⟩)))))
 refine zD (zN (eg (q (ln (er (rs1 results153 (v:=(vi 0)) ⟨false,false,false,⟨hc1,hc2,hc3⟩,by kernel_rfl,(Ext.refl (F:=None) _).hst hs⟩))))))
theorem p_I (aA aB:Int) (aC aK:Int) (aJ:ByteArray) (aL aM:Int) (w0:World):Calls prog 153 #[(.agg #[(.int .i64 aA),(.int .i64 aB),(.int .i64 aC),(.int .u64 aK),(.string aJ),(.int .i64 aL),(.int .i64 aM)])] w0 (fun e w'=>e=.returned (.int .i64 (s_I aA aB aC aK aJ aL aM))∧Pure w0 w'):=by
 refine (pw_I aA aB aC aK aJ aL aM w0).mono ?_;rintro e w' ⟨b'0,b'1,b'2,⟨e0,e1,e2⟩,h,E⟩;subst e0;subst e1;subst e2;exact ⟨h,E⟩
def m_Y_l2 (aI:Sl) (deep1:Int) (seen1:Option Addr) (e1 i1:Int) (w0:World) (Hl1:NP) (wl1:World) (Kc2:Int→Int→NP→WP) (K:Int→WP):Prop :=Br ((e1 == 0) && (decide (i1<(aI.len:Int)))) (∃a3:Addr,At aI i1 6 a3∧∀H4 w11,Hst w0 Hl1 wl1 H4 w11→∃aN aO aP aQ aR bD,Row w11 a3 (Ad aN aO aP aQ aR bD)∧Calls prog 110 #[(.agg #[(vi aN),(vi aO),(vi aP),(vu aQ),(vs aR),bD.v]),(vi (q6.wrap (deep1+1))),(vp seen1)] w11 (fun e w12=>∃r1,e=.returned (vi r1)∧Kept H4 w11 w12∧Kc2 r1 (q6.wrap (i1+1)) H4 w12)) (∀H4 w11,Hst w0 Hl1 wl1 H4 w11→K e1 w11)
def m_Y_j1 (aD aE:Int) (aF aG:Int) (aH:ByteArray) (aI:Sl) (deep1:Int) (seen1:Option Addr) (x1:Bool) (w0:World) (H:NP) (w:World) (K:Int→WP):Prop :=Br x1 (K 52 w) (∃a1,seen1=some a1∧∃v1,w.cell? a1=some (vi v1)∧∃a2,seen1=some a2∧zT w a2∧¬ H a2.block∧∀w2,w2=w.setCell a2 (vi (q6.wrap (v1+1)))→∀y1:Bool,y1=((((s_I aD aE aF aG aH 0 0):Int) != 53) && (((aI.len:Int):Int) != (s_A aD)))→∀H3 w10,Hst w0 H w2 H3 w10→∃(I1:Int→Int→NP→WP) (mu1:Int→Int→World→Nat),I1 (cond y1 53 (s_I aD aE aF aG aH 0 0)) 0 H3 w10∧∀(e1 i1:Int) (Hl1:NP) (wl1:World),Hst w0 Hl1 wl1 Hl1 wl1→I1 e1 i1 Hl1 wl1→m_Y_l2 aI deep1 seen1 e1 i1 w0 Hl1 wl1 (fun y'0 y'1 H' w'=>I1 y'0 y'1 H' w'∧mu1 y'0 y'1 w'<mu1 e1 i1 wl1) K)
def m_Y (aD aE:Int) (aF aG:Int) (aH:ByteArray) (aI:Sl) (deep1:Int) (seen1:Option Addr) (w0:World) (K:Int→WP):Prop :=∃a4,seen1=some a4∧∀H1 w1,Hst w0 None w0 H1 w1→∃v2,w1.cell? a4=some (vi v2)∧∀H5 w13,Hst w0 H1 w1 H5 w13→m_Y_j1 aD aE aF aG aH aI deep1 seen1 ((decide (v2≥4096)) || (decide (deep1≥64))) w0 H5 w13 K
theorem w_Y (aD aE aF aG aH aI deep1 seen1 w0 K) (h:m_Y aD aE aF aG aH aI deep1 seen1 w0 K):
  Calls prog 110 #[(.agg #[(vi aD),(vi aE),(vi aF),(vu aG),(vs aH),aI.v]),(vi deep1),(vp seen1)] w0 (fun e w'=>∃r2,e=.returned (vi r2)∧K r2 w'):=by
 refine cw (args:=[(Aa aD aE aF aG aH aI),(vi deep1),(vp seen1)]) func110 ntmps110 ?_
 obtain ⟨hs,hb⟩:=st0 w0
 refine eg (nw3 (Ad aD aE aF aG aH aI) 28 hs hb xb fun p1 w1 H1 hs hb=>q (ln (zB (zB (zY (fun ρ w=>∃x1,∃H:NP,Has ρ [(1,(vi deep1)),(2,(vp seen1)),(3,(vp (some p1))),(16,(vb x1))]∧Hst w0 H w H w∧HB H w [(p1,(Ad aD aE aF aG aH aI),28)]∧m_Y_j1 aD aE aF aG aH aI deep1 seen1 x1 w0 H w K) ?_ ?_)))))
 rintro ρ w ⟨x1,H,hH,hs,hb,h⟩
 refine zQ hH (cbr h ?_ ?_)<;>intro h
 refine eg (q (ln (er (vA (rs1 results110 ⟨52,rfl,h⟩)))))
 refine zD (zN (eg (qb (qm h fun a1 h=>ql (isAgg3 _) h fun v1 h=>q (qm h fun a2 h=>st2 (sizeOf3 _) hs hb h fun w2 hs hb h=>ln (eg (q2 (Aa aD aE aF aG aH aI) (xa p1 (Ad aD aE aF aG aH aI) (isAgg28 _) (sizeOf28 _) (hb.r0 0 6 gZ)) (sc call111 ((p_F1 aD aE aF aG aH aI w2).mono ?_)))))))))
 rintro e w3 ⟨he,hE⟩
 refine ⟨_,he,?_⟩
 obtain ⟨hs,hb⟩:=hs.pp hb hE
 refine sc call153 ((p_I aD aE aF aG aH 0 0 w3).mono ?_)
 rintro e w4 ⟨he,hE⟩
 refine ⟨_,he,?_⟩
 obtain ⟨hs,hb⟩:=hs.pp hb hE
 refine q (ln (zB (zB (vJ (fun ρ wJ=>∃b1'0 y1:Bool,∃HJ:NP,((((s_I aD aE aF aG aH 0 0):Int) != 53)=b1'0)∧(y1=(b1'0 && (((aI.len:Int):Int) != (s_A aD))))∧Hst w0 H w2 HJ wJ∧HB HJ wJ [(p1,(Ad aD aE aF aG aH aI),28)]∧Has ρ [(1,(vi deep1)),(2,(vp seen1)),(3,(vp (some p1))),(7,(vi (s_I aD aE aF aG aH 0 0))),(36,(vb y1))]) ?_ ?_))))
 refine tY (fun x=>∃H',Hst w0 H w2 H' x∧HB H' x [(p1,(Ad aD aE aF aG aH aI),28)]) [8] [] (by kernel_rfl) (by kernel_rfl) (by kernel_rfl) (by kernel_rfl) ⟨_,hs.drew,hb.drew⟩ ?_
 intro w8 hw8
 have hs:Hst w0 H w2 H w8:=by rw [hw8];exact hs.drew
 have hb:HB H w8 [(p1,(Ad aD aE aF aG aH aI),28)]:=by rw [hw8];exact hb.drew
 refine qx 0 (vi (s_I aD aE aF aG aH 0 0)) Kp0 (qx 1 (vb (((s_I aD aE aF aG aH 0 0):Int) != 53)) Kp1 (qx 2 (vb (((s_I aD aE aF aG aH 0 0):Int) != 53)) Kp2 (qg 3 ?_)))
 rcases bte (((s_I aD aE aF aG aH 0 0):Int) != 53) with hg2 | hg2
 refine sz (v:=(vp (some (p1.add 5)))) Kp3 (wy 28 hg2) (fun _ _=>(by kernel_rfl)) (qg 4 (sz (v:=aI.v) Kp4 (wy 28 hg2) (fun w' hw'=>(by obtain ⟨H',hs',hb'⟩:=hw';exact (xl (isAgg22 _) (hb'.cell 0 5 gZ (by kernel_rfl))))) (qw 5 (vi (aI.len:Int)) Kp5 (wy 28 hg2) (qw 6 (vp (some p1)) Kp6 (wy 28 hg2) (qg 7 (sz (v:=(vi aD)) Kp7 (wy 28 hg2) (fun w' hw'=>(by obtain ⟨H',hs',hb'⟩:=hw';exact (xl (isAgg3 _) (hb'.cell0 0 gZ (by kernel_rfl))))) (lg 8 (yP Kp8 (wy 28 hg2) (by kernel_rfl) (xc call64) ((p_A aD w8).mono ?_)))))))))
 rintro e w9 ⟨he,hE⟩
 obtain ⟨hs,hb⟩:=hs.pp hb hE
 refine ⟨(vi (s_A aD)),he.trans (by kernel_rfl),.inr ⟨_,hs,hb⟩,?_⟩
 refine qw 9 (vb (((aI.len:Int):Int) != (s_A aD))) Kp9 (wy 28 hg2) (qz 10 (vb (((aI.len:Int):Int) != (s_A aD))) (zG (S8 (zA (zA zF)))) (fun _ _=>(xT hg2)) (wn (zN ⟨true,_,_,hg2,rfl,hs,hb,hm⟩)))
 refine zV Kp3 (zH rfl (yD 28 hg2) rfl) (qn 4 Kp4 (zH rfl (yD 28 hg2) rfl) (qn 5 Kp5 (zH rfl (yD 28 hg2) rfl) (qn 6 Kp6 (zH rfl (yD 28 hg2) rfl) (qn 7 Kp7 (zH rfl (yD 28 hg2) rfl) (lg 8 (zV Kp8 (zH rfl (yD 28 hg2) rfl) (qn 9 Kp9 (zH rfl (yD 28 hg2) rfl) (qz 10 (vb false) (zG (S8 (zA (zA zF)))) (fun _ _=>(xF hg2)) (wn (zN ⟨false,_,_,hg2,rfl,hs,hb,hm⟩))))))))))
 rintro ρ w7 ⟨b1'0,y1,H2,he0,hy1,hs,hb,hH⟩
 subst he0
 have h:=h y1 hy1
 refine zW hH (zN (vJ (fun ρ wJ=>∃b2'0:Bool,∃HJ:NP,(y1=b2'0)∧Hst w0 H w2 HJ wJ∧HB HJ wJ [(p1,(Ad aD aE aF aG aH aI),28)]∧Has ρ [(1,(vi deep1)),(2,(vp seen1)),(3,(vp (some p1))),(7,(vi (cond b2'0 53 (s_I aD aE aF aG aH 0 0))))]) ?_ ?_))
 refine vI (t:=y1) (by kernel_rfl) (fun hc3=>?_) (fun hc3=>?_)
 refine rg (q (ln ⟨true,_,hc3,hs,hb,hm⟩))
 refine zD (zN ⟨false,_,hc3,hs,hb,hm⟩)
 rintro ρ w10 ⟨b2'0,H3,he0,hs,hb,hH⟩
 subst he0
 refine zW hH (zN (zB (eg (q (ln (zL ?_))))))
 have ⟨h,hs⟩:=hs.hr (h H3 w10)
 obtain ⟨I1,mu1,h0,hr⟩:=h
 refine vU (σ:=Int×Int×NP×World) (fun s ρ w=>w=s.2.2.2∧Has ρ [(1,(vi deep1)),(2,(vp seen1)),(3,(vp (some p1))),(7,(vi s.1)),(8,(vi s.2.1))]∧Hst w0 s.2.2.1 w s.2.2.1 w∧HB s.2.2.1 w [(p1,(Ad aD aE aF aG aH aI),28)]∧I1 s.1 s.2.1 s.2.2.1 s.2.2.2) (fun s=>mu1 s.1 s.2.1 s.2.2.2) ((cond y1 53 (s_I aD aE aF aG aH 0 0)),0,H3,w10) ⟨rfl,hm,hs,hb,h0⟩ ?_
 rintro ⟨e1,i1,Hl1,wl1⟩ ρ w ⟨hw,hH,hs,hb,hI⟩
 dsimp only at hw hH hs hb;subst w
 have h:=hr e1 i1 Hl1 wl1 hs hI
 refine zQ hH (zB (zB (vJ (fun ρ wJ=>∃b3'0:Bool,∃HJ:NP,((e1 == 0)=b3'0)∧Hst w0 Hl1 wl1 HJ wJ∧HB HJ wJ [(p1,(Ad aD aE aF aG aH aI),28)]∧Has ρ [(1,(vi deep1)),(2,(vp seen1)),(3,(vp (some p1))),(7,(vi e1)),(8,(vi i1)),(45,(vb (b3'0 && (decide (i1<(aI.len:Int))))))]) ?_ ?_)))
 refine rg (qc ?_)
 rcases bte (e1 == 0) with hg4 | hg4
 refine qk 39 hg4 (qk 39 hg4 (q4 39 hg4 (xl (isAgg22 _) (hb.d 0 5 gZ)) (qk 39 hg4 (qk 39 hg4 (q2 (vb (decide (i1<(aI.len:Int)))) (xT hg4) (ln ⟨true,_,hg4,hs,hb,hm⟩))))))
 refine sj5 39 hg4 (q2 (vb false) (xF hg4) (ln ⟨false,_,hg4,hs,hb,hm⟩))
 rintro ρ w11 ⟨b3'0,H4,he0,hs,hb,hH⟩
 subst he0
 refine zW hH (zN (cbr h ?_ ?_))<;>intro h
 refine zD (zN (zB (zL (rg (q (q3 (xl (isAgg22 _) (hb.d 0 5 gZ)) (q (qi (runUnderlying22 _) (sizeOf28 _) h fun a3 h=>?_))))))))
 have ⟨h,hs⟩:=hs.hr (h H4 w11)
 obtain ⟨aN,aO,aP,aQ,aR,bD,hv1,h⟩:=h
 refine qa (isAgg28 _) (sizeOf28 _) hv1 (qc (sc call110 (h.mono fun e w12 ⟨r1,k,hk,h⟩=>have ⟨hs,hb⟩:=hk.hh hs hb;⟨_,k,?_⟩)))
 refine q (zC (xE (zN (rg (qc (ln ⟨(r1,(q6.wrap (i1+1)),H4,w12),⟨rfl,hm,hs,hb,h.1⟩,h.2⟩))))))
 refine vQ (xG (xG (xA (zN (eg (q0 (vi e1) (q0 (vi e1) (ln (er ?_)))))))))
 have ⟨h,hs⟩:=hs.hr (h H4 w11)
 refine rs1 results110 ⟨e1,rfl,h⟩
 refine rg (q (qm h fun a4 h=>?_))
 have ⟨h,hs⟩:=hs.hr (h H1 w1)
 refine ql (isAgg3 _) h fun v2 h=>qb (zK 3 (fun ρ wJ=>∃b4'0:Bool,∃HJ:NP,((decide (v2≥4096))=b4'0)∧Hst w0 H1 w1 HJ wJ∧HB HJ wJ [(p1,(Ad aD aE aF aG aH aI),28)]∧Has ρ [(1,(vi deep1)),(2,(vp seen1)),(3,(vp (some p1))),(16,(vb (b4'0 || (decide (deep1≥64)))))]) ?_ ?_)
 rintro ρ w13 ⟨b4'0,H5,he0,hs,hb,hH⟩
 subst he0
 refine zP hH (zC ?_)
 have ⟨h,hs⟩:=hs.hr (h H5 w13)
 refine zN ⟨((decide (v2≥4096)) || (decide (deep1≥64))),H5,hm,hs,hb,h⟩
 rcases bte (decide (v2≥4096)) with hg6 | hg6
 refine sj2 13 hg6 (q2 (vb true) (xT hg6) (zC ⟨true,_,hg6,hs,hb,hm⟩))
 refine qk 13 hg6 (qk 13 hg6 (q2 (vb (decide (deep1≥64))) (xF hg6) (zC ⟨false,_,hg6,hs,hb,hm⟩)))
def m_T3 (aD aE:Int) (aF aG:Int) (aH:ByteArray) (aI:Sl) (w0:World) (K:Int→WP):Prop :=∀H1 w1,Hst w0 None w0 H1 w1→∀p2 w2,New w1 (.cells #[(vi 0)] 3) p2 w2→zT w2 p2∧¬ H1 p2.block∧∀w3,w3=w2.setCell p2 (vi 0)→Calls prog 110 #[(.agg #[(vi aD),(vi aE),(vi aF),(vu aG),(vs aH),aI.v]),(vi 0),(vp (some p2))] w3 (fun e w4=>∃r1,e=.returned (vi r1)∧Kept H1 w3 w4∧K r1 w4)
theorem w_T3 (aD aE aF aG aH aI w0 K) (h:m_T3 aD aE aF aG aH aI w0 K):
  Calls prog 57 #[(.agg #[(vi aD),(vi aE),(vi aF),(vu aG),(vs aH),aI.v])] w0 (fun e w'=>∃r2,e=.returned (vi r2)∧K r2 w'):=by
 refine cw (args:=[(Aa aD aE aF aG aH aI)]) func57 ntmps57 ?_
 obtain ⟨hs,hb⟩:=st0 w0
 refine eg (nw3 (Ad aD aE aF aG aH aI) 28 hs hb xb fun p1 w1 H1 hs hb=>q (ln (eg ?_)))
 have ⟨h,hs⟩:=hs.hr (h H1 w1)
 refine nw2 hs hb h (zI (zeroValue3 _) rfl) fun p2 w2 hs hb h=>st2 (sizeOf3 _) hs hb h fun w3 hs hb h=>ln (eg (q2 (Aa aD aE aF aG aH aI) (xa p1 (Ad aD aE aF aG aH aI) (isAgg28 _) (sizeOf28 _) (hb.r0 0 6 gZ)) (sc call110 (h.mono fun e w4 ⟨r1,k,hk,h⟩=>have ⟨hs,hb⟩:=hk.hh hs hb;⟨_,k,?_⟩))))
 refine q (ln (er (rs1 results57 ⟨r1,rfl,h⟩)))
def m_U3 (p1:Option Addr) (t1:Int) (w0:World) (K:Bool→WP):Prop :=Br (decide (t1≥1)) (∃a1,p1=some a1∧∃v1:Sl,w0.cell? a1=some v1.v∧K (decide (t1≤(v1.len:Int))) w0) (K false w0)
theorem w_U3 (p1 t1 w0 K) (h:m_U3 p1 t1 w0 K):
  Calls prog 19 #[(vp p1),(vi t1)] w0 (fun e w'=>∃r1,e=.returned (vb r1)∧K r1 w'):=by
 refine cw (args:=[(vp p1),(vi t1)]) func19 ntmps19 (eg (q0 (vb false) (ln (eg (q0 (vi t1) (q0 (vb (decide (t1≥1))) (q0 (vb (decide (t1≥1))) ?_)))))))
 obtain ⟨hg1,h⟩|⟨hg1,h⟩:=h.br
 refine qk 7 hg1 (qk 7 hg1 ?_)
 obtain ⟨a1,hp1,h⟩:=h
 refine q4 7 hg1 (xn hp1) (qk 7 hg1 ?_)
 obtain ⟨v1,hv1,h⟩:=h
 refine q4 7 hg1 (xl (isAgg49 _) hv1) (qk 7 hg1 (qk 7 hg1 (q2 (vb (decide (t1≤(v1.len:Int)))) (xT hg1) (q (ln (er (rs1 results19 ⟨(decide (t1≤(v1.len:Int))),rfl,h⟩)))))))
 refine sj2 7 hg1 (sj5 7 hg1 (q2 (vb false) (xF hg1) (q (ln (er (rs1 results19 ⟨false,rfl,h⟩))))))
def m_V3 (p1:Option Addr) (t1:Int) (w0:World) (K:Int→WP):Prop :=Calls prog 19 #[(vp p1),(vi t1)] w0 (fun e w1=>∃r1,e=.returned (vb r1)∧Br (!r1) (K 0 w1) (∃a1,p1=some a1∧∃v1:Sl,w1.cell? (a1.add 1)=some v1.v∧∃a2:Addr,At v1 (q6.wrap (t1 - 1)) 1 a2∧∃v2,w1.cell? a2=some (vi v2)∧K v2 w1))
theorem w_V3 (p1 t1 w0 K) (h:m_V3 p1 t1 w0 K):
  Calls prog 89 #[(vp p1),(vi t1)] w0 (fun e w'=>∃r2,e=.returned (vi r2)∧K r2 w'):=by
 refine cw (args:=[(vp p1),(vi t1)]) func89 ntmps89 (eg (q0 (vi 0) (ln (zB (eg (q0 (vp p1) (q0 (vi t1) ?_)))))))
 refine sc call19 (h.mono fun e w1 ⟨r1,k,h⟩=>⟨_,k,?_⟩)
 refine q (ln (cbr h ?_ ?_))<;>intro h
 refine eg (q (ln (er (vA (rs1 results89 ⟨0,rfl,h⟩)))))
 refine zD (zN (eg (q (qm h fun a1 h=>q (ql (isAgg50 _) h fun v1 h=>qb (qi (runUnderlying50 _) (sizeOf3 _) h fun a2 h=>ql (isAgg3 _) h fun v2 h=>q (ln (er (rs1 results89 ⟨v2,rfl,h⟩)))))))))
def m_W3 (p1:Option Addr) (t1:Int) (w0:World) (K:Int→WP):Prop :=Calls prog 19 #[(vp p1),(vi t1)] w0 (fun e w1=>∃r1,e=.returned (vb r1)∧Br (!r1) (K 0 w1) (∃a1,p1=some a1∧∃v1:Sl,w1.cell? (a1.add 2)=some v1.v∧∃a2:Addr,At v1 (q6.wrap (t1 - 1)) 1 a2∧∃v2,w1.cell? a2=some (vi v2)∧K v2 w1))
theorem w_W3 (p1 t1 w0 K) (h:m_W3 p1 t1 w0 K):
  Calls prog 154 #[(vp p1),(vi t1)] w0 (fun e w'=>∃r2,e=.returned (vi r2)∧K r2 w'):=by
 refine cw (args:=[(vp p1),(vi t1)]) func154 ntmps154 (eg (q0 (vi 0) (ln (zB (eg (q0 (vp p1) (q0 (vi t1) ?_)))))))
 refine sc call19 (h.mono fun e w1 ⟨r1,k,h⟩=>⟨_,k,?_⟩)
 refine q (ln (cbr h ?_ ?_))<;>intro h
 refine eg (q (ln (er (vA (rs1 results154 ⟨0,rfl,h⟩)))))
 refine zD (zN (eg (q (qm h fun a1 h=>q (ql (isAgg50 _) h fun v1 h=>qb (qi (runUnderlying50 _) (sizeOf3 _) h fun a2 h=>ql (isAgg3 _) h fun v2 h=>q (ln (er (rs1 results154 ⟨v2,rfl,h⟩)))))))))
theorem xI (a0 a1:Int) (a2 a3:Int) (a4:ByteArray) (a5 a6:Int) (b0 b1:Int) (b2 b3:Int) (b4:ByteArray) (b5 b6:Int) (w:World):(Go.binOp .eql 103 (.agg #[(.int .i64 a0),(.int .i64 a1),(.int .i64 a2),(.int .u64 a3),(.string a4),(.int .i64 a5),(.int .i64 a6)]) (.agg #[(.int .i64 b0),(.int .i64 b1),(.int .i64 b2),(.int .u64 b3),(.string b4),(.int .i64 b5),(.int .i64 b6)])).run prog w=.ok (.bool ((a0 == b0) && ((a1 == b1) && ((a2 == b2) && ((a3 == b3) && ((decide (a4=b4)) && ((a5 == b5) && (a6 == b6)))))))) w:=by
 simp [Go.binOp,Op.equal,Op.maxDepth,go_sem,jNX,bne]
 repeat' split
 all_goals simp_all
def m_N1_l1 (p1:Option Addr) (aA aB:Int) (aC aK:Int) (aJ:ByteArray) (aL aM i1:Int) (w0:World) (Hl1:NP) (wl1:World) (Kc1:Int→NP→WP) (K:Int→Bool→WP):Prop :=∃a1,p1=some a1∧∃v1:Sl,wl1.cell? a1=some v1.v∧Br (decide (i1<(v1.len:Int))) (∃a2,p1=some a2∧∀w2,Hst w0 Hl1 wl1 Hl1 w2→∃v2:Sl,w2.cell? a2=some v2.v∧∃a3:Addr,At v2 i1 7 a3∧∃aN aO aP aQ aR aX aY,Row w2 a3 (Ac aN aO aP aQ aR aX aY)∧Br ((aN == aA) && ((aO == aB) && ((aP == aC) && ((aQ == aK) && ((decide (aR=aJ)) && ((aX == aL) && (aY == aM))))))) (K (q6.wrap (i1+1)) true w2) (Kc1 (q6.wrap (i1+1)) Hl1 w2)) (K 0 false wl1)
def m_N1 (p1:Option Addr) (aA aB:Int) (aC aK:Int) (aJ:ByteArray) (aL aM:Int) (w0:World) (K:Int→Bool→WP):Prop :=∀H1 w1,Hst w0 None w0 H1 w1→∃(I1:Int→NP→WP) (mu1:Int→World→Nat),I1 0 H1 w1∧∀(i1:Int) (Hl1:NP) (wl1:World),Hst w0 Hl1 wl1 Hl1 wl1→I1 i1 Hl1 wl1→m_N1_l1 p1 aA aB aC aK aJ aL aM i1 w0 Hl1 wl1 (fun y'0 H' w'=>I1 y'0 H' w'∧mu1 y'0 w'<mu1 i1 wl1) K
theorem w_N1 (p1 aA aB aC aK aJ aL aM w0 K) (h:m_N1 p1 aA aB aC aK aJ aL aM w0 K):
  Calls prog 155 #[(vp p1),(.agg #[(vi aA),(vi aB),(vi aC),(vu aK),(vs aJ),(vi aL),(vi aM)])] w0 (fun e w'=>∃r1 r2,e=.returned (.tuple #[(vi r1),(vb r2)])∧K r1 r2 w'):=by
 refine cw (args:=[(vp p1),(Ae aA aB aC aK aJ aL aM)]) func155 ntmps155 ?_
 obtain ⟨hs,hb⟩:=st0 w0
 refine eg (nw3 (Ac aA aB aC aK aJ aL aM) 103 hs hb xb fun p2 w1 H1 hs hb=>qb (ln (zB (eg (q (ln (zL ?_)))))))
 have ⟨h,hs⟩:=hs.hr (h H1 w1)
 obtain ⟨I1,mu1,h0,hr⟩:=h
 refine vU (σ:=Int×NP×World) (fun s ρ w=>w=s.2.2∧Has ρ [(0,(vp p1)),(3,(vp (some p2))),(6,(vi s.1))]∧Hst w0 s.2.1 w s.2.1 w∧HB s.2.1 w [(p2,(Ac aA aB aC aK aJ aL aM),103)]∧I1 s.1 s.2.1 s.2.2) (fun s=>mu1 s.1 s.2.2) (0,H1,w1) ⟨rfl,hm,hs,hb,h0⟩ ?_
 rintro ⟨i1,Hl1,wl1⟩ ρ w ⟨hw,hH,hs,hb,hI⟩
 dsimp only at hw hH hs hb;subst w
 have h:=hr i1 Hl1 wl1 hs hI
 refine zQ hH (zB (eg (qb (qm h fun a1 h=>q (ql (isAgg49 _) h fun v1 h=>qb (ln (cbr h ?_ ?_)))))))<;>intro h
 refine zD (zN (zB (zL (zB (qC (by kernel_rfl) (by kernel_rfl) (by kernel_rfl) (by kernel_rfl) ?_)))))
 intro w2 hw2
 have hs:Hst w0 Hl1 wl1 Hl1 w2:=by rw [hw2];exact hs.drew
 have hb:HB Hl1 w2 [(p2,(Ac aA aB aC aK aJ aL aM),103)]:=by rw [hw2];exact hb.drew
 refine qq 0 (vp p1) Kp0 (qg 1 ?_)
 obtain ⟨a2,hp2,h⟩:=h
 refine sxQ Kp1 (zJ rfl) rfl (xn hp2) (qq 2 (vp (some a2)) Kp2 (qg 3 ?_))
 have ⟨h,hs⟩:=hs.hr (h w2)
 obtain ⟨v2,hv3,h⟩:=h
 refine sxQ Kp3 (zJ rfl) rfl (xl (isAgg49 _) hv3) (qq 4 (vi i1) Kp4 (qg 5 ?_))
 obtain ⟨a3,hv2,h⟩:=h
 refine sxQ Kp5 (zJ rfl) rfl (xi (runUnderlying49 _) (sizeOf103 _) hv2) (qg 6 ?_)
 obtain ⟨aN,aO,aP,aQ,aR,aX,aY,hv1,h⟩:=h
 refine sxQ (v:=(Ae aN aO aP aQ aR aX aY)) Kp6 (zJ rfl) rfl (xa a3 (Ac aN aO aP aQ aR aX aY) (isAgg103 _) (sizeOf103 _) hv1) (qr 7 (Ae aA aB aC aK aJ aL aM) Kp7 (xa p2 (Ac aA aB aC aK aJ aL aM) (isAgg103 _) (sizeOf103 _) (hb.r0 0 7 gZ)) (qr 8 (vb ((aN == aA) && ((aO == aB) && ((aP == aC) && ((aQ == aK) && ((decide (aR=aJ)) && ((aX == aL) && (aY == aM)))))))) Kp8 (jJK (by kernel_rfl) (by kernel_rfl) (by kernel_rfl) (xI aN aO aP aQ aR aX aY aA aB aC aK aJ aL aM _)) (wn (zN (cbr h ?_ ?_)))))<;>intro h
 refine eg (qd (ln (er (yC (vA (vA (yC (vA (xC (.inl rfl) results155 (v:=(vi (q6.wrap (i1+1)))) (by kernel_rfl) (v':=(vb true)) (by kernel_rfl) ⟨(q6.wrap (i1+1)),true,rfl,h⟩)))))))))
 refine zD (xE (zN (rg (qc (ln ⟨((q6.wrap (i1+1)),Hl1,w2),⟨rfl,hm,hs,hb,h.1⟩,h.2⟩)))))
 refine vQ (xG (xG (xA (zN (eg (q0 (vi 0) (q0 (vb false) (ln (er (xC (.inl rfl) results155 (v:=(vi 0)) (by kernel_rfl) (v':=(vb false)) (by kernel_rfl) ⟨0,false,rfl,h⟩))))))))))
def m_R_j1 (p1:Option Addr) (aA aB:Int) (aC aK:Int) (aJ:ByteArray) (aL aM:Int) (x1:Bool) (w0:World) (H:NP) (w:World) (K:Int→Int→WP):Prop :=Br x1 (K 0 51 w) (∃C1:WP,C1 w.drew∧∀w4,w4=w.drew→Calls prog 89 #[(vp p1),(vi aL)] w4 (fun e w5=>∃r1,e=.returned (vi r1)∧C1 w5∧Kept H w4 w5∧Calls prog 89 #[(vp p1),(vi aM)] w5 (fun e w6=>∃r2,e=.returned (vi r2)∧C1 w6∧Kept H w5 w6∧∃C2:WP,C2 w6.drew∧∀w7,w7=w6.drew→Calls prog 154 #[(vp p1),(vi aL)] w7 (fun e w8=>∃r3,e=.returned (vi r3)∧C2 w8∧Kept H w7 w8∧Calls prog 154 #[(vp p1),(vi aM)] w8 (fun e w9=>∃r4,e=.returned (vi r4)∧C2 w9∧Kept H w8 w9∧∃z1,(∀w',C2 w'→(Builtin.max_ #[3,3] 3 #[(vi r3),(vi r4)]).run prog w'=.ok (vi z1) w')∧∀y1:Bool,y1=((decide ((q6.wrap ((q6.wrap (1+r1))+r2))>4096)) || (decide ((q6.wrap (1+z1))>64)))→Br y1 (∀H2 w10,Hst w0 H w9 H2 w10→K 0 52 w10) (∀H2 w10,Hst w0 H w9 H2 w10→Calls prog 155 #[(vp p1),(.agg #[(vi aA),(vi aB),(vi aC),(vu aK),(vs aJ),(vi aL),(vi aM)])] w10 (fun e w11=>∃r5 r6,e=.returned (.tuple #[(vi r5),(vb r6)])∧Kept H2 w10 w11∧Br r6 (K r5 0 w11) (∃a1,p1=some a1∧∃v1:Sl,w11.cell? a1=some v1.v∧Br (decide ((v1.len:Int)≥65536)) (K 0 6 w11) (∃C3:WP,C3 w11.drew∧∀w12,w12=w11.drew→∃a2,p1=some a2∧∃v2:Sl,(∀w',C3 w'→w'.cell? a2=some v2.v)∧∀p3 w13,New w12 (.cells #[(vi aA),(vi aB),(vi aC),(vu aK),(vs aJ),(vi aL),(vi aM)] 103) p3 w13→C3 w13∧∃s1:Sl,∃w14:World,(Builtin.append_ #[49,49] 49 #[v2.v,(Sl.mk (some p3) 1 1).v]).run prog w13=.ok s1.v w14∧C3 w14∧Kept H2 w13 w14∧∃a3,p1=some a3∧zT w14 a3∧¬ H2 a3.block∧∀w15,w15=w14.setCell a3 s1.v→∃a4,p1=some a4∧∃v3:Sl,w15.cell? (a4.add 1)=some v3.v∧∀p4 w16,New w15 (.cells #[(vi (q6.wrap ((q6.wrap (1+r1))+r2)))] 3) p4 w16→∃s2:Sl,∃w17:World,(Builtin.append_ #[50,50] 50 #[v3.v,(Sl.mk (some p4) 1 1).v]).run prog w16=.ok s2.v w17∧Kept H2 w16 w17∧∃a5,p1=some a5∧zT w17 (a5.add 1)∧¬ H2 (a5.add 1).block∧∀w18,w18=w17.setCell (a5.add 1) s2.v→∃a6,p1=some a6∧∃v4:Sl,w18.cell? (a6.add 2)=some v4.v∧∀p5 w19,New w18 (.cells #[(vi (q6.wrap (1+z1)))] 3) p5 w19→∃s3:Sl,∃w20:World,(Builtin.append_ #[50,50] 50 #[v4.v,(Sl.mk (some p5) 1 1).v]).run prog w19=.ok s3.v w20∧Kept H2 w19 w20∧∃a7,p1=some a7∧zT w20 (a7.add 2)∧¬ H2 (a7.add 2).block∧∀w21,w21=w20.setCell (a7.add 2) s3.v→∃a8,p1=some a8∧∃v5:Sl,w21.cell? a8=some v5.v∧K (v5.len:Int) 0 w21)))))))))
def m_R_j2 (p1:Option Addr) (aA aB:Int) (aC aK:Int) (aJ:ByteArray) (aL aM:Int) (x2:Bool) (w0:World) (H:NP) (w:World) (K:Int→Int→WP):Prop :=Br x2 (m_R_j1 p1 aA aB aC aK aJ aL aM true w0 H w K) (Br (((s_A aA):Int) == 2) (Calls prog 19 #[(vp p1),(vi aM)] w (fun e w22=>∃r7,e=.returned (vb r7)∧Kept H w w22∧m_R_j1 p1 aA aB aC aK aJ aL aM (!r7) w0 H w22 K)) (m_R_j1 p1 aA aB aC aK aJ aL aM false w0 H w K))
def m_R (p1:Option Addr) (aA aB:Int) (aC aK:Int) (aJ:ByteArray) (aL aM:Int) (w0:World) (K:Int→Int→WP):Prop :=Br (((s_I aA aB aC aK aJ aL aM):Int) != 0) (∀H1 w2,Hst w0 None w0 H1 w2→K 0 (s_I aA aB aC aK aJ aL aM) w2) (Br (decide ((s_A aA)≥1)) (∀H1 w3,Hst w0 None w0 H1 w3→Calls prog 19 #[(vp p1),(vi aL)] w3 (fun e w23=>∃r8,e=.returned (vb r8)∧Kept H1 w3 w23∧m_R_j2 p1 aA aB aC aK aJ aL aM (!r8) w0 H1 w23 K)) (∀H1 w3,Hst w0 None w0 H1 w3→m_R_j2 p1 aA aB aC aK aJ aL aM false w0 H1 w3 K))
theorem w_R (p1 aA aB aC aK aJ aL aM w0 K) (h:m_R p1 aA aB aC aK aJ aL aM w0 K):
  Calls prog 112 #[(vp p1),(.agg #[(vi aA),(vi aB),(vi aC),(vu aK),(vs aJ),(vi aL),(vi aM)])] w0 (fun e w'=>∃r9 r10,e=.returned (.tuple #[(vi r9),(vi r10)])∧K r9 r10 w'):=by
 refine cw (args:=[(vp p1),(Ae aA aB aC aK aJ aL aM)]) func112 ntmps112 ?_
 obtain ⟨hs,hb⟩:=st0 w0
 refine eg (nw3 (Ac aA aB aC aK aJ aL aM) 103 hs hb xb fun p2 w1 H1 hs hb=>qb (ln (eg (q2 (Ae aA aB aC aK aJ aL aM) (xa p2 (Ac aA aB aC aK aJ aL aM) (isAgg103 _) (sizeOf103 _) (hb.r0 0 7 gZ)) (sc call153 ((p_I aA aB aC aK aJ aL aM w1).mono ?_))))))
 rintro e w2 ⟨he,hE⟩
 refine ⟨_,he,?_⟩
 obtain ⟨hs,hb⟩:=hs.pp hb hE
 refine q (ln (zB (eg (qb (ln (cbr h ?_ ?_))))))<;>intro h
 refine eg (qc (ln (er (vA ?_))))
 have ⟨h,hs⟩:=hs.hr (h H1 w2)
 refine xC (.inl rfl) results112 (v:=(vi 0)) (by kernel_rfl) (v':=(vi (s_I aA aB aC aK aJ aL aM))) (by kernel_rfl) ⟨0,(s_I aA aB aC aK aJ aL aM),rfl,h⟩
 refine zD (zN (eg (q (q3 (xl (isAgg3 _) (hb.d0 0 gZ)) (sc call64 ((p_A aA w2).mono ?_))))))
 rintro e w3 ⟨he,hE⟩
 refine ⟨_,he,?_⟩
 obtain ⟨hs,hb⟩:=hs.pp hb hE
 refine q (ln (zB (zB (zY (fun ρ w=>∃x1,∃H:NP,Has ρ [(0,(vp p1)),(3,(vp (some p2))),(39,(vb x1))]∧Hst w0 H w H w∧HB H w [(p2,(Ac aA aB aC aK aJ aL aM),103)]∧m_R_j1 p1 aA aB aC aK aJ aL aM x1 w0 H w K) ?_ ?_))))
 rintro ρ w ⟨x1,H,hH,hs,hb,h⟩
 refine zQ hH (cbr h ?_ ?_)<;>intro h
 refine eg (qb (ln (er (vA (xC (.inl rfl) results112 (v:=(vi 0)) (by kernel_rfl) (v':=(vi 51)) (by kernel_rfl) ⟨0,51,rfl,h⟩)))))
 refine zD (zN (zB ?_))
 obtain ⟨C1,hC,h⟩:=h
 refine dr2 (fun x=>C1 x∧HB H x _) [3,8] [] ⟨hC,hb.drew⟩ h hs hb fun w4 hs hb h=>?_
 have hs:=hs.here
 refine qx 0 (vp p1) Kp0 (qx 1 (vp (some (p2.add 5))) Kp1 (qz 2 (vi aL) Kp2 (fun w' hw'=>(xl (isAgg23 _) (hw'.2.cell 0 5 gZ (by kernel_rfl)))) (qx 5 (vp p1) Kp5 (qx 6 (vp (some (p2.add 6))) Kp6 (qz 7 (vi aM) Kp7 (fun w' hw'=>(xl (isAgg23 _) (hw'.2.cell 0 6 gZ (by kernel_rfl)))) (lg 3 (slc Kp3 call89 (h.mono ?_))))))))
 rintro e w5 ⟨r1,rfl,hC,hk,h⟩
 refine ⟨_,rfl,.inr ⟨hC,hb.kept hk⟩,?_⟩
 obtain ⟨hs,hb⟩:=hk.hh hs hb
 refine qx 4 (vi (q6.wrap (1+r1))) Kp4 (lg 8 (slc Kp8 call89 (h.mono ?_)))
 rintro e w6 ⟨r2,rfl,hC,hk,h⟩
 refine ⟨_,rfl,.inr ⟨hC,hb.kept hk⟩,?_⟩
 obtain ⟨hs,hb⟩:=hk.hh hs hb
 refine qx 9 (vi (q6.wrap ((q6.wrap (1+r1))+r2))) Kp9 (qx 10 (vi (q6.wrap ((q6.wrap (1+r1))+r2))) (zG (S8 (zA (zA zF)))) (wn (zN (zB ?_))))
 obtain ⟨C2,hC,h⟩:=h
 refine dr2 (fun x=>C2 x∧HB H x _) [3,7] [] ⟨hC,hb.drew⟩ h hs hb fun w7 hs hb h=>?_
 have hs:=hs.here
 refine qx 0 (vp p1) Kp0 (qx 1 (vp (some (p2.add 5))) Kp1 (qz 2 (vi aL) Kp2 (fun w' hw'=>(xl (isAgg23 _) (hw'.2.cell 0 5 gZ (by kernel_rfl)))) (qx 4 (vp p1) Kp4 (qx 5 (vp (some (p2.add 6))) Kp5 (qz 6 (vi aM) Kp6 (fun w' hw'=>(xl (isAgg23 _) (hw'.2.cell 0 6 gZ (by kernel_rfl)))) (lg 3 (slc Kp3 call154 (h.mono ?_))))))))
 rintro e w8 ⟨r3,rfl,hC,hk,h⟩
 refine ⟨_,rfl,.inr ⟨hC,hb.kept hk⟩,?_⟩
 obtain ⟨hs,hb⟩:=hk.hh hs hb
 refine lg 7 (slc Kp7 call154 (h.mono ?_))
 rintro e w9 ⟨r4,rfl,hC,hk,h⟩
 refine ⟨_,rfl,.inr ⟨hC,hb.kept hk⟩,?_⟩
 obtain ⟨hs,hb⟩:=hk.hh hs hb
 refine qg 8 ?_
 obtain ⟨z1,hv9,h⟩:=h
 refine sy (v:=(vi z1)) Kp8 (fun w' hw'=>(vC (args:=#[(vi r3),(vi r4)]) (by kernel_rfl) (fun _=>rfl) (hv9 w' hw'.1))) (qx 9 (vi (q6.wrap (1+z1))) Kp9 (qx 10 (vi (q6.wrap (1+z1))) (zG (S8 (zA (zA zF)))) (wn (zN (zB (zB (vJ (fun ρ wJ=>∃b1'0 y1:Bool,∃HJ:NP,((decide ((q6.wrap ((q6.wrap (1+r1))+r2))>4096))=b1'0)∧(y1=(b1'0 || (decide ((q6.wrap (1+z1))>64))))∧Hst w0 H w9 HJ wJ∧HB HJ wJ [(p2,(Ac aA aB aC aK aJ aL aM),103)]∧Has ρ [(0,(vp p1)),(3,(vp (some p2))),(8,(vi (q6.wrap ((q6.wrap (1+r1))+r2)))),(9,(vi (q6.wrap (1+z1)))),(65,(vb y1))]) ?_ ?_)))))))
 refine rg (qc ?_)
 rcases bte (decide ((q6.wrap ((q6.wrap (1+r1))+r2))>4096)) with hg2 | hg2
 refine sj2 62 hg2 (q2 (vb true) (xT hg2) (ln ⟨true,_,_,hg2,rfl,hs,hb,hm⟩))
 refine qk 62 hg2 (qk 62 hg2 (q2 (vb (decide ((q6.wrap (1+z1))>64))) (xF hg2) (ln ⟨false,_,_,hg2,rfl,hs,hb,hm⟩)))
 rintro ρ w10 ⟨b1'0,y1,H2,he0,hy1,hs,hb,hH⟩
 subst he0
 have h:=h y1 hy1
 refine zW hH (zN (cbr h ?_ ?_))<;>intro h
 refine eg (qb (ln (er (vA ?_))))
 have ⟨h,hs⟩:=hs.hr (h H2 w10)
 refine xC (.inl rfl) results112 (v:=(vi 0)) (by kernel_rfl) (v':=(vi 52)) (by kernel_rfl) ⟨0,52,rfl,h⟩
 refine zD (zN (eg (q (q2 (Ae aA aB aC aK aJ aL aM) (xa p2 (Ac aA aB aC aK aJ aL aM) (isAgg103 _) (sizeOf103 _) (hb.r0 0 7 gZ)) ?_))))
 have ⟨h,hs⟩:=hs.hr (h H2 w10)
 refine sc call155 (h.mono fun e w11 ⟨r5,r6,k,hk,h⟩=>have ⟨hs,hb⟩:=hk.hh hs hb;⟨_,k,?_⟩)
 refine q (qd (ln (zB (eg (q (zC (zN (cbr h ?_ ?_))))))))<;>intro h
 refine eg (qc (ln (er (vA (xC (.inl rfl) results112 (v:=(vi r5)) (by kernel_rfl) (v':=(vi 0)) (by kernel_rfl) ⟨r5,0,rfl,h⟩)))))
 refine zD (zN (zB (eg (q (qm h fun a1 h=>q (ql (isAgg49 _) h fun v1 h=>qb (ln (cbr h ?_ ?_))))))))<;>intro h
 refine eg (qb (ln (er (vA (xC (.inl rfl) results112 (v:=(vi 0)) (by kernel_rfl) (v':=(vi 6)) (by kernel_rfl) ⟨0,6,rfl,h⟩)))))
 refine zD (zN (zB ?_))
 obtain ⟨C3,hC,h⟩:=h
 refine dr2 (fun x=>C3 x∧HB H2 x _) [6,7,10] [10] ⟨hC,hb.drew⟩ h hs hb fun w12 hs hb h=>?_
 have hs:=hs.here
 refine qx 0 (vp p1) Kp0 (qx 1 (vp p1) Kp1 (qg 2 ?_))
 obtain ⟨a2,hp2,h⟩:=h
 refine sy Kp2 (fun _ _=>xn hp2) (qx 3 (vp (some a2)) Kp3 (qg 4 ?_))
 obtain ⟨v2,hv7,h⟩:=h
 refine sy Kp4 (fun _ k=>xl (isAgg49 _) (hv7 _ k.1)) (qz 5 (Ae aA aB aC aK aJ aL aM) Kp5 (fun w' hw'=>(xa p2 (Ac aA aB aC aK aJ aL aM) (isAgg103 _) (sizeOf103 _) (hw'.2.r0 0 7 gZ))) (lg 6 (qL (O:=(.cells #[(vi aA),(vi aB),(vi aC),(vu aK),(vs aJ),(vi aL),(vi aM)] 103)) (fun p=>(Sl.mk (some p) 1 1).v) Kp6 (zJ rfl) (by kernel_rfl) (vD (vs:=#[(0,(Ae aA aB aC aK aJ aL aM))]) (by kernel_rfl) (by kernel_rfl)) ?_)))
 intro p3 w13 hn7
 have h:=h p3 w13 hn7
 refine ⟨.inr ⟨h.1,hb.kept (Ext.new (F:=None) hn7).keptP⟩,?_⟩
 have h:=h.2
 obtain ⟨hs,hb⟩:=hs.nw hb hn7
 refine lg 7 ?_
 obtain ⟨s1,w14,hv6,hC,hk,h⟩:=h
 refine sl (v:=s1.v) Kp7 (zJ rfl) (by kernel_rfl) (vC (args:=#[v2.v,(Sl.mk (some p3) 1 1).v]) (by kernel_rfl) (fun _=>rfl) hv6) (.inr ⟨hC,hb.kept hk⟩) ?_
 obtain ⟨hs,hb⟩:=hk.hh hs hb
 refine qg 8 ?_
 obtain ⟨a3,hp3,h⟩:=h
 refine sy Kp8 (fun _ _=>xn hp3) (qx 9 (vp (some a3)) Kp9 (lg 10 ?_))
 obtain ⟨hp4,hnh,h⟩:=h
 refine jQE (zG (S8 (zA (zA zF)))) (xs (v:=s1.v) (sizeOf49 _) hp4) ?_
 intro w15 hn2
 have h:=h w15 hn2
 refine ⟨.inl (by kernel_rfl),?_⟩
 have hk:=Kept.sc hnh hn2
 obtain ⟨hs,hb⟩:=hk.hh hs hb
 refine wn (zN (eg (qb (qm h fun a4 h=>q (ql (isAgg50 _) h fun v3 h=>q (yX (O:=(.cells #[(vi (q6.wrap ((q6.wrap (1+r1))+r2)))] 3)) (fun p=>(Sl.mk (some p) 1 1).v) (zJ rfl) (vD (vs:=#[(0,(vi (q6.wrap ((q6.wrap (1+r1))+r2))))]) (by kernel_rfl) (by kernel_rfl)) ?_))))))
 intro p4 w16 hn6
 have h:=h p4 w16 hn6
 obtain ⟨hs,hb⟩:=hs.nw hb hn6
 obtain ⟨s2,w17,hv4,hk,h⟩:=h
 refine st (v:=s2.v) (zJ rfl) (vC (args:=#[v3.v,(Sl.mk (some p4) 1 1).v]) (by kernel_rfl) (fun _=>rfl) hv4) ?_
 obtain ⟨hs,hb⟩:=hk.hh hs hb
 refine qm h fun a5 h=>q (st2 (sizeOf50 _) hs hb h fun w18 hs hb h=>ln (eg (qb (qm h fun a6 h=>q (ql (isAgg50 _) h fun v4 h=>q (yX (O:=(.cells #[(vi (q6.wrap (1+z1)))] 3)) (fun p=>(Sl.mk (some p) 1 1).v) (zJ rfl) (vD (vs:=#[(0,(vi (q6.wrap (1+z1))))]) (by kernel_rfl) (by kernel_rfl)) ?_))))))
 intro p5 w19 hn5
 have h:=h p5 w19 hn5
 obtain ⟨hs,hb⟩:=hs.nw hb hn5
 obtain ⟨s3,w20,hv2,hk,h⟩:=h
 refine st (v:=s3.v) (zJ rfl) (vC (args:=#[v4.v,(Sl.mk (some p5) 1 1).v]) (by kernel_rfl) (fun _=>rfl) hv2) ?_
 obtain ⟨hs,hb⟩:=hk.hh hs hb
 refine qm h fun a7 h=>q (st2 (sizeOf50 _) hs hb h fun w21 hs hb h=>ln (eg (q (qm h fun a8 h=>q (ql (isAgg49 _) h fun v5 h=>qc (ln (er (xC (.inl rfl) results112 (v:=(vi (v5.len:Int))) (by kernel_rfl) (v':=(vi 0)) (by kernel_rfl) ⟨(v5.len:Int),0,rfl,h⟩))))))))
 refine rg (qc (zK 6 (fun ρ w=>∃x2,∃H:NP,Has ρ [(0,(vp p1)),(3,(vp (some p2))),(7,(vi (s_A aA))),(28,(vb x2))]∧Hst w0 H w H w∧HB H w [(p2,(Ac aA aB aC aK aJ aL aM),103)]∧m_R_j2 p1 aA aB aC aK aJ aL aM x2 w0 H w K) ?_ ?_))
 rintro ρ w ⟨x2,H,hH,hs,hb,h⟩
 refine zP hH (q ?_)
 obtain ⟨hg3,h⟩|⟨hg3,h⟩:=h.br
 refine sj3 29 hg3 (sm (sm (sm (sm (sm (sj 29 hg3 (q2 (vb true) (xT hg3) (ln ⟨true,H,hm,hs,hb,h⟩))))))))
 refine qk 29 hg3 (qk 29 hg3 (qk 29 hg3 ?_))
 obtain ⟨hg4,h⟩|⟨hg4,h⟩:=h.br
 refine qk 32 hg4 (qk 32 hg4 (q4 32 hg4 (xl (isAgg23 _) (hb.d 0 6 gZ)) (qG (wy 32 hg4) (xc call19) (h.mono ?_))))
 rintro e w22 ⟨r7,rfl,hk,h⟩
 refine ⟨_,rfl,?_⟩
 obtain ⟨hs,hb⟩:=hk.hh hs hb
 refine qk 32 hg4 (stq (v:=(vb (!r7))) (wy 29 hg3) (xT hg4) (q2 (vb (!r7)) (xF hg3) (ln ⟨(!r7),H,hm,hs,hb,h⟩)))
 refine sj5 32 hg4 (stq (v:=(vb false)) (wy 29 hg3) (xF hg4) (q2 (vb false) (xF hg3) (ln ⟨false,H,hm,hs,hb,h⟩)))
 obtain ⟨hg5,h⟩|⟨hg5,h⟩:=h.br
 refine qk 22 hg5 (qk 22 hg5 (q4 22 hg5 (xl (isAgg23 _) (hb.d 0 5 gZ)) ?_))
 have ⟨h,hs⟩:=hs.hr (h H1 w3)
 refine qG (wy 22 hg5) (xc call19) (h.mono ?_)
 rintro e w23 ⟨r8,rfl,hk,h⟩
 refine ⟨_,rfl,?_⟩
 obtain ⟨hs,hb⟩:=hk.hh hs hb
 refine qk 22 hg5 (q2 (vb (!r8)) (xT hg5) (zC ⟨(!r8),H1,hm,hs,hb,h⟩))
 refine sj5 22 hg5 (q2 (vb false) (xF hg5) (zC ?_))
 have ⟨h,hs⟩:=hs.hr (h H1 w3)
 exact ⟨false,H1,hm,hs,hb,h⟩
def m_O1_l1 (p1:Option Addr) (aI:Sl) (i1 aA:Int) (aB aC aK:Int) (aJ:ByteArray) (aL aM:Int) (w0:World) (Hl1:NP) (wl1:World) (Kc1:Int→Int→Int→Int→Int→ByteArray→Int→Int→NP→WP) (K:Int→Int→WP):Prop :=Br (decide (i1<(aI.len:Int))) (∃a1:Addr,At aI i1 6 a1∧∃aN aO aP aQ aR bD,Row wl1 a1 (Ad aN aO aP aQ aR bD)∧Calls prog 58 #[(vp p1),(.agg #[(vi aN),(vi aO),(vi aP),(vu aQ),(vs aR),bD.v])] wl1 (fun e w5=>∃r1 r2,e=.returned (.tuple #[(vi r1),(vi r2)])∧Kept Hl1 wl1 w5∧Br (r2 != 0) (K 0 r2 w5) (∀H3 w8,Hst w0 Hl1 w5 H3 w8→Kc1 (q6.wrap (i1+1)) aA aB aC aK aJ (cond (i1 == 0) r1 aL) (cond (i1 == 0) aM r1) H3 w8))) (Calls prog 112 #[(vp p1),(.agg #[(vi aA),(vi aB),(vi aC),(vu aK),(vs aJ),(vi aL),(vi aM)])] wl1 (fun e w11=>∃r3 r4,e=.returned (.tuple #[(vi r3),(vi r4)])∧Kept Hl1 wl1 w11∧K r3 r4 w11))
def m_O1 (p1:Option Addr) (aD aE:Int) (aF aG:Int) (aH:ByteArray) (aI:Sl) (w0:World) (K:Int→Int→WP):Prop :=∀H2 w4,Hst w0 None w0 H2 w4→∃(I1:Int→Int→Int→Int→Int→ByteArray→Int→Int→NP→WP) (mu1:Int→Int→Int→Int→Int→ByteArray→Int→Int→World→Nat),I1 0 aD aE aF aG aH 0 0 H2 w4∧∀(i1 aA:Int) (aB aC aK:Int) (aJ:ByteArray) (aL aM:Int) (Hl1:NP) (wl1:World),Hst w0 Hl1 wl1 Hl1 wl1→I1 i1 aA aB aC aK aJ aL aM Hl1 wl1→m_O1_l1 p1 aI i1 aA aB aC aK aJ aL aM w0 Hl1 wl1 (fun y'0 y'1 y'2 y'3 y'4 y'5 y'6 y'7 H' w'=>I1 y'0 y'1 y'2 y'3 y'4 y'5 y'6 y'7 H' w'∧mu1 y'0 y'1 y'2 y'3 y'4 y'5 y'6 y'7 w'<mu1 i1 aA aB aC aK aJ aL aM wl1) K
theorem w_O1 (p1 aD aE aF aG aH aI w0 K) (h:m_O1 p1 aD aE aF aG aH aI w0 K):
  Calls prog 58 #[(vp p1),(.agg #[(vi aD),(vi aE),(vi aF),(vu aG),(vs aH),aI.v])] w0 (fun e w'=>∃r5 r6,e=.returned (.tuple #[(vi r5),(vi r6)])∧K r5 r6 w'):=by
 refine cw (args:=[(vp p1),(Aa aD aE aF aG aH aI)]) func58 ntmps58 ?_
 obtain ⟨hs,hb⟩:=st0 w0
 refine eg (nw3 (Ad aD aE aF aG aH aI) 28 hs hb xb fun p2 w1 H1 hs hb=>qb (ln (eg (q2 (Aa aD aE aF aG aH aI) (xa p2 (Ad aD aE aF aG aH aI) (isAgg28 _) (sizeOf28 _) (hb.r0 0 6 gZ)) (sc call111 ((p_F1 aD aE aF aG aH aI w1).mono ?_))))))
 rintro e w2 ⟨he,hE⟩
 refine ⟨_,he,?_⟩
 obtain ⟨hs,hb⟩:=hs.pp hb hE
 refine nw3 (Ai 0 0 0 0 0 0) 103 hs hb (zI (zeroValue103 _) rfl) fun p3 w3 H2 hs hb=>sbx 0 (Ac aD aE aF aG aH 0 0) (sizeOf103 _) hs hb gZ fun w4 hs hb=>ln (zB (eg (q (ln (zL ?_)))))
 have ⟨h,hs⟩:=hs.hr (h H2 w4)
 obtain ⟨I1,mu1,h0,hr⟩:=h
 refine vU (σ:=Int×Int×Int×Int×Int×ByteArray×Int×Int×NP×World) (fun s ρ w=>w=s.2.2.2.2.2.2.2.2.2∧Has ρ [(0,(vp p1)),(3,(vp (some p2))),(6,(vp (some p3))),(7,(vi s.1))]∧Hst w0 s.2.2.2.2.2.2.2.2.1 w s.2.2.2.2.2.2.2.2.1 w∧HB s.2.2.2.2.2.2.2.2.1 w [(p3,(Ac (s.2.1) (s.2.2.1) (s.2.2.2.1) (s.2.2.2.2.1) (s.2.2.2.2.2.1) (s.2.2.2.2.2.2.1) (s.2.2.2.2.2.2.2.1)),103),(p2,(Ad aD aE aF aG aH aI),28)]∧I1 s.1 s.2.1 s.2.2.1 s.2.2.2.1 s.2.2.2.2.1 s.2.2.2.2.2.1 s.2.2.2.2.2.2.1 s.2.2.2.2.2.2.2.1 s.2.2.2.2.2.2.2.2.1 s.2.2.2.2.2.2.2.2.2) (fun s=>mu1 s.1 s.2.1 s.2.2.1 s.2.2.2.1 s.2.2.2.2.1 s.2.2.2.2.2.1 s.2.2.2.2.2.2.1 s.2.2.2.2.2.2.2.1 s.2.2.2.2.2.2.2.2.2) (0,aD,aE,aF,aG,aH,0,0,H2,w4) ⟨rfl,hm,hs,hb,h0⟩ ?_
 rintro ⟨i1,aA,aB,aC,aK,aJ,aL,aM,Hl1,wl1⟩ ρ w ⟨hw,hH,hs,hb,hI⟩
 dsimp only at hw hH hs hb;subst w
 have h:=hr i1 aA aB aC aK aJ aL aM Hl1 wl1 hs hI
 refine zQ hH (zB (eg (qb (q3 (xl (isAgg22 _) (hb.d 1 5 (gS gZ))) (qb (ln (cbr h ?_ ?_)))))))<;>intro h
 refine zD (zN (zB (zL (eg (qb (q3 (xl (isAgg22 _) (hb.d 1 5 (gS gZ))) (q (qi (runUnderlying22 _) (sizeOf28 _) h fun a1 h=>?_))))))))
 obtain ⟨aN,aO,aP,aQ,aR,bD,hv1,h⟩:=h
 refine qa (isAgg28 _) (sizeOf28 _) hv1 (sc call58 (h.mono fun e w5 ⟨r1,r2,k,hk,h⟩=>have ⟨hs,hb⟩:=hk.hh hs hb;⟨_,k,?_⟩))
 refine q (qd (ln (zB (eg (qb (ln (cbr h ?_ ?_)))))))<;>intro h
 refine eg (qc (ln (er (vA (yC (vA (vA (yC (vA (xC (.inl rfl) results58 (v:=(vi 0)) (by kernel_rfl) (v':=(vi r2)) (by kernel_rfl) ⟨0,r2,rfl,h⟩))))))))))
 refine zD (zN (eg (qb (ln (vJ (fun ρ wJ=>∃b1'0:Bool,∃HJ:NP,((i1 == 0)=b1'0)∧Hst w0 Hl1 w5 HJ wJ∧HB HJ wJ [(p3,(Ac aA aB aC aK aJ (cond b1'0 r1 aL) (cond b1'0 aM r1)),103),(p2,(Ad aD aE aF aG aH aI),28)]∧Has ρ [(0,(vp p1)),(3,(vp (some p2))),(6,(vp (some p3))),(7,(vi i1))]) ?_ ?_)))))
 refine vI (t:=(i1 == 0)) (by kernel_rfl) (fun hc4=>?_) (fun hc4=>?_)
 refine rg (qb (yK (zJ rfl) (tC (a:=(p3.add 5)) (v:=(vi r1)) (by kernel_rfl) (by kernel_rfl) rfl (sizeOf23 _) (hb.canW 0 5 gZ (by kernel_rfl))) ?_))
 intro w9 hn6
 have hsb:Hst w0 Hl1 w5 Hl1 w9∧HB Hl1 w9 [(p3,(Ac aA aB aC aK aJ r1 aM),103),(p2,(Ad aD aE aF aG aH aI),28)]:=by
  rw [hn6];exact hb.set (i:=0) 5 (v:=(vi r1)) hs gZ (by kernel_rfl)
 obtain ⟨hs,hb⟩:=hsb
 refine ln ⟨true,_,hc4,hs,hb,hm⟩
 refine rg (qb (yK (zJ rfl) (tC (a:=(p3.add 6)) (v:=(vi r1)) (by kernel_rfl) (by kernel_rfl) rfl (sizeOf23 _) (hb.canW 0 6 gZ (by kernel_rfl))) ?_))
 intro w10 hn7
 have hsb:Hst w0 Hl1 w5 Hl1 w10∧HB Hl1 w10 [(p3,(Ac aA aB aC aK aJ aL r1),103),(p2,(Ad aD aE aF aG aH aI),28)]:=by
  rw [hn7];exact hb.set (i:=0) 6 (v:=(vi r1)) hs gZ (by kernel_rfl)
 obtain ⟨hs,hb⟩:=hsb
 refine ln ⟨false,_,hc4,hs,hb,hm⟩
 rintro ρ w8 ⟨b1'0,H3,he0,hs,hb,hH⟩
 subst he0
 refine zW hH (xE (zN (rg (qc (zC ?_)))))
 have ⟨h,hs⟩:=hs.hr (h H3 w8)
 refine zN ⟨((q6.wrap (i1+1)),aA,aB,aC,aK,aJ,(cond (i1 == 0) r1 aL),(cond (i1 == 0) aM r1),H3,w8),⟨rfl,hm,hs,hb,h.1⟩,h.2⟩
 refine vQ (xG (xG (xA (zN (eg (q0 (vp p1) (q2 (Ae aA aB aC aK aJ aL aM) (xa p3 (Ac aA aB aC aK aJ aL aM) (isAgg103 _) (sizeOf103 _) (hb.r0 0 7 gZ)) (sc call112 (h.mono fun e w11 ⟨r3,r4,k,hk,h⟩=>have ⟨hs,hb⟩:=hk.hh hs hb;⟨_,k,?_⟩)))))))))
 refine qd (ln (er (xC (.inl rfl) results58 (v:=(vi r3)) (by kernel_rfl) (v':=(vi r4)) (by kernel_rfl) ⟨r3,r4,rfl,h⟩)))
def m_K2 (p1:Option Addr) (n1:Int) (w0:World) (K:WP):Prop :=∃a1,p1=some a1∧∃v1:Sl,w0.cell? a1=some v1.v∧∃s1:Sl,(Instr.sliceAt 49 v1.v none (some (vi n1)) none).run prog w0=.ok s1.v w0∧∃a2,p1=some a2∧zT w0 a2∧∀w1,w1=w0.setCell a2 s1.v→∃a3,p1=some a3∧∃v2:Sl,w1.cell? (a3.add 1)=some v2.v∧∃s2:Sl,(Instr.sliceAt 50 v2.v none (some (vi n1)) none).run prog w1=.ok s2.v w1∧∃a4,p1=some a4∧zT w1 (a4.add 1)∧∀w2,w2=w1.setCell (a4.add 1) s2.v→∃a5,p1=some a5∧∃v3:Sl,w2.cell? (a5.add 2)=some v3.v∧∃s3:Sl,(Instr.sliceAt 50 v3.v none (some (vi n1)) none).run prog w2=.ok s3.v w2∧∃a6,p1=some a6∧zT w2 (a6.add 2)∧∀w3,w3=w2.setCell (a6.add 2) s3.v→K w3
theorem w_K2 (p1 n1 w0 K) (h:m_K2 p1 n1 w0 K):
  Calls prog 59 #[(vp p1),(vi n1)] w0 (fun e w'=>e=.returned (.tuple #[])∧K  w'):=by
 refine cw (args:=[(vp p1),(vi n1)]) func59 ntmps59 (eg (q0 (vp p1) (q0 (vp p1) ?_)))
 refine qm h fun a1 h=>q (ql (isAgg49 _) h fun v1 h=>q ?_)
 obtain ⟨s1,hv5,h⟩:=h
 refine q2 s1.v (qU (by kernel_rfl) (by kernel_rfl) (by kernel_rfl) (by kernel_rfl) hv5) (qm h fun a2 h=>q (st1 (sizeOf49 _) h fun w1 h=>ln (eg (qb (qm h fun a3 h=>q (ql (isAgg50 _) h fun v2 h=>q ?_))))))
 obtain ⟨s2,hv3,h⟩:=h
 refine q2 s2.v (qU (by kernel_rfl) (by kernel_rfl) (by kernel_rfl) (by kernel_rfl) hv3) (qm h fun a4 h=>q (st1 (sizeOf50 _) h fun w2 h=>ln (rg (qb (qm h fun a5 h=>q (ql (isAgg50 _) h fun v3 h=>q ?_))))))
 obtain ⟨s3,hv1,h⟩:=h
 refine q2 s3.v (qU (by kernel_rfl) (by kernel_rfl) (by kernel_rfl) (by kernel_rfl) hv1) (qm h fun a6 h=>q (st1 (sizeOf50 _) h fun w3 h=>zC (jFH (.inr rfl) results59 ⟨rfl,h⟩)))
def m_L2 (p1:Option Addr) (aD aE:Int) (aF aG:Int) (aH:ByteArray) (aI:Sl) (w0:World) (K:Int→Int→WP):Prop :=∀H1 w1,Hst w0 None w0 H1 w1→Calls prog 57 #[(.agg #[(vi aD),(vi aE),(vi aF),(vu aG),(vs aH),aI.v])] w1 (fun e w2=>∃r1,e=.returned (vi r1)∧Kept H1 w1 w2∧Br (r1 != 0) (K 0 r1 w2) (∃a1,p1=some a1∧∃v1:Sl,w2.cell? a1=some v1.v∧Calls prog 58 #[(vp p1),(.agg #[(vi aD),(vi aE),(vi aF),(vu aG),(vs aH),aI.v])] w2 (fun e w3=>∃r2 r3,e=.returned (.tuple #[(vi r2),(vi r3)])∧Kept H1 w2 w3∧Br (r3 != 0) (Calls prog 59 #[(vp p1),(vi (v1.len:Int))] w3 (fun e w4=>e=.returned (.tuple #[])∧Kept H1 w3 w4∧K r2 r3 w4)) (K r2 r3 w3))))
theorem w_L2 (p1 aD aE aF aG aH aI w0 K) (h:m_L2 p1 aD aE aF aG aH aI w0 K):
  Calls prog 14 #[(vp p1),(.agg #[(vi aD),(vi aE),(vi aF),(vu aG),(vs aH),aI.v])] w0 (fun e w'=>∃r4 r5,e=.returned (.tuple #[(vi r4),(vi r5)])∧K r4 r5 w'):=by
 refine cw (args:=[(vp p1),(Aa aD aE aF aG aH aI)]) func14 ntmps14 ?_
 obtain ⟨hs,hb⟩:=st0 w0
 refine eg (nw3 (Ad aD aE aF aG aH aI) 28 hs hb xb fun p2 w1 H1 hs hb=>qb (ln (eg (q2 (Aa aD aE aF aG aH aI) (xa p2 (Ad aD aE aF aG aH aI) (isAgg28 _) (sizeOf28 _) (hb.r0 0 6 gZ)) ?_))))
 have ⟨h,hs⟩:=hs.hr (h H1 w1)
 refine sc call57 (h.mono fun e w2 ⟨r1,k,hk,h⟩=>have ⟨hs,hb⟩:=hk.hh hs hb;⟨_,k,?_⟩)
 refine q (ln (zB (eg (qb (ln (cbr h ?_ ?_))))))<;>intro h
 refine eg (qc (ln (er (vA (xC (.inl rfl) results14 (v:=(vi 0)) (by kernel_rfl) (v':=(vi r1)) (by kernel_rfl) ⟨0,r1,rfl,h⟩)))))
 refine zD (zN (eg (q (qm h fun a1 h=>q (ql (isAgg49 _) h fun v1 h=>qb (ln (eg (q (q2 (Aa aD aE aF aG aH aI) (xa p2 (Ad aD aE aF aG aH aI) (isAgg28 _) (sizeOf28 _) (hb.r0 0 6 gZ)) (sc call58 (h.mono fun e w3 ⟨r2,r3,k,hk,h⟩=>have ⟨hs,hb⟩:=hk.hh hs hb;⟨_,k,?_⟩)))))))))))
 refine q (qd (ln (zB (eg (qb (ln (cbr h ?_ ?_)))))))<;>intro h
 refine rg (qb (sc call59 (h.mono fun e w4 ⟨k,hk,h⟩=>have ⟨hs,hb⟩:=hk.hh hs hb;⟨_,k,?_⟩)))
 refine ln (eg (qd (ln (er (xC (.inl rfl) results14 (v:=(vi r2)) (by kernel_rfl) (v':=(vi r3)) (by kernel_rfl) ⟨r2,r3,rfl,h⟩)))))
 refine zD (zN (eg (qd (ln (er (xC (.inl rfl) results14 (v:=(vi r2)) (by kernel_rfl) (v':=(vi r3)) (by kernel_rfl) ⟨r2,r3,rfl,h⟩))))))
def m_X3 (p1:Option Addr) (t1:Int) (w0:World) (K:Int→Int→Int→Int→ByteArray→Int→Int→Bool→WP):Prop :=∀H1 w1,Hst w0 None w0 H1 w1→Calls prog 19 #[(vp p1),(vi t1)] w1 (fun e w2=>∃r1,e=.returned (vb r1)∧Kept H1 w1 w2∧Br (!r1) (∀w3,Hst w0 H1 w2 H1 w3→K 0 0 0 0 ⟨#[]⟩ 0 0 false w3) (∃a1,p1=some a1∧∃v1:Sl,w2.cell? a1=some v1.v∧∃a2:Addr,At v1 (q6.wrap (t1 - 1)) 7 a2∧∃aN aO aP aQ aR aX aY,Row w2 a2 (Ac aN aO aP aQ aR aX aY)∧∀w4,Hst w0 H1 w2 H1 w4→K aN aO aP aQ aR aX aY true w4))
theorem w_X3 (p1 t1 w0 K) (h:m_X3 p1 t1 w0 K):
  Calls prog 63 #[(vp p1),(vi t1)] w0 (fun e w'=>∃aS aT aU aV aW bL bH r2,e=.returned (.tuple #[(Ae aS aT aU aV aW bL bH),(vb r2)])∧K aS aT aU aV aW bL bH r2 w'):=by
 refine cw (args:=[(vp p1),(vi t1)]) func63 ntmps63 ?_
 obtain ⟨hs,hb⟩:=st0 w0
 refine eg (nw3 (Ai 0 0 0 0 0 0) 103 hs hb (zI (zeroValue103 _) rfl) fun p2 w1 H1 hs hb=>q (ln (zB (eg (qb ?_)))))
 have ⟨h,hs⟩:=hs.hr (h H1 w1)
 refine sc call19 (h.mono fun e w2 ⟨r1,k,hk,h⟩=>have ⟨hs,hb⟩:=hk.hh hs hb;⟨_,k,?_⟩)
 refine q (ln (cbr h ?_ ?_))<;>intro h
 refine eg (q (yK (zJ rfl) (xo p2 (Ai 0 0 0 0 0 0) (sizeOf103 _) (hb.k0 0 7 gZ)) ?_))
 intro w3 hn2
 obtain ⟨hs,hb⟩:=hb.st1 0 hs hn2 gZ
 refine q (ln (er (vA ?_)))
 have ⟨h,hs⟩:=hs.hr (h w3)
 refine jDY (.inl rfl) (vs:=[(.agg #[(vi 0),(vi 0),(vi 0),(vu 0),ve,(vi 0),(vi 0)]),(vb false)]) (v:=(.tuple #[(.agg #[(vi 0),(vi 0),(vi 0),(vu 0),ve,(vi 0),(vi 0)]),(vb false)])) results63 ⟨(rva (isAgg103 _) (sizeOf103 _) (hb.r0 0 7 gZ)),(rvT (by kernel_rfl)),trivial⟩ (by kernel_rfl) ⟨0,0,0,0,⟨#[]⟩,0,0,false,rfl,h⟩
 refine zD (zN (eg (q (qm h fun a1 h=>q (ql (isAgg49 _) h fun v1 h=>qb (qi (runUnderlying49 _) (sizeOf103 _) h fun a2 h=>?_))))))
 obtain ⟨aN,aO,aP,aQ,aR,aX,aY,hv1,h⟩:=h
 refine qa (isAgg103 _) (sizeOf103 _) hv1 (yK (zJ rfl) (xo p2 (Ac aN aO aP aQ aR aX aY) (sizeOf103 _) (hb.k0 0 7 gZ)) ?_)
 intro w4 hn3
 obtain ⟨hs,hb⟩:=hb.st1 0 hs hn3 gZ
 refine q (ln (er ?_))
 have ⟨h,hs⟩:=hs.hr (h w4)
 refine jDY (.inl rfl) (vs:=[(Ae aN aO aP aQ aR aX aY),(vb true)]) (v:=(.tuple #[(Ae aN aO aP aQ aR aX aY),(vb true)])) results63 ⟨(rva (isAgg103 _) (sizeOf103 _) (hb.r0 0 7 gZ)),(rvT (by kernel_rfl)),trivial⟩ (by kernel_rfl) ⟨aN,aO,aP,aQ,aR,aX,aY,true,rfl,h⟩
def m_C1_j1 (p1:Option Addr) (aS bH:Int) (aD aE:Int) (aF aG:Int) (aH:ByteArray) (aI:Sl) (w0:World) (H:NP) (w:World) (K:Int→Int→Int→Int→ByteArray→Sl→WP):Prop :=Br (((s_A aS):Int) == 2) (∀w9,Hst w0 H w H w9→∃C1:WP,C1 w9.drew∧∀w10,w10=w9.drew→Calls prog 20 #[(vp p1),(vi bH)] w10 (fun e w11=>∃bW bX bY bZ cA bV,e=.returned (Aa bW bX bY bZ cA bV)∧C1 w11∧Kept H w10 w11∧∀p5 w12,New w11 (.cells #[(vi bW),(vi bX),(vi bY),(vu bZ),(vs cA),bV.v] 28) p5 w12→C1 w12∧∃s1:Sl,∃w13:World,(Builtin.append_ #[22,22] 22 #[aI.v,(Sl.mk (some p5) 1 1).v]).run prog w12=.ok s1.v w13∧C1 w13∧Kept H w12 w13∧∀w15,Hst w0 H w13 H w15→K aD aE aF aG aH s1 w15)) (∀w16,Hst w0 H w H w16→K aD aE aF aG aH aI w16)
def m_C1 (p1:Option Addr) (t1:Int) (w0:World) (K:Int→Int→Int→Int→ByteArray→Sl→WP):Prop :=∀H1 w1,Hst w0 None w0 H1 w1→Calls prog 63 #[(vp p1),(vi t1)] w1 (fun e w2=>∃aS aT aU aV aW bL bH r1,e=.returned (.tuple #[(Ae aS aT aU aV aW bL bH),(vb r1)])∧Kept H1 w1 w2∧Br (!r1) (∀H2 w5,Hst w0 H1 w2 H2 w5→K 0 0 0 0 ⟨#[]⟩ Sl.nil w5) (Br (decide ((s_A aS)≥1)) (∀H3 w8,Hst w0 H1 w2 H3 w8→∃C2:WP,C2 w8.drew∧∀w17,w17=w8.drew→Calls prog 20 #[(vp p1),(vi bL)] w17 (fun e w18=>∃cJ cK cL cM cN cB,e=.returned (Aa cJ cK cL cM cN cB)∧C2 w18∧Kept H3 w17 w18∧∀p6 w19,New w18 (.cells #[(vi cJ),(vi cK),(vi cL),(vu cM),(vs cN),cB.v] 28) p6 w19→C2 w19∧∃s2:Sl,∃w20:World,(Builtin.append_ #[22,22] 22 #[Sl.nil.v,(Sl.mk (some p6) 1 1).v]).run prog w19=.ok s2.v w20∧C2 w20∧Kept H3 w19 w20∧∀w21,Hst w0 H3 w20 H3 w21→m_C1_j1 p1 aS bH aS aT aU aV aW s2 w0 H3 w21 K)) (∀H3 w8,Hst w0 H1 w2 H3 w8→m_C1_j1 p1 aS bH aS aT aU aV aW Sl.nil w0 H3 w8 K)))
theorem w_C1 (p1 t1 w0 K) (h:m_C1 p1 t1 w0 K):
  Calls prog 20 #[(vp p1),(vi t1)] w0 (fun e w'=>∃cU cV cW cX cY cZ,e=.returned (Aa cU cV cW cX cY cZ)∧K cU cV cW cX cY cZ w'):=by
 refine cw (args:=[(vp p1),(vi t1)]) func20 ntmps20 ?_
 obtain ⟨hs,hb⟩:=st0 w0
 refine eg (nw3 [(vi 0),(vi 0),(vi 0),(vu 0),ve,Sl.nil.v] 28 hs hb (zI (zeroValue28 _) rfl) fun p2 w1 H1 hs hb=>ln (eg (qb ?_)))
 have ⟨h,hs⟩:=hs.hr (h H1 w1)
 refine sc call63 (h.mono fun e w2 ⟨aS,aT,aU,aV,aW,bL,bH,r1,k,hk,h⟩=>have ⟨hs,hb⟩:=hk.hh hs hb;⟨_,k,?_⟩)
 refine qc (nw3 (Ai 0 0 0 0 0 0) 103 hs hb (zI (zeroValue103 _) rfl) fun p3 w3 H2 hs hb=>sbx 0 (Ac aS aT aU aV aW bL bH) (sizeOf103 _) hs hb gZ fun w4 hs hb=>q (ln (zB (eg (qb (ln (cbr h ?_ ?_)))))))<;>intro h
 refine eg (q (yK (zJ rfl) (xo p2 [(vi 0),(vi 0),(vi 0),(vu 0),ve,Sl.nil.v] (sizeOf28 _) (hb.k0 1 6 (gS gZ))) ?_))
 intro w5 hn4
 obtain ⟨hs,hb⟩:=hb.st1 1 hs hn4 (gS gZ)
 refine ln (er (vA ?_))
 have ⟨h,hs⟩:=hs.hr (h H2 w5)
 refine jDY (.inl rfl) (vs:=[(.agg #[(vi 0),(vi 0),(vi 0),(vu 0),ve,Sl.nil.v])]) (v:=(.agg #[(vi 0),(vi 0),(vi 0),(vu 0),ve,Sl.nil.v])) results20 ⟨(rva (isAgg28 _) (sizeOf28 _) (hb.r0 1 6 (gS gZ))),trivial⟩ (by kernel_rfl) ⟨0,0,0,0,⟨#[]⟩,Sl.nil,rfl,h⟩
 refine zD (zN (eg (q (q3 (xl (isAgg3 _) (hb.d0 0 gZ)) (q (q3 (xl (isAgg3 _) (hb.d 0 1 gZ)) (q (q3 (xl (isAgg3 _) (hb.d 0 2 gZ)) (q (q3 (xl (isAgg26 _) (hb.d 0 3 gZ)) (q (q3 (xl (isAgg9 _) (hb.d 0 4 gZ)) (q (nw3 [(vi 0),(vi 0),(vi 0),(vu 0),ve,Sl.nil.v] 28 hs hb (zI (zeroValue28 _) rfl) fun p4 w6 H3 hs hb=>sbx 0 [(vi aS),(vi aT),(vi aU),(vu aV),(vs aW),Sl.nil.v] (sizeOf28 _) hs hb gZ fun w7 hs hb=>ln (zB (eg (q (q3 (xl (isAgg3 _) (hb.d0 1 (gS gZ))) (sc call64 ((p_A aS w7).mono ?_))))))))))))))))))))
 rintro e w8 ⟨he,hE⟩
 refine ⟨_,he,?_⟩
 obtain ⟨hs,hb⟩:=hs.pp hb hE
 refine q (ln (zY (fun ρ w=>∃aD aE aF aG aH aI,∃H:NP,Has ρ [(0,(vp p1)),(4,(vp (some p2))),(5,(vp (some p3))),(7,(vp (some p4)))]∧Hst w0 H w H w∧HB H w [(p4,(Ad aD aE aF aG aH aI),28),(p3,(Ac aS aT aU aV aW bL bH),103),(p2,[(vi 0),(vi 0),(vi 0),(vu 0),ve,Sl.nil.v],28)]∧m_C1_j1 p1 aS bH aD aE aF aG aH aI w0 H w K) ?_ ?_))
 rintro ρ w ⟨aD,aE,aF,aG,aH,aI,H,hH,hs,hb,h⟩
 refine zQ hH (zB (eg (q (q3 (xl (isAgg3 _) (hb.d0 1 (gS gZ))) (sc call64 ((p_A aS w).mono ?_))))))
 rintro e w9 ⟨he,hE⟩
 refine ⟨_,he,?_⟩
 obtain ⟨hs,hb⟩:=hs.pp hb hE
 refine q (ln (cbr h ?_ ?_))<;>intro h
 have ⟨h,hs⟩:=hs.hr (h w9)
 obtain ⟨C1,hC,h⟩:=h
 refine dr2 (fun x=>C1 x∧HB H x _) [5,6,7,9] [9] ⟨hC,hb.drew⟩ h hs hb fun w10 hs hb h=>?_
 have hs:=hs.here
 refine qx 0 (vp (some (p4.add 5))) Kp0 (qz 1 aI.v Kp1 (fun w' hw'=>(xl (isAgg22 _) (hw'.2.cell 0 5 gZ (by kernel_rfl)))) (qx 2 (vp p1) Kp2 (qx 3 (vp (some (p3.add 6))) Kp3 (qz 4 (vi bH) Kp4 (fun w' hw'=>(xl (isAgg23 _) (hw'.2.cell 1 6 (gS gZ) (by kernel_rfl)))) (lg 5 (slc Kp5 call20 (h.mono ?_)))))))
 rintro e w11 ⟨bW,bX,bY,bZ,cA,bV,rfl,hC,hk,h⟩
 refine ⟨_,rfl,.inr ⟨hC,hb.kept hk⟩,?_⟩
 obtain ⟨hs,hb⟩:=hk.hh hs hb
 refine lg 6 (qL (O:=(.cells #[(vi bW),(vi bX),(vi bY),(vu bZ),(vs cA),bV.v] 28)) (fun p=>(Sl.mk (some p) 1 1).v) Kp6 (zJ rfl) (by kernel_rfl) (vD (vs:=#[(0,(Aa bW bX bY bZ cA bV))]) (by kernel_rfl) (by kernel_rfl)) ?_)
 intro p5 w12 hn9
 have h:=h p5 w12 hn9
 refine ⟨.inr ⟨h.1,hb.kept (Ext.new (F:=None) hn9).keptP⟩,?_⟩
 have h:=h.2
 obtain ⟨hs,hb⟩:=hs.nw hb hn9
 refine lg 7 ?_
 obtain ⟨s1,w13,hv1,hC,hk,h⟩:=h
 refine sl (v:=s1.v) Kp7 (zJ rfl) (by kernel_rfl) (vC (args:=#[aI.v,(Sl.mk (some p5) 1 1).v]) (by kernel_rfl) (fun _=>rfl) hv1) (.inr ⟨hC,hb.kept hk⟩) ?_
 obtain ⟨hs,hb⟩:=hk.hh hs hb
 refine qx 8 (vp (some (p4.add 5))) Kp8 (lg 9 (jQE Kp9 (xs (v:=s1.v) (sizeOf22 _) (hb.canW 0 5 gZ (by kernel_rfl))) ?_))
 intro w14 hn7
 have hsb:Hst w0 H w13 H w14∧HB H w14 [(p4,(Ad aD aE aF aG aH s1),28),(p3,(Ac aS aT aU aV aW bL bH),103),(p2,[(vi 0),(vi 0),(vi 0),(vu 0),ve,Sl.nil.v],28)]:=by
  rw [hn7];exact hb.set (i:=0) 5 (v:=s1.v) hs gZ (by kernel_rfl)
 obtain ⟨hs,hb⟩:=hsb
 refine ⟨.inl (by kernel_rfl),?_⟩
 refine wn (zN (eg (q2 (Aa aD aE aF aG aH s1) (xa p4 (Ad aD aE aF aG aH s1) (isAgg28 _) (sizeOf28 _) (hb.r0 0 6 gZ)) (yK (zJ rfl) (xo p2 (Ad aD aE aF aG aH s1) (sizeOf28 _) (hb.k0 2 6 (gS (gS gZ)))) ?_))))
 intro w15 hn8
 obtain ⟨hs,hb⟩:=hb.st1 2 hs hn8 (gS (gS gZ))
 refine ln (er ?_)
 have ⟨h,hs⟩:=hs.hr (h w15)
 refine jDY (.inl rfl) (vs:=[(Aa aD aE aF aG aH s1)]) (v:=(Aa aD aE aF aG aH s1)) results20 ⟨(rva (isAgg28 _) (sizeOf28 _) (hb.r0 2 6 (gS (gS gZ)))),trivial⟩ (by kernel_rfl) ⟨aD,aE,aF,aG,aH,s1,rfl,h⟩
 refine zD (zN (eg (q2 (Aa aD aE aF aG aH aI) (xa p4 (Ad aD aE aF aG aH aI) (isAgg28 _) (sizeOf28 _) (hb.r0 0 6 gZ)) (yK (zJ rfl) (xo p2 (Ad aD aE aF aG aH aI) (sizeOf28 _) (hb.k0 2 6 (gS (gS gZ)))) ?_))))
 intro w16 hn10
 obtain ⟨hs,hb⟩:=hb.st1 2 hs hn10 (gS (gS gZ))
 refine ln (er ?_)
 have ⟨h,hs⟩:=hs.hr (h w16)
 refine jDY (.inl rfl) (vs:=[(Aa aD aE aF aG aH aI)]) (v:=(Aa aD aE aF aG aH aI)) results20 ⟨(rva (isAgg28 _) (sizeOf28 _) (hb.r0 2 6 (gS (gS gZ)))),trivial⟩ (by kernel_rfl) ⟨aD,aE,aF,aG,aH,aI,rfl,h⟩
 refine cbr h ?_ ?_<;>intro h
 have ⟨h,hs⟩:=hs.hr (h H3 w8)
 obtain ⟨C2,hC,h⟩:=h
 refine dr2 (fun x=>C2 x∧HB H3 x _) [5,6,7,9] [9] ⟨hC,hb.drew⟩ h hs hb fun w17 hs hb h=>?_
 have hs:=hs.here
 refine qx 0 (vp (some (p4.add 5))) Kp0 (qz 1 Sl.nil.v Kp1 (fun w' hw'=>(xl (isAgg22 _) (hw'.2.cell 0 5 gZ (by kernel_rfl)))) (qx 2 (vp p1) Kp2 (qx 3 (vp (some (p3.add 5))) Kp3 (qz 4 (vi bL) Kp4 (fun w' hw'=>(xl (isAgg23 _) (hw'.2.cell 1 5 (gS gZ) (by kernel_rfl)))) (lg 5 (slc Kp5 call20 (h.mono ?_)))))))
 rintro e w18 ⟨cJ,cK,cL,cM,cN,cB,rfl,hC,hk,h⟩
 refine ⟨_,rfl,.inr ⟨hC,hb.kept hk⟩,?_⟩
 obtain ⟨hs,hb⟩:=hk.hh hs hb
 refine lg 6 (qL (O:=(.cells #[(vi cJ),(vi cK),(vi cL),(vu cM),(vs cN),cB.v] 28)) (fun p=>(Sl.mk (some p) 1 1).v) Kp6 (zJ rfl) (by kernel_rfl) (vD (vs:=#[(0,(Aa cJ cK cL cM cN cB))]) (by kernel_rfl) (by kernel_rfl)) ?_)
 intro p6 w19 hn12
 have h:=h p6 w19 hn12
 refine ⟨.inr ⟨h.1,hb.kept (Ext.new (F:=None) hn12).keptP⟩,?_⟩
 have h:=h.2
 obtain ⟨hs,hb⟩:=hs.nw hb hn12
 refine lg 7 ?_
 obtain ⟨s2,w20,hv2,hC,hk,h⟩:=h
 refine sl (v:=s2.v) Kp7 (zJ rfl) (by kernel_rfl) (vC (args:=#[Sl.nil.v,(Sl.mk (some p6) 1 1).v]) (by kernel_rfl) (fun _=>rfl) hv2) (.inr ⟨hC,hb.kept hk⟩) ?_
 obtain ⟨hs,hb⟩:=hk.hh hs hb
 refine qx 8 (vp (some (p4.add 5))) Kp8 (lg 9 (jQE Kp9 (xs (v:=s2.v) (sizeOf22 _) (hb.canW 0 5 gZ (by kernel_rfl))) ?_))
 intro w21 hn11
 have hsb:Hst w0 H3 w20 H3 w21∧HB H3 w21 [(p4,(Ad aS aT aU aV aW s2),28),(p3,(Ac aS aT aU aV aW bL bH),103),(p2,[(vi 0),(vi 0),(vi 0),(vu 0),ve,Sl.nil.v],28)]:=by
  rw [hn11];exact hb.set (i:=0) 5 (v:=s2.v) hs gZ (by kernel_rfl)
 obtain ⟨hs,hb⟩:=hsb
 refine ⟨.inl (by kernel_rfl),?_⟩
 refine wn ?_
 have ⟨h,hs⟩:=hs.hr (h w21)
 refine zN ⟨aS,aT,aU,aV,aW,s2,H3,hm,hs,hb,h⟩
 refine zD ?_
 have ⟨h,hs⟩:=hs.hr (h H3 w8)
 refine zN ⟨aS,aT,aU,aV,aW,Sl.nil,H3,hm,hs,hb,h⟩
def m_P1_l1 (bE bK:Sl) (i1:Int) (Hl1:NP) (wl1:World) (Kc1:Int→NP→WP) (K:Bool→WP):Prop :=Br (decide (i1<(bE.len:Int))) (∃C1:WP,C1 wl1.drew∧∀w12,w12=wl1.drew→∃a1:Addr,At bE i1 6 a1∧∃aN aO aP aQ aR bD,(∀w',C1 w'→Row w' a1 (Ad aN aO aP aQ aR bD))∧∃a2:Addr,At bK i1 6 a2∧∃cO cP cQ cR cS cT,(∀w',C1 w'→Row w' a2 (Ad cO cP cQ cR cS cT))∧Calls prog 37 #[(.agg #[(vi aN),(vi aO),(vi aP),(vu aQ),(vs aR),bD.v]),(.agg #[(vi cO),(vi cP),(vi cQ),(vu cR),(vs cS),cT.v])] w12 (fun e w13=>∃r1,e=.returned (vb r1)∧C1 w13∧Kept Hl1 w12 w13∧Br (!r1) (K false w13) (Kc1 (q6.wrap (i1+1)) Hl1 w13))) (K true wl1)
def m_P1 (aZ bB:Int) (bF bI:Int) (bN:ByteArray) (bE:Sl) (bA bC:Int) (bG bJ:Int) (bO:ByteArray) (bK:Sl) (w0:World) (K:Bool→WP):Prop :=∀y1:Bool,y1=((((((aZ != bA) || (bB != bC)) || (bF != bG)) || (bI != bJ)) || (!(decide (bN=bO)))) || (((bE.len:Int):Int) != (bK.len:Int)))→Br y1 (∀H7 w7,Hst w0 None w0 H7 w7→K false w7) (∀H7 w7,Hst w0 None w0 H7 w7→∃(I1:Int→NP→WP) (mu1:Int→World→Nat),I1 0 H7 w7∧∀(i1:Int) (Hl1:NP) (wl1:World),Hst w0 Hl1 wl1 Hl1 wl1→I1 i1 Hl1 wl1→m_P1_l1 bE bK i1 Hl1 wl1 (fun y'0 H' w'=>I1 y'0 H' w'∧mu1 y'0 w'<mu1 i1 wl1) K)
theorem w_P1 (aZ bB bF bI bN bE bA bC bG bJ bO bK w0 K) (h:m_P1 aZ bB bF bI bN bE bA bC bG bJ bO bK w0 K):
  Calls prog 37 #[(.agg #[(vi aZ),(vi bB),(vi bF),(vu bI),(vs bN),bE.v]),(.agg #[(vi bA),(vi bC),(vi bG),(vu bJ),(vs bO),bK.v])] w0 (fun e w'=>∃r2,e=.returned (vb r2)∧K r2 w'):=by
 refine cw (args:=[(Aa aZ bB bF bI bN bE),(Aa bA bC bG bJ bO bK)]) func37 ntmps37 ?_
 obtain ⟨hs,hb⟩:=st0 w0
 refine eg (nw3 (Ad aZ bB bF bI bN bE) 28 hs hb xb fun p1 w1 H1 hs hb=>nw3 (Ad bA bC bG bJ bO bK) 28 hs hb xb fun p2 w2 H2 hs hb=>q (ln (zB (zB (vJ (fun ρ wJ=>∃b5'0 y1:Bool,∃HJ:NP,((((((aZ != bA) || (bB != bC)) || (bF != bG)) || (bI != bJ)) || (!(decide (bN=bO))))=b5'0)∧(y1=(b5'0 || (((bE.len:Int):Int) != (bK.len:Int))))∧Hst w0 None w0 HJ wJ∧HB HJ wJ [(p2,(Ad bA bC bG bJ bO bK),28),(p1,(Ad aZ bB bF bI bN bE),28)]∧Has ρ [(2,(vp (some p1))),(3,(vp (some p2))),(47,(vb y1))]) ?_ ?_)))))
 refine rg (q (q3 (xl (isAgg3 _) (hb.d0 1 (gS gZ))) (q (q3 (xl (isAgg3 _) (hb.d0 0 gZ)) (qb (zK 6 (fun ρ wJ=>∃b6'0:Bool,∃HJ:NP,((aZ != bA)=b6'0)∧Hst w0 None w0 HJ wJ∧HB HJ wJ [(p2,(Ad bA bC bG bJ bO bK),28),(p1,(Ad aZ bB bF bI bN bE),28)]∧Has ρ [(2,(vp (some p1))),(3,(vp (some p2))),(17,(vb (b6'0 || (bB != bC))))]) ?_ ?_))))))
 rintro ρ w8 ⟨b6'0,H8,he0,hs,hb,hH⟩
 subst he0
 refine zP hH (q (zK 6 (fun ρ wJ=>∃b7'0:Bool,∃HJ:NP,(((aZ != bA) || (bB != bC))=b7'0)∧Hst w0 None w0 HJ wJ∧HB HJ wJ [(p2,(Ad bA bC bG bJ bO bK),28),(p1,(Ad aZ bB bF bI bN bE),28)]∧Has ρ [(2,(vp (some p1))),(3,(vp (some p2))),(24,(vb (b7'0 || (bF != bG))))]) ?_ ?_))
 rintro ρ w9 ⟨b7'0,H9,he0,hs,hb,hH⟩
 subst he0
 refine zP hH (q (zK 6 (fun ρ wJ=>∃b8'0:Bool,∃HJ:NP,((((aZ != bA) || (bB != bC)) || (bF != bG))=b8'0)∧Hst w0 None w0 HJ wJ∧HB HJ wJ [(p2,(Ad bA bC bG bJ bO bK),28),(p1,(Ad aZ bB bF bI bN bE),28)]∧Has ρ [(2,(vp (some p1))),(3,(vp (some p2))),(31,(vb (b8'0 || (bI != bJ))))]) ?_ ?_))
 rintro ρ w10 ⟨b8'0,H10,he0,hs,hb,hH⟩
 subst he0
 refine zP hH (q (zK 6 (fun ρ wJ=>∃b9'0:Bool,∃HJ:NP,(((((aZ != bA) || (bB != bC)) || (bF != bG)) || (bI != bJ))=b9'0)∧Hst w0 None w0 HJ wJ∧HB HJ wJ [(p2,(Ad bA bC bG bJ bO bK),28),(p1,(Ad aZ bB bF bI bN bE),28)]∧Has ρ [(2,(vp (some p1))),(3,(vp (some p2))),(38,(vb (b9'0 || (!(decide (bN=bO))))))]) ?_ ?_))
 rintro ρ w11 ⟨b9'0,H11,he0,hs,hb,hH⟩
 subst he0
 refine zP hH (q ?_)
 rcases bte (((((aZ != bA) || (bB != bC)) || (bF != bG)) || (bI != bJ)) || (!(decide (bN=bO)))) with hg18 | hg18
 refine sj2 39 hg18 (sj5 39 hg18 (q2 (vb true) (xT hg18) (ln ⟨true,_,_,hg18,rfl,hs,hb,hm⟩)))
 refine qk 39 hg18 (q4 39 hg18 (xl (isAgg22 _) (hb.d 1 5 (gS gZ))) (qk 39 hg18 (qk 39 hg18 (q4 39 hg18 (xl (isAgg22 _) (hb.d 0 5 gZ)) (qk 39 hg18 (qk 39 hg18 (q2 (vb (((bE.len:Int):Int) != (bK.len:Int))) (xF hg18) (ln ⟨false,_,_,hg18,rfl,hs,hb,hm⟩))))))))
 rcases bte ((((aZ != bA) || (bB != bC)) || (bF != bG)) || (bI != bJ)) with hg17 | hg17
 refine sj5 32 hg17 (q2 (vb true) (xT hg17) (zC ⟨true,_,hg17,hs,hb,hm⟩))
 refine qk 32 hg17 (q4 32 hg17 (xl (isAgg9 _) (hb.d 1 4 (gS gZ))) (qk 32 hg17 (q4 32 hg17 (xl (isAgg9 _) (hb.d 0 4 gZ)) (stq (v:=(vb (!(decide (bN=bO))))) (wy 32 hg17) (uO (by kernel_rfl) (by kernel_rfl)) (q2 (vb (!(decide (bN=bO)))) (xF hg17) (zC ⟨false,_,hg17,hs,hb,hm⟩))))))
 rcases bte (((aZ != bA) || (bB != bC)) || (bF != bG)) with hg15 | hg15
 refine sj5 25 hg15 (q2 (vb true) (xT hg15) (zC ⟨true,_,hg15,hs,hb,hm⟩))
 refine qk 25 hg15 (q4 25 hg15 (xl (isAgg26 _) (hb.d 1 3 (gS gZ))) (qk 25 hg15 (q4 25 hg15 (xl (isAgg26 _) (hb.d 0 3 gZ)) (qk 25 hg15 (q2 (vb (bI != bJ)) (xF hg15) (zC ⟨false,_,hg15,hs,hb,hm⟩))))))
 rcases bte ((aZ != bA) || (bB != bC)) with hg13 | hg13
 refine sj5 18 hg13 (q2 (vb true) (xT hg13) (zC ⟨true,_,hg13,hs,hb,hm⟩))
 refine qk 18 hg13 (q4 18 hg13 (xl (isAgg3 _) (hb.d 1 2 (gS gZ))) (qk 18 hg13 (q4 18 hg13 (xl (isAgg3 _) (hb.d 0 2 gZ)) (qk 18 hg13 (q2 (vb (bF != bG)) (xF hg13) (zC ⟨false,_,hg13,hs,hb,hm⟩))))))
 rcases bte (aZ != bA) with hg11 | hg11
 refine sj5 11 hg11 (q2 (vb true) (xT hg11) (zC ⟨true,_,hg11,hs,hb,hm⟩))
 refine qk 11 hg11 (q4 11 hg11 (xl (isAgg3 _) (hb.d 1 1 (gS gZ))) (qk 11 hg11 (q4 11 hg11 (xl (isAgg3 _) (hb.d 0 1 gZ)) (qk 11 hg11 (q2 (vb (bB != bC)) (xF hg11) (zC ⟨false,_,hg11,hs,hb,hm⟩))))))
 rintro ρ w7 ⟨b5'0,y1,H7,he0,hy1,hs,hb,hH⟩
 subst he0
 have h:=h y1 hy1
 refine zW hH (zN (cbr h ?_ ?_))<;>intro h
 refine eg (q (ln (er (vA ?_))))
 have ⟨h,hs⟩:=hs.hr (h H7 w7)
 refine rs1 results37 ⟨false,rfl,h⟩
 refine zD (zN (zB (eg (q (ln (zL ?_))))))
 have ⟨h,hs⟩:=hs.hr (h H7 w7)
 obtain ⟨I1,mu1,h0,hr⟩:=h
 refine vU (σ:=Int×NP×World) (fun s ρ w=>w=s.2.2∧Has ρ [(2,(vp (some p1))),(3,(vp (some p2))),(5,(vi s.1))]∧Hst w0 s.2.1 w s.2.1 w∧HB s.2.1 w [(p2,(Ad bA bC bG bJ bO bK),28),(p1,(Ad aZ bB bF bI bN bE),28)]∧I1 s.1 s.2.1 s.2.2) (fun s=>mu1 s.1 s.2.2) (0,H7,w7) ⟨rfl,hm,hs,hb,h0⟩ ?_
 rintro ⟨i1,Hl1,wl1⟩ ρ w ⟨hw,hH,hs,hb,hI⟩
 dsimp only at hw hH hs hb;subst w
 have h:=hr i1 Hl1 wl1 hs hI
 refine zQ hH (zB (eg (qb (q3 (xl (isAgg22 _) (hb.d 1 5 (gS gZ))) (qb (ln (cbr h ?_ ?_)))))))<;>intro h
 refine zD (zN (zB (zL (zB ?_))))
 obtain ⟨C1,hC,h⟩:=h
 refine dr2 (fun x=>C1 x∧HB Hl1 x _) [10] [] ⟨hC,hb.drew⟩ h hs hb fun w12 hs hb h=>?_
 have hs:=hs.here
 refine qx 0 (vp (some (p1.add 5))) Kp0 (qz 1 bE.v Kp1 (fun w' hw'=>(xl (isAgg22 _) (hw'.2.cell 1 5 (gS gZ) (by kernel_rfl)))) (qx 2 (vi i1) Kp2 (qg 3 ?_)))
 obtain ⟨a1,hv4,h⟩:=h
 refine sy Kp3 (fun _ _=>xi (runUnderlying22 _) (sizeOf28 _) hv4) (qg 4 ?_)
 obtain ⟨aN,aO,aP,aQ,aR,bD,hv3,h⟩:=h
 refine sy (v:=(Aa aN aO aP aQ aR bD)) Kp4 (fun w' hw'=>(xa a1 (Ad aN aO aP aQ aR bD) (isAgg28 _) (sizeOf28 _) (hv3 w' hw'.1))) (qx 5 (vp (some (p2.add 5))) Kp5 (qz 6 bK.v Kp6 (fun w' hw'=>(xl (isAgg22 _) (hw'.2.cell 0 5 gZ (by kernel_rfl)))) (qx 7 (vi i1) Kp7 (qg 8 ?_))))
 obtain ⟨a2,hv2,h⟩:=h
 refine sy Kp8 (fun _ _=>xi (runUnderlying22 _) (sizeOf28 _) hv2) (qg 9 ?_)
 obtain ⟨cO,cP,cQ,cR,cS,cT,hv1,h⟩:=h
 refine sy (v:=(Aa cO cP cQ cR cS cT)) Kp9 (fun w' hw'=>(xa a2 (Ad cO cP cQ cR cS cT) (isAgg28 _) (sizeOf28 _) (hv1 w' hw'.1))) (lg 10 (slc (zG (S8 (zA (zA zF)))) call37 (h.mono ?_)))
 rintro e w13 ⟨r1,rfl,hC,hk,h⟩
 refine ⟨_,rfl,.inr ⟨hC,hb.kept hk⟩,?_⟩
 obtain ⟨hs,hb⟩:=hk.hh hs hb
 refine qx 11 (vb (!r1)) (zG (S8 (zA (zA (zA zF))))) (wn (zN (cbr h ?_ ?_)))<;>intro h
 refine eg (q (ln (er (yC (vA (vA (yC (vA (rs1 results37 ⟨false,rfl,h⟩)))))))))
 refine zD (xE (zN (rg (qc (ln ⟨((q6.wrap (i1+1)),Hl1,w13),⟨rfl,hm,hs,hb,h.1⟩,h.2⟩)))))
 refine vQ (xG (xG (xA (zN (eg (q0 (vb true) (ln (er (rs1 results37 ⟨true,rfl,h⟩)))))))))
def m_D1_j1 (w1:Option Addr) (t1:Int) (x1:Bool) (w:World) (K:WP):Prop :=Br x1 (K w) (∃a1,w1=some a1∧∃v1:Sl,w.cell? (a1.add 1)=some v1.v∧∃a2:Addr,At v1 t1 1 a2∧zT w a2∧∀w2,w2=w.setCell a2 (vb true)→∃a3,w1=some a3∧∃v2,w2.cell? a3=some (vp v2)∧∃a4,v2=some a4∧∃v3:Sl,w2.cell? a4=some v3.v∧∃a5:Addr,At v3 (q6.wrap (t1 - 1)) 7 a5∧∃v4,w2.cell? (a5.add 5)=some (vi v4)∧Calls prog 221 #[(vp w1),(vi v4)] w2 (fun e w3=>e=.returned (.tuple #[])∧∃a6,w1=some a6∧∃v5,w3.cell? a6=some (vp v5)∧∃a7,v5=some a7∧∃v6:Sl,w3.cell? a7=some v6.v∧∃a8:Addr,At v6 (q6.wrap (t1 - 1)) 7 a8∧∃v7,w3.cell? (a8.add 6)=some (vi v7)∧Calls prog 221 #[(vp w1),(vi v7)] w3 (fun e w4=>e=.returned (.tuple #[])∧∃a9,w1=some a9∧∃v8:Sl,w4.cell? (a9.add 2)=some v8.v∧∀p1 w5,New w4 (.cells #[(vi t1)] 23) p1 w5→∃s1:Sl,∃w6:World,(Builtin.append_ #[137,137] 137 #[v8.v,(Sl.mk (some p1) 1 1).v]).run prog w5=.ok s1.v w6∧∃a10,w1=some a10∧zT w6 (a10.add 2)∧∀w7,w7=w6.setCell (a10.add 2) s1.v→K w7)))
def m_D1 (w1:Option Addr) (t1:Int) (w0:World) (K:WP):Prop :=∃a11,w1=some a11∧∃v9,w0.cell? a11=some (vp v9)∧Calls prog 19 #[(vp v9),(vi t1)] w0 (fun e w8=>∃r1,e=.returned (vb r1)∧Br (!r1) (m_D1_j1 w1 t1 true w8 K) (∃a12,w1=some a12∧∃v10:Sl,w8.cell? (a12.add 1)=some v10.v∧∃a13:Addr,At v10 t1 1 a13∧∃v11,w8.cell? a13=some (vb v11)∧m_D1_j1 w1 t1 v11 w8 K))
theorem w_D1 (w1 t1 w0 K) (h:m_D1 w1 t1 w0 K):
  Calls prog 221 #[(vp w1),(vi t1)] w0 (fun e w'=>e=.returned (.tuple #[])∧K  w'):=by
 refine cw (args:=[(vp w1),(vi t1)]) func221 ntmps221 (zB (zB ?_))
 refine zY (fun ρ w=>∃x1,Has ρ [(0,(vp w1)),(1,(vi t1)),(19,(vb x1))]∧m_D1_j1 w1 t1 x1 w K) ?_ ?_
 rintro ρ w ⟨x1,hH,h⟩
 refine zQ hH (cbr h ?_ ?_)<;>intro h
 refine er (vA (jFH (.inl rfl) results221 ⟨rfl,h⟩))
 refine zD (zN (eg (q (qm h fun a1 h=>q (ql (isAgg264 _) h fun v1 h=>q (qi (runUnderlying264 _) (sizeOf4 _) h fun a2 h=>st1 (sizeOf4 _) h fun w2 h=>ln (eg (qb (qm h fun a3 h=>q (ql (isAgg31 _) h fun v2 h=>qm h fun a4 h=>q (ql (isAgg49 _) h fun v3 h=>qb (qi (runUnderlying49 _) (sizeOf103 _) h fun a5 h=>q (ql (isAgg23 _) h fun v4 h=>sc call221 (h.mono fun e w3 ⟨k,h⟩=>⟨_,k,?_⟩))))))))))))))
 refine ln (eg (qb (qm h fun a6 h=>q (ql (isAgg31 _) h fun v5 h=>qm h fun a7 h=>q (ql (isAgg49 _) h fun v6 h=>qb (qi (runUnderlying49 _) (sizeOf103 _) h fun a8 h=>q (ql (isAgg23 _) h fun v7 h=>sc call221 (h.mono fun e w4 ⟨k,h⟩=>⟨_,k,?_⟩))))))))
 refine ln (rg (qb (qm h fun a9 h=>q (ql (isAgg137 _) h fun v8 h=>q (yX (O:=(.cells #[(vi t1)] 23)) (fun p=>(Sl.mk (some p) 1 1).v) (zJ rfl) (vD (vs:=#[(0,(vi t1))]) (by kernel_rfl) (by kernel_rfl)) ?_)))))
 intro p1 w5 hn3
 have h:=h p1 w5 hn3
 obtain ⟨s1,w6,hv1,h⟩:=h
 refine st (v:=s1.v) (zJ rfl) (vC (args:=#[v8.v,(Sl.mk (some p1) 1 1).v]) (by kernel_rfl) (fun _=>rfl) hv1) (qm h fun a10 h=>q (st1 (sizeOf137 _) h fun w7 h=>zC (jFH (.inr rfl) results221 ⟨rfl,h⟩)))
 refine rg (q (qm h fun a11 h=>q (ql (isAgg31 _) h fun v9 h=>q (sc call19 (h.mono fun e w8 ⟨r1,k,h⟩=>⟨_,k,?_⟩)))))
 refine qb ?_
 obtain ⟨hg1,h⟩|⟨hg1,h⟩:=h.br
 refine sj2 11 hg1 (sj5 11 hg1 (q2 (vb true) (xT hg1) (ln ⟨true,hm,h⟩)))
 refine qk 11 hg1 ?_
 obtain ⟨a12,hp11,h⟩:=h
 refine q4 11 hg1 (xn hp11) (qk 11 hg1 ?_)
 obtain ⟨v10,hv15,h⟩:=h
 refine q4 11 hg1 (xl (isAgg264 _) hv15) (qk 11 hg1 ?_)
 obtain ⟨a13,hv14,h⟩:=h
 refine q4 11 hg1 (xi (runUnderlying264 _) (sizeOf4 _) hv14) ?_
 obtain ⟨v11,hv13,h⟩:=h
 refine q4 11 hg1 (xl (isAgg4 _) hv13) (q2 (vb v11) (xF hg1) (ln ⟨v11,hm,h⟩))
def m_Y3 (p1:Option Addr) (t1:Int) (w0:World) (K:Sl→WP):Prop :=∃a1,p1=some a1∧∃v1:Sl,w0.cell? a1=some v1.v∧∃s1:Sl,∃w1:World,(Instr.makeSlice 264 (vi (q6.wrap ((v1.len:Int)+1))) (vi (q6.wrap ((v1.len:Int)+1)))).run prog w0=.ok s1.v w1∧∀p2 w2,New w1 (.cells #[(vp p1),s1.v,Sl.nil.v] 266) p2 w2→Calls prog 221 #[(vp (some p2)),(vi t1)] w2 (fun e w3=>e=.returned (.tuple #[])∧∃v2:Sl,w3.cell? (p2.add 2)=some v2.v∧K v2 w3)
theorem w_Y3 (p1 t1 w0 K) (h:m_Y3 p1 t1 w0 K):
  Calls prog 170 #[(vp p1),(vi t1)] w0 (fun e w'=>∃r1:Sl,e=.returned r1.v∧K r1 w'):=by
 refine cw (args:=[(vp p1),(vi t1)]) func170 ntmps170 (eg (q0 Sl.nil.v (ln (eg (q0 (vp p1) (q0 (vp p1) ?_))))))
 refine qm h fun a1 h=>q (ql (isAgg49 _) h fun v1 h=>qb ?_)
 obtain ⟨s1,w1,hv2,h⟩:=h
 refine st (v:=s1.v) (zJ rfl) (jDJ (by kernel_rfl) (by kernel_rfl) hv2) (q0 (.agg #[(vp p1),s1.v,Sl.nil.v]) (sn (O:=(.cells #[(vp p1),s1.v,Sl.nil.v] 266)) xb ?_))
 intro p2 w2 hn1
 have h:=h p2 w2 hn1
 refine q (ln (eg (qb (sc call221 (h.mono fun e w3 ⟨k,h⟩=>⟨_,k,?_⟩)))))
 refine ln (eg (qc (ql (isAgg137 _) h fun v2 h=>q (ln (er (rs1 results170 ⟨v2,rfl,h⟩))))))
end Go.Proofs
end
