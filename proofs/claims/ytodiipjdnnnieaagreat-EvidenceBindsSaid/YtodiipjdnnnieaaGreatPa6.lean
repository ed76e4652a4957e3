import Derived.Test.YtodiipjdnnnieaaGreatProg
import Derived.KernelRfl
import Derived.Test.YtodiipjdnnnieaaGreatPa3
import Derived.Test.YtodiipjdnnnieaaGreatPa4
import Derived.Test.YtodiipjdnnnieaaGreatPa5
section
open Go Go.SE
open Go.IntKind renaming i64 → q6
namespace Go.Proofs
set_option maxRecDepth 100000
set_option maxHeartbeats 4000000
attribute [local irreducible] wpL wpX opE wpE Calls
def m_V3  (w0:World) (K:(Array Value)→WP):Prop :=∀p1 w1,New w0 (.cells #[(vb false),(vb false),(vb false),(vs ⟨#[]⟩),(vb false),(vb false),(vb false),(vs ⟨#[]⟩),(vb false),(vb false),(vb false),(vs ⟨#[]⟩),(vb false),(vb false),(vb false),(vs ⟨#[]⟩),(vb false),(vb false),(vb false),(vs ⟨#[]⟩),(vb false),(vb false),(vb false),(vs ⟨#[]⟩),(vb false),(vb false),(vb false),(vs ⟨#[]⟩),(vb false),(vb false),(vb false),(vs ⟨#[]⟩)] 302) p1 w1→(∀j,j<32→vG w1 (p1.add j))∧∀w2,w2=storeRow w1 p1 (Ak false false false (⟨#[]⟩) true true true (⟨#[112,114,111,109,105,115,101]⟩:ByteArray) true true false (⟨#[115,105,103,110]⟩:ByteArray) false false false (⟨#[97,98,111,114,116]⟩:ByteArray) true true true (⟨#[114,101,115,111,108,118,101]⟩:ByteArray) false false false (⟨#[116,111,107,101,110]⟩:ByteArray) false true false (⟨#[105,110,115,116,101,97,100]⟩:ByteArray) false false false (⟨#[102,117,108,108]⟩:ByteArray))→∃cT:Array Value,(cT.size=32∧Row w2 p1 cT.toList)∧K cT w2
theorem w_V3  (w0:World) (K:(Array Value)→WP) (h:m_V3  w0 K) :
  Calls Tryz.prog 193 #[] w0 (fun e w'=>∃r1:Array Value,e=.returned (.agg r1)∧K r1 w'):=by
 refine cw (args:=[]) Tryz.func193 Tryz.ntmps193 (eg (sn (O:=(.cells #[(vb false),(vb false),(vb false),(vs ⟨#[]⟩),(vb false),(vb false),(vb false),(vs ⟨#[]⟩),(vb false),(vb false),(vb false),(vs ⟨#[]⟩),(vb false),(vb false),(vb false),(vs ⟨#[]⟩),(vb false),(vb false),(vb false),(vs ⟨#[]⟩),(vb false),(vb false),(vb false),(vs ⟨#[]⟩),(vb false),(vb false),(vb false),(vs ⟨#[]⟩),(vb false),(vb false),(vb false),(vs ⟨#[]⟩)] 302)) (zM (Tryz.zeroValue302 _) rfl) ?_))
 intro p1 w1 hn2
 have h:=h p1 w1 hn2
 refine ln (eg (qd (qd ?_)))
 obtain ⟨hp1,h⟩:=h
 refine zK (zD rfl) (xo p1 (Ak false false false (⟨#[]⟩) true true true (⟨#[112,114,111,109,105,115,101]⟩:ByteArray) true true false (⟨#[115,105,103,110]⟩:ByteArray) false false false (⟨#[97,98,111,114,116]⟩:ByteArray) true true true (⟨#[114,101,115,111,108,118,101]⟩:ByteArray) false false false (⟨#[116,111,107,101,110]⟩:ByteArray) false true false (⟨#[105,110,115,116,101,97,100]⟩:ByteArray) false false false (⟨#[102,117,108,108]⟩:ByteArray)) (Tryz.sizeOf302 _) hp1) ?_
 intro w2 hn1
 have h:=h w2 hn1
 refine ln (er ?_)
 obtain ⟨cT,hv1,h⟩:=h
 refine gg1 Tryz.results193 (RV.cellAr (A:=p1) (vs:=cT) (by kernel_rfl) (Tryz.isAgg302 _) (Tryz.sizeOf302 _) hv1) ⟨cT,rfl,h⟩
def m_N_j3 (aC:ByteArray) (aD:Bool) (a1:Addr) (x2:Bool) (w0:World) (H:NP) (w:World) (K:Int→WP):Prop :=Br x2 (K 110 w) (∃v1,w.cell? (a1.add 2)=some (vb v1)∧Br ((!v1) && aD) (∀H6 w6,Hst w0 H w H6 w6→K 110 w6) (Br (decide ((aC.size:Int)>64)) (∀H6 w6,Hst w0 H w H6 w6→K 1 w6) (∀H6 w6,Hst w0 H w H6 w6→K 0 w6)))
def m_N_j2 (aC:ByteArray) (aD:Bool) (a1:Addr) (x1:Bool) (w0:World) (H:NP) (w:World) (K:Int→WP):Prop :=Br x1 (K 110 w) (∃v2,w.cell? (a1.add 1)=some (vb v2)∧∀H7 w7,Hst w0 H w H7 w7→m_N_j3 aC aD a1 ((!v2) && (!(decide (aC=⟨#[]⟩)))) w0 H7 w7 K)
def m_N_j1 (aB:Int) (aC:ByteArray) (aD:Bool) (a1:Addr) (w0:World) (H:NP) (w:World) (K:Int→WP):Prop :=Br ((aB != 0) && (aB != 1)) (∀H4 w4,Hst w0 H w H4 w4→K 110 w4) (∀H4 w4,Hst w0 H w H4 w4→∃v3,w4.cell? a1=some (vb v3)∧∀H8 w8,Hst w0 H4 w4 H8 w8→m_N_j2 aC aD a1 ((!v3) && (aB != 0)) w0 H8 w8 K)
def m_N (aA aB aE:Int) (aC:ByteArray) (aD:Bool) (w0:World) (K:Int→WP):Prop :=Br ((decide (aA<1)) || (decide (aA>7))) (∀H2 w2,Hst w0 None w0 H2 w2→K 110 w2) (∀H2 w2,Hst w0 None w0 H2 w2→∃C1:WP,C1 w2.drew∧∀w9,w9=w2.drew→(Calls Tryz.prog 193 #[] w9 (fun e w10=>∃r1:Array Value,e=.returned (.agg r1)∧C1 w10∧Kept H2 w9 w10∧∃efrom1 etext1 efake1 eword1,(∀w',C1 w'→(Instr.index 302 (.agg r1) (vi aA)).run Tryz.prog w'=.ok (.agg #[(vb efrom1),(vb etext1),(vb efake1),(vs eword1)]) w')∧∀p2 w11,New w10 (.cells #[(vb false),(vb false),(vb false),(vs ⟨#[]⟩)] 301) p2 w11→C1 w11∧(∀j,j<4→vG w11 (p2.add j))∧¬ H2 p2.block∧∀w12,w12=storeRow w11 p2 [(vb efrom1),(vb etext1),(vb efake1),(vs eword1)]→m_N_j1 aB aC aD p2 w0 H2 w12 K))∧(∀p3 w13,New w9 (.cells #[(vb false),(vb false),(vb false),(vs ⟨#[]⟩)] 301) p3 w13→C1 w13∧Calls Tryz.prog 193 #[] w13 (fun e w14=>∃r2:Array Value,e=.returned (.agg r2)∧C1 w14∧Kept H2 w13 w14∧∃efrom2 etext2 efake2 eword2,(∀w',C1 w'→(Instr.index 302 (.agg r2) (vi aA)).run Tryz.prog w'=.ok (.agg #[(vb efrom2),(vb etext2),(vb efake2),(vs eword2)]) w')∧(∀j,j<4→vG w14 (p3.add j))∧¬ H2 p3.block∧∀w15,w15=storeRow w14 p3 [(vb efrom2),(vb etext2),(vb efake2),(vs eword2)]→m_N_j1 aB aC aD p3 w0 H2 w15 K)))
theorem w_N (aA aB aE aC aD w0 K) (h:m_N aA aB aE aC aD w0 K):
  Calls Tryz.prog 142 #[(.agg #[(vi aA),(vi aB),(vu aE),(vs aC),(vb aD)])] w0 (fun e w'=>∃r3,e=.returned (vi r3)∧K r3 w'):=by
 refine cw (args:=[(Af aA aB aE aC aD)]) Tryz.func142 Tryz.ntmps142 ?_
 obtain ⟨hs,hb⟩:=st0 w0
 refine eg (nw3 (Ac aA aB aE aC aD) 35 hs hb xb fun p1 w1 H1 hs hb=>q (ln (zA (zA (vQ (fun ρ wJ=>∃b1'0:Bool,∃HJ:NP,((decide (aA<1))=b1'0)∧Hst w0 None w0 HJ wJ∧HB HJ wJ [(p1,(Ac aA aB aE aC aD),35)]∧Has ρ [(1,(vp (some p1))),(11,(vb (b1'0 || (decide (aA>7)))))]) ?_ ?_)))))
 refine rg (q (q3 (xl (Tryz.isAgg3 _) (hb.d0 0 gZ)) (qb ?_)))
 rcases Bool.eq_false_or_eq_true (decide (aA<1)) with hg2 | hg2
 refine sj3 7 hg2 (q2 (vb true) (xT hg2) (ln ⟨true,_,hg2,hs,hb,hm⟩))
 refine qk 7 hg2 (q4 7 hg2 (xl (Tryz.isAgg3 _) (hb.d0 0 gZ)) (qk 7 hg2 (q2 (vb (decide (aA>7))) (xF hg2) (ln ⟨false,_,hg2,hs,hb,hm⟩))))
 rintro ρ w2 ⟨b1'0,H2,he0,hs,hb,hH⟩
 subst he0
 refine vI hH (zO (cbr h ?_ ?_))<;>intro h
 refine eg (q (ln (er (zY ?_))))
 have ⟨h,hs⟩:=hs.hr (h H2 w2)
 refine rs1 Tryz.results142 ⟨110,rfl,h⟩
 refine zB (zO (zA (qQ (fun ρ w=>∃a1:Addr,∃H:NP,Has ρ [(1,(vp (some p1))),(3,(vp (some a1)))]∧Hst w0 H w H w∧HB H w [(p1,(Ac aA aB aE aC aD),35)]∧m_N_j1 aB aC aD a1 w0 H w K) ?_ ?_)))
 rintro ρ w ⟨a1,H,hH,hs,hb,h⟩
 refine zU hH (zA (zJ (zA (zA (vQ (fun ρ wJ=>∃HJ:NP,Hst w0 H w HJ wJ∧HB HJ wJ [(p1,(Ac aA aB aE aC aD),35)]∧Has ρ [(1,(vp (some p1))),(3,(vp (some a1))),(16,(vb ((aB != 0) && (aB != 1))))]) ?_ ?_)))))
 refine rg (q (q3 (xl (Tryz.isAgg3 _) (hb.d 0 1 gZ)) (qb (zN 4 (fun ρ wJ=>∃b4'0:Bool,∃HJ:NP,((aB != 0)=b4'0)∧Hst w0 H w HJ wJ∧HB HJ wJ [(p1,(Ac aA aB aE aC aD),35)]∧Has ρ [(1,(vp (some p1))),(3,(vp (some a1))),(24,(vb (b4'0 && (aB != 1))))]) ?_ ?_))))
 rintro ρ w5 ⟨b4'0,H5,he0,hs,hb,hH⟩
 subst he0
 refine zQ hH (q (ln ⟨_,hs,hb,hm⟩))
 rcases Bool.eq_false_or_eq_true (aB != 0) with hg6 | hg6
 refine qk 20 hg6 (q4 20 hg6 (xl (Tryz.isAgg3 _) (hb.d 0 1 gZ)) (qk 20 hg6 (q2 (vb (aB != 1)) (xT hg6) (zC ⟨true,_,hg6,hs,hb,hm⟩))))
 refine sj3 20 hg6 (q2 (vb false) (xF hg6) (zC ⟨false,_,hg6,hs,hb,hm⟩))
 rintro ρ w4 ⟨H4,hs,hb,hH⟩
 refine vI hH (zO (cbr' h (fun hc2 h=>?_) (fun hc2 h=>?_)))
 refine zB (zO (tR (t:=((aB != 0) && (aB != 1))) (by kernel_rfl) hc2 (eg (q0 (vi 110) (ln (er (qN (zY ?_))))))))
 have ⟨h,hs⟩:=hs.hr (h H4 w4)
 refine rs1 Tryz.results142 ⟨110,rfl,h⟩
 refine zA (qQ (fun ρ w=>∃x1,∃H:NP,Has ρ [(1,(vp (some p1))),(3,(vp (some a1))),(16,(vb x1))]∧Hst w0 H w H w∧HB H w [(p1,(Ac aA aB aE aC aD),35)]∧m_N_j2 aC aD a1 x1 w0 H w K) ?_ ?_)
 rintro ρ w ⟨x1,H,hH,hs,hb,h⟩
 refine zU hH (cbr' h (fun hc3 h=>?_) (fun hc3 h=>?_))
 refine zB (zO (tR (t:=x1) (by kernel_rfl) hc3 (eg (q0 (vi 110) (ln (er (qN (zY (rs1 Tryz.results142 ⟨110,rfl,h⟩)))))))))
 refine zA (qQ (fun ρ w=>∃x2,∃H:NP,Has ρ [(1,(vp (some p1))),(3,(vp (some a1))),(16,(vb x2))]∧Hst w0 H w H w∧HB H w [(p1,(Ac aA aB aE aC aD),35)]∧m_N_j3 aC aD a1 x2 w0 H w K) ?_ ?_)
 rintro ρ w ⟨x2,H,hH,hs,hb,h⟩
 refine zU hH (cbr' h (fun hc4 h=>?_) (fun hc4 h=>?_))
 refine zB (zO (tR (t:=x2) (by kernel_rfl) hc4 (eg (q0 (vi 110) (ln (er (qN (zY (rs1 Tryz.results142 ⟨110,rfl,h⟩)))))))))
 refine rg (q (ql (Tryz.isAgg4 _) h fun v1 h=>qb (zN 3 (fun ρ wJ=>∃b5'0:Bool,∃HJ:NP,((!v1)=b5'0)∧Hst w0 H w HJ wJ∧HB HJ wJ [(p1,(Ac aA aB aE aC aD),35)]∧Has ρ [(1,(vp (some p1))),(47,(vb (b5'0 && aD)))]) ?_ ?_)))
 rintro ρ w6 ⟨b5'0,H6,he0,hs,hb,hH⟩
 subst he0
 refine zQ hH (q (ln (cbr h ?_ ?_)))<;>intro h
 refine eg (q (ln (er (qN (zY ?_)))))
 have ⟨h,hs⟩:=hs.hr (h H6 w6)
 refine rs1 Tryz.results142 ⟨110,rfl,h⟩
 refine eg (q (q3 (xl (Tryz.isAgg9 _) (hb.d 0 3 gZ)) (qc (ln (cbr h ?_ ?_)))))<;>intro h
 refine eg (q (ln (er (qN (zY ?_)))))
 have ⟨h,hs⟩:=hs.hr (h H6 w6)
 refine rs1 Tryz.results142 ⟨1,rfl,h⟩
 refine zB (yQ (zO (eg (q (ln (er ?_))))))
 have ⟨h,hs⟩:=hs.hr (h H6 w6)
 refine rs1 Tryz.results142 ⟨0,rfl,h⟩
 rcases Bool.eq_false_or_eq_true (!v1) with hg8 | hg8
 refine qk 44 hg8 (q4 44 hg8 (xl (Tryz.isAgg4 _) (hb.d 0 4 gZ)) (q2 (vb aD) (xT hg8) (zC ⟨true,_,hg8,hs,hb,hm⟩)))
 refine sj2 44 hg8 (q2 (vb false) (xF hg8) (zC ⟨false,_,hg8,hs,hb,hm⟩))
 refine rg (q (ql (Tryz.isAgg4 _) h fun v2 h=>qb (zN 4 (fun ρ wJ=>∃b6'0:Bool,∃HJ:NP,((!v2)=b6'0)∧Hst w0 H w HJ wJ∧HB HJ wJ [(p1,(Ac aA aB aE aC aD),35)]∧Has ρ [(1,(vp (some p1))),(3,(vp (some a1))),(40,(vb (b6'0 && (!(decide (aC=⟨#[]⟩))))))]) ?_ ?_)))
 rintro ρ w7 ⟨b6'0,H7,he0,hs,hb,hH⟩
 subst he0
 refine zQ hH (q (zC ?_))
 have ⟨h,hs⟩:=hs.hr (h H7 w7)
 refine zO ⟨((!v2) && (!(decide (aC=⟨#[]⟩)))),H7,hm,hs,hb,h⟩
 rcases Bool.eq_false_or_eq_true (!v2) with hg10 | hg10
 refine qk 36 hg10 (q4 36 hg10 (xl (Tryz.isAgg9 _) (hb.d 0 3 gZ)) (stq (v:=(vb (!(decide (aC=⟨#[]⟩))))) (wy 36 hg10) (uM (by kernel_rfl) (by kernel_rfl)) (q2 (vb (!(decide (aC=⟨#[]⟩)))) (xT hg10) (zC ⟨true,_,hg10,hs,hb,hm⟩))))
 refine sj3 36 hg10 (q2 (vb false) (xF hg10) (zC ⟨false,_,hg10,hs,hb,hm⟩))
 refine rg (q ?_)
 have ⟨h,hs⟩:=hs.hr (h H4 w4)
 refine ql (Tryz.isAgg4 _) h fun v3 h=>qb (zN 4 (fun ρ wJ=>∃b7'0:Bool,∃HJ:NP,((!v3)=b7'0)∧Hst w0 H4 w4 HJ wJ∧HB HJ wJ [(p1,(Ac aA aB aE aC aD),35)]∧Has ρ [(1,(vp (some p1))),(3,(vp (some a1))),(32,(vb (b7'0 && (aB != 0))))]) ?_ ?_)
 rintro ρ w8 ⟨b7'0,H8,he0,hs,hb,hH⟩
 subst he0
 refine zQ hH (q (zC ?_))
 have ⟨h,hs⟩:=hs.hr (h H8 w8)
 refine zO ⟨((!v3) && (aB != 0)),H8,hm,hs,hb,h⟩
 rcases Bool.eq_false_or_eq_true (!v3) with hg12 | hg12
 refine qk 28 hg12 (q4 28 hg12 (xl (Tryz.isAgg3 _) (hb.d 0 1 gZ)) (qk 28 hg12 (q2 (vb (aB != 0)) (xT hg12) (zC ⟨true,_,hg12,hs,hb,hm⟩))))
 refine sj3 28 hg12 (q2 (vb false) (xF hg12) (zC ⟨false,_,hg12,hs,hb,hm⟩))
 have ⟨h,hs⟩:=hs.hr (h H2 w2)
 obtain ⟨C1,hC,h⟩:=h
 refine dr2 (fun x=>C1 x∧HB H2 x _) [0,4,5] [5] ⟨hC,hb.drew⟩ h hs hb fun w9 hs hb h=>?_
 have hs:=hs.here
 refine qx 1 (vp (some p1)) Kp1 (qz 2 (vi aA) Kp2 (fun w' hw'=>(xl (Tryz.isAgg3 _) (hw'.2.cell0 0 gZ (by kernel_rfl)))) (jMM (k:=0) (k':=4) (by kernel_rfl) ?_ ?_))
 have h:=h.1
 refine zL Kp0 (zD rfl) (by kernel_rfl) (xc Tryz.call193) (h.mono ?_)
 rintro e w10 ⟨r1,rfl,hC,hk,h⟩
 refine ⟨_,rfl,.inr ⟨hC,hb.kept hk⟩,?_⟩
 obtain ⟨hs,hb⟩:=hk.hh hs hb
 refine qg 3 ?_
 obtain ⟨efrom1,etext1,efake1,eword1,hv4,h⟩:=h
 refine sy (v:=(.agg #[(vb efrom1),(vb etext1),(vb efake1),(vs eword1)])) Kp3 (fun w' hw'=>(jHD (by kernel_rfl) (by kernel_rfl) (hv4 w' hw'.1))) (lg 4 (qI (O:=(.cells #[(vb false),(vb false),(vb false),(vs ⟨#[]⟩)] 301)) (fun p=>.pointer (some p)) Kp4 (zD rfl) (by kernel_rfl) (zM (Tryz.zeroValue301 _) rfl) ?_))
 intro p2 w11 hn3
 have h:=h p2 w11 hn3
 refine ⟨.inr ⟨h.1,hb.kept (Ext.new (F:=None) hn3).keptP⟩,?_⟩
 have h:=h.2
 obtain ⟨hs,hb⟩:=hs.nw hb hn3
 refine lg 5 ?_
 obtain ⟨hp1,hnh,h⟩:=h
 refine xB Kp5 (zD rfl) (by kernel_rfl) (xo p2 [(vb efrom1),(vb etext1),(vb efake1),(vs eword1)] (Tryz.sizeOf301 _) hp1) ?_
 intro w12 hn2
 have h:=h w12 hn2
 refine ⟨.inl (by kernel_rfl),?_⟩
 have hk:Kept H2 w11 w12:=by rw [hn2];exact Kept.storeRow hnh
 obtain ⟨hs,hb⟩:=hk.hh hs hb
 refine wn (zO ⟨p2,H2,hm,hs,hb,h⟩)
 have h:=h.2
 refine qI (O:=(.cells #[(vb false),(vb false),(vb false),(vs ⟨#[]⟩)] 301)) (fun p=>.pointer (some p)) Kp4 (zD rfl) (by kernel_rfl) (zM (Tryz.zeroValue301 _) rfl) ?_
 intro p3 w13 hn5
 have h:=h p3 w13 hn5
 refine ⟨.inr ⟨h.1,hb.kept (Ext.new (F:=None) hn5).keptP⟩,?_⟩
 have h:=h.2
 obtain ⟨hs,hb⟩:=hs.nw hb hn5
 refine lg 0 (zL Kp0 (zD rfl) (by kernel_rfl) (xc Tryz.call193) (h.mono ?_))
 rintro e w14 ⟨r2,rfl,hC,hk,h⟩
 refine ⟨_,rfl,.inr ⟨hC,hb.kept hk⟩,?_⟩
 obtain ⟨hs,hb⟩:=hk.hh hs hb
 refine qg 3 ?_
 obtain ⟨efrom2,etext2,efake2,eword2,hv5,h⟩:=h
 refine sy (v:=(.agg #[(vb efrom2),(vb etext2),(vb efake2),(vs eword2)])) Kp3 (fun w' hw'=>(jHD (by kernel_rfl) (by kernel_rfl) (hv5 w' hw'.1))) (lg 5 ?_)
 obtain ⟨hp2,hnh,h⟩:=h
 refine xB Kp5 (zD rfl) (by kernel_rfl) (xo p3 [(vb efrom2),(vb etext2),(vb efake2),(vs eword2)] (Tryz.sizeOf301 _) hp2) ?_
 intro w15 hn4
 have h:=h w15 hn4
 refine ⟨.inl (by kernel_rfl),?_⟩
 have hk:Kept H2 w14 w15:=by rw [hn4];exact Kept.storeRow hnh
 obtain ⟨hs,hb⟩:=hk.hh hs hb
 refine wn (zO ⟨p3,H2,hm,hs,hb,h⟩)
def s_S (s1:ByteArray):Int×Int×Int×Int×ByteArray×Sl :=(3,0,0,0,s1,Sl.nil)
theorem pw_S (s1:ByteArray) (w0:World) :
  Calls Tryz.prog 198 #[(vs s1)] w0 (fun e w'=>(e=.returned (.agg #[(vi 3),(vi 0),(vi 0),(vu 0),(vs s1),Sl.nil.v]))∧Pure w0 w'):=by
 refine cw (args:=[(vs s1)]) Tryz.func198 Tryz.ntmps198 ?_
 obtain ⟨hs,hb⟩:=st0 w0
 refine eg (nw3 [(vi 0),(vi 0),(vi 0),(vu 0),(vs ⟨#[]⟩),Sl.nil.v] 107 hs hb (zM (Tryz.zeroValue107 _) rfl) fun p1 w1 H1 hs hb=>ln (eg (qb (zK (zD rfl) (xo p1 [(vi 3),(vi 0),(vi 0),(vu 0),(vs s1),Sl.nil.v] (Tryz.sizeOf107 _) (hb.k0 0 6 gZ)) ?_))))
 intro w2 hn2
 obtain ⟨hs,hb⟩:=hb.st1 0 hs hn2 gZ
 refine ln (er (tI (.inl rfl) (vs:=[(.agg #[(vi 3),(vi 0),(vi 0),(vu 0),(vs s1),Sl.nil.v])]) (v:=(.agg #[(vi 3),(vi 0),(vi 0),(vu 0),(vs s1),Sl.nil.v])) Tryz.results198 ⟨(rva (Tryz.isAgg107 _) (Tryz.sizeOf107 _) (hb.r0 0 6 gZ)),trivial⟩ (by kernel_rfl) ⟨by kernel_rfl,(Ext.refl (F:=None) _).hst hs⟩))
theorem p_S (s1:ByteArray) (w0:World):Calls Tryz.prog 198 #[(.string s1)] w0 (fun e w'=>e=.returned (.agg #[(.int .i64 (s_S s1).1),(.int .i64 (s_S s1).2.1),(.int .i64 (s_S s1).2.2.1),(.int .u64 (s_S s1).2.2.2.1),(.string (s_S s1).2.2.2.2.1),(s_S s1).2.2.2.2.2.v])∧Pure w0 w'):=pw_S s1 w0
def s_Y (n1:Int):Int×Int×Int×Int×ByteArray×Sl :=(2,0,0,n1,⟨#[]⟩,Sl.nil)
theorem pw_Y (n1:Int) (w0:World) :
  Calls Tryz.prog 199 #[(vu n1)] w0 (fun e w'=>(e=.returned (.agg #[(vi 2),(vi 0),(vi 0),(vu n1),(vs ⟨#[]⟩),Sl.nil.v]))∧Pure w0 w'):=by
 refine cw (args:=[(vu n1)]) Tryz.func199 Tryz.ntmps199 ?_
 obtain ⟨hs,hb⟩:=st0 w0
 refine eg (nw3 [(vi 0),(vi 0),(vi 0),(vu 0),(vs ⟨#[]⟩),Sl.nil.v] 107 hs hb (zM (Tryz.zeroValue107 _) rfl) fun p1 w1 H1 hs hb=>ln (eg (qb (zK (zD rfl) (xo p1 [(vi 2),(vi 0),(vi 0),(vu n1),(vs ⟨#[]⟩),Sl.nil.v] (Tryz.sizeOf107 _) (hb.k0 0 6 gZ)) ?_))))
 intro w2 hn2
 obtain ⟨hs,hb⟩:=hb.st1 0 hs hn2 gZ
 refine ln (er (tI (.inl rfl) (vs:=[(.agg #[(vi 2),(vi 0),(vi 0),(vu n1),(vs ⟨#[]⟩),Sl.nil.v])]) (v:=(.agg #[(vi 2),(vi 0),(vi 0),(vu n1),(vs ⟨#[]⟩),Sl.nil.v])) Tryz.results199 ⟨(rva (Tryz.isAgg107 _) (Tryz.sizeOf107 _) (hb.r0 0 6 gZ)),trivial⟩ (by kernel_rfl) ⟨by kernel_rfl,(Ext.refl (F:=None) _).hst hs⟩))
theorem p_Y (n1:Int) (w0:World):Calls Tryz.prog 199 #[(.int .u64 n1)] w0 (fun e w'=>e=.returned (.agg #[(.int .i64 (s_Y n1).1),(.int .i64 (s_Y n1).2.1),(.int .i64 (s_Y n1).2.2.1),(.int .u64 (s_Y n1).2.2.2.1),(.string (s_Y n1).2.2.2.2.1),(s_Y n1).2.2.2.2.2.v])∧Pure w0 w'):=pw_Y n1 w0
def m_W3 (aL aM:Int) (aN aO:Int) (aP:ByteArray) (aQ:Sl) (bJ bK:Int) (bL bM:Int) (bN:ByteArray) (bO:Sl) (w0:World) (K:Int→Int→Int→Int→ByteArray→Sl→WP):Prop :=∀H3 w3,Hst w0 None w0 H3 w3→∀p4 w4,New w3 (.cells #[(vi aL),(vi aM),(vi aN),(vu aO),(vs aP),aQ.v,(vi bJ),(vi bK),(vi bL),(vu bM),(vs bN),bO.v] 107) p4 w4→∀w5,Hst w0 H3 w4 H3 w5→K 4 0 0 0 ⟨#[]⟩ (Sl.mk (some p4) 2 2) w5
theorem w_W3 (aL aM aN aO aP aQ bJ bK bL bM bN bO w0 K) (h:m_W3 aL aM aN aO aP aQ bJ bK bL bM bN bO w0 K):
  Calls Tryz.prog 197 #[(.agg #[(vi aL),(vi aM),(vi aN),(vu aO),(vs aP),aQ.v]),(.agg #[(vi bJ),(vi bK),(vi bL),(vu bM),(vs bN),bO.v])] w0 (fun e w'=>∃aF aG aH aI aJ aK,e=.returned (Aa aF aG aH aI aJ aK)∧K aF aG aH aI aJ aK w'):=by
 refine cw (args:=[(Aa aL aM aN aO aP aQ),(Aa bJ bK bL bM bN bO)]) Tryz.func197 Tryz.ntmps197 ?_
 obtain ⟨hs,hb⟩:=st0 w0
 refine eg (nw3 (Ab aL aM aN aO aP aQ) 107 hs hb xb fun p1 w1 H1 hs hb=>nw3 (Ab bJ bK bL bM bN bO) 107 hs hb xb fun p2 w2 H2 hs hb=>nw3 [(vi 0),(vi 0),(vi 0),(vu 0),(vs ⟨#[]⟩),Sl.nil.v] 107 hs hb (zM (Tryz.zeroValue107 _) rfl) fun p3 w3 H3 hs hb=>ln (eg (q2 (Aa aL aM aN aO aP aQ) (xa p1 (Ab aL aM aN aO aP aQ) (Tryz.isAgg107 _) (Tryz.sizeOf107 _) (hb.r0 2 6 (gS (gS gZ)))) (q2 (Aa bJ bK bL bM bN bO) (xa p2 (Ab bJ bK bL bM bN bO) (Tryz.isAgg107 _) (Tryz.sizeOf107 _) (hb.r0 1 6 (gS gZ))) ?_))))
 have ⟨h,hs⟩:=hs.hr (h H3 w3)
 refine nw5 (fun p=>(Sl.mk (some p) 2 2).v) hs hb h fun p4 w4 hs hb h=>q (zK (zD rfl) (xo p3 [(vi 4),(vi 0),(vi 0),(vu 0),(vs ⟨#[]⟩),(Sl.mk (some p4) 2 2).v] (Tryz.sizeOf107 _) (hb.k0 0 6 gZ)) ?_)
 intro w5 hn4
 obtain ⟨hs,hb⟩:=hb.st1 0 hs hn4 gZ
 refine ln (er ?_)
 have ⟨h,hs⟩:=hs.hr (h w5)
 refine tI (.inl rfl) (vs:=[(.agg #[(vi 4),(vi 0),(vi 0),(vu 0),(vs ⟨#[]⟩),(Sl.mk (some p4) 2 2).v])]) (v:=(.agg #[(vi 4),(vi 0),(vi 0),(vu 0),(vs ⟨#[]⟩),(Sl.mk (some p4) 2 2).v])) Tryz.results197 ⟨(rva (Tryz.isAgg107 _) (Tryz.sizeOf107 _) (hb.r0 0 6 gZ)),trivial⟩ (by kernel_rfl) ⟨4,0,0,0,⟨#[]⟩,(Sl.mk (some p4) 2 2),rfl,h⟩
def m_X3 (c1:Int) (text1:ByteArray) (w0:World) (K:Int→Int→Int→Int→ByteArray→Sl→WP):Prop :=∀H1 w4,Hst w0 None w0 H1 w4→Calls Tryz.prog 197 #[(.agg #[(vi 2),(vi 0),(vi 0),(vu c1),(vs ⟨#[]⟩),Sl.nil.v]),(.agg #[(vi 3),(vi 0),(vi 0),(vu 0),(vs text1),Sl.nil.v])] w4 (fun e w5=>∃aF aG aH aI aJ aK,e=.returned (Aa aF aG aH aI aJ aK)∧Kept H1 w4 w5∧Calls Tryz.prog 197 #[(.agg #[(vi 3),(vi 0),(vi 0),(vu 0),(vs (⟨#[100,101,97,108]⟩:ByteArray)),Sl.nil.v]),(.agg #[(vi aF),(vi aG),(vi aH),(vu aI),(vs aJ),aK.v])] w5 (fun e w6=>∃aR aS aT aU aV aW,e=.returned (Aa aR aS aT aU aV aW)∧Kept H1 w5 w6∧∀w7,Hst w0 H1 w6 H1 w7→K aR aS aT aU aV aW w7))
theorem w_X3 (c1 text1 w0 K) (h:m_X3 c1 text1 w0 K):
  Calls Tryz.prog 194 #[(vu c1),(vs text1)] w0 (fun e w'=>∃aX aY aZ bA bB bC,e=.returned (Aa aX aY aZ bA bB bC)∧K aX aY aZ bA bB bC w'):=by
 refine cw (args:=[(vu c1),(vs text1)]) Tryz.func194 Tryz.ntmps194 ?_
 obtain ⟨hs,hb⟩:=st0 w0
 refine eg (nw3 [(vi 0),(vi 0),(vi 0),(vu 0),(vs ⟨#[]⟩),Sl.nil.v] 107 hs hb (zM (Tryz.zeroValue107 _) rfl) fun p1 w1 H1 hs hb=>ln (eg (sc Tryz.call198 ((p_S (⟨#[100,101,97,108]⟩:ByteArray) w1).mono ?_))))
 rintro e w2 ⟨he,hE⟩
 refine ⟨_,he,?_⟩
 obtain ⟨hs,hb⟩:=hs.pp hb hE
 refine q (sc Tryz.call199 ((p_Y c1 w2).mono ?_))
 rintro e w3 ⟨he,hE⟩
 refine ⟨_,he,?_⟩
 obtain ⟨hs,hb⟩:=hs.pp hb hE
 refine q (sc Tryz.call198 ((p_S text1 w3).mono ?_))
 rintro e w4 ⟨he,hE⟩
 refine ⟨_,he,?_⟩
 obtain ⟨hs,hb⟩:=hs.pp hb hE
 have ⟨h,hs⟩:=hs.hr (h H1 w4)
 refine sc Tryz.call197 (h.mono fun e w5 ⟨aF,aG,aH,aI,aJ,aK,k,hk,h⟩=>have ⟨hs,hb⟩:=hk.hh hs hb;⟨_,k,?_⟩)
 refine sc Tryz.call197 (h.mono fun e w6 ⟨aR,aS,aT,aU,aV,aW,k,hk,h⟩=>have ⟨hs,hb⟩:=hk.hh hs hb;⟨_,k,?_⟩)
 refine zK (zD rfl) (xo p1 (Ab aR aS aT aU aV aW) (Tryz.sizeOf107 _) (hb.k0 0 6 gZ)) ?_
 intro w7 hn2
 obtain ⟨hs,hb⟩:=hb.st1 0 hs hn2 gZ
 refine ln (er ?_)
 have ⟨h,hs⟩:=hs.hr (h w7)
 refine tI (.inl rfl) (vs:=[(Aa aR aS aT aU aV aW)]) (v:=(Aa aR aS aT aU aV aW)) Tryz.results194 ⟨(rva (Tryz.isAgg107 _) (Tryz.sizeOf107 _) (hb.r0 0 6 gZ)),trivial⟩ (by kernel_rfl) ⟨aR,aS,aT,aU,aV,aW,rfl,h⟩
def m_Y3 (from1:Int) (fake1:Bool) (bD bE:Int) (bF bG:Int) (bH:ByteArray) (bI:Sl) (w0:World) (K:Int→Int→Int→Int→ByteArray→Sl→WP):Prop :=∀H3 w3,Hst w0 None w0 H3 w3→∀p3 w4,New w3 (.cells #[(vi bD),(vi bE),(vi bF),(vu bG),(vs bH),bI.v] 107) p3 w4→∀w5,Hst w0 H3 w4 H3 w5→K (cond fake1 9 8) from1 (q6.wrap (1 - from1)) 0 ⟨#[]⟩ (Sl.mk (some p3) 1 1) w5
theorem w_Y3 (from1 fake1 bD bE bF bG bH bI w0 K) (h:m_Y3 from1 fake1 bD bE bF bG bH bI w0 K):
  Calls Tryz.prog 195 #[(vi from1),(vb fake1),(.agg #[(vi bD),(vi bE),(vi bF),(vu bG),(vs bH),bI.v])] w0 (fun e w'=>∃aF aG aH aI aJ aK,e=.returned (Aa aF aG aH aI aJ aK)∧K aF aG aH aI aJ aK w'):=by
 refine cw (args:=[(vi from1),(vb fake1),(Aa bD bE bF bG bH bI)]) Tryz.func195 Tryz.ntmps195 ?_
 obtain ⟨hs,hb⟩:=st0 w0
 refine eg (nw3 (Ab bD bE bF bG bH bI) 107 hs hb xb fun p1 w1 H1 hs hb=>nw3 [(vi 0),(vi 0),(vi 0),(vu 0),(vs ⟨#[]⟩),Sl.nil.v] 107 hs hb (zM (Tryz.zeroValue107 _) rfl) fun p2 w2 H2 hs hb=>ln (eg (q (ln (zA (eg (q (zC (zO (vQ (fun ρ wJ=>∃b1'0:Bool,∃HJ:NP,(fake1=b1'0)∧Hst w0 None w0 HJ wJ∧HB HJ wJ [(p2,[(vi 0),(vi 0),(vi 0),(vu 0),(vs ⟨#[]⟩),Sl.nil.v],107),(p1,(Ab bD bE bF bG bH bI),107)]∧Has ρ [(0,(vi from1)),(5,(vp (some p1))),(6,(vp (some p2))),(7,(vi (cond b1'0 9 8)))]) ?_ ?_))))))))))
 refine vO (t:=fake1) (by kernel_rfl) (fun hc2=>?_) (fun hc2=>?_)
 refine rg (q (ln ⟨true,_,hc2,hs,hb,hm⟩))
 refine zB (zO ⟨false,_,hc2,hs,hb,hm⟩)
 rintro ρ w3 ⟨b1'0,H3,he0,hs,hb,hH⟩
 subst he0
 refine vI hH (zO (eg (qd (q2 (Aa bD bE bF bG bH bI) (xa p1 (Ab bD bE bF bG bH bI) (Tryz.isAgg107 _) (Tryz.sizeOf107 _) (hb.r0 1 6 (gS gZ))) ?_))))
 have ⟨h,hs⟩:=hs.hr (h H3 w3)
 refine nw5 (fun p=>(Sl.mk (some p) 1 1).v) hs hb h fun p3 w4 hs hb h=>q (zK (zD rfl) (xo p2 [(vi (cond fake1 9 8)),(vi from1),(vi (q6.wrap (1 - from1))),(vu 0),(vs ⟨#[]⟩),(Sl.mk (some p3) 1 1).v] (Tryz.sizeOf107 _) (hb.k0 0 6 gZ)) ?_)
 intro w5 hn3
 obtain ⟨hs,hb⟩:=hb.st1 0 hs hn3 gZ
 refine ln (er ?_)
 have ⟨h,hs⟩:=hs.hr (h w5)
 refine tI (.inl rfl) (vs:=[(.agg #[(vi (cond fake1 9 8)),(vi from1),(vi (q6.wrap (1 - from1))),(vu 0),(vs ⟨#[]⟩),(Sl.mk (some p3) 1 1).v])]) (v:=(.agg #[(vi (cond fake1 9 8)),(vi from1),(vi (q6.wrap (1 - from1))),(vu 0),(vs ⟨#[]⟩),(Sl.mk (some p3) 1 1).v])) Tryz.results195 ⟨(rva (Tryz.isAgg107 _) (Tryz.sizeOf107 _) (hb.r0 0 6 gZ)),trivial⟩ (by kernel_rfl) ⟨(cond fake1 9 8),from1,(q6.wrap (1 - from1)),0,⟨#[]⟩,(Sl.mk (some p3) 1 1),rfl,h⟩
def m_Z3 (who1 aL:Int) (aM aN aO:Int) (aP:ByteArray) (aQ:Sl) (w0:World) (K:Int→Int→Int→Int→ByteArray→Sl→WP):Prop :=∀H2 w2,Hst w0 None w0 H2 w2→∀p3 w3,New w2 (.cells #[(vi aL),(vi aM),(vi aN),(vu aO),(vs aP),aQ.v] 107) p3 w3→∀w4,Hst w0 H2 w3 H2 w4→K 7 who1 0 0 ⟨#[]⟩ (Sl.mk (some p3) 1 1) w4
theorem w_Z3 (who1 aL aM aN aO aP aQ w0 K) (h:m_Z3 who1 aL aM aN aO aP aQ w0 K):
  Calls Tryz.prog 196 #[(vi who1),(.agg #[(vi aL),(vi aM),(vi aN),(vu aO),(vs aP),aQ.v])] w0 (fun e w'=>∃aF aG aH aI aJ aK,e=.returned (Aa aF aG aH aI aJ aK)∧K aF aG aH aI aJ aK w'):=by
 refine cw (args:=[(vi who1),(Aa aL aM aN aO aP aQ)]) Tryz.func196 Tryz.ntmps196 ?_
 obtain ⟨hs,hb⟩:=st0 w0
 refine eg (nw3 (Ab aL aM aN aO aP aQ) 107 hs hb xb fun p1 w1 H1 hs hb=>nw3 [(vi 0),(vi 0),(vi 0),(vu 0),(vs ⟨#[]⟩),Sl.nil.v] 107 hs hb (zM (Tryz.zeroValue107 _) rfl) fun p2 w2 H2 hs hb=>ln (eg (q (q2 (Aa aL aM aN aO aP aQ) (xa p1 (Ab aL aM aN aO aP aQ) (Tryz.isAgg107 _) (Tryz.sizeOf107 _) (hb.r0 1 6 (gS gZ))) ?_))))
 have ⟨h,hs⟩:=hs.hr (h H2 w2)
 refine nw5 (fun p=>(Sl.mk (some p) 1 1).v) hs hb h fun p3 w3 hs hb h=>q (zK (zD rfl) (xo p2 [(vi 7),(vi who1),(vi 0),(vu 0),(vs ⟨#[]⟩),(Sl.mk (some p3) 1 1).v] (Tryz.sizeOf107 _) (hb.k0 0 6 gZ)) ?_)
 intro w4 hn3
 obtain ⟨hs,hb⟩:=hb.st1 0 hs hn3 gZ
 refine ln (er ?_)
 have ⟨h,hs⟩:=hs.hr (h w4)
 refine tI (.inl rfl) (vs:=[(.agg #[(vi 7),(vi who1),(vi 0),(vu 0),(vs ⟨#[]⟩),(Sl.mk (some p3) 1 1).v])]) (v:=(.agg #[(vi 7),(vi who1),(vi 0),(vu 0),(vs ⟨#[]⟩),(Sl.mk (some p3) 1 1).v])) Tryz.results196 ⟨(rva (Tryz.isAgg107 _) (Tryz.sizeOf107 _) (hb.r0 0 6 gZ)),trivial⟩ (by kernel_rfl) ⟨7,who1,0,0,⟨#[]⟩,(Sl.mk (some p3) 1 1),rfl,h⟩
def m_A4 (aA aB aE:Int) (aC:ByteArray) (aD:Bool) (w0:World) (K:Int→Int→Int→Int→ByteArray→Sl→WP):Prop :=∀H2 w2,Hst w0 None w0 H2 w2→Calls Tryz.prog 194 #[(vu aE),(vs aC)] w2 (fun e w3=>∃aF aG aH aI aJ aK,e=.returned (Aa aF aG aH aI aJ aK)∧Kept H2 w2 w3∧Br (aA == 1) (∀H3 w5,Hst w0 H2 w3 H3 w5→Calls Tryz.prog 195 #[(vi aB),(vb aD),(.agg #[(vi aF),(vi aG),(vi aH),(vu aI),(vs aJ),aK.v])] w5 (fun e w6=>∃aR aS aT aU aV aW,e=.returned (Aa aR aS aT aU aV aW)∧Kept H3 w5 w6∧∀w7,Hst w0 H3 w6 H3 w7→K aR aS aT aU aV aW w7)) (Br (aA == 2) (∀H3 w5,Hst w0 H2 w3 H3 w5→Calls Tryz.prog 196 #[(vi aB),(.agg #[(vi aF),(vi aG),(vi aH),(vu aI),(vs aJ),aK.v])] w5 (fun e w8=>∃aX aY aZ bA bB bC,e=.returned (Aa aX aY aZ bA bB bC)∧Kept H3 w5 w8∧∀w9,Hst w0 H3 w8 H3 w9→K aX aY aZ bA bB bC w9)) (Br (aA == 3) (∀H3 w5,Hst w0 H2 w3 H3 w5→∃C1:WP,C1 w5.drew∧∀w10,w10=w5.drew→Calls Tryz.prog 198 #[(vs (⟨#[97,98,111,114,116]⟩:ByteArray))] w10 (fun e w11=>∃cU cV cW cX cY cZ,e=.returned (Aa cU cV cW cX cY cZ)∧C1 w11∧Kept H3 w10 w11∧Calls Tryz.prog 199 #[(vu aE)] w11 (fun e w12=>∃dA dB dC dD dE dF,e=.returned (Aa dA dB dC dD dE dF)∧Kept H3 w11 w12∧Calls Tryz.prog 197 #[(.agg #[(vi cU),(vi cV),(vi cW),(vu cX),(vs cY),cZ.v]),(.agg #[(vi dA),(vi dB),(vi dC),(vu dD),(vs dE),dF.v])] w12 (fun e w13=>∃dG dH dI dJ dK dL,e=.returned (Aa dG dH dI dJ dK dL)∧Kept H3 w12 w13∧Calls Tryz.prog 196 #[(vi 0),(.agg #[(vi dG),(vi dH),(vi dI),(vu dJ),(vs dK),dL.v])] w13 (fun e w14=>∃bP bQ bR bS bT bU,e=.returned (Aa bP bQ bR bS bT bU)∧Kept H3 w13 w14∧∀w15,Hst w0 H3 w14 H3 w15→K bP bQ bR bS bT bU w15))))) (Br (aA == 4) (∀H3 w5,Hst w0 H2 w3 H3 w5→∃C2:WP,C2 w5.drew∧∀w16,w16=w5.drew→Calls Tryz.prog 198 #[(vs (⟨#[114,101,115,111,108,118,101]⟩:ByteArray))] w16 (fun e w17=>∃dM dN dO dP dQ dR,e=.returned (Aa dM dN dO dP dQ dR)∧C2 w17∧Kept H3 w16 w17∧Calls Tryz.prog 195 #[(vi 0),(vb aD),(.agg #[(vi aF),(vi aG),(vi aH),(vu aI),(vs aJ),aK.v])] w17 (fun e w18=>∃dS dT dU dV dW dX,e=.returned (Aa dS dT dU dV dW dX)∧C2 w18∧Kept H3 w17 w18∧Calls Tryz.prog 195 #[(vi 1),(vb aD),(.agg #[(vi aF),(vi aG),(vi aH),(vu aI),(vs aJ),aK.v])] w18 (fun e w19=>∃dY dZ eA eB eC eD,e=.returned (Aa dY dZ eA eB eC eD)∧C2 w19∧Kept H3 w18 w19∧Calls Tryz.prog 197 #[(.agg #[(vi dS),(vi dT),(vi dU),(vu dV),(vs dW),dX.v]),(.agg #[(vi dY),(vi dZ),(vi eA),(vu eB),(vs eC),eD.v])] w19 (fun e w20=>∃eE eF eG eH eI eJ,e=.returned (Aa eE eF eG eH eI eJ)∧C2 w20∧Kept H3 w19 w20∧Calls Tryz.prog 197 #[(.agg #[(vi dM),(vi dN),(vi dO),(vu dP),(vs dQ),dR.v]),(.agg #[(vi eE),(vi eF),(vi eG),(vu eH),(vs eI),eJ.v])] w20 (fun e w21=>∃eK eL eM eN eO eP,e=.returned (Aa eK eL eM eN eO eP)∧C2 w21∧Kept H3 w20 w21∧Calls Tryz.prog 196 #[(vi aB),(.agg #[(vi eK),(vi eL),(vi eM),(vu eN),(vs eO),eP.v])] w21 (fun e w22=>∃bV bW bX bY bZ cA,e=.returned (Aa bV bW bX bY bZ cA)∧Kept H3 w21 w22∧∀w23,Hst w0 H3 w22 H3 w23→K bV bW bX bY bZ cA w23))))))) (Br (aA == 5) (∀H3 w5,Hst w0 H2 w3 H3 w5→∃C3:WP,C3 w5.drew∧∀w24,w24=w5.drew→Calls Tryz.prog 198 #[(vs (⟨#[97,98,111,114,116,101,100]⟩:ByteArray))] w24 (fun e w25=>∃eQ eR eS eT eU eV,e=.returned (Aa eQ eR eS eT eU eV)∧C3 w25∧Kept H3 w24 w25∧Calls Tryz.prog 199 #[(vu aE)] w25 (fun e w26=>∃eW eX eY eZ fA fB,e=.returned (Aa eW eX eY eZ fA fB)∧Kept H3 w25 w26∧Calls Tryz.prog 197 #[(.agg #[(vi eQ),(vi eR),(vi eS),(vu eT),(vs eU),eV.v]),(.agg #[(vi eW),(vi eX),(vi eY),(vu eZ),(vs fA),fB.v])] w26 (fun e w27=>∃fC fD fE fF fG fH,e=.returned (Aa fC fD fE fF fG fH)∧Kept H3 w26 w27∧Calls Tryz.prog 196 #[(vi 2),(.agg #[(vi fC),(vi fD),(vi fE),(vu fF),(vs fG),fH.v])] w27 (fun e w28=>∃cB cC cD cE cF cG,e=.returned (Aa cB cC cD cE cF cG)∧Kept H3 w27 w28∧∀w29,Hst w0 H3 w28 H3 w29→K cB cC cD cE cF cG w29))))) (Br (aA == 6) (∀H3 w5,Hst w0 H2 w3 H3 w5→∃C4:WP,C4 w5.drew∧∀w30,w30=w5.drew→Calls Tryz.prog 198 #[(vs (⟨#[105,110,115,116,101,97,100]⟩:ByteArray))] w30 (fun e w31=>∃fI fJ fK fL fM fN,e=.returned (Aa fI fJ fK fL fM fN)∧C4 w31∧Kept H3 w30 w31∧Calls Tryz.prog 197 #[(.agg #[(vi fI),(vi fJ),(vi fK),(vu fL),(vs fM),fN.v]),(.agg #[(vi aF),(vi aG),(vi aH),(vu aI),(vs aJ),aK.v])] w31 (fun e w32=>∃fO fP fQ fR fS fT,e=.returned (Aa fO fP fQ fR fS fT)∧Kept H3 w31 w32∧Calls Tryz.prog 196 #[(vi 2),(.agg #[(vi fO),(vi fP),(vi fQ),(vu fR),(vs fS),fT.v])] w32 (fun e w33=>∃cH cI cJ cK cL cM,e=.returned (Aa cH cI cJ cK cL cM)∧Kept H3 w32 w33∧∀w34,Hst w0 H3 w33 H3 w34→K cH cI cJ cK cL cM w34)))) (∀H3 w5,Hst w0 H2 w3 H3 w5→∃C5:WP,C5 w5.drew∧∀w35,w35=w5.drew→Calls Tryz.prog 198 #[(vs (⟨#[102,117,108,108]⟩:ByteArray))] w35 (fun e w36=>∃fU fV fW fX fY fZ,e=.returned (Aa fU fV fW fX fY fZ)∧C5 w36∧Kept H3 w35 w36∧Calls Tryz.prog 199 #[(vu aE)] w36 (fun e w37=>∃gA gB gC gD gE gF,e=.returned (Aa gA gB gC gD gE gF)∧Kept H3 w36 w37∧Calls Tryz.prog 197 #[(.agg #[(vi fU),(vi fV),(vi fW),(vu fX),(vs fY),fZ.v]),(.agg #[(vi gA),(vi gB),(vi gC),(vu gD),(vs gE),gF.v])] w37 (fun e w38=>∃cN cO cP cQ cR cS,e=.returned (Aa cN cO cP cQ cR cS)∧Kept H3 w37 w38∧∀w39,Hst w0 H3 w38 H3 w39→K cN cO cP cQ cR cS w39))))))))))
theorem w_A4 (aA aB aE aC aD w0 K) (h:m_A4 aA aB aE aC aD w0 K):
  Calls Tryz.prog 143 #[(.agg #[(vi aA),(vi aB),(vu aE),(vs aC),(vb aD)])] w0 (fun e w'=>∃gG gH gI gJ gK gL,e=.returned (Aa gG gH gI gJ gK gL)∧K gG gH gI gJ gK gL w'):=by
 refine cw (args:=[(Af aA aB aE aC aD)]) Tryz.func143 Tryz.ntmps143 ?_
 obtain ⟨hs,hb⟩:=st0 w0
 refine eg (nw3 (Ac aA aB aE aC aD) 35 hs hb xb fun p1 w1 H1 hs hb=>nw3 [(vi 0),(vi 0),(vi 0),(vu 0),(vs ⟨#[]⟩),Sl.nil.v] 107 hs hb (zM (Tryz.zeroValue107 _) rfl) fun p2 w2 H2 hs hb=>ln (eg (q (q3 (xl (Tryz.isAgg23 _) (hb.d 1 2 (gS gZ))) (q (q3 (xl (Tryz.isAgg9 _) (hb.d 1 3 (gS gZ))) ?_))))))
 have ⟨h,hs⟩:=hs.hr (h H2 w2)
 refine sc Tryz.call194 (h.mono fun e w3 ⟨aF,aG,aH,aI,aJ,aK,k,hk,h⟩=>have ⟨hs,hb⟩:=hk.hh hs hb;⟨_,k,?_⟩)
 refine nw3 [(vi 0),(vi 0),(vi 0),(vu 0),(vs ⟨#[]⟩),Sl.nil.v] 107 hs hb (zM (Tryz.zeroValue107 _) rfl) fun p3 w4 H3 hs hb=>zK (zD rfl) (xo p3 (Ab aF aG aH aI aJ aK) (Tryz.sizeOf107 _) (hb.k0 0 6 gZ)) ?_
 intro w5 hn4
 obtain ⟨hs,hb⟩:=hb.st1 0 hs hn4 gZ
 refine ln (zA (eg (q (q3 (xl (Tryz.isAgg3 _) (hb.d0 2 (gS (gS gZ)))) (ln (zJ (eg (qb (ln (cbr h ?_ ?_))))))))))<;>intro h
 refine eg (q (q3 (xl (Tryz.isAgg3 _) (hb.d 2 1 (gS (gS gZ)))) (q (q3 (xl (Tryz.isAgg4 _) (hb.d 2 4 (gS (gS gZ)))) (q2 (Aa aF aG aH aI aJ aK) (xa p3 (Ab aF aG aH aI aJ aK) (Tryz.isAgg107 _) (Tryz.sizeOf107 _) (hb.r0 0 6 gZ)) ?_)))))
 have ⟨h,hs⟩:=hs.hr (h H3 w5)
 refine sc Tryz.call195 (h.mono fun e w6 ⟨aR,aS,aT,aU,aV,aW,k,hk,h⟩=>have ⟨hs,hb⟩:=hk.hh hs hb;⟨_,k,?_⟩)
 refine zK (zD rfl) (xo p2 (Ab aR aS aT aU aV aW) (Tryz.sizeOf107 _) (hb.k0 1 6 (gS gZ))) ?_
 intro w7 hn5
 obtain ⟨hs,hb⟩:=hb.st1 1 hs hn5 (gS gZ)
 refine ln (er (qN (zY ?_)))
 have ⟨h,hs⟩:=hs.hr (h w7)
 refine tI (.inl rfl) (vs:=[(Aa aR aS aT aU aV aW)]) (v:=(Aa aR aS aT aU aV aW)) Tryz.results143 ⟨(rva (Tryz.isAgg107 _) (Tryz.sizeOf107 _) (hb.r0 1 6 (gS gZ))),trivial⟩ (by kernel_rfl) ⟨aR,aS,aT,aU,aV,aW,rfl,h⟩
 refine eg (qb (ln (cbr h ?_ ?_)))<;>intro h
 refine eg (q (q3 (xl (Tryz.isAgg3 _) (hb.d 2 1 (gS (gS gZ)))) (q2 (Aa aF aG aH aI aJ aK) (xa p3 (Ab aF aG aH aI aJ aK) (Tryz.isAgg107 _) (Tryz.sizeOf107 _) (hb.r0 0 6 gZ)) ?_)))
 have ⟨h,hs⟩:=hs.hr (h H3 w5)
 refine sc Tryz.call196 (h.mono fun e w8 ⟨aX,aY,aZ,bA,bB,bC,k,hk,h⟩=>have ⟨hs,hb⟩:=hk.hh hs hb;⟨_,k,?_⟩)
 refine zK (zD rfl) (xo p2 (Ab aX aY aZ bA bB bC) (Tryz.sizeOf107 _) (hb.k0 1 6 (gS gZ))) ?_
 intro w9 hn6
 obtain ⟨hs,hb⟩:=hb.st1 1 hs hn6 (gS gZ)
 refine ln (er (qN (zY ?_)))
 have ⟨h,hs⟩:=hs.hr (h w9)
 refine tI (.inl rfl) (vs:=[(Aa aX aY aZ bA bB bC)]) (v:=(Aa aX aY aZ bA bB bC)) Tryz.results143 ⟨(rva (Tryz.isAgg107 _) (Tryz.sizeOf107 _) (hb.r0 1 6 (gS gZ))),trivial⟩ (by kernel_rfl) ⟨aX,aY,aZ,bA,bB,bC,rfl,h⟩
 refine eg (qb (ln (cbr h ?_ ?_)))<;>intro h
 refine zA ?_
 have ⟨h,hs⟩:=hs.hr (h H3 w5)
 obtain ⟨C1,hC,h⟩:=h
 refine dr2 (fun x=>C1 x∧HB H3 x _) [0,3,4,5,6] [3,4,5,6] ⟨hC,hb.drew⟩ h hs hb fun w10 hs hb h=>?_
 have hs:=hs.here
 refine qx 1 (vp (some (p1.add 2))) Kp1 (qz 2 (vu aE) Kp2 (fun w' hw'=>(xl (Tryz.isAgg23 _) (hw'.2.cell 2 2 (gS (gS gZ)) (by kernel_rfl)))) (lg 0 (zL Kp0 (zD rfl) (by kernel_rfl) (xc Tryz.call198) (h.mono ?_))))
 rintro e w11 ⟨cU,cV,cW,cX,cY,cZ,rfl,hC,hk,h⟩
 refine ⟨_,rfl,.inr ⟨hC,hb.kept hk⟩,?_⟩
 obtain ⟨hs,hb⟩:=hk.hh hs hb
 refine lg 3 (zL Kp3 (zD rfl) (by kernel_rfl) (xc Tryz.call199) (h.mono ?_))
 rintro e w12 ⟨dA,dB,dC,dD,dE,dF,rfl,hk,h⟩
 refine ⟨_,rfl,.inl (by kernel_rfl),?_⟩
 obtain ⟨hs,hb⟩:=hk.hh hs hb
 refine lg 4 (zL Kp4 (zD rfl) (by kernel_rfl) (xc Tryz.call197) (h.mono ?_))
 rintro e w13 ⟨dG,dH,dI,dJ,dK,dL,rfl,hk,h⟩
 refine ⟨_,rfl,.inl (by kernel_rfl),?_⟩
 obtain ⟨hs,hb⟩:=hk.hh hs hb
 refine lg 5 (zL Kp5 (zD rfl) (by kernel_rfl) (xc Tryz.call196) (h.mono ?_))
 rintro e w14 ⟨bP,bQ,bR,bS,bT,bU,rfl,hk,h⟩
 refine ⟨_,rfl,.inl (by kernel_rfl),?_⟩
 obtain ⟨hs,hb⟩:=hk.hh hs hb
 refine lg 6 (xB Kp6 (zD rfl) (by kernel_rfl) (xo p2 (Ab bP bQ bR bS bT bU) (Tryz.sizeOf107 _) (hb.k0 1 6 (gS gZ))) ?_)
 intro w15 hn7
 obtain ⟨hs,hb⟩:=hb.st1 1 hs hn7 (gS gZ)
 refine ⟨.inl (by kernel_rfl),?_⟩
 refine wn (zO (er (qN (zY ?_))))
 have ⟨h,hs⟩:=hs.hr (h w15)
 refine tI (.inl rfl) (vs:=[(Aa bP bQ bR bS bT bU)]) (v:=(Aa bP bQ bR bS bT bU)) Tryz.results143 ⟨(rva (Tryz.isAgg107 _) (Tryz.sizeOf107 _) (hb.r0 1 6 (gS gZ))),trivial⟩ (by kernel_rfl) ⟨bP,bQ,bR,bS,bT,bU,rfl,h⟩
 refine eg (qb (ln (cbr h ?_ ?_)))<;>intro h
 refine zA ?_
 have ⟨h,hs⟩:=hs.hr (h H3 w5)
 obtain ⟨C2,hC,h⟩:=h
 refine dr2 (fun x=>C2 x∧HB H3 x _) [2,6,10,11,12,13,14] [13,14] ⟨hC,hb.drew⟩ h hs hb fun w16 hs hb h=>?_
 have hs:=hs.here
 refine qx 0 (vp (some (p1.add 1))) Kp0 (qz 1 (vi aB) Kp1 (fun w' hw'=>(xl (Tryz.isAgg3 _) (hw'.2.cell 2 1 (gS (gS gZ)) (by kernel_rfl)))) (qx 3 (vp (some (p1.add 4))) Kp3 (qz 4 (vb aD) Kp4 (fun w' hw'=>(xl (Tryz.isAgg4 _) (hw'.2.cell 2 4 (gS (gS gZ)) (by kernel_rfl)))) (qz 5 (Aa aF aG aH aI aJ aK) Kp5 (fun w' hw'=>(xa p3 (Ab aF aG aH aI aJ aK) (Tryz.isAgg107 _) (Tryz.sizeOf107 _) (hw'.2.r0 0 6 gZ))) (qx 7 (vp (some (p1.add 4))) Kp7 (qz 8 (vb aD) Kp8 (fun w' hw'=>(xl (Tryz.isAgg4 _) (hw'.2.cell 2 4 (gS (gS gZ)) (by kernel_rfl)))) (qz 9 (Aa aF aG aH aI aJ aK) Kp9 (fun w' hw'=>(xa p3 (Ab aF aG aH aI aJ aK) (Tryz.isAgg107 _) (Tryz.sizeOf107 _) (hw'.2.r0 0 6 gZ))) (lg 2 (zL Kp2 (zD rfl) (by kernel_rfl) (xc Tryz.call198) (h.mono ?_))))))))))
 rintro e w17 ⟨dM,dN,dO,dP,dQ,dR,rfl,hC,hk,h⟩
 refine ⟨_,rfl,.inr ⟨hC,hb.kept hk⟩,?_⟩
 obtain ⟨hs,hb⟩:=hk.hh hs hb
 refine lg 6 (zL Kp6 (zD rfl) (by kernel_rfl) (xc Tryz.call195) (h.mono ?_))
 rintro e w18 ⟨dS,dT,dU,dV,dW,dX,rfl,hC,hk,h⟩
 refine ⟨_,rfl,.inr ⟨hC,hb.kept hk⟩,?_⟩
 obtain ⟨hs,hb⟩:=hk.hh hs hb
 refine lg 10 (zL (zS (S8 (zI (zI zR)))) (zD rfl) (by kernel_rfl) (xc Tryz.call195) (h.mono ?_))
 rintro e w19 ⟨dY,dZ,eA,eB,eC,eD,rfl,hC,hk,h⟩
 refine ⟨_,rfl,.inr ⟨hC,hb.kept hk⟩,?_⟩
 obtain ⟨hs,hb⟩:=hk.hh hs hb
 refine lg 11 (zL (zS (S8 (zI (zI (zI zR))))) (zD rfl) (by kernel_rfl) (xc Tryz.call197) (h.mono ?_))
 rintro e w20 ⟨eE,eF,eG,eH,eI,eJ,rfl,hC,hk,h⟩
 refine ⟨_,rfl,.inr ⟨hC,hb.kept hk⟩,?_⟩
 obtain ⟨hs,hb⟩:=hk.hh hs hb
 refine lg 12 (zL (zS (S8 (S4 zR))) (zD rfl) (by kernel_rfl) (xc Tryz.call197) (h.mono ?_))
 rintro e w21 ⟨eK,eL,eM,eN,eO,eP,rfl,hC,hk,h⟩
 refine ⟨_,rfl,.inr ⟨hC,hb.kept hk⟩,?_⟩
 obtain ⟨hs,hb⟩:=hk.hh hs hb
 refine lg 13 (zL (zS (S8 (S4 (zI zR)))) (zD rfl) (by kernel_rfl) (xc Tryz.call196) (h.mono ?_))
 rintro e w22 ⟨bV,bW,bX,bY,bZ,cA,rfl,hk,h⟩
 refine ⟨_,rfl,.inl (by kernel_rfl),?_⟩
 obtain ⟨hs,hb⟩:=hk.hh hs hb
 refine lg 14 (xB (zS (S8 (S4 (zI (zI zR))))) (zD rfl) (by kernel_rfl) (xo p2 (Ab bV bW bX bY bZ cA) (Tryz.sizeOf107 _) (hb.k0 1 6 (gS gZ))) ?_)
 intro w23 hn8
 obtain ⟨hs,hb⟩:=hb.st1 1 hs hn8 (gS gZ)
 refine ⟨.inl (by kernel_rfl),?_⟩
 refine wn (zO (er (qN (zY ?_))))
 have ⟨h,hs⟩:=hs.hr (h w23)
 refine tI (.inl rfl) (vs:=[(Aa bV bW bX bY bZ cA)]) (v:=(Aa bV bW bX bY bZ cA)) Tryz.results143 ⟨(rva (Tryz.isAgg107 _) (Tryz.sizeOf107 _) (hb.r0 1 6 (gS gZ))),trivial⟩ (by kernel_rfl) ⟨bV,bW,bX,bY,bZ,cA,rfl,h⟩
 refine eg (qb (ln (cbr h ?_ ?_)))<;>intro h
 refine zA ?_
 have ⟨h,hs⟩:=hs.hr (h H3 w5)
 obtain ⟨C3,hC,h⟩:=h
 refine dr2 (fun x=>C3 x∧HB H3 x _) [0,3,4,5,6] [3,4,5,6] ⟨hC,hb.drew⟩ h hs hb fun w24 hs hb h=>?_
 have hs:=hs.here
 refine qx 1 (vp (some (p1.add 2))) Kp1 (qz 2 (vu aE) Kp2 (fun w' hw'=>(xl (Tryz.isAgg23 _) (hw'.2.cell 2 2 (gS (gS gZ)) (by kernel_rfl)))) (lg 0 (zL Kp0 (zD rfl) (by kernel_rfl) (xc Tryz.call198) (h.mono ?_))))
 rintro e w25 ⟨eQ,eR,eS,eT,eU,eV,rfl,hC,hk,h⟩
 refine ⟨_,rfl,.inr ⟨hC,hb.kept hk⟩,?_⟩
 obtain ⟨hs,hb⟩:=hk.hh hs hb
 refine lg 3 (zL Kp3 (zD rfl) (by kernel_rfl) (xc Tryz.call199) (h.mono ?_))
 rintro e w26 ⟨eW,eX,eY,eZ,fA,fB,rfl,hk,h⟩
 refine ⟨_,rfl,.inl (by kernel_rfl),?_⟩
 obtain ⟨hs,hb⟩:=hk.hh hs hb
 refine lg 4 (zL Kp4 (zD rfl) (by kernel_rfl) (xc Tryz.call197) (h.mono ?_))
 rintro e w27 ⟨fC,fD,fE,fF,fG,fH,rfl,hk,h⟩
 refine ⟨_,rfl,.inl (by kernel_rfl),?_⟩
 obtain ⟨hs,hb⟩:=hk.hh hs hb
 refine lg 5 (zL Kp5 (zD rfl) (by kernel_rfl) (xc Tryz.call196) (h.mono ?_))
 rintro e w28 ⟨cB,cC,cD,cE,cF,cG,rfl,hk,h⟩
 refine ⟨_,rfl,.inl (by kernel_rfl),?_⟩
 obtain ⟨hs,hb⟩:=hk.hh hs hb
 refine lg 6 (xB Kp6 (zD rfl) (by kernel_rfl) (xo p2 (Ab cB cC cD cE cF cG) (Tryz.sizeOf107 _) (hb.k0 1 6 (gS gZ))) ?_)
 intro w29 hn9
 obtain ⟨hs,hb⟩:=hb.st1 1 hs hn9 (gS gZ)
 refine ⟨.inl (by kernel_rfl),?_⟩
 refine wn (zO (er (qN (zY ?_))))
 have ⟨h,hs⟩:=hs.hr (h w29)
 refine tI (.inl rfl) (vs:=[(Aa cB cC cD cE cF cG)]) (v:=(Aa cB cC cD cE cF cG)) Tryz.results143 ⟨(rva (Tryz.isAgg107 _) (Tryz.sizeOf107 _) (hb.r0 1 6 (gS gZ))),trivial⟩ (by kernel_rfl) ⟨cB,cC,cD,cE,cF,cG,rfl,h⟩
 refine eg (qb (ln (cbr h ?_ ?_)))<;>intro h
 refine zA ?_
 have ⟨h,hs⟩:=hs.hr (h H3 w5)
 obtain ⟨C4,hC,h⟩:=h
 refine dr2 (fun x=>C4 x∧HB H3 x _) [0,2,3,4] [2,3,4] ⟨hC,hb.drew⟩ h hs hb fun w30 hs hb h=>?_
 have hs:=hs.here
 refine qz 1 (Aa aF aG aH aI aJ aK) Kp1 (fun w' hw'=>(xa p3 (Ab aF aG aH aI aJ aK) (Tryz.isAgg107 _) (Tryz.sizeOf107 _) (hw'.2.r0 0 6 gZ))) (lg 0 (zL Kp0 (zD rfl) (by kernel_rfl) (xc Tryz.call198) (h.mono ?_)))
 rintro e w31 ⟨fI,fJ,fK,fL,fM,fN,rfl,hC,hk,h⟩
 refine ⟨_,rfl,.inr ⟨hC,hb.kept hk⟩,?_⟩
 obtain ⟨hs,hb⟩:=hk.hh hs hb
 refine lg 2 (zL Kp2 (zD rfl) (by kernel_rfl) (xc Tryz.call197) (h.mono ?_))
 rintro e w32 ⟨fO,fP,fQ,fR,fS,fT,rfl,hk,h⟩
 refine ⟨_,rfl,.inl (by kernel_rfl),?_⟩
 obtain ⟨hs,hb⟩:=hk.hh hs hb
 refine lg 3 (zL Kp3 (zD rfl) (by kernel_rfl) (xc Tryz.call196) (h.mono ?_))
 rintro e w33 ⟨cH,cI,cJ,cK,cL,cM,rfl,hk,h⟩
 refine ⟨_,rfl,.inl (by kernel_rfl),?_⟩
 obtain ⟨hs,hb⟩:=hk.hh hs hb
 refine lg 4 (xB Kp4 (zD rfl) (by kernel_rfl) (xo p2 (Ab cH cI cJ cK cL cM) (Tryz.sizeOf107 _) (hb.k0 1 6 (gS gZ))) ?_)
 intro w34 hn10
 obtain ⟨hs,hb⟩:=hb.st1 1 hs hn10 (gS gZ)
 refine ⟨.inl (by kernel_rfl),?_⟩
 refine wn (zO (er (qN (zY ?_))))
 have ⟨h,hs⟩:=hs.hr (h w34)
 refine tI (.inl rfl) (vs:=[(Aa cH cI cJ cK cL cM)]) (v:=(Aa cH cI cJ cK cL cM)) Tryz.results143 ⟨(rva (Tryz.isAgg107 _) (Tryz.sizeOf107 _) (hb.r0 1 6 (gS gZ))),trivial⟩ (by kernel_rfl) ⟨cH,cI,cJ,cK,cL,cM,rfl,h⟩
 refine zB (yQ (zO (zA ?_)))
 have ⟨h,hs⟩:=hs.hr (h H3 w5)
 obtain ⟨C5,hC,h⟩:=h
 refine dr2 (fun x=>C5 x∧HB H3 x _) [0,3,4,5] [3,4,5] ⟨hC,hb.drew⟩ h hs hb fun w35 hs hb h=>?_
 have hs:=hs.here
 refine qx 1 (vp (some (p1.add 2))) Kp1 (qz 2 (vu aE) Kp2 (fun w' hw'=>(xl (Tryz.isAgg23 _) (hw'.2.cell 2 2 (gS (gS gZ)) (by kernel_rfl)))) (lg 0 (zL Kp0 (zD rfl) (by kernel_rfl) (xc Tryz.call198) (h.mono ?_))))
 rintro e w36 ⟨fU,fV,fW,fX,fY,fZ,rfl,hC,hk,h⟩
 refine ⟨_,rfl,.inr ⟨hC,hb.kept hk⟩,?_⟩
 obtain ⟨hs,hb⟩:=hk.hh hs hb
 refine lg 3 (zL Kp3 (zD rfl) (by kernel_rfl) (xc Tryz.call199) (h.mono ?_))
 rintro e w37 ⟨gA,gB,gC,gD,gE,gF,rfl,hk,h⟩
 refine ⟨_,rfl,.inl (by kernel_rfl),?_⟩
 obtain ⟨hs,hb⟩:=hk.hh hs hb
 refine lg 4 (zL Kp4 (zD rfl) (by kernel_rfl) (xc Tryz.call197) (h.mono ?_))
 rintro e w38 ⟨cN,cO,cP,cQ,cR,cS,rfl,hk,h⟩
 refine ⟨_,rfl,.inl (by kernel_rfl),?_⟩
 obtain ⟨hs,hb⟩:=hk.hh hs hb
 refine lg 5 (xB Kp5 (zD rfl) (by kernel_rfl) (xo p2 (Ab cN cO cP cQ cR cS) (Tryz.sizeOf107 _) (hb.k0 1 6 (gS gZ))) ?_)
 intro w39 hn11
 obtain ⟨hs,hb⟩:=hb.st1 1 hs hn11 (gS gZ)
 refine ⟨.inl (by kernel_rfl),?_⟩
 refine wn (zO (er ?_))
 have ⟨h,hs⟩:=hs.hr (h w39)
 refine tI (.inl rfl) (vs:=[(Aa cN cO cP cQ cR cS)]) (v:=(Aa cN cO cP cQ cR cS)) Tryz.results143 ⟨(rva (Tryz.isAgg107 _) (Tryz.sizeOf107 _) (hb.r0 1 6 (gS gZ))),trivial⟩ (by kernel_rfl) ⟨cN,cO,cP,cQ,cR,cS,rfl,h⟩
def m_B4 (p1:Option Addr) (aA aB aE:Int) (aC:ByteArray) (aD:Bool) (w0:World) (K:Int→Int→WP):Prop :=∀H1 w1,Hst w0 None w0 H1 w1→Calls Tryz.prog 142 #[(.agg #[(vi aA),(vi aB),(vu aE),(vs aC),(vb aD)])] w1 (fun e w2=>∃r1,e=.returned (vi r1)∧Kept H1 w1 w2∧Br (r1 != 0) (K 0 r1 w2) (Br (Option.isNone p1) (K 0 2 w2) (Calls Tryz.prog 143 #[(.agg #[(vi aA),(vi aB),(vu aE),(vs aC),(vb aD)])] w2 (fun e w3=>∃aF aG aH aI aJ aK,e=.returned (Aa aF aG aH aI aJ aK)∧Kept H1 w2 w3∧Calls Tryz.prog 77 #[(vp p1),(.agg #[(vi aF),(vi aG),(vi aH),(vu aI),(vs aJ),aK.v])] w3 (fun e w4=>∃r2 r3,e=.returned (.tuple #[(vi r2),(vi r3)])∧Kept H1 w3 w4∧K r2 r3 w4)))))
theorem w_B4 (p1 aA aB aE aC aD w0 K) (h:m_B4 p1 aA aB aE aC aD w0 K):
  Calls Tryz.prog 76 #[(vp p1),(.agg #[(vi aA),(vi aB),(vu aE),(vs aC),(vb aD)])] w0 (fun e w'=>∃r4 r5,e=.returned (.tuple #[(vi r4),(vi r5)])∧K r4 r5 w'):=by
 refine cw (args:=[(vp p1),(Af aA aB aE aC aD)]) Tryz.func76 Tryz.ntmps76 ?_
 obtain ⟨hs,hb⟩:=st0 w0
 refine eg (nw3 (Ac aA aB aE aC aD) 35 hs hb xb fun p2 w1 H1 hs hb=>qb (ln (zA (eg (q2 (Af aA aB aE aC aD) (xa p2 (Ac aA aB aE aC aD) (Tryz.isAgg35 _) (Tryz.sizeOf35 _) (hb.r0 0 5 gZ)) ?_)))))
 have ⟨h,hs⟩:=hs.hr (h H1 w1)
 refine sc Tryz.call142 (h.mono fun e w2 ⟨r1,k,hk,h⟩=>have ⟨hs,hb⟩:=hk.hh hs hb;⟨_,k,?_⟩)
 refine q (ln (eg (qb (ln (cbr h ?_ ?_)))))<;>intro h
 refine eg (qc (ln (er (zY (xS (.inl rfl) Tryz.results76 (v:=(vi 0)) (by kernel_rfl) (v':=(vi r1)) (by kernel_rfl) ⟨0,r1,rfl,h⟩)))))
 refine zB (zO (zA (eg (q (q2 (vb (Option.isNone p1)) (xV (by kernel_rfl) rfl Tryz.underlying68) (ln (cbr h ?_ ?_)))))))<;>intro h
 refine eg (qb (ln (er (zY (xS (.inl rfl) Tryz.results76 (v:=(vi 0)) (by kernel_rfl) (v':=(vi 2)) (by kernel_rfl) ⟨0,2,rfl,h⟩)))))
 refine zB (zO (eg (q (q2 (Af aA aB aE aC aD) (xa p2 (Ac aA aB aE aC aD) (Tryz.isAgg35 _) (Tryz.sizeOf35 _) (hb.r0 0 5 gZ)) (sc Tryz.call143 (h.mono fun e w3 ⟨aF,aG,aH,aI,aJ,aK,k,hk,h⟩=>have ⟨hs,hb⟩:=hk.hh hs hb;⟨_,k,?_⟩))))))
 refine sc Tryz.call77 (h.mono fun e w4 ⟨r2,r3,k,hk,h⟩=>have ⟨hs,hb⟩:=hk.hh hs hb;⟨_,k,?_⟩)
 refine qd (ln (er (xS (.inl rfl) Tryz.results76 (v:=(vi r2)) (by kernel_rfl) (v':=(vi r3)) (by kernel_rfl) ⟨r2,r3,rfl,h⟩)))
end Go.Proofs
end
section
open Go Go.SE
namespace Go.Proofs
attribute [local irreducible] Calls
def jIS:Array Value:=#[.bool false,.bool false,.bool false,.string ⟨#[]⟩,.bool true,.bool true,.bool true,.string ⟨#[112,114,111,109,105,115,101]⟩,.bool true,.bool true,.bool false,.string ⟨#[115,105,103,110]⟩,.bool false,.bool false,.bool false,.string ⟨#[97,98,111,114,116]⟩,.bool true,.bool true,.bool true,.string ⟨#[114,101,115,111,108,118,101]⟩,.bool false,.bool false,.bool false,.string ⟨#[116,111,107,101,110]⟩,.bool false,.bool true,.bool false,.string ⟨#[105,110,115,116,101,97,100]⟩,.bool false,.bool false,.bool false,.string ⟨#[102,117,108,108]⟩]
theorem jGS (w:World):Calls Tryz.prog 193 #[] w (fun e w'=>∃r:Array Value,e=.returned (.agg r)∧(r=jIS∧Pure w w')):=by
 refine w_V3 w (fun r w'=>r=jIS∧Pure w w') ?_;unfold m_V3;intro p1 w1 h1;have E1:Pure w w1:=Ext.new h1;have hp:=New.own (Ext.refl w) h1;have b1:=Box.of_newA h1;clear h1;refine bx 32 b1 (by kernel_rfl) (by kernel_rfl) (fun w' b E=>?_);exact ⟨jIS,⟨by kernel_rfl,b.row_eq (by kernel_rfl)⟩,rfl,E1.own hp E⟩
theorem c_chk (l:Sp.Letter) (hk:1≤l.kind∧l.kind≤7) (p:Addr) {w0 w:World} {H:NP} {wd:ByteArray} {T:TypeId} (hB:Box w p [.bool (Sp.vU l.kind),.bool (Sp.qB l.kind),.bool (l.kind == 1 || l.kind == 4),.string wd] T) (hv:¬ H p.block) (hE:Pure w0 w) :
  m_N_j1 l.frm l.text l.fake p w0 H w (fun x w'=>x=Sp.qR l∧Pure w0 w'):=by
 obtain ⟨k,f,c,x,fk⟩:=l
 simp only at *
 have vis:∀{H H':NP} {w w':World},Box w p [.bool (Sp.vU k),.bool (Sp.qB k),.bool (k == 1 || k == 4),.string wd] T→¬ H p.block→Hst w0 H w H' w'→¬ H' p.block∧Box w' p [.bool (Sp.vU k),.bool (Sp.qB k),.bool (k == 1 || k == 4),.string wd] T:=fun hB hv hs=>by
  have h:=hs.disj (G:=(·=p.block)) (fun b e=>by subst e;exact ⟨hB.lt,hv⟩) _ rfl;exact ⟨h,hB.ext hs.ext h⟩
 unfold m_N_j1
 have bad:(f≠0∧f≠1)∨(Sp.vU k=false∧f≠0)∨(Sp.qB k=false∧x≠⟨#[]⟩)∨(fk=true∧k≠1∧k≠4)→(110:Int)=Sp.qR ⟨k,f,c,x,fk⟩:=fun h=>by
  unfold Sp.qR;rw [if_pos];rcases h with h | h | h | h
  ·exact .inr (.inr (.inl h))
  ·exact .inr (.inr (.inr (.inl h)))
  ·exact .inr (.inr (.inr (.inr (.inl h))))
  ·exact .inr (.inr (.inr (.inr (.inr h))))
 refine ⟨fun hc H4 w4 hs4=>⟨bad (.inl ?_),hE.hst hs4⟩,fun hc H4 w4 hs4=>?_⟩
 ·rw [Bool.and_eq_true] at hc;exact ⟨bne_iff_ne.1 hc.1,bne_iff_ne.1 hc.2⟩
 have hf:f=0∨f=1:=by
  rw [Bool.and_eq_false_iff] at hc;exact hc.imp (fun h=>by simpa using h) (fun h=>by simpa using h)
 obtain ⟨v4,B4⟩:=vis hB hv hs4
 have E4:=hE.hst hs4
 refine ⟨_,B4.cell0,fun H8 w8 hs8=>?_⟩
 obtain ⟨v8,B8⟩:=vis B4 v4 hs8
 have E8:=E4.hst hs8
 unfold m_N_j2
 refine ⟨fun hc2=>⟨bad (.inr (.inl ?_)),E8⟩,fun hc2=>?_⟩
 ·rw [Bool.and_eq_true] at hc2;exact ⟨by simpa using hc2.1,bne_iff_ne.1 hc2.2⟩
 have hs:¬ (Sp.vU k=false∧f≠0):=fun h=>by
  rw [Bool.and_eq_false_iff] at hc2;exact hc2.elim (fun h2=>by rw [h.1] at h2;cases h2) (fun h2=>h.2 (by simpa using h2))
 refine ⟨_,B8.cell (i:=1) rfl,fun H7 w7 hs7=>?_⟩
 obtain ⟨v7,B7⟩:=vis B8 v8 hs7
 have E7:=E8.hst hs7
 unfold m_N_j3
 refine ⟨fun hc3=>⟨bad (.inr (.inr (.inl ?_))),E7⟩,fun hc3=>?_⟩
 ·rw [Bool.and_eq_true] at hc3
  exact ⟨by simpa using hc3.1,by simpa using hc3.2⟩
 have ht:¬ (Sp.qB k=false∧x≠⟨#[]⟩):=fun h=>by
  rw [Bool.and_eq_false_iff] at hc3;exact hc3.elim (fun h2=>by rw [h.1] at h2;cases h2) (fun h2=>h.2 (by simpa using h2))
 refine ⟨_,B7.cell (i:=2) rfl,fun hc4 H6 w6 hs6=>⟨bad (.inr (.inr (.inr ?_))),E7.hst hs6⟩,fun hc4=>?_⟩
 ·rw [Bool.and_eq_true] at hc4
  have h1:(k == 1 || k == 4)=false:=by simpa using hc4.1
  rw [Bool.or_eq_false_iff] at h1
  exact ⟨hc4.2,by simpa using h1.1,by simpa using h1.2⟩
 have hfk:¬ (fk=true∧k≠1∧k≠4):=fun h=>by
  rw [Bool.and_eq_false_iff] at hc4;refine hc4.elim (fun h2=>?_) (fun h2=>by rw [h.1] at h2;cases h2);have h1:(k == 1 || k == 4)=true:=by
   cases hh:(k == 1 || k == 4) with
   | true=>rfl
   | false=>rw [hh] at h2;cases h2
  rw [Bool.or_eq_true] at h1;exact h1.elim (fun h3=>h.2.1 (by simpa using h3)) (fun h3=>h.2.2 (by simpa using h3))
 have good:¬ (k<1∨k>7∨(f≠0∧f≠1)∨(Sp.vU k=false∧f≠0)∨(Sp.qB k=false∧x≠⟨#[]⟩)∨(fk=true∧k≠1∧k≠4)):=by
  rintro (h | h | h | h | h | h)
  ·omega
  ·omega
  ·omega
  ·exact hs h
  ·exact ht h
  ·exact hfk h
 refine ⟨fun hc5 H6 w6 hs6=>⟨?_,E7.hst hs6⟩,fun hc5 H6 w6 hs6=>⟨?_,E7.hst hs6⟩⟩
 ·have:=of_decide_eq_true hc5
  unfold Sp.qR;rw [if_neg good,if_pos (by simp only;omega)]
 ·have:=of_decide_eq_false hc5
  unfold Sp.qR;rw [if_neg good,if_neg (by simp only;omega)]
theorem jMA (l:Sp.Letter) (w0:World):Calls Tryz.prog 142 #[.agg #[.int .i64 l.kind,.int .i64 l.frm,.int .u64 l.c,.string l.text,.bool l.fake]] w0 (fun e w'=>∃r:Int,e=.returned (.int .i64 r)∧(r=Sp.qR l∧Pure w0 w')):=by
 refine w_N _ _ _ _ _ w0 (fun r w'=>r=Sp.qR l∧Pure w0 w') ?_;unfold m_N;refine ⟨fun hc H2 w2 hs2=>⟨?_,hs2.first⟩,fun hc H2 w2 hs2=>?_⟩
 ·unfold Sp.qR;rw [if_pos];rw [Bool.or_eq_true] at hc;exact hc.elim (fun h=>.inl (of_decide_eq_true h)) (fun h=>.inr (.inl (of_decide_eq_true h)))
 have hk:1≤l.kind∧l.kind≤7:=by
  rw [Bool.or_eq_false_iff] at hc;have h1:=of_decide_eq_false hc.1;have h2:=of_decide_eq_false hc.2;omega
 have E2:Pure w0 w2:=hs2.first;have idx:∃wd:ByteArray,∀w':World,(Instr.index 302 (.agg jIS) (.int .i64 l.kind)).run Tryz.prog w'=.ok (.agg #[.bool (Sp.vU l.kind),.bool (Sp.qB l.kind),.bool (l.kind == 1 || l.kind == 4),.string wd]) w':=by
  have:l.kind=1∨l.kind=2∨l.kind=3∨l.kind=4∨l.kind=5∨l.kind=6∨l.kind=7:=by omega
  rcases this with e | e | e | e | e | e | e <;> rw [e]
  ·exact ⟨⟨#[112,114,111,109,105,115,101]⟩,fun w'=>by kernel_rfl⟩
  ·exact ⟨⟨#[115,105,103,110]⟩,fun w'=>by kernel_rfl⟩
  ·exact ⟨⟨#[97,98,111,114,116]⟩,fun w'=>by kernel_rfl⟩
  ·exact ⟨⟨#[114,101,115,111,108,118,101]⟩,fun w'=>by kernel_rfl⟩
  ·exact ⟨⟨#[116,111,107,101,110]⟩,fun w'=>by kernel_rfl⟩
  ·exact ⟨⟨#[105,110,115,116,101,97,100]⟩,fun w'=>by kernel_rfl⟩
  ·exact ⟨⟨#[102,117,108,108]⟩,fun w'=>by kernel_rfl⟩
 obtain ⟨wd,idx⟩:=idx;refine ⟨fun _=>True,trivial,?_⟩;rintro w9 e9;have E9:Pure w2 w9:=by rw [e9];exact Ext.drew w2
 have hH:∀b,H2 b→b<w9.heap.size:=fun b hb=>by have:=hs2.lt b hb;have:=E9.size;omega
 refine ⟨?_,?_⟩
 ·refine (jGS w9).mono ?_;rintro _ w10 ⟨_,rfl,rfl,E10⟩;refine ⟨_,rfl,trivial,E10.keptP,_,_,_,_,fun w' _=>idx w',?_⟩;intro p2 w11 n11;have b11:=n11.at_size;have z10:=E10.size;have hv:¬ H2 p2.block:=fun hh=>by have:=hH _ hh;omega
  refine ⟨trivial,(Box.of_newA n11).canWs (by simp),hv,?_⟩;rintro w12 e12;have X:Ext (·=p2.block) w11 w12:=by rw [e12];exact Ext.storeRow _ _ _
  have B:Box w12 p2 [.bool (Sp.vU l.kind),.bool (Sp.qB l.kind),.bool (l.kind == 1 || l.kind == 4),.string wd] 301:=by rw [e12];exact (Box.of_newA n11).store rfl
  have z2:=E2.size;have z9:=E9.size;exact c_chk l hk p2 B hv ((((E2.trans E9).trans E10).trans (Ext.new n11)).own (by omega) X)
 ·intro p3 w13 n13;refine ⟨trivial,?_⟩;have b13:=n13.at_size;have E13:Pure w9 w13:=Ext.new n13;have hv:¬ H2 p3.block:=fun hh=>by have:=hH _ hh;omega
  refine (jGS w13).mono ?_;rintro _ w14 ⟨_,rfl,rfl,E14⟩;have B14:=(Box.of_newA n13).pure E14;refine ⟨_,rfl,trivial,E14.keptP,_,_,_,_,fun w' _=>idx w',B14.canWs (by simp),hv,?_⟩;rintro w15 e15;have X:Ext (·=p3.block) w14 w15:=by rw [e15];exact Ext.storeRow _ _ _
  have B:Box w15 p3 [.bool (Sp.vU l.kind),.bool (Sp.qB l.kind),.bool (l.kind == 1 || l.kind == 4),.string wd] 301:=by rw [e15];exact B14.store rfl
  have z2:=E2.size;have z9:=E9.size;exact c_chk l hk p3 B hv ((((E2.trans E9).trans E13).trans E14).own (by omega) X)
abbrev RetS (S:NP) (w:World) (T:Sp.Tree) (e:Ending) (w':World):Prop:=∃s,e=.returned (.agg (yL T s).toArray)∧TreeAt S w' s T∧Pure w w'
theorem jAU {S:NP} (w:World) {A:Sp.Tree} {sa:Sl} {H3:NP} {w3 w4 w5:World} {p:Addr} {o:Obj} (hA:TreeAt S w sa A) (hs3:Hst w None w H3 w3) (n4:New w3 o p w4) (hs5:Hst w H3 w4 H3 w5):TreeAt S w5 sa A:=by
 have E3:Pure w w3:=hs3.first;have E4:Pure w3 w4:=Ext.new n4;exact (((hA.lt.pure E3).pure E4).ext hs5.ext (fun b hb hh=>by have:=hs3.old b hh;omega)).mono (fun b hb=>hb.1)
section
variable {S:NP} (w:World) (hS:∀b,w.heap.size≤b→S b)
include hS
theorem xE (A B:Sp.Tree) (sa sb:Sl) (hA:TreeAt S w sa A) (hB:TreeAt S w sb B):Calls Tryz.prog 197 #[.agg (yL A sa).toArray,.agg (yL B sb).toArray] w (RetS S w (Sp.qW A B)):=by
 obtain ⟨k,f,t,u,x,ks⟩:=A;obtain ⟨k2,f2,t2,u2,x2,ks2⟩:=B;refine (w_W3 k f t u x sa k2 f2 t2 u2 x2 sb w (fun k' f' t' u' y s w'=>(⟨k',f',t',u',y,0,0⟩:Sp.Node)=(Sp.qW (.mk k f t u x ks) (.mk k2 f2 t2 u2 x2 ks2)).node∧TreeAt S w' s (Sp.qW (.mk k f t u x ks) (.mk k2 f2 t2 u2 x2 ks2))∧Pure w w') ?_).mono ?_
 ·unfold m_W3;intro H3 w3 hs3 p4 w4 n4 w5 hs5;have b4:=n4.at_size;have z3:=hs3.first.size;have B4:Box w4 p4 (yL (.mk k f t u x ks) sa++yL (.mk k2 f2 t2 u2 x2 ks2) sb) 107:=Box.of_newA n4;exact ⟨rfl,TreeAt.pair (B4.ext hs5.ext (fun hh=>by have:=hs3.lt _ hh;omega)) (hS _ (by omega)) (jAU w hA hs3 n4 hs5) (jAU w hB hs3 n4 hs5),(hs3.first.trans (Ext.new n4)).hst hs5⟩
 ·rintro _ w' ⟨k,f,t,u,y,s,rfl,hn,hT,E⟩;cases hn;exact ⟨s,rfl,hT,E⟩
theorem jBB (n:Int) (A:Sp.Tree) (sa:Sl) (hA:TreeAt S w sa A):Calls Tryz.prog 196 #[.int .i64 n,.agg (yL A sa).toArray] w (RetS S w (Sp.xG n A)):=by
 obtain ⟨k,f,t,u,x,ks⟩:=A;refine (w_Z3 n k f t u x sa w (fun k' f' t' u' y s w'=>(⟨k',f',t',u',y,0,0⟩:Sp.Node)=(Sp.xG n (.mk k f t u x ks)).node∧TreeAt S w' s (Sp.xG n (.mk k f t u x ks))∧Pure w w') ?_).mono ?_
 ·unfold m_Z3;intro H3 w3 hs3 p4 w4 n4 w5 hs5;have b4:=n4.at_size;have z3:=hs3.first.size;have B4:Box w4 p4 (yL (.mk k f t u x ks) sa) 107:=Box.of_newA n4;exact ⟨rfl,TreeAt.one (B4.ext hs5.ext (fun hh=>by have:=hs3.lt _ hh;omega)) (hS _ (by omega)) (jAU w hA hs3 n4 hs5),(hs3.first.trans (Ext.new n4)).hst hs5⟩
 ·rintro _ w' ⟨k,f,t,u,y,s,rfl,hn,hT,E⟩;cases hn;exact ⟨s,rfl,hT,E⟩
theorem jAN (n:Int) (hn:n=0∨n=1) (fk:Bool) (A:Sp.Tree) (sa:Sl) (hA:TreeAt S w sa A):Calls Tryz.prog 195 #[.int .i64 n,.bool fk,.agg (yL A sa).toArray] w (RetS S w (Sp.yT n A fk)):=by
 obtain ⟨k,f,t,u,x,ks⟩:=A;refine (w_Y3 n fk k f t u x sa w (fun k' f' t' u' y s w'=>(⟨k',f',t',u',y,0,0⟩:Sp.Node)=(Sp.yT n (.mk k f t u x ks) fk).node∧TreeAt S w' s (Sp.yT n (.mk k f t u x ks) fk)∧Pure w w') ?_).mono ?_
 ·unfold m_Y3;intro H3 w3 hs3 p4 w4 n4 w5 hs5;have b4:=n4.at_size;have z3:=hs3.first.size;have B4:Box w4 p4 (yL (.mk k f t u x ks) sa) 107:=Box.of_newA n4;refine ⟨?_,TreeAt.one (B4.ext hs5.ext (fun hh=>by have:=hs3.lt _ hh;omega)) (hS _ (by omega)) (jAU w hA hs3 n4 hs5),(hs3.first.trans (Ext.new n4)).hst hs5⟩;have:IntKind.i64.wrap (1 - n)=1 - n:=IntWalk.i64_in _ (by omega);rw [this];cases fk <;> rfl
 ·rintro _ w' ⟨k,f,t,u,y,s,rfl,hn,hT,E⟩;cases hn;exact ⟨s,rfl,hT,E⟩
theorem jNP (c:Int) (x:ByteArray):Calls Tryz.prog 194 #[.int .u64 c,.string x] w (RetS S w (Sp.qH c x)):=by
 refine (w_X3 c x w (fun k f t u y s w'=>(⟨k,f,t,u,y,0,0⟩:Sp.Node)=(Sp.qH c x).node∧TreeAt S w' s (Sp.qH c x)∧Pure w w') ?_).mono ?_
 ·unfold m_X3;intro H1 w4 hs4;have E4:Pure w w4:=hs4.first;have z4:=E4.size;have hH:∀b,H1 b→b<w4.heap.size:=fun b hb=>hs4.lt b hb;refine (xE (S:=(w4.heap.size≤·)) w4 (fun _ h=>h) (Sp.jBE c) (Sp.qM x) Sl.nil Sl.nil TreeAt.leaf TreeAt.leaf).mono ?_;rintro _ w5 ⟨s5,rfl,hT5,E5⟩;refine ⟨_,_,_,_,_,s5,rfl,E5.keptP,?_⟩;refine (xE (S:=(w4.heap.size≤·)) w5 (fun b h=>by have:=E5.size;show w4.heap.size≤b;omega) (Sp.qM Sp.jAG) (Sp.qW (Sp.jBE c) (Sp.qM x)) Sl.nil s5 TreeAt.leaf hT5).mono ?_;rintro _ w6 ⟨s6,rfl,hT6,E6⟩;refine ⟨_,_,_,_,_,s6,rfl,E6.keptP,fun w7 hs7=>⟨rfl,?_,((E4.trans E5).trans E6).hst hs7⟩⟩;exact (hT6.ext hs7.ext (fun b hb hh=>by have:=hH b hh;have:w4.heap.size≤b:=hb;omega)).mono (fun b hb=>hS b (by have:w4.heap.size≤b:=hb;omega))
 ·rintro _ w' ⟨k,f,t,u,y,s,rfl,hn,hT,E⟩;cases hn;exact ⟨s,rfl,hT,E⟩
end
theorem jNO (l:Sp.Letter) (hf:l.frm=0∨l.frm=1) (w0:World):Calls Tryz.prog 143 #[.agg #[.int .i64 l.kind,.int .i64 l.frm,.int .u64 l.c,.string l.text,.bool l.fake]] w0 (RetS (w0.heap.size≤·) w0 (Sp.vZ l true true)):=by
 obtain ⟨kd,f,c,x,fk⟩:=l;simp only at hf;generalize hR:Sp.vZ ⟨kd,f,c,x,fk⟩ true true=R;refine (w_A4 kd f c x fk w0 (fun k f t u y s w'=>(⟨k,f,t,u,y,0,0⟩:Sp.Node)=R.node∧TreeAt (w0.heap.size≤·) w' s R∧Pure w0 w') ?_).mono ?_
 ·unfold m_A4;intro H2 w2 hs2;have E2:Pure w0 w2:=hs2.first;have z2:=E2.size;refine (jNP (S:=(w2.heap.size≤·)) w2 (fun _ h=>h) c x).mono ?_;rintro _ w3 ⟨sd,rfl,hT3,E3⟩;refine ⟨_,_,_,_,_,sd,rfl,E3.keptP,?_⟩;have z3:=E3.size;have go:∀{H3:NP} {w5:World},Hst w0 H2 w3 H3 w5→TreeAt (fun b=>w0.heap.size≤b∧¬ H3 b) w5 sd (Sp.qH c x)∧Pure w0 w5∧(∀w:World,w5.heap.size≤w.heap.size→∀b,w.heap.size≤b→w0.heap.size≤b∧¬ H3 b):=fun {H3 w5} hs=>by
   have hd:∀b,(w2.heap.size≤b∧b<w3.heap.size)→¬ H3 b:=hs.disj (fun b hb=>⟨hb.2,fun hh=>by have:=hs2.lt b hh;omega⟩);refine ⟨(hT3.lt.ext hs.ext (fun b hb=>hd b hb)).mono (fun b hb=>⟨by have:=hb.1;omega,hd b hb⟩),(E2.trans E3).hst hs,fun w hw b hb=>⟨by have:=hs.ext.size;omega,fun hh=>by have:=hs.lt b hh;omega⟩⟩
  have fin:∀{H3:NP} {wa wb:World} {s:Sl} {T:Sp.Tree},TreeAt (fun b=>w0.heap.size≤b∧¬ H3 b) wa s T→Pure w0 wa→Hst w0 H3 wa H3 wb→T=R→R.node=R.node∧TreeAt (w0.heap.size≤·) wb s R∧Pure w0 wb:=fun {H3 wa wb s T} h E hs e=>by
   subst e;exact ⟨rfl,(h.ext hs.ext (fun b hb=>hb.2)).mono (fun b hb=>hb.1),E.hst hs⟩
  have fin2:∀{H3:NP} {wa wb:World} {s:Sl} {T:Sp.Tree},TreeAt (fun b=>w0.heap.size≤b∧¬ H3 b) wa s T→Pure w0 wa→Hst w0 H3 wa H3 wb→R=T→(⟨T.node.kind,T.node.frm,T.node.to,T.node.num,T.node.text,0,0⟩:Sp.Node)=R.node∧TreeAt (w0.heap.size≤·) wb s R∧Pure w0 wb:=fun {H3 wa wb s T} h E hs e=>by
   subst e;refine ⟨?_,(fin h E hs rfl).2⟩;cases R;rfl
  refine ⟨fun hk H3 w5 hs5=>?_,fun h1=>⟨fun hk H3 w5 hs5=>?_,fun h2=>⟨fun hk H3 w5 hs5=>?_,fun h3=>⟨fun hk H3 w5 hs5=>?_,fun h4=>⟨fun hk H3 w5 hs5=>?_,fun h5=>⟨fun hk H3 w5 hs5=>?_,fun h6 H3 w5 hs5=>?_⟩⟩⟩⟩⟩⟩
  ·have hk:=beq_iff_eq.1 hk;obtain ⟨hD,E5,hS⟩:=go hs5;refine (jAN w5 (hS w5 (Nat.le_refl _)) f hf fk _ sd hD).mono ?_;rintro _ w6 ⟨s6,rfl,hT6,E6⟩;refine ⟨_,_,_,_,_,s6,rfl,E6.keptP,fun w7 hs7=>fin2 hT6 (E5.trans E6) hs7 ?_⟩;rw [← hR];unfold Sp.vZ;rw [if_pos hk]
  ·have hk:=beq_iff_eq.1 hk;obtain ⟨hD,E5,hS⟩:=go hs5;refine (jBB w5 (hS w5 (Nat.le_refl _)) f _ sd hD).mono ?_;rintro _ w6 ⟨s6,rfl,hT6,E6⟩;refine ⟨_,_,_,_,_,s6,rfl,E6.keptP,fun w7 hs7=>fin2 hT6 (E5.trans E6) hs7 ?_⟩;rw [← hR];unfold Sp.vZ;rw [if_neg (fun e=>beq_eq_false_iff_ne.1 h1 e),if_pos hk]
  ·have hk:=beq_iff_eq.1 hk;obtain ⟨hD,E5,hS⟩:=go hs5;refine ⟨fun _=>True,trivial,?_⟩;rintro w10 e10;have E10:Pure w5 w10:=by rw [e10];exact Ext.drew w5
   refine (p_S _ w10).mono ?_;rintro _ w11 ⟨rfl,E11⟩;refine ⟨_,_,_,_,_,_,rfl,trivial,E11.keptP,?_⟩;refine (p_Y _ w11).mono ?_;rintro _ w12 ⟨rfl,E12⟩;refine ⟨_,_,_,_,_,_,rfl,E12.keptP,?_⟩;have z12:=((E10.trans E11).trans E12).size;refine (xE w12 (hS w12 z12) (Sp.qM Sp.uK) (Sp.jBE c) Sl.nil Sl.nil TreeAt.leaf TreeAt.leaf).mono ?_;rintro _ w13 ⟨s13,rfl,hT13,E13⟩;refine ⟨_,_,_,_,_,s13,rfl,E13.keptP,?_⟩;refine (jBB w13 (hS w13 (by have:=E13.size;omega)) 0 _ s13 hT13).mono ?_;rintro _ w14 ⟨s14,rfl,hT14,E14⟩;refine ⟨_,_,_,_,_,s14,rfl,E14.keptP,fun w15 hs15=>fin2 hT14 (((((E5.trans E10).trans E11).trans E12).trans E13).trans E14) hs15 ?_⟩;rw [← hR];unfold Sp.vZ;rw [if_neg (fun e=>beq_eq_false_iff_ne.1 h1 e),if_neg (fun e=>beq_eq_false_iff_ne.1 h2 e),if_pos hk]
  ·have hk:=beq_iff_eq.1 hk;obtain ⟨hD,E5,hS⟩:=go hs5;refine ⟨fun _=>True,trivial,?_⟩;rintro w16 e16;have E16:Pure w5 w16:=by rw [e16];exact Ext.drew w5
   refine (p_S _ w16).mono ?_;rintro _ w17 ⟨rfl,E17⟩;refine ⟨_,_,_,_,_,_,rfl,trivial,E17.keptP,?_⟩;have E57:=E16.trans E17;refine (jAN w17 (hS w17 E57.size) 0 (.inl rfl) fk _ sd (hD.pure E57)).mono ?_;rintro _ w18 ⟨s18,rfl,hT18,E18⟩;refine ⟨_,_,_,_,_,s18,rfl,trivial,E18.keptP,?_⟩;have E58:=E57.trans E18;refine (jAN w18 (hS w18 E58.size) 1 (.inr rfl) fk _ sd (hD.pure E58)).mono ?_;rintro _ w19 ⟨s19,rfl,hT19,E19⟩;refine ⟨_,_,_,_,_,s19,rfl,trivial,E19.keptP,?_⟩;have E59:=E58.trans E19;refine (xE w19 (hS w19 E59.size) _ _ s18 s19 (hT18.pure E19) hT19).mono ?_;rintro _ w20 ⟨s20,rfl,hT20,E20⟩;refine ⟨_,_,_,_,_,s20,rfl,trivial,E20.keptP,?_⟩;have E510:=E59.trans E20;refine (xE w20 (hS w20 E510.size) (Sp.qM Sp.yB) _ Sl.nil s20 TreeAt.leaf hT20).mono ?_;rintro _ w21 ⟨s21,rfl,hT21,E21⟩;refine ⟨_,_,_,_,_,s21,rfl,trivial,E21.keptP,?_⟩;have E511:=E510.trans E21;refine (jBB w21 (hS w21 E511.size) f _ s21 hT21).mono ?_;rintro _ w22 ⟨s22,rfl,hT22,E22⟩;refine ⟨_,_,_,_,_,s22,rfl,E22.keptP,fun w23 hs23=>fin2 hT22 ((E5.trans E511).trans E22) hs23 ?_⟩;rw [← hR];unfold Sp.vZ;rw [if_neg (fun e=>beq_eq_false_iff_ne.1 h1 e),if_neg (fun e=>beq_eq_false_iff_ne.1 h2 e),if_neg (fun e=>beq_eq_false_iff_ne.1 h3 e),if_pos hk];simp only [Bool.and_true]
  ·have hk:=beq_iff_eq.1 hk;obtain ⟨hD,E5,hS⟩:=go hs5;refine ⟨fun _=>True,trivial,?_⟩;rintro w10 e10;have E10:Pure w5 w10:=by rw [e10];exact Ext.drew w5
   refine (p_S _ w10).mono ?_;rintro _ w11 ⟨rfl,E11⟩;refine ⟨_,_,_,_,_,_,rfl,trivial,E11.keptP,?_⟩;refine (p_Y _ w11).mono ?_;rintro _ w12 ⟨rfl,E12⟩;refine ⟨_,_,_,_,_,_,rfl,E12.keptP,?_⟩;have z12:=((E10.trans E11).trans E12).size;refine (xE w12 (hS w12 z12) (Sp.qM Sp.qT) (Sp.jBE c) Sl.nil Sl.nil TreeAt.leaf TreeAt.leaf).mono ?_;rintro _ w13 ⟨s13,rfl,hT13,E13⟩;refine ⟨_,_,_,_,_,s13,rfl,E13.keptP,?_⟩;refine (jBB w13 (hS w13 (by have:=E13.size;omega)) 2 _ s13 hT13).mono ?_;rintro _ w14 ⟨s14,rfl,hT14,E14⟩;refine ⟨_,_,_,_,_,s14,rfl,E14.keptP,fun w15 hs15=>fin2 hT14 (((((E5.trans E10).trans E11).trans E12).trans E13).trans E14) hs15 ?_⟩;rw [← hR];unfold Sp.vZ;rw [if_neg (fun e=>beq_eq_false_iff_ne.1 h1 e),if_neg (fun e=>beq_eq_false_iff_ne.1 h2 e),if_neg (fun e=>beq_eq_false_iff_ne.1 h3 e),if_neg (fun e=>beq_eq_false_iff_ne.1 h4 e),if_pos hk]
  ·have hk:=beq_iff_eq.1 hk;obtain ⟨hD,E5,hS⟩:=go hs5;refine ⟨fun _=>True,trivial,?_⟩;rintro w10 e10;have E10:Pure w5 w10:=by rw [e10];exact Ext.drew w5
   refine (p_S _ w10).mono ?_;rintro _ w11 ⟨rfl,E11⟩;refine ⟨_,_,_,_,_,_,rfl,trivial,E11.keptP,?_⟩;have z11:=(E10.trans E11).size;refine (xE w11 (hS w11 z11) (Sp.qM Sp.yC) _ Sl.nil sd TreeAt.leaf (hD.pure (E10.trans E11))).mono ?_;rintro _ w13 ⟨s13,rfl,hT13,E13⟩;refine ⟨_,_,_,_,_,s13,rfl,E13.keptP,?_⟩;refine (jBB w13 (hS w13 (by have:=E13.size;omega)) 2 _ s13 hT13).mono ?_;rintro _ w14 ⟨s14,rfl,hT14,E14⟩;refine ⟨_,_,_,_,_,s14,rfl,E14.keptP,fun w15 hs15=>fin2 hT14 ((((E5.trans E10).trans E11).trans E13).trans E14) hs15 ?_⟩;rw [← hR];unfold Sp.vZ;rw [if_neg (fun e=>beq_eq_false_iff_ne.1 h1 e),if_neg (fun e=>beq_eq_false_iff_ne.1 h2 e),if_neg (fun e=>beq_eq_false_iff_ne.1 h3 e),if_neg (fun e=>beq_eq_false_iff_ne.1 h4 e),if_neg (fun e=>beq_eq_false_iff_ne.1 h5 e),if_pos hk]
  ·obtain ⟨hD,E5,hS⟩:=go hs5;refine ⟨fun _=>True,trivial,?_⟩;rintro w10 e10;have E10:Pure w5 w10:=by rw [e10];exact Ext.drew w5
   refine (p_S _ w10).mono ?_;rintro _ w11 ⟨rfl,E11⟩;refine ⟨_,_,_,_,_,_,rfl,trivial,E11.keptP,?_⟩;refine (p_Y _ w11).mono ?_;rintro _ w12 ⟨rfl,E12⟩;refine ⟨_,_,_,_,_,_,rfl,E12.keptP,?_⟩;have z12:=((E10.trans E11).trans E12).size;refine (xE w12 (hS w12 z12) (Sp.qM Sp.jFI) (Sp.jBE c) Sl.nil Sl.nil TreeAt.leaf TreeAt.leaf).mono ?_;rintro _ w13 ⟨s13,rfl,hT13,E13⟩;refine ⟨_,_,_,_,_,s13,rfl,E13.keptP,fun w15 hs15=>fin2 hT13 ((((E5.trans E10).trans E11).trans E12).trans E13) hs15 ?_⟩;rw [← hR];unfold Sp.vZ;rw [if_neg (fun e=>beq_eq_false_iff_ne.1 h1 e),if_neg (fun e=>beq_eq_false_iff_ne.1 h2 e),if_neg (fun e=>beq_eq_false_iff_ne.1 h3 e),if_neg (fun e=>beq_eq_false_iff_ne.1 h4 e),if_neg (fun e=>beq_eq_false_iff_ne.1 h5 e),if_neg (fun e=>beq_eq_false_iff_ne.1 h6 e)]
 ·rintro _ w' ⟨k,f,t,u,y,s,rfl,hn,hT,E⟩;obtain ⟨k2,f2,t2,u2,x2,ks⟩:=R;cases hn;exact ⟨s,rfl,hT,E⟩
theorem jJP {l:Sp.Letter} (h:Sp.qR l=0):l.frm=0∨l.frm=1:=by
 unfold Sp.qR at h;split at h
 ·cases h
 ·rename_i h1;simp only [not_or] at h1;have:=h1.2.2.1;by_cases h0:l.frm=0
  ·exact .inl h0
  ·exact .inr (Classical.byContradiction (fun h2=>this ⟨h0,h2⟩))
def yW (L:Sp.Pool) (l:Sp.Letter):Int×Int×Sp.Pool:=if Sp.qR l≠0 then (0,Sp.qR l,L) else Sp.of L (Sp.vZ l true true)
theorem jHY (p:Addr) (l:Sp.Letter) (w0:World) {L:Sp.Pool} {F:NP} (hP:vE w0 p L F) (hok:Sp.Ok L) :
  Calls Tryz.prog 76 #[.pointer (some p),.agg #[.int .i64 l.kind,.int .i64 l.frm,.int .u64 l.c,.string l.text,.bool l.fake]] w0 (fun e w'=>∃r1 r2:Int,e=.returned (.tuple #[.int .i64 r1,.int .i64 r2])∧(r1=(yW L l).1∧r2=(yW L l).2.1∧∃F',vE w' p (yW L l).2.2 F'∧Ext F w0 w'∧∀b,F' b→F b∨w0.heap.size≤b)):=by
 refine w_B4 (some p) l.kind l.frm l.c l.text l.fake w0 (fun r1 r2 w'=>r1=(yW L l).1∧r2=(yW L l).2.1∧∃F',vE w' p (yW L l).2.2 F'∧Ext F w0 w'∧∀b,F' b→F b∨w0.heap.size≤b) ?_
 unfold m_B4
 intro H1 w1 hs1
 have E1:Pure w0 w1:=hs1.first
 have hF:∀b,F b→b<w0.heap.size:=fun b hb=>hP.lt hb
 refine (jMA l w1).mono ?_
 rintro _ w2 ⟨_,rfl,rfl,E2⟩
 have E02:=E1.trans E2
 refine ⟨_,rfl,E2.keptP,fun hc=>?_,fun hc=>⟨fun h=>(by cases h),fun _=>?_⟩⟩
 ·have hc:=bne_iff_ne.1 hc
  have e:yW L l=(0,Sp.qR l,L):=by unfold yW;rw [if_pos hc]
  rw [e];exact ⟨rfl,rfl,F,hP.pure E02,Ext.pure E02,fun b hb=>.inl hb⟩
 ·have hc:Sp.qR l=0:=by simpa using hc
  have e:yW L l=Sp.of L (Sp.vZ l true true):=by unfold yW;rw [if_neg (by simpa using hc)]
  rw [e]
  refine (jNO l (jJP hc) w2).mono ?_
  rintro _ w3 ⟨s3,he,hT3,E3⟩
  generalize Sp.vZ l true true=T at *
  obtain ⟨tk,tf,tt,tu,tx,tks⟩:=T
  have he:_=Ending.returned (.agg #[.int .i64 tk,.int .i64 tf,.int .i64 tt,.int .u64 tu,.string tx,s3.v]):=he
  refine ⟨tk,tf,tt,tu,tx,s3,he,E3.keptP,?_⟩
  have E03:=E02.trans E3
  refine (c_Of (S:=fun b=>w2.heap.size≤b∧b<w3.heap.size) p (.mk tk tf tt tu tx tks) s3 w3 hT3.lt (hP.pure E03) hok (fun b hb hh=>by have:=hF b hb;have:=E02.size;omega) (fun b hb=>hb.2)).mono ?_
  rintro _ w4 ⟨r1,r2,rfl,h12,F',hP4,X4,hF4⟩
  obtain ⟨e1,e2⟩:=Prod.mk.inj h12
  refine ⟨r1,r2,rfl,X4.kept (fun b hb hh=>by have:=hs1.old b hb;have:=hF b hh;omega),e1,e2,F',hP4,(Ext.pure E03).trans X4,fun b hb=>(hF4 b hb).imp id (fun h=>by have:=E03.size;omega)⟩
end Go.Proofs
end
section
open Go Go.SE
namespace Go.Sp
def tM (L:Pool) (a b:Int):Int×Int×Pool :=
 if (jCC L a b).2.1=true then (0,121,L) else if (jCC L a b).2.2≠0 then (0,(jCC L a b).2.2,L) else Go.Proofs.yW L ⟨6,0,(jCC L a b).1.c,(jCC L a b).1.text,false⟩
def jAV (m:Int×Int×Pool) (f:Int→Pool→Int×Int×Pool):Int×Int×Pool:=if m.2.1≠0 then (0,m.2.1,m.2.2) else f m.1 m.2.2
def tV:ByteArray:=⟨#[114,101,115,111,108,118,101]⟩
def jHJ (L:Pool) (who a b:Int):Int×Int×Pool :=
 if who≠0∧who≠1 then (0,2,L) else if (jCC L a b).2.2≠0 then (0,(jCC L a b).2.2,L)
 else jAV (make L ⟨4,0,0,0,⟨#[]⟩,a,b⟩) fun t L=>jAV (make L ⟨3,0,0,0,tV,0,0⟩) fun d L=>jAV (make L ⟨4,0,0,0,⟨#[]⟩,d,t⟩) fun t L=>make L ⟨7,who,0,0,⟨#[]⟩,t,0⟩
end Go.Sp
namespace Go.Proofs
attribute [local irreducible] Calls
theorem c_Data (p:Addr) (w0:World) {L:Sp.Pool} {F:NP} (hP:vE w0 p L F) (hok:Sp.Ok L) (x:ByteArray):Calls Tryz.prog 92 #[.pointer (some p),.string x] w0 (MakePost p L F w0 ⟨3,0,0,0,x,0,0⟩):=by
 refine w_S2 _ _ w0 (fun r1 r2 w'=>(r1,r2)=((Sp.make L ⟨3,0,0,0,x,0,0⟩).1,(Sp.make L ⟨3,0,0,0,x,0,0⟩).2.1)∧∃F',vE w' p (Sp.make L ⟨3,0,0,0,x,0,0⟩).2.2 F'∧Ext F w0 w'∧∀b,F' b→F b∨w0.heap.size≤b) ?_;unfold m_S2;refine (jJF p _ _ _ _ _ _ _ w0 hP hok).mono ?_;rintro _ w1 ⟨r1,r2,rfl,h⟩;exact ⟨r1,r2,rfl,h⟩
theorem jEG (p:Addr) (t who c:Int) (x:ByteArray) (w0:World) {L:Sp.Pool} {F:NP} (hP:vE w0 p L F) (hok:Sp.Ok L) :
  Calls Tryz.prog 45 #[.pointer (some p),.int .i64 t,.int .i64 who,.int .u64 c,.string x] w0 (fun e w'=>∃r:Bool,e=.returned (.bool r)∧(r=(Sp.jNT L t who c x == 0)∧Pure w0 w')):=by
 refine w_J3 _ _ _ _ _ w0 (fun r w'=>r=(Sp.jNT L t who c x == 0)∧Pure w0 w') ?_
 unfold m_J3
 refine (jJC (some p) t who c x w0 hP hok).mono ?_
 rintro _ w1 ⟨_,rfl,rfl,E⟩
 exact ⟨_,rfl,rfl,E⟩
abbrev MkP (S:Int×Int×Sp.Pool) (p:Addr) (F:NP) (w0 w':World):Prop:=∃F',vE w' p S.2.2 F'∧Ext F w0 w'∧∀b,F' b→F b∨w0.heap.size≤b
theorem tP (p:Addr) (a b:Int) (w0:World) {L:Sp.Pool} {F:NP} (hP:vE w0 p L F) (hok:Sp.Ok L) :
  Calls Tryz.prog 32 #[.pointer (some p),.int .i64 a,.int .i64 b] w0 (fun e w'=>∃r1 r2:Int,e=.returned (.tuple #[.int .i64 r1,.int .i64 r2])∧(r1=(Sp.tM L a b).1∧r2=(Sp.tM L a b).2.1∧MkP (Sp.tM L a b) p F w0 w')):=by
 refine w_H3 (some p) a b w0 (fun r1 r2 w'=>r1=(Sp.tM L a b).1∧r2=(Sp.tM L a b).2.1∧MkP (Sp.tM L a b) p F w0 w') ?_
 unfold m_H3
 refine (jGU p a b w0 hP hok).mono ?_
 rintro _ w1 ⟨k,f,c,x,g,r,r2,rfl,hb,E1⟩
 have e:Sp.tM L a b=if r=true then (0,121,L) else if r2≠0 then (0,r2,L) else yW L ⟨6,0,c,x,false⟩:=by
  unfold Sp.tM;rw [← hb]
 have hF:∀b,F b→b<w0.heap.size:=fun b hb=>hP.lt hb
 refine ⟨k,f,c,x,g,r,r2,rfl,E1.keptP,fun h H2 w4 hs4=>?_,fun h H2 w4 hs4=>?_⟩
 ·have hS : Sp.tM L a b = (0, cond r 121 r2, L) := by
   rw [e];cases r
   ·have h:r2≠0:=by simpa using h
    rw [if_neg (by simp),if_pos h];rfl
   ·rfl
  rw [hS]
  exact ⟨rfl,rfl,F,hP.pure (E1.hst hs4),Ext.pure (E1.hst hs4),fun b hb=>.inl hb⟩
 ·have hS : Sp.tM L a b = yW L ⟨6, 0, c, x, false⟩ := by
   rw [e];cases r
   ·have h:r2=0:=by simpa using h
    rw [if_neg (by simp),if_neg (by simp [h])]
   ·simp at h
  rw [hS]
  have E4:=E1.hst hs4
  refine (jHY p ⟨6,0,c,x,false⟩ w4 (hP.pure E4) hok).mono ?_
  rintro _ w5 ⟨r3,r4,rfl,e3,e4,F',hP5,X5,hF5⟩
  refine ⟨r3,r4,rfl,X5.kept (fun b hb hh=>by have:=hs4.old b hb;have:=hF b hh;omega),e3,e4,F',hP5,(Ext.pure E4).trans X5,fun b hb=>(hF5 b hb).imp id (fun h=>by have:=E4.size;omega)⟩
theorem jGV (p:Addr) (who a b:Int) (w0:World) {L:Sp.Pool} {F:NP} (hP:vE w0 p L F) (hok:Sp.Ok L) :
  Calls Tryz.prog 33 #[.pointer (some p),.int .i64 who,.int .i64 a,.int .i64 b] w0 (fun e w'=>∃r1 r2:Int,e=.returned (.tuple #[.int .i64 r1,.int .i64 r2])∧(r1=(Sp.jHJ L who a b).1∧r2=(Sp.jHJ L who a b).2.1∧MkP (Sp.jHJ L who a b) p F w0 w')):=by
 refine w_I3 (some p) who a b w0 (fun r1 r2 w'=>r1=(Sp.jHJ L who a b).1∧r2=(Sp.jHJ L who a b).2.1∧MkP (Sp.jHJ L who a b) p F w0 w') ?_
 unfold m_I3
 have hF:∀b,F b→b<w0.heap.size:=fun b hb=>hP.lt hb
 refine ⟨fun h H1 w1 hs1=>?_,fun h H1 w1 hs1=>?_⟩
 ·have hS : Sp.jHJ L who a b = (0, 2, L) := by
   unfold Sp.jHJ;rw [if_pos (by simpa using h)]
  rw [hS]
  exact ⟨rfl,rfl,F,hP.pure hs1.first,Ext.pure hs1.first,fun b hb=>.inl hb⟩
 refine (jGU p a b w1 (hP.pure hs1.first) hok).mono ?_
 rintro _ w2 ⟨k,f,c,x,g,r,r2,rfl,hb,E2⟩
 have e:Sp.jHJ L who a b=if r2≠0 then (0,r2,L) else Sp.jAV (Sp.make L ⟨4,0,0,0,⟨#[]⟩,a,b⟩) fun t L=>Sp.jAV (Sp.make L ⟨3,0,0,0,Sp.tV,0,0⟩) fun d L=>Sp.jAV (Sp.make L ⟨4,0,0,0,⟨#[]⟩,d,t⟩) fun t L=>Sp.make L ⟨7,who,0,0,⟨#[]⟩,t,0⟩:=by
  unfold Sp.jHJ;rw [if_neg (by simpa using h),← hb]
 rw [e]
 have E02:=hs1.first.trans E2
 refine ⟨k,f,c,x,g,r,r2,rfl,E2.keptP,fun h2 H2 w4 hs4=>?_,fun h2 H2 w4 hs4=>?_⟩
 ·rw [if_pos (by simpa using h2)]
  exact ⟨rfl,rfl,F,hP.pure (E02.hst hs4),Ext.pure (E02.hst hs4),fun b hb=>.inl hb⟩
 rw [if_neg (by simpa using h2)]
 have E4:=E02.hst hs4
 have step:∀{w w':World} {F1 F2:NP},Ext F w0 w→(∀b,F1 b→F b∨w4.heap.size≤b)→w4.heap.size≤w.heap.size→Ext F1 w w'→(∀b,F2 b→F1 b∨w.heap.size≤b)→Ext F w0 w'∧(∀b,F2 b→F b∨w4.heap.size≤b)∧w4.heap.size≤w'.heap.size∧Kept H2 w w':=by
  intro w w' F1 F2 X h1 hsz X1 h2;have:=E4.size;refine ⟨X.trans' X1 (fun i hi hf=>(h1 i hf).elim id (fun h=>by omega)),fun b hb=>(h2 b hb).elim (h1 b) (fun h=>.inr (by omega)),by have:=X1.size;omega,X1.kept (fun b hb hf=>?_)⟩;rcases h1 b hf with h | h
  ·have:=hs4.old b hb;have:=hF b h;omega
  ·have:=hs4.lt b hb;omega
 have fin:∀b,∀{F2:NP},(∀b,F2 b→F b∨w4.heap.size≤b)→F2 b→F b∨w0.heap.size≤b:=fun b _ h hb=>(h b hb).imp id (fun h=>by have:=E4.size;omega)
 refine (jOD p w4 (hP.pure E4) hok a b).mono ?_
 rintro _ w5 ⟨r3,r4,rfl,h34,F5,hP5,X5,hF5⟩
 have ok5:=Sp.jDI hok ⟨4,0,0,0,⟨#[]⟩,a,b⟩
 generalize Sp.make L ⟨4,0,0,0,⟨#[]⟩,a,b⟩=m5 at *
 obtain ⟨m1,m2,L5⟩:=m5
 obtain ⟨rfl,rfl⟩:=Prod.mk.inj h34
 obtain ⟨Y5,G5,s5,k5⟩:=step (Ext.pure E4) (fun b hb=>.inl hb) (Nat.le_refl _) X5 hF5
 refine ⟨r3,r4,rfl,k5,fun h5=>?_,fun h5=>?_⟩
 ·unfold Sp.jAV;rw [if_pos (by simpa using h5)]
  exact ⟨rfl,rfl,F5,hP5,Y5,fun b hb=>fin b G5 hb⟩
 rw [Sp.jAV,if_neg (by simpa using h5)]
 refine (c_Data p w5 hP5 ok5 Sp.tV).mono ?_
 rintro _ w6 ⟨r5,r6,rfl,h56,F6,hP6,X6,hF6⟩
 have ok6:=Sp.jDI ok5 ⟨3,0,0,0,Sp.tV,0,0⟩
 simp only at *
 generalize Sp.make L5 ⟨3,0,0,0,Sp.tV,0,0⟩=m6 at *
 obtain ⟨m1,m2,L6⟩:=m6
 obtain ⟨rfl,rfl⟩:=Prod.mk.inj h56
 obtain ⟨Y6,G6,s6,k6⟩:=step Y5 G5 s5 X6 hF6
 refine ⟨r5,r6,rfl,k6,fun h6=>?_,fun h6=>?_⟩
 ·unfold Sp.jAV;rw [if_pos (by simpa using h6)]
  exact ⟨rfl,rfl,F6,hP6,Y6,fun b hb=>fin b G6 hb⟩
 rw [Sp.jAV,if_neg (by simpa using h6)]
 refine (jOD p w6 hP6 ok6 r5 r3).mono ?_
 rintro _ w7 ⟨r7,r8,rfl,h78,F7,hP7,X7,hF7⟩
 have ok7:=Sp.jDI ok6 ⟨4,0,0,0,⟨#[]⟩,r5,r3⟩
 simp only at *
 generalize Sp.make L6 ⟨4,0,0,0,⟨#[]⟩,r5,r3⟩=m7 at *
 obtain ⟨m1,m2,L7⟩:=m7
 obtain ⟨rfl,rfl⟩:=Prod.mk.inj h78
 obtain ⟨Y7,G7,s7,k7⟩:=step Y6 G6 s6 X7 hF7
 refine ⟨r7,r8,rfl,k7,fun h7=>?_,fun h7=>?_⟩
 ·unfold Sp.jAV;rw [if_pos (by simpa using h7)]
  exact ⟨rfl,rfl,F7,hP7,Y7,fun b hb=>fin b G7 hb⟩
 rw [Sp.jAV,if_neg (by simpa using h7)]
 refine (c_Sign p w7 hP7 ok7 who r7).mono ?_
 rintro _ w8 ⟨r9,r10,rfl,h90,F8,hP8,X8,hF8⟩
 obtain ⟨e9,e10⟩:=Prod.mk.inj h90
 obtain ⟨Y8,G8,_,k8⟩:=step Y7 G7 s7 X8 hF8
 exact ⟨r9,r10,rfl,k8,e9,e10,F8,hP8,Y8,fun b hb=>fin b G8 hb⟩
end Go.Proofs
end
section
open Go Go.SE
namespace Go.Sp
theorem jBC {L:Pool} (h:Wf L) (l:Letter):Wf (Go.Proofs.yW L l).2.2:=by
 unfold Go.Proofs.yW;split
 ·exact h
 ·exact of_wf h _
theorem jNJ {L:Pool} (h:Wf L) (a b:Int):Wf (tM L a b).2.2:=by
 unfold tM;split
 ·exact h
 ·split
  ·exact h
  ·exact jBC h _
theorem jEP {m:Int×Int×Pool} {f:Int→Pool→Int×Int×Pool} (h:Wf m.2.2) (hf:∀t L,Wf L→Wf (f t L).2.2):Wf (jAV m f).2.2:=by
 unfold jAV;split
 ·exact h
 ·exact hf _ _ h
theorem jOQ {L:Pool} (h:Wf L) (who a b:Int):Wf (jHJ L who a b).2.2:=by
 unfold jHJ;split
 ·exact h
 ·split
  ·exact h
  ·exact jEP (jDH h _) fun t L h=>jEP (jDH h _) fun d L h=>jEP (jDH h _) fun t L h=>jDH h _
def x12:ByteArray:=⟨#[120]⟩
def v1:Pool:=(Go.Proofs.yW [] ⟨1,0,7,x12,false⟩).2.2
def v2:Pool:=(Go.Proofs.yW v1 ⟨1,1,7,x12,false⟩).2.2
def v3:Pool:=(tM v2 6 7).2.2
def v4:Pool:=(jHJ v3 1 6 7).2.2
theorem lv1:(Go.Proofs.yW [] ⟨1,0,7,x12,false⟩).1=6:=by kernel_rfl
theorem lv2:(Go.Proofs.yW v1 ⟨1,1,7,x12,false⟩).1=7:=by kernel_rfl
theorem lv3:(tM v2 6 7).1=10∧(tM v2 6 7).2.1=0:=by constructor <;> kernel_rfl
theorem lv4:tM v3 6 6=(0,122,v3):=by kernel_rfl
theorem lv5:tM v3 6 10=(0,120,v3):=by kernel_rfl
theorem lv6:(jHJ v3 1 6 7).1=14∧(jHJ v3 1 6 7).2.1=0:=by constructor <;> kernel_rfl
theorem lv7:tJ v4 14=(⟨4,1,7,x12,false⟩,true):=by kernel_rfl
theorem lv8:jNT v4 10 0 7 x12=0∧jNT v4 6 0 7 x12=2∧(ofS v4 10).length=3:=by refine ⟨?_,?_,?_⟩ <;> kernel_rfl
theorem lvw2:Wf v2:=jBC (jBC Wf.nil _) _
theorem lvw3:Wf v3:=jNJ lvw2 _ _
theorem lvw4:Wf v4:=jOQ lvw3 _ _ _
theorem lvn:(∀t:Int,(t=14∨t=13∨t=12∨t=11∨t=6∨t=7∨t=5∨t=1∨t=4∨t=2∨t=3)→∀r u,uY v4 r t u→(u=14∨u=13∨u=12∨u=11∨u=6∨u=7∨u=5∨u=1∨u=4∨u=2∨u=3)):=by
 have n14:zH v4 14=⟨7,1,0,0,⟨#[]⟩,13,0⟩:=by kernel_rfl
 have n13:zH v4 13=⟨4,0,0,0,⟨#[]⟩,12,11⟩:=by kernel_rfl
 have n12:zH v4 12=⟨3,0,0,0,tV,0,0⟩:=by kernel_rfl
 have n11:zH v4 11=⟨4,0,0,0,⟨#[]⟩,6,7⟩:=by kernel_rfl
 have n6:zH v4 6=⟨8,0,1,0,⟨#[]⟩,5,0⟩:=by kernel_rfl
 have n7:zH v4 7=⟨8,1,0,0,⟨#[]⟩,5,0⟩:=by kernel_rfl
 have n5:zH v4 5=⟨4,0,0,0,⟨#[]⟩,1,4⟩:=by kernel_rfl
 have n1:zH v4 1=⟨3,0,0,0,⟨#[100,101,97,108]⟩,0,0⟩:=by kernel_rfl
 have n4:zH v4 4=⟨4,0,0,0,⟨#[]⟩,2,3⟩:=by kernel_rfl
 have n2:zH v4 2=⟨2,0,0,7,⟨#[]⟩,0,0⟩:=by kernel_rfl
 have n3:zH v4 3=⟨3,0,0,0,x12,0,0⟩:=by kernel_rfl
 intro t ht r u ha;unfold uY at ha;rcases ht with rfl | rfl | rfl | rfl | rfl | rfl | rfl | rfl | rfl | rfl | rfl
 ·rw [n14] at ha;simp [yG] at ha;omega
 ·rw [n13] at ha;simp [yG] at ha;omega
 ·rw [n12] at ha;simp [yG] at ha
 ·rw [n11] at ha;simp [yG] at ha;omega
 ·rw [n6] at ha;simp [yG] at ha;omega
 ·rw [n7] at ha;simp [yG] at ha;omega
 ·rw [n5] at ha;simp [yG] at ha;omega
 ·rw [n1] at ha;simp [yG] at ha
 ·rw [n4] at ha;simp [yG] at ha;omega
 ·rw [n2] at ha;simp [yG] at ha
 ·rw [n3] at ha;simp [yG] at ha
theorem lv9 {fs:List Fact} (h:jIF v4 (tA v4 [14]) fs):fs.length=3:=by
 have hg:tA v4 [14]=[14]:=by kernel_rfl
 have e14:ofS v4 14=[⟨4,1,7,x12⟩,⟨1,0,7,x12⟩,⟨1,1,7,x12⟩]:=by kernel_rfl
 rw [hg] at h;have hs:([⟨1,0,7,x12⟩,⟨1,1,7,x12⟩,⟨4,1,7,x12⟩]:List Fact).Pairwise LtF:=by
  simp [LtF]
 have:fs=[⟨1,0,7,x12⟩,⟨1,1,7,x12⟩,⟨4,1,7,x12⟩]:=by
  refine jCR h.1 hs fun x=>(h.2 x).trans ⟨?_,fun hx=>⟨14,.given (by simp),?_⟩⟩
  ·rintro ⟨t,ht,hx⟩;have hin:t=14∨t=13∨t=12∨t=11∨t=6∨t=7∨t=5∨t=1∨t=4∨t=2∨t=3:=by
    clear hx;induction ht with
    | given hg=>simp at hg;simp [hg]
    | aris _ ha ih=>exact lvn _ ih _ _ ha
   rcases hin with rfl | rfl | rfl | rfl | rfl | rfl | rfl | rfl | rfl | rfl | rfl
   ·rw [e14] at hx;simp at hx ⊢;rcases hx with h | h | h <;> simp [h]
   ·rw [show ofS v4 13=[] by kernel_rfl] at hx;simp at hx
   ·rw [show ofS v4 12=[] by kernel_rfl] at hx;simp at hx
   ·rw [show ofS v4 11=[] by kernel_rfl] at hx;simp at hx
   ·rw [show ofS v4 6=[⟨1,0,7,x12⟩] by kernel_rfl] at hx;simp at hx;simp [hx]
   ·rw [show ofS v4 7=[⟨1,1,7,x12⟩] by kernel_rfl] at hx;simp at hx;simp [hx]
   ·rw [show ofS v4 5=[] by kernel_rfl] at hx;simp at hx
   ·rw [show ofS v4 1=[] by kernel_rfl] at hx;simp at hx
   ·rw [show ofS v4 4=[] by kernel_rfl] at hx;simp at hx
   ·rw [show ofS v4 2=[] by kernel_rfl] at hx;simp at hx
   ·rw [show ofS v4 3=[] by kernel_rfl] at hx;simp at hx
  ·rw [e14];simp at hx ⊢;rcases hx with h | h | h <;> simp [h]
 rw [this];rfl
end Go.Sp
end
section
open Go Go.SE
namespace Go.Proofs
attribute [local irreducible] Calls
structure Mine (w0:World) (p:Addr) (L:Sp.Pool) (F:NP) (w:World):Prop where
 pool:vE w p L F
 own:∀b,F b→w0.heap.size≤b
 pure:Pure w0 w
theorem Mine.then {w0 w w':World} {p:Addr} {L:Sp.Pool} {F:NP} (h:Mine w0 p L F w) (E:Pure w w'):Mine w0 p L F w':=⟨h.pool.pure E,h.own,h.pure.trans E⟩
theorem Mine.mk' {w0 w w':World} {p:Addr} {L:Sp.Pool} {F:NP} {S:Int×Int×Sp.Pool} (h:Mine w0 p L F w) (m:MkP S p F w w'):∃F',Mine w0 p S.2.2 F' w'∧Kept None w w':=by
 obtain ⟨F',hP,X,hF⟩:=m;exact ⟨F',⟨hP,fun b hb=>(hF b hb).elim (h.own b) (fun h'=>by have:=h.pure.size;omega),h.pure.trans' X (fun i hi hf=>by have:=h.own i hf;omega)⟩,X.kept (fun b h=>h.elim)⟩
theorem jIZ (w0:World):Calls Tryz.prog 24 #[] w0 (fun e w'=>∃r:Bool,e=.returned (.bool r)∧(r=true∧Pure w0 w')):=by
 refine w_J w0 (fun r w'=>r=true∧Pure w0 w') ?_;unfold m_J;refine (c_New w0).mono ?_;rintro _ w1 ⟨_,rfl,p,rfl,E1,F1,hP1,hF1⟩;have M1:Mine w0 p [] F1 w1:=⟨hP1,hF1,E1⟩;refine ⟨_,rfl,E1.keptP,Br.f rfl ?_⟩;refine (jHY p ⟨1,0,7,Sp.x12,false⟩ w1 M1.pool Sp.Wf.nil.ok).mono ?_;rintro _ w2 ⟨r2,r3,rfl,e2,_,m2⟩;obtain ⟨F2,M2,k2⟩:=M1.mk' m2;obtain rfl:r2=6:=e2.trans Sp.lv1;refine ⟨_,_,rfl,k2,?_⟩;refine (jHY p ⟨1,1,7,Sp.x12,false⟩ w2 M2.pool (Sp.jBC Sp.Wf.nil _).ok).mono ?_;rintro _ w3 ⟨r4,r5,rfl,e4,_,m3⟩;obtain ⟨F3,M3,k3⟩:=M2.mk' m3;obtain rfl:r4=7:=e4.trans Sp.lv2;refine ⟨_,_,rfl,k3,?_⟩;have M3:Mine w0 p Sp.v2 F3 w3:=M3;refine (tP p 6 7 w3 M3.pool Sp.lvw2.ok).mono ?_;rintro _ w4 ⟨r6,r7,rfl,e6,e7,m4⟩;obtain ⟨F4,M4,k4⟩:=M3.mk' m4;obtain rfl:r6=10:=e6.trans Sp.lv3.1;obtain rfl:r7=0:=e7.trans Sp.lv3.2;refine ⟨_,_,rfl,k4,?_⟩;have M4:Mine w0 p Sp.v3 F4 w4:=M4;refine (tP p 6 6 w4 M4.pool Sp.lvw3.ok).mono ?_;rintro _ w5 ⟨r8,r9,rfl,e8,e9,m5⟩;rw [Sp.lv4] at e8 e9 m5;obtain ⟨F5,M5,k5⟩:=M4.mk' m5;obtain rfl:r9=122:=e9;refine ⟨_,_,rfl,k5,?_⟩;have M5:Mine w0 p Sp.v3 F5 w5:=M5;refine (tP p 6 10 w5 M5.pool Sp.lvw3.ok).mono ?_;rintro _ w6 ⟨r10,r11,rfl,e10,e11,m6⟩;rw [Sp.lv5] at e10 e11 m6;obtain ⟨F6,M6,k6⟩:=M5.mk' m6;obtain rfl:r11=120:=e11;refine ⟨_,_,rfl,k6,?_⟩;have M6:Mine w0 p Sp.v3 F6 w6:=M6;refine (jGV p 1 6 7 w6 M6.pool Sp.lvw3.ok).mono ?_;rintro _ w7 ⟨r12,r13,rfl,e12,e13,m7⟩;obtain ⟨F7,M7,k7⟩:=M6.mk' m7;obtain rfl:r12=14:=e12.trans Sp.lv6.1;obtain rfl:r13=0:=e13.trans Sp.lv6.2;refine ⟨_,_,rfl,k7,?_⟩;have M7:Mine w0 p Sp.v4 F7 w7:=M7;have hok:=Sp.lvw4.ok;refine (tD p 14 w7 M7.pool hok).mono ?_;rintro _ w8 ⟨kd,f,c,x,fk,ok,rfl,hrd,E8⟩;rw [Sp.lv7] at hrd;injection hrd with h1 h2;injection h1 with ha hb hc hd he;subst ha;subst hb;subst h2;refine ⟨_,_,_,_,_,_,rfl,E8.keptP,?_⟩;rintro _ rfl;refine Br.t rfl fun H7 w23 hs23=>?_;have M8:Mine w0 p Sp.v4 F7 w8:=M7.then E8;have E23:=M8.pure.hst hs23;have hP23:=M8.pool.ext hs23.ext (hs23.disj (fun b hb=>⟨M8.pool.lt hb,id⟩));have hx:(⟨#[120]⟩:ByteArray)=Sp.x12:=rfl;refine (jEG p 10 0 7 Sp.x12 w23 hP23 hok).mono ?_;rintro _ w29 ⟨_,rfl,rfl,E29⟩;refine ⟨_,rfl,E29.keptP,?_⟩;unfold m_J_j1;refine Br.t (by rw [Sp.lv8.1];rfl) ?_;have hP29:=hP23.pure E29;refine (jEG p 6 0 7 Sp.x12 w29 hP29 hok).mono ?_;rintro _ w28 ⟨_,rfl,rfl,E28⟩;refine ⟨_,rfl,E28.keptP,?_⟩;unfold m_J_j2;refine Br.t (by rw [Sp.lv8.2.1];rfl) ?_;have hP28:=hP29.pure E28;refine (jJC (some p) 6 0 7 Sp.x12 w28 hP28 hok).mono ?_;rintro _ w27 ⟨_,rfl,rfl,E27⟩;refine ⟨_,rfl,E27.keptP,?_⟩;unfold m_J_j3;refine Br.t (by rw [Sp.lv8.2.1];rfl) ?_;have hP27:=hP28.pure E27;refine (jMB (some p) 10 w27 hP27 hok).mono ?_;rintro _ w26 ⟨r16,rfl,hr16⟩;refine ⟨_,rfl,hr16.kept,?_⟩;unfold m_J_j4;refine Br.t (by rw [hr16.rows.len,List.length_map,Sp.lv8.2.2];rfl) fun p2 w24 h24=>?_;have R2:Rws w24 78 1 ⟨some p2,1,1⟩ (tmr [14]):=Rws.lit (rs:=tmr [14]) h24 rfl (by intro q hq;obtain ⟨t,_,rfl⟩:=List.mem_map.1 hq;rfl) (by simp [tmr,maxLen]);have E24:=hr16.pure.trans (Ext.new (F:=None) h24);refine (jJD p ⟨some p2,1,1⟩ [14] w24 (hP27.pure E24) Sp.lvw4 R2.lst (by simp)).mono ?_;rintro _ w25 ⟨r15,rfl,fs,hr15,hall⟩;refine ⟨_,rfl,hr15.kept,?_,((((E23.trans E29).trans E28).trans E27).trans E24).trans hr15.pure⟩;rw [hr15.rows.len,List.length_map,Sp.lv9 hall.1];rfl
end Go.Proofs
end
section
open Go Go.SE
open Go.IntKind renaming i64 → q6
namespace Go.Proofs
set_option maxRecDepth 100000
set_option maxHeartbeats 4000000
attribute [local irreducible] wpL wpX opE wpE Calls
def m_L1_l1 (bB bH:Sl) (i1:Int) (Hl1:NP) (wl1:World) (Kc1:Int→NP→WP) (K:Bool→WP):Prop :=Br (decide (i1<(bB.len:Int))) (∃C1:WP,C1 wl1.drew∧∀w12,w12=wl1.drew→∃a1:Addr,At bB i1 6 a1∧∃aO aP aQ aR aS bI,(∀w',C1 w'→Row w' a1 (Ab aO aP aQ aR aS bI))∧∃a2:Addr,At bH i1 6 a2∧∃bO bP bQ bR bS bT,(∀w',C1 w'→Row w' a2 (Ab bO bP bQ bR bS bT))∧Calls Tryz.prog 47 #[(.agg #[(vi aO),(vi aP),(vi aQ),(vu aR),(vs aS),bI.v]),(.agg #[(vi bO),(vi bP),(vi bQ),(vu bR),(vs bS),bT.v])] w12 (fun e w13=>∃r1,e=.returned (vb r1)∧C1 w13∧Kept Hl1 w12 w13∧Br (!r1) (K false w13) (Kc1 (q6.wrap (i1+1)) Hl1 w13))) (K true wl1)
def m_L1 (aX aZ:Int) (bC bF:Int) (bK:ByteArray) (bB:Sl) (aY bA:Int) (bD bG:Int) (bL:ByteArray) (bH:Sl) (w0:World) (K:Bool→WP):Prop :=∀y1:Bool,y1=((((((aX != aY) || (aZ != bA)) || (bC != bD)) || (bF != bG)) || (!(decide (bK=bL)))) || (((bB.len:Int):Int) != (bH.len:Int)))→Br y1 (∀H7 w7,Hst w0 None w0 H7 w7→K false w7) (∀H7 w7,Hst w0 None w0 H7 w7→∃(I1:Int→NP→WP) (mu1:Int→World→Nat),I1 0 H7 w7∧∀(i1:Int) (Hl1:NP) (wl1:World),Hst w0 Hl1 wl1 Hl1 wl1→I1 i1 Hl1 wl1→m_L1_l1 bB bH i1 Hl1 wl1 (fun y'0 H' w'=>I1 y'0 H' w'∧mu1 y'0 w'<mu1 i1 wl1) K)
theorem w_L1 (aX aZ bC bF bK bB aY bA bD bG bL bH w0 K) (h:m_L1 aX aZ bC bF bK bB aY bA bD bG bL bH w0 K):
  Calls Tryz.prog 47 #[(.agg #[(vi aX),(vi aZ),(vi bC),(vu bF),(vs bK),bB.v]),(.agg #[(vi aY),(vi bA),(vi bD),(vu bG),(vs bL),bH.v])] w0 (fun e w'=>∃r2,e=.returned (vb r2)∧K r2 w'):=by
 refine cw (args:=[(Aa aX aZ bC bF bK bB),(Aa aY bA bD bG bL bH)]) Tryz.func47 Tryz.ntmps47 ?_
 obtain ⟨hs,hb⟩:=st0 w0
 refine eg (nw3 (Ab aX aZ bC bF bK bB) 107 hs hb xb fun p1 w1 H1 hs hb=>nw3 (Ab aY bA bD bG bL bH) 107 hs hb xb fun p2 w2 H2 hs hb=>q (ln (zA (zA (vQ (fun ρ wJ=>∃b5'0 y1:Bool,∃HJ:NP,((((((aX != aY) || (aZ != bA)) || (bC != bD)) || (bF != bG)) || (!(decide (bK=bL))))=b5'0)∧(y1=(b5'0 || (((bB.len:Int):Int) != (bH.len:Int))))∧Hst w0 None w0 HJ wJ∧HB HJ wJ [(p2,(Ab aY bA bD bG bL bH),107),(p1,(Ab aX aZ bC bF bK bB),107)]∧Has ρ [(2,(vp (some p1))),(3,(vp (some p2))),(47,(vb y1))]) ?_ ?_)))))
 refine rg (q (q3 (xl (Tryz.isAgg3 _) (hb.d0 1 (gS gZ))) (q (q3 (xl (Tryz.isAgg3 _) (hb.d0 0 gZ)) (qb (zN 6 (fun ρ wJ=>∃b6'0:Bool,∃HJ:NP,((aX != aY)=b6'0)∧Hst w0 None w0 HJ wJ∧HB HJ wJ [(p2,(Ab aY bA bD bG bL bH),107),(p1,(Ab aX aZ bC bF bK bB),107)]∧Has ρ [(2,(vp (some p1))),(3,(vp (some p2))),(17,(vb (b6'0 || (aZ != bA))))]) ?_ ?_))))))
 rintro ρ w8 ⟨b6'0,H8,he0,hs,hb,hH⟩
 subst he0
 refine zQ hH (q (zN 6 (fun ρ wJ=>∃b7'0:Bool,∃HJ:NP,(((aX != aY) || (aZ != bA))=b7'0)∧Hst w0 None w0 HJ wJ∧HB HJ wJ [(p2,(Ab aY bA bD bG bL bH),107),(p1,(Ab aX aZ bC bF bK bB),107)]∧Has ρ [(2,(vp (some p1))),(3,(vp (some p2))),(24,(vb (b7'0 || (bC != bD))))]) ?_ ?_))
 rintro ρ w9 ⟨b7'0,H9,he0,hs,hb,hH⟩
 subst he0
 refine zQ hH (q (zN 6 (fun ρ wJ=>∃b8'0:Bool,∃HJ:NP,((((aX != aY) || (aZ != bA)) || (bC != bD))=b8'0)∧Hst w0 None w0 HJ wJ∧HB HJ wJ [(p2,(Ab aY bA bD bG bL bH),107),(p1,(Ab aX aZ bC bF bK bB),107)]∧Has ρ [(2,(vp (some p1))),(3,(vp (some p2))),(31,(vb (b8'0 || (bF != bG))))]) ?_ ?_))
 rintro ρ w10 ⟨b8'0,H10,he0,hs,hb,hH⟩
 subst he0
 refine zQ hH (q (zN 6 (fun ρ wJ=>∃b9'0:Bool,∃HJ:NP,(((((aX != aY) || (aZ != bA)) || (bC != bD)) || (bF != bG))=b9'0)∧Hst w0 None w0 HJ wJ∧HB HJ wJ [(p2,(Ab aY bA bD bG bL bH),107),(p1,(Ab aX aZ bC bF bK bB),107)]∧Has ρ [(2,(vp (some p1))),(3,(vp (some p2))),(38,(vb (b9'0 || (!(decide (bK=bL))))))]) ?_ ?_))
 rintro ρ w11 ⟨b9'0,H11,he0,hs,hb,hH⟩
 subst he0
 refine zQ hH (q ?_)
 rcases Bool.eq_false_or_eq_true (((((aX != aY) || (aZ != bA)) || (bC != bD)) || (bF != bG)) || (!(decide (bK=bL)))) with hg18 | hg18
 refine sj2 39 hg18 (sj5 39 hg18 (q2 (vb true) (xT hg18) (ln ⟨true,_,_,hg18,rfl,hs,hb,hm⟩)))
 refine qk 39 hg18 (q4 39 hg18 (xl (Tryz.isAgg66 _) (hb.d 1 5 (gS gZ))) (qk 39 hg18 (qk 39 hg18 (q4 39 hg18 (xl (Tryz.isAgg66 _) (hb.d 0 5 gZ)) (qk 39 hg18 (qk 39 hg18 (q2 (vb (((bB.len:Int):Int) != (bH.len:Int))) (xF hg18) (ln ⟨false,_,_,hg18,rfl,hs,hb,hm⟩))))))))
 rcases Bool.eq_false_or_eq_true ((((aX != aY) || (aZ != bA)) || (bC != bD)) || (bF != bG)) with hg17 | hg17
 refine sj5 32 hg17 (q2 (vb true) (xT hg17) (zC ⟨true,_,hg17,hs,hb,hm⟩))
 refine qk 32 hg17 (q4 32 hg17 (xl (Tryz.isAgg9 _) (hb.d 1 4 (gS gZ))) (qk 32 hg17 (q4 32 hg17 (xl (Tryz.isAgg9 _) (hb.d 0 4 gZ)) (stq (v:=(vb (!(decide (bK=bL))))) (wy 32 hg17) (uM (by kernel_rfl) (by kernel_rfl)) (q2 (vb (!(decide (bK=bL)))) (xF hg17) (zC ⟨false,_,hg17,hs,hb,hm⟩))))))
 rcases Bool.eq_false_or_eq_true (((aX != aY) || (aZ != bA)) || (bC != bD)) with hg15 | hg15
 refine sj5 25 hg15 (q2 (vb true) (xT hg15) (zC ⟨true,_,hg15,hs,hb,hm⟩))
 refine qk 25 hg15 (q4 25 hg15 (xl (Tryz.isAgg23 _) (hb.d 1 3 (gS gZ))) (qk 25 hg15 (q4 25 hg15 (xl (Tryz.isAgg23 _) (hb.d 0 3 gZ)) (qk 25 hg15 (q2 (vb (bF != bG)) (xF hg15) (zC ⟨false,_,hg15,hs,hb,hm⟩))))))
 rcases Bool.eq_false_or_eq_true ((aX != aY) || (aZ != bA)) with hg13 | hg13
 refine sj5 18 hg13 (q2 (vb true) (xT hg13) (zC ⟨true,_,hg13,hs,hb,hm⟩))
 refine qk 18 hg13 (q4 18 hg13 (xl (Tryz.isAgg3 _) (hb.d 1 2 (gS gZ))) (qk 18 hg13 (q4 18 hg13 (xl (Tryz.isAgg3 _) (hb.d 0 2 gZ)) (qk 18 hg13 (q2 (vb (bC != bD)) (xF hg13) (zC ⟨false,_,hg13,hs,hb,hm⟩))))))
 rcases Bool.eq_false_or_eq_true (aX != aY) with hg11 | hg11
 refine sj5 11 hg11 (q2 (vb true) (xT hg11) (zC ⟨true,_,hg11,hs,hb,hm⟩))
 refine qk 11 hg11 (q4 11 hg11 (xl (Tryz.isAgg3 _) (hb.d 1 1 (gS gZ))) (qk 11 hg11 (q4 11 hg11 (xl (Tryz.isAgg3 _) (hb.d 0 1 gZ)) (qk 11 hg11 (q2 (vb (aZ != bA)) (xF hg11) (zC ⟨false,_,hg11,hs,hb,hm⟩))))))
 rintro ρ w7 ⟨b5'0,y1,H7,he0,hy1,hs,hb,hH⟩
 subst he0
 have h:=h y1 hy1
 refine vI hH (zO (cbr h ?_ ?_))<;>intro h
 refine eg (q (ln (er (zY ?_))))
 have ⟨h,hs⟩:=hs.hr (h H7 w7)
 refine rs1 Tryz.results47 ⟨false,rfl,h⟩
 refine zB (zO (zA (eg (q (ln (zJ ?_))))))
 have ⟨h,hs⟩:=hs.hr (h H7 w7)
 obtain ⟨I1,mu1,h0,hr⟩:=h
 refine vH (σ:=Int×NP×World) (fun s ρ w=>w=s.2.2∧Has ρ [(2,(vp (some p1))),(3,(vp (some p2))),(5,(vi s.1))]∧Hst w0 s.2.1 w s.2.1 w∧HB s.2.1 w [(p2,(Ab aY bA bD bG bL bH),107),(p1,(Ab aX aZ bC bF bK bB),107)]∧I1 s.1 s.2.1 s.2.2) (fun s=>mu1 s.1 s.2.2) (0,H7,w7) ⟨rfl,hm,hs,hb,h0⟩ ?_
 rintro ⟨i1,Hl1,wl1⟩ ρ w ⟨hw,hH,hs,hb,hI⟩
 dsimp only at hw hH hs hb;subst w
 have h:=hr i1 Hl1 wl1 hs hI
 refine zU hH (zA (eg (qb (q3 (xl (Tryz.isAgg66 _) (hb.d 1 5 (gS gZ))) (qb (ln (cbr h ?_ ?_)))))))<;>intro h
 refine zB (zO (zA (zJ (zA ?_))))
 obtain ⟨C1,hC,h⟩:=h
 refine dr2 (fun x=>C1 x∧HB Hl1 x _) [10] [] ⟨hC,hb.drew⟩ h hs hb fun w12 hs hb h=>?_
 have hs:=hs.here
 refine qx 0 (vp (some (p1.add 5))) Kp0 (qz 1 bB.v Kp1 (fun w' hw'=>(xl (Tryz.isAgg66 _) (hw'.2.cell 1 5 (gS gZ) (by kernel_rfl)))) (qx 2 (vi i1) Kp2 (qg 3 ?_)))
 obtain ⟨a1,hv4,h⟩:=h
 refine sy Kp3 (fun _ _=>xi (Tryz.runUnderlying66 _) (Tryz.sizeOf107 _) hv4) (qg 4 ?_)
 obtain ⟨aO,aP,aQ,aR,aS,bI,hv3,h⟩:=h
 refine sy (v:=(Aa aO aP aQ aR aS bI)) Kp4 (fun w' hw'=>(xa a1 (Ab aO aP aQ aR aS bI) (Tryz.isAgg107 _) (Tryz.sizeOf107 _) (hv3 w' hw'.1))) (qx 5 (vp (some (p2.add 5))) Kp5 (qz 6 bH.v Kp6 (fun w' hw'=>(xl (Tryz.isAgg66 _) (hw'.2.cell 0 5 gZ (by kernel_rfl)))) (qx 7 (vi i1) Kp7 (qg 8 ?_))))
 obtain ⟨a2,hv2,h⟩:=h
 refine sy Kp8 (fun _ _=>xi (Tryz.runUnderlying66 _) (Tryz.sizeOf107 _) hv2) (qg 9 ?_)
 obtain ⟨bO,bP,bQ,bR,bS,bT,hv1,h⟩:=h
 refine sy (v:=(Aa bO bP bQ bR bS bT)) Kp9 (fun w' hw'=>(xa a2 (Ab bO bP bQ bR bS bT) (Tryz.isAgg107 _) (Tryz.sizeOf107 _) (hv1 w' hw'.1))) (lg 10 (zL (zS (S8 (zI (zI zR)))) (zD rfl) (by kernel_rfl) (xc Tryz.call47) (h.mono ?_)))
 rintro e w13 ⟨r1,rfl,hC,hk,h⟩
 refine ⟨_,rfl,.inr ⟨hC,hb.kept hk⟩,?_⟩
 obtain ⟨hs,hb⟩:=hk.hh hs hb
 refine qx 11 (vb (!r1)) (zS (S8 (zI (zI (zI zR))))) (wn (zO (cbr h ?_ ?_)))<;>intro h
 refine eg (q (ln (er (qN (zY (zY (qN (zY (rs1 Tryz.results47 ⟨false,rfl,h⟩)))))))))
 refine zB (yQ (zO (rg (qc (ln ⟨((q6.wrap (i1+1)),Hl1,w13),⟨rfl,hm,hs,hb,h.1⟩,h.2⟩)))))
 refine vF (yM (yM (yK (zO (eg (q0 (vb true) (ln (er (rs1 Tryz.results47 ⟨true,rfl,h⟩)))))))))
def m_C4 (p1:Option Addr) (t1:Int) (w0:World) (K:Bool→WP):Prop :=Br (decide (t1≥1)) (∃a1,p1=some a1∧∃v1:Sl,w0.cell? a1=some v1.v∧K (decide (t1≤(v1.len:Int))) w0) (K false w0)
theorem w_C4 (p1 t1 w0 K) (h:m_C4 p1 t1 w0 K):
  Calls Tryz.prog 87 #[(vp p1),(vi t1)] w0 (fun e w'=>∃r1,e=.returned (vb r1)∧K r1 w'):=by
 refine cw (args:=[(vp p1),(vi t1)]) Tryz.func87 Tryz.ntmps87 (eg (q0 (vb false) (ln (eg (q0 (vi t1) (q0 (vb (decide (t1≥1))) (q0 (vb (decide (t1≥1))) ?_)))))))
 rcases Bool.eq_false_or_eq_true (decide (t1≥1)) with hg1 | hg1
 have h:=h.1 hg1
 refine qk 7 hg1 (qk 7 hg1 ?_)
 obtain ⟨a1,hp1,h⟩:=h
 refine stq (v:=(vp (some a1))) (wy 7 hg1) (zG (p:=p1) (by kernel_rfl) hp1) (qk 7 hg1 ?_)
 obtain ⟨v1,hv1,h⟩:=h
 refine q4 7 hg1 (xl (Tryz.isAgg41 _) hv1) (qk 7 hg1 (qk 7 hg1 (q2 (vb (decide (t1≤(v1.len:Int)))) (xT hg1) (q (ln (er (rs1 Tryz.results87 ⟨(decide (t1≤(v1.len:Int))),rfl,h⟩)))))))
 have h:=h.2 hg1
 refine sj2 7 hg1 (sj5 7 hg1 (q2 (vb false) (xF hg1) (q (ln (er (rs1 Tryz.results87 ⟨false,rfl,h⟩))))))
def m_D4 (p1:Option Addr) (t1:Int) (w0:World) (K:Int→Int→Int→Int→ByteArray→Int→Int→Bool→WP):Prop :=∀H1 w1,Hst w0 None w0 H1 w1→Calls Tryz.prog 87 #[(vp p1),(vi t1)] w1 (fun e w2=>∃r1,e=.returned (vb r1)∧Kept H1 w1 w2∧Br (!r1) (∀w3,Hst w0 H1 w2 H1 w3→K 0 0 0 0 ⟨#[]⟩ 0 0 false w3) (∃a1,p1=some a1∧∃v1:Sl,w2.cell? a1=some v1.v∧∃a2:Addr,At v1 (q6.wrap (t1 - 1)) 7 a2∧∃aO aP aQ aR aS bM bN,Row w2 a2 (Ad aO aP aQ aR aS bM bN)∧∀w4,Hst w0 H1 w2 H1 w4→K aO aP aQ aR aS bM bN true w4))
theorem w_D4 (p1 t1 w0 K) (h:m_D4 p1 t1 w0 K):
  Calls Tryz.prog 104 #[(vp p1),(vi t1)] w0 (fun e w'=>∃aN aT aU aV aW bJ bE r2,e=.returned (.tuple #[(Ae aN aT aU aV aW bJ bE),(vb r2)])∧K aN aT aU aV aW bJ bE r2 w'):=by
 refine cw (args:=[(vp p1),(vi t1)]) Tryz.func104 Tryz.ntmps104 ?_
 obtain ⟨hs,hb⟩:=st0 w0
 refine eg (nw3 (Ad 0 0 0 0 (⟨#[]⟩) 0 0) 176 hs hb (zM (Tryz.zeroValue176 _) rfl) fun p2 w1 H1 hs hb=>q (ln (zA (eg (qb ?_)))))
 have ⟨h,hs⟩:=hs.hr (h H1 w1)
 refine sc Tryz.call87 (h.mono fun e w2 ⟨r1,k,hk,h⟩=>have ⟨hs,hb⟩:=hk.hh hs hb;⟨_,k,?_⟩)
 refine q (ln (cbr h ?_ ?_))<;>intro h
 refine eg (q (zK (zD rfl) (xo p2 (Ad 0 0 0 0 (⟨#[]⟩) 0 0) (Tryz.sizeOf176 _) (hb.k0 0 7 gZ)) ?_))
 intro w3 hn2
 obtain ⟨hs,hb⟩:=hb.st1 0 hs hn2 gZ
 refine q (ln (er (zY ?_)))
 have ⟨h,hs⟩:=hs.hr (h w3)
 refine tI (.inl rfl) (vs:=[(Ae 0 0 0 0 (⟨#[]⟩) 0 0),(vb false)]) (v:=(.tuple #[(Ae 0 0 0 0 (⟨#[]⟩) 0 0),(vb false)])) Tryz.results104 ⟨(rva (Tryz.isAgg176 _) (Tryz.sizeOf176 _) (hb.r0 0 7 gZ)),(rvT (by kernel_rfl)),trivial⟩ (by kernel_rfl) ⟨0,0,0,0,⟨#[]⟩,0,0,false,rfl,h⟩
 refine zB (zO (eg (q ?_)))
 obtain ⟨a1,hp1,h⟩:=h
 refine q2 (vp (some a1)) (zG (p:=p1) (by kernel_rfl) hp1) (q (ql (Tryz.isAgg41 _) h fun v1 h=>qb (qi (Tryz.runUnderlying41 _) (Tryz.sizeOf176 _) h fun a2 h=>?_)))
 obtain ⟨aO,aP,aQ,aR,aS,bM,bN,hv1,h⟩:=h
 refine qa (Tryz.isAgg176 _) (Tryz.sizeOf176 _) hv1 (zK (zD rfl) (xo p2 (Ad aO aP aQ aR aS bM bN) (Tryz.sizeOf176 _) (hb.k0 0 7 gZ)) ?_)
 intro w4 hn3
 obtain ⟨hs,hb⟩:=hb.st1 0 hs hn3 gZ
 refine q (ln (er ?_))
 have ⟨h,hs⟩:=hs.hr (h w4)
 refine tI (.inl rfl) (vs:=[(Ae aO aP aQ aR aS bM bN),(vb true)]) (v:=(.tuple #[(Ae aO aP aQ aR aS bM bN),(vb true)])) Tryz.results104 ⟨(rva (Tryz.isAgg176 _) (Tryz.sizeOf176 _) (hb.r0 0 7 gZ)),(rvT (by kernel_rfl)),trivial⟩ (by kernel_rfl) ⟨aO,aP,aQ,aR,aS,bM,bN,true,rfl,h⟩
def s_C (kind1:Int):Int :=(cond (kind1 == 4) 2 (cond (cond (kind1 == 5) (kind1 == 5) (cond (kind1 == 7) (kind1 == 7) (cond (kind1 == 8) (kind1 == 8) (kind1 == 9)))) 1 0))
theorem pw_C (kind1:Int) (w0:World) :
  Calls Tryz.prog 105 #[(vi kind1)] w0 (fun e w'=>∃b'0 b'1:Bool,((kind1 == 4)=b'0∧(cond (kind1 == 5) (kind1 == 5) (cond (kind1 == 7) (kind1 == 7) (cond (kind1 == 8) (kind1 == 8) (kind1 == 9))))=b'1)∧(e=.returned (vi (cond b'0 2 (cond b'1 1 0))))∧Pure w0 w'):=by
 refine cw (args:=[(vi kind1)]) Tryz.func105 Tryz.ntmps105 (eg (q0 (vi 0) (ln (zA (eg (q0 (vi kind1) (ln ?_)))))))
 refine zJ (eg (qb (ln (vO (t:=(kind1 == 4)) (by kernel_rfl) (fun hc1=>?_) (fun hc1=>?_)))))
 refine eg (q (ln (er (qN (zY (rs1 Tryz.results105 (v:=(vi 2)) ⟨true,_,⟨hc1,rfl⟩,by kernel_rfl,Ext.refl _⟩))))))
 refine zA (eg (qb (ln (vQ (fun ρ wJ=>∃b1'0 b1'1 b1'2:Bool,((kind1 == 5)=b1'0)∧((kind1 == 7)=b1'1)∧((kind1 == 8)=b1'2)∧w0=wJ∧Has ρ [(6,(vb (cond b1'0 (kind1 == 5) (cond b1'1 (kind1 == 7) (cond b1'2 (kind1 == 8) (kind1 == 9))))))]) ?_ ?_))))
 refine vO (t:=(kind1 == 5)) (by kernel_rfl) (fun hc5=>?_) (fun hc5=>?_)
 refine zB (zO ⟨true,_,_,hc5,rfl,rfl,rfl,hm⟩)
 refine eg (qb (ln (vO (t:=(kind1 == 7)) (by kernel_rfl) (fun hc6=>?_) (fun hc6=>?_))))
 refine zB (zO ⟨false,true,_,hc5,hc6,rfl,rfl,hm⟩)
 refine eg (qb (ln (vO (t:=(kind1 == 8)) (by kernel_rfl) (fun hc7=>?_) (fun hc7=>?_))))
 refine zB (zO ⟨false,false,true,hc5,hc6,hc7,rfl,hm⟩)
 refine rg (qb (ln ⟨false,false,false,hc5,hc6,hc7,rfl,hm⟩))
 rintro ρ w1 ⟨b1'0,b1'1,b1'2,he0,he1,he2,hw,hH⟩
 subst he0
 subst he1
 subst he2
 subst hw
 refine vI hH (zO (vO (t:=(cond (kind1 == 5) (kind1 == 5) (cond (kind1 == 7) (kind1 == 7) (cond (kind1 == 8) (kind1 == 8) (kind1 == 9))))) (by kernel_rfl) (fun hc8=>?_) (fun hc8=>?_)))
 refine eg (q (ln (er (qN (zY (rs1 Tryz.results105 (v:=(vi 1)) ⟨false,true,⟨hc1,hc8⟩,by kernel_rfl,Ext.refl _⟩))))))
 refine zB (yQ (zO (eg (q (ln (er (rs1 Tryz.results105 (v:=(vi 0)) ⟨false,false,⟨hc1,hc8⟩,by kernel_rfl,Ext.refl _⟩)))))))
theorem p_C (kind1:Int) (w0:World):Calls Tryz.prog 105 #[(.int .i64 kind1)] w0 (fun e w'=>e=.returned (.int .i64 (s_C kind1))∧Pure w0 w'):=by
 refine (pw_C kind1 w0).mono ?_;rintro e w' ⟨b'0,b'1,⟨e0,e1⟩,h,E⟩;subst e0;subst e1;exact ⟨h,E⟩
def m_Z_j1 (p1:Option Addr) (aN bE:Int) (aE aI:Int) (aJ aK:Int) (aL:ByteArray) (aH:Sl) (w0:World) (H:NP) (w:World) (K:Int→Int→Int→Int→ByteArray→Sl→WP):Prop :=Br (((s_C aN):Int) == 2) (∀w9,Hst w0 H w H w9→∃C1:WP,C1 w9.drew∧∀w10,w10=w9.drew→Calls Tryz.prog 49 #[(vp p1),(vi bE)] w10 (fun e w11=>∃bU bV bW bX bY bZ,e=.returned (Aa bU bV bW bX bY bZ)∧C1 w11∧Kept H w10 w11∧∀p5 w12,New w11 (.cells #[(vi bU),(vi bV),(vi bW),(vu bX),(vs bY),bZ.v] 107) p5 w12→C1 w12∧∃s1:Sl,∃w13:World,(Builtin.append_ #[66,66] 66 #[aH.v,(Sl.mk (some p5) 1 1).v]).run Tryz.prog w12=.ok s1.v w13∧C1 w13∧Kept H w12 w13∧∀w15,Hst w0 H w13 H w15→K aE aI aJ aK aL s1 w15)) (∀w16,Hst w0 H w H w16→K aE aI aJ aK aL aH w16)
def m_Z (p1:Option Addr) (t1:Int) (w0:World) (K:Int→Int→Int→Int→ByteArray→Sl→WP):Prop :=∀H1 w1,Hst w0 None w0 H1 w1→Calls Tryz.prog 104 #[(vp p1),(vi t1)] w1 (fun e w2=>∃aN aT aU aV aW bJ bE r1,e=.returned (.tuple #[(Ae aN aT aU aV aW bJ bE),(vb r1)])∧Kept H1 w1 w2∧Br (!r1) (∀H2 w5,Hst w0 H1 w2 H2 w5→K 0 0 0 0 ⟨#[]⟩ Sl.nil w5) (Br (decide ((s_C aN)≥1)) (∀H3 w8,Hst w0 H1 w2 H3 w8→∃C2:WP,C2 w8.drew∧∀w17,w17=w8.drew→Calls Tryz.prog 49 #[(vp p1),(vi bJ)] w17 (fun e w18=>∃cA cB cC cD cE cF,e=.returned (Aa cA cB cC cD cE cF)∧C2 w18∧Kept H3 w17 w18∧∀p6 w19,New w18 (.cells #[(vi cA),(vi cB),(vi cC),(vu cD),(vs cE),cF.v] 107) p6 w19→C2 w19∧∃s2:Sl,∃w20:World,(Builtin.append_ #[66,66] 66 #[Sl.nil.v,(Sl.mk (some p6) 1 1).v]).run Tryz.prog w19=.ok s2.v w20∧C2 w20∧Kept H3 w19 w20∧∀w21,Hst w0 H3 w20 H3 w21→m_Z_j1 p1 aN bE aN aT aU aV aW s2 w0 H3 w21 K)) (∀H3 w8,Hst w0 H1 w2 H3 w8→m_Z_j1 p1 aN bE aN aT aU aV aW Sl.nil w0 H3 w8 K)))
theorem w_Z (p1 t1 w0 K) (h:m_Z p1 t1 w0 K):
  Calls Tryz.prog 49 #[(vp p1),(vi t1)] w0 (fun e w'=>∃cG cH cI cJ cK cL,e=.returned (Aa cG cH cI cJ cK cL)∧K cG cH cI cJ cK cL w'):=by
 refine cw (args:=[(vp p1),(vi t1)]) Tryz.func49 Tryz.ntmps49 ?_
 obtain ⟨hs,hb⟩:=st0 w0
 refine eg (nw3 [(vi 0),(vi 0),(vi 0),(vu 0),(vs ⟨#[]⟩),Sl.nil.v] 107 hs hb (zM (Tryz.zeroValue107 _) rfl) fun p2 w1 H1 hs hb=>ln (eg (qb ?_)))
 have ⟨h,hs⟩:=hs.hr (h H1 w1)
 refine sc Tryz.call104 (h.mono fun e w2 ⟨aN,aT,aU,aV,aW,bJ,bE,r1,k,hk,h⟩=>have ⟨hs,hb⟩:=hk.hh hs hb;⟨_,k,?_⟩)
 refine qc (nw3 (Ad 0 0 0 0 (⟨#[]⟩) 0 0) 176 hs hb (zM (Tryz.zeroValue176 _) rfl) fun p3 w3 H2 hs hb=>zK (zD rfl) (xo p3 (Ad aN aT aU aV aW bJ bE) (Tryz.sizeOf176 _) (hb.k0 0 7 gZ)) ?_)
 intro w4 hn3
 obtain ⟨hs,hb⟩:=hb.st1 0 hs hn3 gZ
 refine q (ln (zA (eg (qb (ln (cbr h ?_ ?_))))))<;>intro h
 refine eg (q (zK (zD rfl) (xo p2 [(vi 0),(vi 0),(vi 0),(vu 0),(vs ⟨#[]⟩),Sl.nil.v] (Tryz.sizeOf107 _) (hb.k0 1 6 (gS gZ))) ?_))
 intro w5 hn4
 obtain ⟨hs,hb⟩:=hb.st1 1 hs hn4 (gS gZ)
 refine ln (er (zY ?_))
 have ⟨h,hs⟩:=hs.hr (h H2 w5)
 refine tI (.inl rfl) (vs:=[(.agg #[(vi 0),(vi 0),(vi 0),(vu 0),(vs ⟨#[]⟩),Sl.nil.v])]) (v:=(.agg #[(vi 0),(vi 0),(vi 0),(vu 0),(vs ⟨#[]⟩),Sl.nil.v])) Tryz.results49 ⟨(rva (Tryz.isAgg107 _) (Tryz.sizeOf107 _) (hb.r0 1 6 (gS gZ))),trivial⟩ (by kernel_rfl) ⟨0,0,0,0,⟨#[]⟩,Sl.nil,rfl,h⟩
 refine zB (zO (eg (q (q3 (xl (Tryz.isAgg3 _) (hb.d0 0 gZ)) (q (q3 (xl (Tryz.isAgg3 _) (hb.d 0 1 gZ)) (q (q3 (xl (Tryz.isAgg3 _) (hb.d 0 2 gZ)) (q (q3 (xl (Tryz.isAgg23 _) (hb.d 0 3 gZ)) (q (q3 (xl (Tryz.isAgg9 _) (hb.d 0 4 gZ)) (q (nw3 [(vi 0),(vi 0),(vi 0),(vu 0),(vs ⟨#[]⟩),Sl.nil.v] 107 hs hb (zM (Tryz.zeroValue107 _) rfl) fun p4 w6 H3 hs hb=>zK (zD rfl) (xo p4 [(vi aN),(vi aT),(vi aU),(vu aV),(vs aW),Sl.nil.v] (Tryz.sizeOf107 _) (hb.k0 0 6 gZ)) ?_))))))))))))))
 intro w7 hn6
 obtain ⟨hs,hb⟩:=hb.st1 0 hs hn6 gZ
 refine ln (zA (eg (q (q3 (xl (Tryz.isAgg3 _) (hb.d0 1 (gS gZ))) (sc Tryz.call105 ((p_C aN w7).mono ?_))))))
 rintro e w8 ⟨he,hE⟩
 refine ⟨_,he,?_⟩
 obtain ⟨hs,hb⟩:=hs.pp hb hE
 refine q (ln (qQ (fun ρ w=>∃aE aI aJ aK aL aH,∃H:NP,Has ρ [(0,(vp p1)),(4,(vp (some p2))),(5,(vp (some p3))),(7,(vp (some p4)))]∧Hst w0 H w H w∧HB H w [(p4,(Ab aE aI aJ aK aL aH),107),(p3,(Ad aN aT aU aV aW bJ bE),176),(p2,[(vi 0),(vi 0),(vi 0),(vu 0),(vs ⟨#[]⟩),Sl.nil.v],107)]∧m_Z_j1 p1 aN bE aE aI aJ aK aL aH w0 H w K) ?_ ?_))
 rintro ρ w ⟨aE,aI,aJ,aK,aL,aH,H,hH,hs,hb,h⟩
 refine zU hH (zA (eg (q (q3 (xl (Tryz.isAgg3 _) (hb.d0 1 (gS gZ))) (sc Tryz.call105 ((p_C aN w).mono ?_))))))
 rintro e w9 ⟨he,hE⟩
 refine ⟨_,he,?_⟩
 obtain ⟨hs,hb⟩:=hs.pp hb hE
 refine q (ln (cbr h ?_ ?_))<;>intro h
 have ⟨h,hs⟩:=hs.hr (h w9)
 obtain ⟨C1,hC,h⟩:=h
 refine dr2 (fun x=>C1 x∧HB H x _) [5,6,7,9] [9] ⟨hC,hb.drew⟩ h hs hb fun w10 hs hb h=>?_
 have hs:=hs.here
 refine qx 0 (vp (some (p4.add 5))) Kp0 (qz 1 aH.v Kp1 (fun w' hw'=>(xl (Tryz.isAgg66 _) (hw'.2.cell 0 5 gZ (by kernel_rfl)))) (qx 2 (vp p1) Kp2 (qx 3 (vp (some (p3.add 6))) Kp3 (qz 4 (vi bE) Kp4 (fun w' hw'=>(xl (Tryz.isAgg78 _) (hw'.2.cell 1 6 (gS gZ) (by kernel_rfl)))) (lg 5 (zL Kp5 (zD rfl) (by kernel_rfl) (xc Tryz.call49) (h.mono ?_)))))))
 rintro e w11 ⟨bU,bV,bW,bX,bY,bZ,rfl,hC,hk,h⟩
 refine ⟨_,rfl,.inr ⟨hC,hb.kept hk⟩,?_⟩
 obtain ⟨hs,hb⟩:=hk.hh hs hb
 refine lg 6 (qI (O:=(.cells #[(vi bU),(vi bV),(vi bW),(vu bX),(vs bY),bZ.v] 107)) (fun p=>(Sl.mk (some p) 1 1).v) Kp6 (zD rfl) (by kernel_rfl) (vR (vs:=#[(0,(Aa bU bV bW bX bY bZ))]) (by kernel_rfl) (by kernel_rfl)) ?_)
 intro p5 w12 hn9
 have h:=h p5 w12 hn9
 refine ⟨.inr ⟨h.1,hb.kept (Ext.new (F:=None) hn9).keptP⟩,?_⟩
 have h:=h.2
 obtain ⟨hs,hb⟩:=hs.nw hb hn9
 refine lg 7 ?_
 obtain ⟨s1,w13,hv1,hC,hk,h⟩:=h
 refine sl (v:=s1.v) Kp7 (zD rfl) (by kernel_rfl) (vP (args:=#[aH.v,(Sl.mk (some p5) 1 1).v]) (by kernel_rfl) (fun _=>rfl) hv1) (.inr ⟨hC,hb.kept hk⟩) ?_
 obtain ⟨hs,hb⟩:=hk.hh hs hb
 refine qx 8 (vp (some (p4.add 5))) Kp8 (lg 9 (sl_t Kp9 (xs (v:=s1.v) (Tryz.sizeOf66 _) (hb.canW 0 5 gZ (by kernel_rfl))) ?_))
 intro w14 hn7
 have hsb:Hst w0 H w13 H w14∧HB H w14 [(p4,(Ab aE aI aJ aK aL s1),107),(p3,(Ad aN aT aU aV aW bJ bE),176),(p2,[(vi 0),(vi 0),(vi 0),(vu 0),(vs ⟨#[]⟩),Sl.nil.v],107)]:=by
  rw [hn7];exact hb.set (i:=0) 5 (v:=s1.v) hs gZ (by kernel_rfl)
 obtain ⟨hs,hb⟩:=hsb
 refine ⟨.inl (by kernel_rfl),?_⟩
 refine wn (zO (eg (q2 (Aa aE aI aJ aK aL s1) (xa p4 (Ab aE aI aJ aK aL s1) (Tryz.isAgg107 _) (Tryz.sizeOf107 _) (hb.r0 0 6 gZ)) (zK (zD rfl) (xo p2 (Ab aE aI aJ aK aL s1) (Tryz.sizeOf107 _) (hb.k0 2 6 (gS (gS gZ)))) ?_))))
 intro w15 hn8
 obtain ⟨hs,hb⟩:=hb.st1 2 hs hn8 (gS (gS gZ))
 refine ln (er ?_)
 have ⟨h,hs⟩:=hs.hr (h w15)
 refine tI (.inl rfl) (vs:=[(Aa aE aI aJ aK aL s1)]) (v:=(Aa aE aI aJ aK aL s1)) Tryz.results49 ⟨(rva (Tryz.isAgg107 _) (Tryz.sizeOf107 _) (hb.r0 2 6 (gS (gS gZ)))),trivial⟩ (by kernel_rfl) ⟨aE,aI,aJ,aK,aL,s1,rfl,h⟩
 refine zB (zO (eg (q2 (Aa aE aI aJ aK aL aH) (xa p4 (Ab aE aI aJ aK aL aH) (Tryz.isAgg107 _) (Tryz.sizeOf107 _) (hb.r0 0 6 gZ)) (zK (zD rfl) (xo p2 (Ab aE aI aJ aK aL aH) (Tryz.sizeOf107 _) (hb.k0 2 6 (gS (gS gZ)))) ?_))))
 intro w16 hn10
 obtain ⟨hs,hb⟩:=hb.st1 2 hs hn10 (gS (gS gZ))
 refine ln (er ?_)
 have ⟨h,hs⟩:=hs.hr (h w16)
 refine tI (.inl rfl) (vs:=[(Aa aE aI aJ aK aL aH)]) (v:=(Aa aE aI aJ aK aL aH)) Tryz.results49 ⟨(rva (Tryz.isAgg107 _) (Tryz.sizeOf107 _) (hb.r0 2 6 (gS (gS gZ)))),trivial⟩ (by kernel_rfl) ⟨aE,aI,aJ,aK,aL,aH,rfl,h⟩
 refine cbr h ?_ ?_<;>intro h
 have ⟨h,hs⟩:=hs.hr (h H3 w8)
 obtain ⟨C2,hC,h⟩:=h
 refine dr2 (fun x=>C2 x∧HB H3 x _) [5,6,7,9] [9] ⟨hC,hb.drew⟩ h hs hb fun w17 hs hb h=>?_
 have hs:=hs.here
 refine qx 0 (vp (some (p4.add 5))) Kp0 (qz 1 Sl.nil.v Kp1 (fun w' hw'=>(xl (Tryz.isAgg66 _) (hw'.2.cell 0 5 gZ (by kernel_rfl)))) (qx 2 (vp p1) Kp2 (qx 3 (vp (some (p3.add 5))) Kp3 (qz 4 (vi bJ) Kp4 (fun w' hw'=>(xl (Tryz.isAgg78 _) (hw'.2.cell 1 5 (gS gZ) (by kernel_rfl)))) (lg 5 (zL Kp5 (zD rfl) (by kernel_rfl) (xc Tryz.call49) (h.mono ?_)))))))
 rintro e w18 ⟨cA,cB,cC,cD,cE,cF,rfl,hC,hk,h⟩
 refine ⟨_,rfl,.inr ⟨hC,hb.kept hk⟩,?_⟩
 obtain ⟨hs,hb⟩:=hk.hh hs hb
 refine lg 6 (qI (O:=(.cells #[(vi cA),(vi cB),(vi cC),(vu cD),(vs cE),cF.v] 107)) (fun p=>(Sl.mk (some p) 1 1).v) Kp6 (zD rfl) (by kernel_rfl) (vR (vs:=#[(0,(Aa cA cB cC cD cE cF))]) (by kernel_rfl) (by kernel_rfl)) ?_)
 intro p6 w19 hn12
 have h:=h p6 w19 hn12
 refine ⟨.inr ⟨h.1,hb.kept (Ext.new (F:=None) hn12).keptP⟩,?_⟩
 have h:=h.2
 obtain ⟨hs,hb⟩:=hs.nw hb hn12
 refine lg 7 ?_
 obtain ⟨s2,w20,hv2,hC,hk,h⟩:=h
 refine sl (v:=s2.v) Kp7 (zD rfl) (by kernel_rfl) (vP (args:=#[Sl.nil.v,(Sl.mk (some p6) 1 1).v]) (by kernel_rfl) (fun _=>rfl) hv2) (.inr ⟨hC,hb.kept hk⟩) ?_
 obtain ⟨hs,hb⟩:=hk.hh hs hb
 refine qx 8 (vp (some (p4.add 5))) Kp8 (lg 9 (sl_t Kp9 (xs (v:=s2.v) (Tryz.sizeOf66 _) (hb.canW 0 5 gZ (by kernel_rfl))) ?_))
 intro w21 hn11
 have hsb:Hst w0 H3 w20 H3 w21∧HB H3 w21 [(p4,(Ab aN aT aU aV aW s2),107),(p3,(Ad aN aT aU aV aW bJ bE),176),(p2,[(vi 0),(vi 0),(vi 0),(vu 0),(vs ⟨#[]⟩),Sl.nil.v],107)]:=by
  rw [hn11];exact hb.set (i:=0) 5 (v:=s2.v) hs gZ (by kernel_rfl)
 obtain ⟨hs,hb⟩:=hsb
 refine ⟨.inl (by kernel_rfl),?_⟩
 refine wn ?_
 have ⟨h,hs⟩:=hs.hr (h w21)
 refine zO ⟨aN,aT,aU,aV,aW,s2,H3,hm,hs,hb,h⟩
 refine zB ?_
 have ⟨h,hs⟩:=hs.hr (h H3 w8)
 refine zO ⟨aN,aT,aU,aV,aW,Sl.nil,H3,hm,hs,hb,h⟩
def m_E4  (w0:World) (K:(Option Addr)→WP):Prop :=∀p1 w1,New w0 (.cells #[Sl.nil.v,Sl.nil.v,Sl.nil.v] 44) p1 w1→K (some p1) w1
theorem w_E4  (w0:World) (K:(Option Addr)→WP) (h:m_E4  w0 K) :
  Calls Tryz.prog 63 #[] w0 (fun e w'=>∃r1,e=.returned (vp r1)∧K r1 w'):=by
 refine cw (args:=[]) Tryz.func63 Tryz.ntmps63 (eg (q0 (vp none) (ln (eg (q0 (.agg #[Sl.nil.v,Sl.nil.v,Sl.nil.v]) (sn (O:=(.cells #[Sl.nil.v,Sl.nil.v,Sl.nil.v] 44)) xb ?_))))))
 intro p1 w1 hn1
 have h:=h p1 w1 hn1
 refine q (ln (er (rs1 Tryz.results63 ⟨(some p1),rfl,h⟩)))
def m_M1_l1 (aH:Sl) (most1 n1 i1:Int) (w0:World) (Hl1:NP) (wl1:World) (Kc1:Int→Int→NP→WP) (K:Int→WP):Prop :=Br ((decide (i1<(aH.len:Int))) && (decide (n1≤most1))) (∃a1:Addr,At aH i1 6 a1∧∀H2 w2,Hst w0 Hl1 wl1 H2 w2→∃aO aP aQ aR aS bI,Row w2 a1 (Ab aO aP aQ aR aS bI)∧Calls Tryz.prog 75 #[(.agg #[(vi aO),(vi aP),(vi aQ),(vu aR),(vs aS),bI.v]),(vi (q6.wrap (most1 - n1)))] w2 (fun e w3=>∃r1,e=.returned (vi r1)∧Kept H2 w2 w3∧Kc1 (q6.wrap (n1+r1)) (q6.wrap (i1+1)) H2 w3)) (∀H2 w2,Hst w0 Hl1 wl1 H2 w2→K n1 w2)
def m_M1 (aE aI:Int) (aJ aK:Int) (aL:ByteArray) (aH:Sl) (most1:Int) (w0:World) (K:Int→WP):Prop :=∀H1 w1,Hst w0 None w0 H1 w1→∃(I1:Int→Int→NP→WP) (mu1:Int→Int→World→Nat),I1 1 0 H1 w1∧∀(n1 i1:Int) (Hl1:NP) (wl1:World),Hst w0 Hl1 wl1 Hl1 wl1→I1 n1 i1 Hl1 wl1→m_M1_l1 aH most1 n1 i1 w0 Hl1 wl1 (fun y'0 y'1 H' w'=>I1 y'0 y'1 H' w'∧mu1 y'0 y'1 w'<mu1 n1 i1 wl1) K
theorem w_M1 (aE aI aJ aK aL aH most1 w0 K) (h:m_M1 aE aI aJ aK aL aH most1 w0 K):
  Calls Tryz.prog 75 #[(.agg #[(vi aE),(vi aI),(vi aJ),(vu aK),(vs aL),aH.v]),(vi most1)] w0 (fun e w'=>∃r2,e=.returned (vi r2)∧K r2 w'):=by
 refine cw (args:=[(Aa aE aI aJ aK aL aH),(vi most1)]) Tryz.func75 Tryz.ntmps75 ?_
 obtain ⟨hs,hb⟩:=st0 w0
 refine eg (nw3 (Ab aE aI aJ aK aL aH) 107 hs hb xb fun p1 w1 H1 hs hb=>q (ln (eg (q (ln (zA (eg (q (ln (zJ ?_))))))))))
 have ⟨h,hs⟩:=hs.hr (h H1 w1)
 obtain ⟨I1,mu1,h0,hr⟩:=h
 refine vH (σ:=Int×Int×NP×World) (fun s ρ w=>w=s.2.2.2∧Has ρ [(1,(vi most1)),(2,(vp (some p1))),(5,(vi s.1)),(6,(vi s.2.1))]∧Hst w0 s.2.2.1 w s.2.2.1 w∧HB s.2.2.1 w [(p1,(Ab aE aI aJ aK aL aH),107)]∧I1 s.1 s.2.1 s.2.2.1 s.2.2.2) (fun s=>mu1 s.1 s.2.1 s.2.2.2) (1,0,H1,w1) ⟨rfl,hm,hs,hb,h0⟩ ?_
 rintro ⟨n1,i1,Hl1,wl1⟩ ρ w ⟨hw,hH,hs,hb,hI⟩
 dsimp only at hw hH hs hb;subst w
 have h:=hr n1 i1 Hl1 wl1 hs hI
 refine zU hH (zA (zA (vQ (fun ρ wJ=>∃b1'0:Bool,∃HJ:NP,((decide (i1<(aH.len:Int)))=b1'0)∧Hst w0 Hl1 wl1 HJ wJ∧HB HJ wJ [(p1,(Ab aE aI aJ aK aL aH),107)]∧Has ρ [(1,(vi most1)),(2,(vp (some p1))),(5,(vi n1)),(6,(vi i1)),(16,(vb (b1'0 && (decide (n1≤most1)))))]) ?_ ?_)))
 refine rg (qb (q3 (xl (Tryz.isAgg66 _) (hb.d 0 5 gZ)) (qc ?_)))
 rcases Bool.eq_false_or_eq_true (decide (i1<(aH.len:Int))) with hg2 | hg2
 refine qk 12 hg2 (qk 12 hg2 (qk 12 hg2 (q2 (vb (decide (n1≤most1))) (xT hg2) (ln ⟨true,_,hg2,hs,hb,hm⟩))))
 refine sj3 12 hg2 (q2 (vb false) (xF hg2) (ln ⟨false,_,hg2,hs,hb,hm⟩))
 rintro ρ w2 ⟨b1'0,H2,he0,hs,hb,hH⟩
 subst he0
 refine vI hH (zO (cbr h ?_ ?_))<;>intro h
 refine zB (zO (zA (zJ (rg (qb (q3 (xl (Tryz.isAgg66 _) (hb.d 0 5 gZ)) (q (qi (Tryz.runUnderlying66 _) (Tryz.sizeOf107 _) h fun a1 h=>?_))))))))
 have ⟨h,hs⟩:=hs.hr (h H2 w2)
 obtain ⟨aO,aP,aQ,aR,aS,bI,hv1,h⟩:=h
 refine qa (Tryz.isAgg107 _) (Tryz.sizeOf107 _) hv1 (qc (sc Tryz.call75 (h.mono fun e w3 ⟨r1,k,hk,h⟩=>have ⟨hs,hb⟩:=hk.hh hs hb;⟨_,k,?_⟩)))
 refine qb (zC (yQ (zO (rg (qc (ln ⟨((q6.wrap (n1+r1)),(q6.wrap (i1+1)),H2,w3),⟨rfl,hm,hs,hb,h.1⟩,h.2⟩))))))
 refine vF (yM (yM (yK (zO (eg (q0 (vi n1) (q0 (vi n1) (ln (er ?_)))))))))
 have ⟨h,hs⟩:=hs.hr (h H2 w2)
 refine rs1 Tryz.results75 ⟨n1,rfl,h⟩
def s_C1 (aE aI:Int) (aJ aK:Int) (aL:ByteArray) (aH:Sl):Int×Int×Int×Int×ByteArray×Int×Int :=(aE,aI,aJ,aK,aL,0,0)
theorem pw_C1 (aE aI:Int) (aJ aK:Int) (aL:ByteArray) (aH:Sl) (w0:World) :
  Calls Tryz.prog 204 #[(.agg #[(vi aE),(vi aI),(vi aJ),(vu aK),(vs aL),aH.v])] w0 (fun e w'=>(e=.returned (Ae aE aI aJ aK aL 0 0))∧Pure w0 w'):=by
 refine cw (args:=[(Aa aE aI aJ aK aL aH)]) Tryz.func204 Tryz.ntmps204 ?_
 obtain ⟨hs,hb⟩:=st0 w0
 refine eg (nw3 (Ab aE aI aJ aK aL aH) 107 hs hb xb fun p1 w1 H1 hs hb=>nw3 (Ad 0 0 0 0 (⟨#[]⟩) 0 0) 176 hs hb (zM (Tryz.zeroValue176 _) rfl) fun p2 w2 H2 hs hb=>ln (eg (q (q3 (xl (Tryz.isAgg3 _) (hb.d0 1 (gS gZ))) (q (q3 (xl (Tryz.isAgg3 _) (hb.d 1 1 (gS gZ))) (q (q3 (xl (Tryz.isAgg3 _) (hb.d 1 2 (gS gZ))) (q (q3 (xl (Tryz.isAgg23 _) (hb.d 1 3 (gS gZ))) (q (q3 (xl (Tryz.isAgg9 _) (hb.d 1 4 (gS gZ))) (q (zK (zD rfl) (xo p2 (Ad aE aI aJ aK aL 0 0) (Tryz.sizeOf176 _) (hb.k0 0 7 gZ)) ?_))))))))))))))
 intro w3 hn3
 obtain ⟨hs,hb⟩:=hb.st1 0 hs hn3 gZ
 refine ln (er (tI (.inl rfl) (vs:=[(Ae aE aI aJ aK aL 0 0)]) (v:=(Ae aE aI aJ aK aL 0 0)) Tryz.results204 ⟨(rva (Tryz.isAgg176 _) (Tryz.sizeOf176 _) (hb.r0 0 7 gZ)),trivial⟩ (by kernel_rfl) ⟨by kernel_rfl,(Ext.refl (F:=None) _).hst hs⟩))
theorem p_C1 (aE aI:Int) (aJ aK:Int) (aL:ByteArray) (aH:Sl) (w0:World):Calls Tryz.prog 204 #[(.agg #[(.int .i64 aE),(.int .i64 aI),(.int .i64 aJ),(.int .u64 aK),(.string aL),aH.v])] w0 (fun e w'=>e=.returned (.agg #[(.int .i64 (s_C1 aE aI aJ aK aL aH).1),(.int .i64 (s_C1 aE aI aJ aK aL aH).2.1),(.int .i64 (s_C1 aE aI aJ aK aL aH).2.2.1),(.int .u64 (s_C1 aE aI aJ aK aL aH).2.2.2.1),(.string (s_C1 aE aI aJ aK aL aH).2.2.2.2.1),(.int .i64 (s_C1 aE aI aJ aK aL aH).2.2.2.2.2.1),(.int .i64 (s_C1 aE aI aJ aK aL aH).2.2.2.2.2.2)])∧Pure w0 w'):=pw_C1 aE aI aJ aK aL aH w0
def s_Z1 (kind1:Int):Bool :=((kind1 == 8) || (kind1 == 9))
theorem pw_Z1 (kind1:Int) (w0:World) :
  Calls Tryz.prog 225 #[(vi kind1)] w0 (fun e w'=>(e=.returned (vb ((kind1 == 8) || (kind1 == 9))))∧Pure w0 w'):=by
 refine cw (args:=[(vi kind1)]) Tryz.func225 Tryz.ntmps225 (eg (q0 (vb false) (ln (zA ?_))))
 refine vQ (fun ρ wJ=>w0=wJ∧Has ρ [(2,(vb ((kind1 == 8) || (kind1 == 9))))]) ?_ ?_
 refine rg (qc (zN 3 (fun ρ wJ=>∃b3'0:Bool,((kind1 == 8)=b3'0)∧w0=wJ∧Has ρ [(8,(vb (b3'0 || (kind1 == 9))))]) ?_ ?_))
 rintro ρ w3 ⟨b3'0,he0,hw,hH⟩
 subst he0
 subst hw
 refine zQ hH (q (ln ⟨rfl,hm⟩))
 rcases Bool.eq_false_or_eq_true (kind1 == 8) with hg4 | hg4
 refine sj2 5 hg4 (q2 (vb true) (xT hg4) (zC ⟨true,hg4,rfl,hm⟩))
 refine qk 5 hg4 (qk 5 hg4 (q2 (vb (kind1 == 9)) (xF hg4) (zC ⟨false,hg4,rfl,hm⟩)))
 rintro ρ w2 ⟨hw,hH⟩
 subst hw
 refine vI hH (zO (er (rs1 Tryz.results225 (v:=(vb ((kind1 == 8) || (kind1 == 9)))) ⟨by kernel_rfl,Ext.refl _⟩)))
theorem p_Z1 (kind1:Int) (w0:World):Calls Tryz.prog 225 #[(.int .i64 kind1)] w0 (fun e w'=>e=.returned (.bool (s_Z1 kind1))∧Pure w0 w'):=pw_Z1 kind1 w0
def s_D (kind1:Int):Bool :=((((kind1 == 1) || (kind1 == 6)) || (kind1 == 7)) || ((kind1 == 8) || (kind1 == 9)))
theorem pw_D (kind1:Int) (w0:World) :
  Calls Tryz.prog 223 #[(vi kind1)] w0 (fun e w'=>(e=.returned (vb ((((kind1 == 1) || (kind1 == 6)) || (kind1 == 7)) || ((kind1 == 8) || (kind1 == 9)))))∧Pure w0 w'):=by
 refine cw (args:=[(vi kind1)]) Tryz.func223 Tryz.ntmps223 ?_
 obtain ⟨hs,hb⟩:=st0 w0
 refine eg (q (ln (zA (vQ (fun ρ wJ=>∃HJ:NP,Hst w0 None w0 HJ wJ∧HB HJ wJ []∧Has ρ [(2,(vb ((((kind1 == 1) || (kind1 == 6)) || (kind1 == 7)) || ((kind1 == 8) || (kind1 == 9)))))]) ?_ ?_))))
 refine rg (qc (zN 3 (fun ρ wJ=>∃b5'0:Bool,∃HJ:NP,((kind1 == 1)=b5'0)∧Hst w0 None w0 HJ wJ∧HB HJ wJ []∧Has ρ [(0,(vi kind1)),(8,(vb (b5'0 || (kind1 == 6))))]) ?_ ?_))
 rintro ρ w7 ⟨b5'0,H5,he0,hs,hb,hH⟩
 subst he0
 refine zQ hH (q (zN 3 (fun ρ wJ=>∃b6'0:Bool,∃HJ:NP,(((kind1 == 1) || (kind1 == 6))=b6'0)∧Hst w0 None w0 HJ wJ∧HB HJ wJ []∧Has ρ [(0,(vi kind1)),(12,(vb (b6'0 || (kind1 == 7))))]) ?_ ?_))
 rintro ρ w8 ⟨b6'0,H6,he0,hs,hb,hH⟩
 subst he0
 refine zQ hH (q (zN 3 (fun ρ wJ=>∃b7'0:Bool,∃HJ:NP,((((kind1 == 1) || (kind1 == 6)) || (kind1 == 7))=b7'0)∧Hst w0 None w0 HJ wJ∧HB HJ wJ []∧Has ρ [(16,(vb (b7'0 || ((kind1 == 8) || (kind1 == 9)))))]) ?_ ?_))
 rintro ρ w10 ⟨b7'0,H7,he0,hs,hb,hH⟩
 subst he0
 refine zQ hH (q (ln ⟨_,hs,hb,hm⟩))
 rcases Bool.eq_false_or_eq_true (((kind1 == 1) || (kind1 == 6)) || (kind1 == 7)) with hg12 | hg12
 refine sj2 13 hg12 (q2 (vb true) (xT hg12) (zC ⟨true,_,hg12,hs,hb,hm⟩))
 refine qk 13 hg12 (vN (wy 13 hg12) (xc Tryz.call225) ((p_Z1 kind1 w8).mono ?_))
 rintro e w11 ⟨he,hE⟩
 refine ⟨_,he,?_⟩
 obtain ⟨hs,hb⟩:=hs.pp hb hE
 refine q2 (vb ((kind1 == 8) || (kind1 == 9))) (xF hg12) (zC ⟨false,_,hg12,hs,hb,hm⟩)
 rcases Bool.eq_false_or_eq_true ((kind1 == 1) || (kind1 == 6)) with hg10 | hg10
 refine sj2 9 hg10 (q2 (vb true) (xT hg10) (zC ⟨true,_,hg10,hs,hb,hm⟩))
 refine qk 9 hg10 (qk 9 hg10 (q2 (vb (kind1 == 7)) (xF hg10) (zC ⟨false,_,hg10,hs,hb,hm⟩)))
 rcases Bool.eq_false_or_eq_true (kind1 == 1) with hg8 | hg8
 refine sj2 5 hg8 (q2 (vb true) (xT hg8) (zC ⟨true,_,hg8,hs,hb,hm⟩))
 refine qk 5 hg8 (qk 5 hg8 (q2 (vb (kind1 == 6)) (xF hg8) (zC ⟨false,_,hg8,hs,hb,hm⟩)))
 rintro ρ w6 ⟨H4,hs,hb,hH⟩
 refine vI hH (zO (er (rs1 Tryz.results223 (v:=(vb ((((kind1 == 1) || (kind1 == 6)) || (kind1 == 7)) || ((kind1 == 8) || (kind1 == 9))))) ⟨by kernel_rfl,(Ext.refl (F:=None) _).hst hs⟩)))
theorem p_D (kind1:Int) (w0:World):Calls Tryz.prog 223 #[(.int .i64 kind1)] w0 (fun e w'=>e=.returned (.bool (s_D kind1))∧Pure w0 w'):=pw_D kind1 w0
def s_D1 (aA aB:Int) (aC aF:Int) (aD:ByteArray) (aG aM:Int):Bool :=(!((decide (aA<1)) || (decide (aA>9))) && (((((((s_D aA) || (aB == 0)) && (((aA == 8) || (aA == 9)) || (aC == 0))) && ((aA == 2) || (aF == 0))) && ((aA == 3) || (decide (aD=⟨#[]⟩)))) && ((decide ((s_C aA)≥1)) || (aG == 0))) && ((((s_C aA):Int) == 2) || (aM == 0))))
theorem pw_D1 (aA aB:Int) (aC aF:Int) (aD:ByteArray) (aG aM:Int) (w0:World) :
  Calls Tryz.prog 222 #[(.agg #[(vi aA),(vi aB),(vi aC),(vu aF),(vs aD),(vi aG),(vi aM)])] w0 (fun e w'=>∃b'0:Bool,(((decide (aA<1)) || (decide (aA>9)))=b'0)∧(e=.returned (vb (!b'0 && (((((((s_D aA) || (aB == 0)) && (((aA == 8) || (aA == 9)) || (aC == 0))) && ((aA == 2) || (aF == 0))) && ((aA == 3) || (decide (aD=⟨#[]⟩)))) && ((decide ((s_C aA)≥1)) || (aG == 0))) && ((((s_C aA):Int) == 2) || (aM == 0))))))∧Pure w0 w'):=by
 refine cw (args:=[(Ae aA aB aC aF aD aG aM)]) Tryz.func222 Tryz.ntmps222 ?_
 obtain ⟨hs,hb⟩:=st0 w0
 refine eg (nw3 (Ad aA aB aC aF aD aG aM) 176 hs hb xb fun p1 w1 H1 hs hb=>q (ln (zA (zA (vQ (fun ρ wJ=>∃b1'0:Bool,∃HJ:NP,((decide (aA<1))=b1'0)∧Hst w0 None w0 HJ wJ∧HB HJ wJ [(p1,(Ad aA aB aC aF aD aG aM),176)]∧Has ρ [(1,(vp (some p1))),(10,(vb (b1'0 || (decide (aA>9)))))]) ?_ ?_)))))
 refine rg (q (q3 (xl (Tryz.isAgg3 _) (hb.d0 0 gZ)) (qb ?_)))
 rcases Bool.eq_false_or_eq_true (decide (aA<1)) with hg2 | hg2
 refine sj3 6 hg2 (q2 (vb true) (xT hg2) (ln ⟨true,_,hg2,hs,hb,hm⟩))
 refine qk 6 hg2 (q4 6 hg2 (xl (Tryz.isAgg3 _) (hb.d0 0 gZ)) (qk 6 hg2 (q2 (vb (decide (aA>9))) (xF hg2) (ln ⟨false,_,hg2,hs,hb,hm⟩))))
 rintro ρ w2 ⟨b1'0,H2,he0,hs,hb,hH⟩
 subst he0
 refine vI hH (zO (vO (t:=((decide (aA<1)) || (decide (aA>9)))) (by kernel_rfl) (fun hc1=>?_) (fun hc1=>?_)))
 refine eg (q (ln (er (zY (rs1 Tryz.results222 (v:=(vb false)) ⟨true,hc1,by kernel_rfl,(Ext.refl (F:=None) _).hst hs⟩)))))
 refine zB (zO (zA (vQ (fun ρ wJ=>∃HJ:NP,Hst w0 None w0 HJ wJ∧HB HJ wJ [(p1,(Ad aA aB aC aF aD aG aM),176)]∧Has ρ [(2,(vb (((((((s_D aA) || (aB == 0)) && (((aA == 8) || (aA == 9)) || (aC == 0))) && ((aA == 2) || (aF == 0))) && ((aA == 3) || (decide (aD=⟨#[]⟩)))) && ((decide ((s_C aA)≥1)) || (aG == 0))) && ((((s_C aA):Int) == 2) || (aM == 0)))))]) ?_ ?_)))
 refine rg (q (q3 (xl (Tryz.isAgg3 _) (hb.d0 0 gZ)) (sc Tryz.call223 ((p_D aA w2).mono ?_))))
 rintro e w27 ⟨he,hE⟩
 refine ⟨_,he,?_⟩
 obtain ⟨hs,hb⟩:=hs.pp hb hE
 refine q (zN 4 (fun ρ wJ=>∃b19'0:Bool,∃HJ:NP,((s_D aA)=b19'0)∧Hst w0 None w0 HJ wJ∧HB HJ wJ [(p1,(Ad aA aB aC aF aD aG aM),176)]∧Has ρ [(1,(vp (some p1))),(18,(vb (b19'0 || (aB == 0))))]) ?_ ?_)
 rintro ρ w28 ⟨b19'0,H20,he0,hs,hb,hH⟩
 subst he0
 refine zQ hH (q (zN 9 (fun ρ wJ=>∃b21'0:Bool,∃HJ:NP,(((s_D aA) || (aB == 0))=b21'0)∧Hst w0 None w0 HJ wJ∧HB HJ wJ [(p1,(Ad aA aB aC aF aD aG aM),176)]∧Has ρ [(1,(vp (some p1))),(28,(vb (b21'0 && (((aA == 8) || (aA == 9)) || (aC == 0)))))]) ?_ ?_))
 rintro ρ w31 ⟨b21'0,H22,he0,hs,hb,hH⟩
 subst he0
 refine zQ hH (q (zN 9 (fun ρ wJ=>∃b24'0:Bool,∃HJ:NP,((((s_D aA) || (aB == 0)) && (((aA == 8) || (aA == 9)) || (aC == 0)))=b24'0)∧Hst w0 None w0 HJ wJ∧HB HJ wJ [(p1,(Ad aA aB aC aF aD aG aM),176)]∧Has ρ [(1,(vp (some p1))),(38,(vb (b24'0 && ((aA == 2) || (aF == 0)))))]) ?_ ?_))
 rintro ρ w35 ⟨b24'0,H25,he0,hs,hb,hH⟩
 subst he0
 refine zQ hH (q (zN 9 (fun ρ wJ=>∃b27'0:Bool,∃HJ:NP,(((((s_D aA) || (aB == 0)) && (((aA == 8) || (aA == 9)) || (aC == 0))) && ((aA == 2) || (aF == 0)))=b27'0)∧Hst w0 None w0 HJ wJ∧HB HJ wJ [(p1,(Ad aA aB aC aF aD aG aM),176)]∧Has ρ [(1,(vp (some p1))),(48,(vb (b27'0 && ((aA == 3) || (decide (aD=⟨#[]⟩))))))]) ?_ ?_))
 rintro ρ w38 ⟨b27'0,H28,he0,hs,hb,hH⟩
 subst he0
 refine zQ hH (q (zN 10 (fun ρ wJ=>∃b30'0:Bool,∃HJ:NP,((((((s_D aA) || (aB == 0)) && (((aA == 8) || (aA == 9)) || (aC == 0))) && ((aA == 2) || (aF == 0))) && ((aA == 3) || (decide (aD=⟨#[]⟩))))=b30'0)∧Hst w0 None w0 HJ wJ∧HB HJ wJ [(p1,(Ad aA aB aC aF aD aG aM),176)]∧Has ρ [(1,(vp (some p1))),(59,(vb (b30'0 && ((decide ((s_C aA)≥1)) || (aG == 0)))))]) ?_ ?_))
 rintro ρ w42 ⟨b30'0,H31,he0,hs,hb,hH⟩
 subst he0
 refine zQ hH (q (zN 10 (fun ρ wJ=>∃b33'0:Bool,∃HJ:NP,(((((((s_D aA) || (aB == 0)) && (((aA == 8) || (aA == 9)) || (aC == 0))) && ((aA == 2) || (aF == 0))) && ((aA == 3) || (decide (aD=⟨#[]⟩)))) && ((decide ((s_C aA)≥1)) || (aG == 0)))=b33'0)∧Hst w0 None w0 HJ wJ∧HB HJ wJ [(p1,(Ad aA aB aC aF aD aG aM),176)]∧Has ρ [(70,(vb (b33'0 && ((((s_C aA):Int) == 2) || (aM == 0)))))]) ?_ ?_))
 rintro ρ w47 ⟨b33'0,H34,he0,hs,hb,hH⟩
 subst he0
 refine zQ hH (q (ln ⟨_,hs,hb,hm⟩))
 rcases Bool.eq_false_or_eq_true ((((((s_D aA) || (aB == 0)) && (((aA == 8) || (aA == 9)) || (aC == 0))) && ((aA == 2) || (aF == 0))) && ((aA == 3) || (decide (aD=⟨#[]⟩)))) && ((decide ((s_C aA)≥1)) || (aG == 0))) with hg64 | hg64
 refine qk 60 hg64 (q4 60 hg64 (xl (Tryz.isAgg3 _) (hb.d0 0 gZ)) (vN (wy 60 hg64) (xc Tryz.call105) ((p_C aA w42).mono ?_)))
 rintro e w48 ⟨he,hE⟩
 refine ⟨_,he,?_⟩
 obtain ⟨hs,hb⟩:=hs.pp hb hE
 refine qk 60 hg64 (qk 60 hg64 (zN 4 (fun ρ wJ=>∃b34'0:Bool,∃HJ:NP,((((s_C aA):Int) == 2)=b34'0)∧Hst w0 None w0 HJ wJ∧HB HJ wJ [(p1,(Ad aA aB aC aF aD aG aM),176)]∧Has ρ [(60,(vb ((((((s_D aA) || (aB == 0)) && (((aA == 8) || (aA == 9)) || (aC == 0))) && ((aA == 2) || (aF == 0))) && ((aA == 3) || (decide (aD=⟨#[]⟩)))) && ((decide ((s_C aA)≥1)) || (aG == 0))))),(69,(vb (b34'0 || (aM == 0))))]) ?_ ?_))
 rintro ρ w49 ⟨b34'0,H35,he0,hs,hb,hH⟩
 subst he0
 refine zQ hH (q2 (vb ((((s_C aA):Int) == 2) || (aM == 0))) (xT hg64) (zC ⟨true,_,hg64,hs,hb,hm⟩))
 rcases Bool.eq_false_or_eq_true (((s_C aA):Int) == 2) with hg66 | hg66
 refine sj3 65 hg66 (stq (v:=(vb true)) (wy 60 hg64) (xT hg66) (zC ⟨true,_,hg66,hs,hb,hm⟩))
 refine qk 65 hg66 (q4 65 hg66 (xl (Tryz.isAgg78 _) (hb.d 0 6 gZ)) (qk 65 hg66 (stq (v:=(vb (aM == 0))) (wy 60 hg64) (xF hg66) (zC ⟨false,_,hg66,hs,hb,hm⟩))))
 refine sj5 60 hg64 (sm (sm (sm (sj 60 hg64 (q2 (vb false) (xF hg64) (zC ⟨false,_,hg64,hs,hb,hm⟩))))))
 rcases Bool.eq_false_or_eq_true (((((s_D aA) || (aB == 0)) && (((aA == 8) || (aA == 9)) || (aC == 0))) && ((aA == 2) || (aF == 0))) && ((aA == 3) || (decide (aD=⟨#[]⟩)))) with hg58 | hg58
 refine qk 49 hg58 (q4 49 hg58 (xl (Tryz.isAgg3 _) (hb.d0 0 gZ)) (vN (wy 49 hg58) (xc Tryz.call105) ((p_C aA w38).mono ?_)))
 rintro e w43 ⟨he,hE⟩
 refine ⟨_,he,?_⟩
 obtain ⟨hs,hb⟩:=hs.pp hb hE
 refine qk 49 hg58 (qk 49 hg58 (zN 4 (fun ρ wJ=>∃b31'0:Bool,∃HJ:NP,((decide ((s_C aA)≥1))=b31'0)∧Hst w0 None w0 HJ wJ∧HB HJ wJ [(p1,(Ad aA aB aC aF aD aG aM),176)]∧Has ρ [(1,(vp (some p1))),(49,(vb (((((s_D aA) || (aB == 0)) && (((aA == 8) || (aA == 9)) || (aC == 0))) && ((aA == 2) || (aF == 0))) && ((aA == 3) || (decide (aD=⟨#[]⟩)))))),(58,(vb (b31'0 || (aG == 0))))]) ?_ ?_))
 rintro ρ w44 ⟨b31'0,H32,he0,hs,hb,hH⟩
 subst he0
 refine zQ hH (q2 (vb ((decide ((s_C aA)≥1)) || (aG == 0))) (xT hg58) (zC ⟨true,_,hg58,hs,hb,hm⟩))
 rcases Bool.eq_false_or_eq_true (decide ((s_C aA)≥1)) with hg60 | hg60
 refine sj3 54 hg60 (stq (v:=(vb true)) (wy 49 hg58) (xT hg60) (zC ⟨true,_,hg60,hs,hb,hm⟩))
 refine qk 54 hg60 (q4 54 hg60 (xl (Tryz.isAgg78 _) (hb.d 0 5 gZ)) (qk 54 hg60 (stq (v:=(vb (aG == 0))) (wy 49 hg58) (xF hg60) (zC ⟨false,_,hg60,hs,hb,hm⟩))))
 refine sj5 49 hg58 (sm (sm (sm (sj 49 hg58 (q2 (vb false) (xF hg58) (zC ⟨false,_,hg58,hs,hb,hm⟩))))))
 rcases Bool.eq_false_or_eq_true ((((s_D aA) || (aB == 0)) && (((aA == 8) || (aA == 9)) || (aC == 0))) && ((aA == 2) || (aF == 0))) with hg52 | hg52
 refine qk 39 hg52 (q4 39 hg52 (xl (Tryz.isAgg3 _) (hb.d0 0 gZ)) (qk 39 hg52 (qk 39 hg52 (zN 4 (fun ρ wJ=>∃b28'0:Bool,∃HJ:NP,((aA == 3)=b28'0)∧Hst w0 None w0 HJ wJ∧HB HJ wJ [(p1,(Ad aA aB aC aF aD aG aM),176)]∧Has ρ [(1,(vp (some p1))),(39,(vb ((((s_D aA) || (aB == 0)) && (((aA == 8) || (aA == 9)) || (aC == 0))) && ((aA == 2) || (aF == 0))))),(47,(vb (b28'0 || (decide (aD=⟨#[]⟩)))))]) ?_ ?_))))
 rintro ρ w39 ⟨b28'0,H29,he0,hs,hb,hH⟩
 subst he0
 refine zQ hH (q2 (vb ((aA == 3) || (decide (aD=⟨#[]⟩)))) (xT hg52) (zC ⟨true,_,hg52,hs,hb,hm⟩))
 rcases Bool.eq_false_or_eq_true (aA == 3) with hg54 | hg54
 refine sj3 43 hg54 (stq (v:=(vb true)) (wy 39 hg52) (xT hg54) (zC ⟨true,_,hg54,hs,hb,hm⟩))
 refine qk 43 hg54 (q4 43 hg54 (xl (Tryz.isAgg9 _) (hb.d 0 4 gZ)) (stq (v:=(vb (decide (aD=⟨#[]⟩)))) (wy 43 hg54) (jBH (by kernel_rfl) (by kernel_rfl)) (stq (v:=(vb (decide (aD=⟨#[]⟩)))) (wy 39 hg52) (xF hg54) (zC ⟨false,_,hg54,hs,hb,hm⟩))))
 refine sj4 39 hg52 (sm (sm (sm (sj 39 hg52 (q2 (vb false) (xF hg52) (zC ⟨false,_,hg52,hs,hb,hm⟩))))))
 rcases Bool.eq_false_or_eq_true (((s_D aA) || (aB == 0)) && (((aA == 8) || (aA == 9)) || (aC == 0))) with hg46 | hg46
 refine qk 29 hg46 (q4 29 hg46 (xl (Tryz.isAgg3 _) (hb.d0 0 gZ)) (qk 29 hg46 (qk 29 hg46 (zN 4 (fun ρ wJ=>∃b25'0:Bool,∃HJ:NP,((aA == 2)=b25'0)∧Hst w0 None w0 HJ wJ∧HB HJ wJ [(p1,(Ad aA aB aC aF aD aG aM),176)]∧Has ρ [(1,(vp (some p1))),(29,(vb (((s_D aA) || (aB == 0)) && (((aA == 8) || (aA == 9)) || (aC == 0))))),(37,(vb (b25'0 || (aF == 0))))]) ?_ ?_))))
 rintro ρ w36 ⟨b25'0,H26,he0,hs,hb,hH⟩
 subst he0
 refine zQ hH (q2 (vb ((aA == 2) || (aF == 0))) (xT hg46) (zC ⟨true,_,hg46,hs,hb,hm⟩))
 rcases Bool.eq_false_or_eq_true (aA == 2) with hg48 | hg48
 refine sj3 33 hg48 (stq (v:=(vb true)) (wy 29 hg46) (xT hg48) (zC ⟨true,_,hg48,hs,hb,hm⟩))
 refine qk 33 hg48 (q4 33 hg48 (xl (Tryz.isAgg23 _) (hb.d 0 3 gZ)) (qk 33 hg48 (stq (v:=(vb (aF == 0))) (wy 29 hg46) (xF hg48) (zC ⟨false,_,hg48,hs,hb,hm⟩))))
 refine sj4 29 hg46 (sm (sm (sm (sj 29 hg46 (q2 (vb false) (xF hg46) (zC ⟨false,_,hg46,hs,hb,hm⟩))))))
 rcases Bool.eq_false_or_eq_true ((s_D aA) || (aB == 0)) with hg40 | hg40
 refine qk 19 hg40 (q4 19 hg40 (xl (Tryz.isAgg3 _) (hb.d0 0 gZ)) (vN (wy 19 hg40) (xc Tryz.call225) ((p_Z1 aA w28).mono ?_)))
 rintro e w32 ⟨he,hE⟩
 refine ⟨_,he,?_⟩
 obtain ⟨hs,hb⟩:=hs.pp hb hE
 refine qk 19 hg40 (zN 4 (fun ρ wJ=>∃b22'0:Bool,∃HJ:NP,(((aA == 8) || (aA == 9))=b22'0)∧Hst w0 None w0 HJ wJ∧HB HJ wJ [(p1,(Ad aA aB aC aF aD aG aM),176)]∧Has ρ [(1,(vp (some p1))),(19,(vb ((s_D aA) || (aB == 0)))),(27,(vb (b22'0 || (aC == 0))))]) ?_ ?_)
 rintro ρ w33 ⟨b22'0,H23,he0,hs,hb,hH⟩
 subst he0
 refine zQ hH (q2 (vb (((aA == 8) || (aA == 9)) || (aC == 0))) (xT hg40) (zC ⟨true,_,hg40,hs,hb,hm⟩))
 rcases Bool.eq_false_or_eq_true ((aA == 8) || (aA == 9)) with hg42 | hg42
 refine sj3 23 hg42 (stq (v:=(vb true)) (wy 19 hg40) (xT hg42) (zC ⟨true,_,hg42,hs,hb,hm⟩))
 refine qk 23 hg42 (q4 23 hg42 (xl (Tryz.isAgg3 _) (hb.d 0 2 gZ)) (qk 23 hg42 (stq (v:=(vb (aC == 0))) (wy 19 hg40) (xF hg42) (zC ⟨false,_,hg42,hs,hb,hm⟩))))
 refine sj4 19 hg40 (sm (sm (sm (sj 19 hg40 (q2 (vb false) (xF hg40) (zC ⟨false,_,hg40,hs,hb,hm⟩))))))
 rcases Bool.eq_false_or_eq_true (s_D aA) with hg36 | hg36
 refine sj3 14 hg36 (q2 (vb true) (xT hg36) (zC ⟨true,_,hg36,hs,hb,hm⟩))
 refine qk 14 hg36 (q4 14 hg36 (xl (Tryz.isAgg3 _) (hb.d 0 1 gZ)) (qk 14 hg36 (q2 (vb (aB == 0)) (xF hg36) (zC ⟨false,_,hg36,hs,hb,hm⟩))))
 rintro ρ w26 ⟨H19,hs,hb,hH⟩
 refine vI hH (zO (er (rs1 Tryz.results222 (v:=(vb (((((((s_D aA) || (aB == 0)) && (((aA == 8) || (aA == 9)) || (aC == 0))) && ((aA == 2) || (aF == 0))) && ((aA == 3) || (decide (aD=⟨#[]⟩)))) && ((decide ((s_C aA)≥1)) || (aG == 0))) && ((((s_C aA):Int) == 2) || (aM == 0))))) ⟨false,hc1,by kernel_rfl,(Ext.refl (F:=None) _).hst hs⟩)))
theorem p_D1 (aA aB:Int) (aC aF:Int) (aD:ByteArray) (aG aM:Int) (w0:World):Calls Tryz.prog 222 #[(.agg #[(.int .i64 aA),(.int .i64 aB),(.int .i64 aC),(.int .u64 aF),(.string aD),(.int .i64 aG),(.int .i64 aM)])] w0 (fun e w'=>e=.returned (.bool (s_D1 aA aB aC aF aD aG aM))∧Pure w0 w'):=by
 refine (pw_D1 aA aB aC aF aD aG aM w0).mono ?_;rintro e w' ⟨b'0,e0,h,E⟩;subst e0;exact ⟨h,E⟩
def s_L2 (n1:Int):Bool :=((decide (n1≥0)) && (decide (n1<16)))
theorem pw_L2 (n1:Int) (w0:World) :
  Calls Tryz.prog 224 #[(vi n1)] w0 (fun e w'=>(e=.returned (vb ((decide (n1≥0)) && (decide (n1<16)))))∧Pure w0 w'):=by
 refine cw (args:=[(vi n1)]) Tryz.func224 Tryz.ntmps224 (eg (q0 (vb false) (ln (zA ?_))))
 refine vQ (fun ρ wJ=>w0=wJ∧Has ρ [(2,(vb ((decide (n1≥0)) && (decide (n1<16)))))]) ?_ ?_
 refine rg (qc (zN 3 (fun ρ wJ=>∃b3'0:Bool,((decide (n1≥0))=b3'0)∧w0=wJ∧Has ρ [(8,(vb (b3'0 && (decide (n1<16)))))]) ?_ ?_))
 rintro ρ w3 ⟨b3'0,he0,hw,hH⟩
 subst he0
 subst hw
 refine zQ hH (q (ln ⟨rfl,hm⟩))
 rcases Bool.eq_false_or_eq_true (decide (n1≥0)) with hg4 | hg4
 refine qk 5 hg4 (qk 5 hg4 (q2 (vb (decide (n1<16))) (xT hg4) (zC ⟨true,hg4,rfl,hm⟩)))
 refine sj2 5 hg4 (q2 (vb false) (xF hg4) (zC ⟨false,hg4,rfl,hm⟩))
 rintro ρ w2 ⟨hw,hH⟩
 subst hw
 refine vI hH (zO (er (rs1 Tryz.results224 (v:=(vb ((decide (n1≥0)) && (decide (n1<16))))) ⟨by kernel_rfl,Ext.refl _⟩)))
theorem p_L2 (n1:Int) (w0:World):Calls Tryz.prog 224 #[(.int .i64 n1)] w0 (fun e w'=>e=.returned (.bool (s_L2 n1))∧Pure w0 w'):=pw_L2 n1 w0
def s_H (aA aB:Int) (aC aF:Int) (aD:ByteArray) (aG aM:Int):Int :=(cond (!(s_D1 aA aB aC aF aD aG aM)) 53 (cond (((s_D aA) && (!((decide (aB≥0)) && (decide (aB<16))))) || (((aA == 8) || (aA == 9)) && ((!((decide (aC≥0)) && (decide (aC<16)))) || (aB == aC)))) 50 (cond (decide ((aD.size:Int)>64)) 1 0)))
theorem pw_H (aA aB:Int) (aC aF:Int) (aD:ByteArray) (aG aM:Int) (w0:World) :
  Calls Tryz.prog 176 #[(.agg #[(vi aA),(vi aB),(vi aC),(vu aF),(vs aD),(vi aG),(vi aM)])] w0 (fun e w'=>∃b'0 b'1 b'2:Bool,((!(s_D1 aA aB aC aF aD aG aM))=b'0∧(((s_D aA) && (!((decide (aB≥0)) && (decide (aB<16))))) || (((aA == 8) || (aA == 9)) && ((!((decide (aC≥0)) && (decide (aC<16)))) || (aB == aC))))=b'1∧(decide ((aD.size:Int)>64))=b'2)∧(e=.returned (vi (cond b'0 53 (cond b'1 50 (cond b'2 1 0)))))∧Pure w0 w'):=by
 refine cw (args:=[(Ae aA aB aC aF aD aG aM)]) Tryz.func176 Tryz.ntmps176 ?_
 obtain ⟨hs,hb⟩:=st0 w0
 refine eg (nw3 (Ad aA aB aC aF aD aG aM) 176 hs hb xb fun p1 w1 H1 hs hb=>q (ln (zA (eg (q2 (Ae aA aB aC aF aD aG aM) (xa p1 (Ad aA aB aC aF aD aG aM) (Tryz.isAgg176 _) (Tryz.sizeOf176 _) (hb.r0 0 7 gZ)) (sc Tryz.call222 ((p_D1 aA aB aC aF aD aG aM w1).mono ?_)))))))
 rintro e w2 ⟨he,hE⟩
 refine ⟨_,he,?_⟩
 obtain ⟨hs,hb⟩:=hs.pp hb hE
 refine q (ln (vO (t:=(!(s_D1 aA aB aC aF aD aG aM))) (by kernel_rfl) (fun hc1=>?_) (fun hc1=>?_)))
 refine eg (q (ln (er (zY (rs1 Tryz.results176 (v:=(vi 53)) ⟨true,_,_,⟨hc1,rfl,rfl⟩,by kernel_rfl,(Ext.refl (F:=None) _).hst hs⟩)))))
 refine zB (zO (zA (zA (vQ (fun ρ wJ=>∃b5'0:Bool,∃HJ:NP,(((s_D aA) && (!((decide (aB≥0)) && (decide (aB<16)))))=b5'0)∧Hst w0 None w0 HJ wJ∧HB HJ wJ [(p1,(Ad aA aB aC aF aD aG aM),176)]∧Has ρ [(1,(vp (some p1))),(32,(vb (b5'0 || (((aA == 8) || (aA == 9)) && ((!((decide (aC≥0)) && (decide (aC<16)))) || (aB == aC))))))]) ?_ ?_))))
 refine rg (q (q3 (xl (Tryz.isAgg3 _) (hb.d0 0 gZ)) (sc Tryz.call223 ((p_D aA w2).mono ?_))))
 rintro e w14 ⟨he,hE⟩
 refine ⟨_,he,?_⟩
 obtain ⟨hs,hb⟩:=hs.pp hb hE
 refine q (zN 5 (fun ρ wJ=>∃b6'0:Bool,∃HJ:NP,((s_D aA)=b6'0)∧Hst w0 None w0 HJ wJ∧HB HJ wJ [(p1,(Ad aA aB aC aF aD aG aM),176)]∧Has ρ [(1,(vp (some p1))),(14,(vb (b6'0 && (!((decide (aB≥0)) && (decide (aB<16)))))))]) ?_ ?_)
 rintro ρ w16 ⟨b6'0,H7,he0,hs,hb,hH⟩
 subst he0
 refine zQ hH (q ?_)
 rcases Bool.eq_false_or_eq_true ((s_D aA) && (!((decide (aB≥0)) && (decide (aB<16))))) with hg12 | hg12
 refine sj4 15 hg12 (sm (sm (sm (sm (sm (sm (sm (sm (sm (sm (sm (sj 15 hg12 (q2 (vb true) (xT hg12) (ln ⟨true,_,hg12,hs,hb,hm⟩))))))))))))))
 refine qk 15 hg12 (q4 15 hg12 (xl (Tryz.isAgg3 _) (hb.d0 0 gZ)) (vN (wy 15 hg12) (xc Tryz.call225) ((p_Z1 aA w16).mono ?_)))
 rintro e w18 ⟨he,hE⟩
 refine ⟨_,he,?_⟩
 obtain ⟨hs,hb⟩:=hs.pp hb hE
 refine qk 15 hg12 (zN 12 (fun ρ wJ=>∃b8'0:Bool,∃HJ:NP,(((aA == 8) || (aA == 9))=b8'0)∧Hst w0 None w0 HJ wJ∧HB HJ wJ [(p1,(Ad aA aB aC aF aD aG aM),176)]∧Has ρ [(1,(vp (some p1))),(15,(vb ((s_D aA) && (!((decide (aB≥0)) && (decide (aB<16))))))),(31,(vb (b8'0 && ((!((decide (aC≥0)) && (decide (aC<16)))) || (aB == aC)))))]) ?_ ?_)
 rintro ρ w21 ⟨b8'0,H9,he0,hs,hb,hH⟩
 subst he0
 refine zQ hH (q2 (vb (((aA == 8) || (aA == 9)) && ((!((decide (aC≥0)) && (decide (aC<16)))) || (aB == aC)))) (xF hg12) (ln ⟨false,_,hg12,hs,hb,hm⟩))
 rcases Bool.eq_false_or_eq_true ((aA == 8) || (aA == 9)) with hg16 | hg16
 refine qk 19 hg16 (q4 19 hg16 (xl (Tryz.isAgg3 _) (hb.d 0 2 gZ)) (vN (wy 19 hg16) (xc Tryz.call224) ((p_L2 aC w18).mono ?_)))
 rintro e w22 ⟨he,hE⟩
 refine ⟨_,he,?_⟩
 obtain ⟨hs,hb⟩:=hs.pp hb hE
 refine qk 19 hg16 (qk 19 hg16 (zN 6 (fun ρ wJ=>∃b9'0:Bool,∃HJ:NP,((!((decide (aC≥0)) && (decide (aC<16))))=b9'0)∧Hst w0 None w0 HJ wJ∧HB HJ wJ [(p1,(Ad aA aB aC aF aD aG aM),176)]∧Has ρ [(1,(vp (some p1))),(15,(vb ((s_D aA) && (!((decide (aB≥0)) && (decide (aB<16))))))),(19,(vb ((aA == 8) || (aA == 9)))),(30,(vb (b9'0 || (aB == aC))))]) ?_ ?_))
 rintro ρ w23 ⟨b9'0,H10,he0,hs,hb,hH⟩
 subst he0
 refine zQ hH (stq (v:=(vb ((!((decide (aC≥0)) && (decide (aC<16)))) || (aB == aC)))) (wy 15 hg12) (xT hg16) (zC ⟨true,_,hg16,hs,hb,hm⟩))
 rcases Bool.eq_false_or_eq_true (!((decide (aC≥0)) && (decide (aC<16)))) with hg18 | hg18
 refine sj5 24 hg18 (stq (v:=(vb true)) (wy 19 hg16) (xT hg18) (zC ⟨true,_,hg18,hs,hb,hm⟩))
 refine qk 24 hg18 (q4 24 hg18 (xl (Tryz.isAgg3 _) (hb.d 0 1 gZ)) (qk 24 hg18 (q4 24 hg18 (xl (Tryz.isAgg3 _) (hb.d 0 2 gZ)) (qk 24 hg18 (stq (v:=(vb (aB == aC))) (wy 19 hg16) (xF hg18) (zC ⟨false,_,hg18,hs,hb,hm⟩))))))
 refine sj5 19 hg16 (sm (sm (sm (sm (sm (sj 19 hg16 (stq (v:=(vb false)) (wy 15 hg12) (xF hg16) (zC ⟨false,_,hg16,hs,hb,hm⟩))))))))
 rcases Bool.eq_false_or_eq_true (s_D aA) with hg11 | hg11
 refine qk 9 hg11 (q4 9 hg11 (xl (Tryz.isAgg3 _) (hb.d 0 1 gZ)) (vN (wy 9 hg11) (xc Tryz.call224) ((p_L2 aB w14).mono ?_)))
 rintro e w17 ⟨he,hE⟩
 refine ⟨_,he,?_⟩
 obtain ⟨hs,hb⟩:=hs.pp hb hE
 refine qk 9 hg11 (q2 (vb (!((decide (aB≥0)) && (decide (aB<16))))) (xT hg11) (zC ⟨true,_,hg11,hs,hb,hm⟩))
 refine sj4 9 hg11 (q2 (vb false) (xF hg11) (zC ⟨false,_,hg11,hs,hb,hm⟩))
 rintro ρ w13 ⟨b5'0,H6,he0,hs,hb,hH⟩
 subst he0
 refine vI hH (zO (vO (t:=(((s_D aA) && (!((decide (aB≥0)) && (decide (aB<16))))) || (((aA == 8) || (aA == 9)) && ((!((decide (aC≥0)) && (decide (aC<16)))) || (aB == aC))))) (by kernel_rfl) (fun hc2=>?_) (fun hc2=>?_)))
 refine eg (q (ln (er (zY (rs1 Tryz.results176 (v:=(vi 50)) ⟨false,true,_,⟨hc1,hc2,rfl⟩,by kernel_rfl,(Ext.refl (F:=None) _).hst hs⟩)))))
 refine zB (zO (zA (eg (q (q3 (xl (Tryz.isAgg9 _) (hb.d 0 4 gZ)) (qb (ln (vO (t:=(decide ((aD.size:Int)>64))) (by kernel_rfl) (fun hc3=>?_) (fun hc3=>?_)))))))))
 refine eg (q (ln (er (zY (rs1 Tryz.results176 (v:=(vi 1)) ⟨false,false,true,⟨hc1,hc2,hc3⟩,by kernel_rfl,(Ext.refl (F:=None) _).hst hs⟩)))))
 refine zB (zO (eg (q (ln (er (rs1 Tryz.results176 (v:=(vi 0)) ⟨false,false,false,⟨hc1,hc2,hc3⟩,by kernel_rfl,(Ext.refl (F:=None) _).hst hs⟩))))))
theorem p_H (aA aB:Int) (aC aF:Int) (aD:ByteArray) (aG aM:Int) (w0:World):Calls Tryz.prog 176 #[(.agg #[(.int .i64 aA),(.int .i64 aB),(.int .i64 aC),(.int .u64 aF),(.string aD),(.int .i64 aG),(.int .i64 aM)])] w0 (fun e w'=>e=.returned (.int .i64 (s_H aA aB aC aF aD aG aM))∧Pure w0 w'):=by
 refine (pw_H aA aB aC aF aD aG aM w0).mono ?_;rintro e w' ⟨b'0,b'1,b'2,⟨e0,e1,e2⟩,h,E⟩;subst e0;subst e1;subst e2;exact ⟨h,E⟩
def m_T_l2 (aH:Sl) (deep1:Int) (seen1:Option Addr) (e1 i1:Int) (w0:World) (Hl1:NP) (wl1:World) (Kc2:Int→Int→NP→WP) (K:Int→WP):Prop :=Br ((e1 == 0) && (decide (i1<(aH.len:Int)))) (∃a3:Addr,At aH i1 6 a3∧∀H4 w11,Hst w0 Hl1 wl1 H4 w11→∃aO aP aQ aR aS bI,Row w11 a3 (Ab aO aP aQ aR aS bI)∧Calls Tryz.prog 203 #[(.agg #[(vi aO),(vi aP),(vi aQ),(vu aR),(vs aS),bI.v]),(vi (q6.wrap (deep1+1))),(vp seen1)] w11 (fun e w12=>∃r1,e=.returned (vi r1)∧Kept H4 w11 w12∧Kc2 r1 (q6.wrap (i1+1)) H4 w12)) (∀H4 w11,Hst w0 Hl1 wl1 H4 w11→K e1 w11)
def m_T_j1 (aE aI:Int) (aJ aK:Int) (aL:ByteArray) (aH:Sl) (deep1:Int) (seen1:Option Addr) (x1:Bool) (w0:World) (H:NP) (w:World) (K:Int→WP):Prop :=Br x1 (K 52 w) (∃a1,seen1=some a1∧∃v1,w.cell? a1=some (vi v1)∧∃a2,seen1=some a2∧vG w a2∧¬ H a2.block∧∀w2,w2=w.setCell a2 (vi (q6.wrap (v1+1)))→∀y1:Bool,y1=((((s_H aE aI aJ aK aL 0 0):Int) != 53) && (((aH.len:Int):Int) != (s_C aE)))→∀H3 w10,Hst w0 H w2 H3 w10→∃(I1:Int→Int→NP→WP) (mu1:Int→Int→World→Nat),I1 (cond y1 53 (s_H aE aI aJ aK aL 0 0)) 0 H3 w10∧∀(e1 i1:Int) (Hl1:NP) (wl1:World),Hst w0 Hl1 wl1 Hl1 wl1→I1 e1 i1 Hl1 wl1→m_T_l2 aH deep1 seen1 e1 i1 w0 Hl1 wl1 (fun y'0 y'1 H' w'=>I1 y'0 y'1 H' w'∧mu1 y'0 y'1 w'<mu1 e1 i1 wl1) K)
def m_T (aE aI:Int) (aJ aK:Int) (aL:ByteArray) (aH:Sl) (deep1:Int) (seen1:Option Addr) (w0:World) (K:Int→WP):Prop :=∃a4,seen1=some a4∧∀H1 w1,Hst w0 None w0 H1 w1→∃v2,w1.cell? a4=some (vi v2)∧∀H5 w13,Hst w0 H1 w1 H5 w13→m_T_j1 aE aI aJ aK aL aH deep1 seen1 ((decide (v2≥4096)) || (decide (deep1≥64))) w0 H5 w13 K
theorem w_T (aE aI aJ aK aL aH deep1 seen1 w0 K) (h:m_T aE aI aJ aK aL aH deep1 seen1 w0 K):
  Calls Tryz.prog 203 #[(.agg #[(vi aE),(vi aI),(vi aJ),(vu aK),(vs aL),aH.v]),(vi deep1),(vp seen1)] w0 (fun e w'=>∃r2,e=.returned (vi r2)∧K r2 w'):=by
 refine cw (args:=[(Aa aE aI aJ aK aL aH),(vi deep1),(vp seen1)]) Tryz.func203 Tryz.ntmps203 ?_
 obtain ⟨hs,hb⟩:=st0 w0
 refine eg (nw3 (Ab aE aI aJ aK aL aH) 107 hs hb xb fun p1 w1 H1 hs hb=>q (ln (zA (zA (qQ (fun ρ w=>∃x1,∃H:NP,Has ρ [(1,(vi deep1)),(2,(vp seen1)),(3,(vp (some p1))),(16,(vb x1))]∧Hst w0 H w H w∧HB H w [(p1,(Ab aE aI aJ aK aL aH),107)]∧m_T_j1 aE aI aJ aK aL aH deep1 seen1 x1 w0 H w K) ?_ ?_)))))
 rintro ρ w ⟨x1,H,hH,hs,hb,h⟩
 refine zU hH (cbr h ?_ ?_)<;>intro h
 refine eg (q (ln (er (zY (rs1 Tryz.results203 ⟨52,rfl,h⟩)))))
 refine zB (zO (eg (qb ?_)))
 obtain ⟨a1,hp1,h⟩:=h
 refine q2 (vp (some a1)) (zG (p:=seen1) (by kernel_rfl) hp1) (ql (Tryz.isAgg3 _) h fun v1 h=>q ?_)
 obtain ⟨a2,hp2,h⟩:=h
 refine q2 (vp (some a2)) (zG (p:=seen1) (by kernel_rfl) hp2) ?_
 obtain ⟨hp3,hnh,h⟩:=h
 refine zK (zD rfl) (vL (a:=a2) (v:=(vi (q6.wrap (v1+1)))) (by kernel_rfl) (by kernel_rfl) rfl (Tryz.sizeOf3 _) hp3) ?_
 intro w2 hn2
 have h:=h w2 hn2
 have hk:=Kept.sc hnh hn2
 obtain ⟨hs,hb⟩:=hk.hh hs hb
 refine ln (eg (q2 (Aa aE aI aJ aK aL aH) (xa p1 (Ab aE aI aJ aK aL aH) (Tryz.isAgg107 _) (Tryz.sizeOf107 _) (hb.r0 0 6 gZ)) (sc Tryz.call204 ((p_C1 aE aI aJ aK aL aH w2).mono ?_))))
 rintro e w3 ⟨he,hE⟩
 refine ⟨_,he,?_⟩
 obtain ⟨hs,hb⟩:=hs.pp hb hE
 refine sc Tryz.call176 ((p_H aE aI aJ aK aL 0 0 w3).mono ?_)
 rintro e w4 ⟨he,hE⟩
 refine ⟨_,he,?_⟩
 obtain ⟨hs,hb⟩:=hs.pp hb hE
 refine q (ln (zA (zA (vQ (fun ρ wJ=>∃b1'0 y1:Bool,∃HJ:NP,((((s_H aE aI aJ aK aL 0 0):Int) != 53)=b1'0)∧(y1=(b1'0 && (((aH.len:Int):Int) != (s_C aE))))∧Hst w0 H w2 HJ wJ∧HB HJ wJ [(p1,(Ab aE aI aJ aK aL aH),107)]∧Has ρ [(1,(vi deep1)),(2,(vp seen1)),(3,(vp (some p1))),(7,(vi (s_H aE aI aJ aK aL 0 0))),(36,(vb y1))]) ?_ ?_))))
 refine tQ (fun x=>∃H',Hst w0 H w2 H' x∧HB H' x [(p1,(Ab aE aI aJ aK aL aH),107)]) [8] [] (by kernel_rfl) (by kernel_rfl) (by kernel_rfl) (by kernel_rfl) ⟨_,hs.drew,hb.drew⟩ ?_
 intro w8 hw8
 have hs:Hst w0 H w2 H w8:=by rw [hw8];exact hs.drew
 have hb:HB H w8 [(p1,(Ab aE aI aJ aK aL aH),107)]:=by rw [hw8];exact hb.drew
 refine qx 0 (vi (s_H aE aI aJ aK aL 0 0)) Kp0 (qx 1 (vb (((s_H aE aI aJ aK aL 0 0):Int) != 53)) Kp1 (qx 2 (vb (((s_H aE aI aJ aK aL 0 0):Int) != 53)) Kp2 (qg 3 ?_)))
 rcases Bool.eq_false_or_eq_true (((s_H aE aI aJ aK aL 0 0):Int) != 53) with hg2 | hg2
 refine sz (v:=(vp (some (p1.add 5)))) Kp3 (wy 28 hg2) (fun _ _=>(by kernel_rfl)) (qg 4 (sz (v:=aH.v) Kp4 (wy 28 hg2) (fun w' hw'=>(by obtain ⟨H',hs',hb'⟩:=hw';exact (xl (Tryz.isAgg66 _) (hb'.cell 0 5 gZ (by kernel_rfl))))) (qw 5 (vi (aH.len:Int)) Kp5 (wy 28 hg2) (qw 6 (vp (some p1)) Kp6 (wy 28 hg2) (qg 7 (sz (v:=(vi aE)) Kp7 (wy 28 hg2) (fun w' hw'=>(by obtain ⟨H',hs',hb'⟩:=hw';exact (xl (Tryz.isAgg3 _) (hb'.cell0 0 gZ (by kernel_rfl))))) (lg 8 (zL Kp8 (wy 28 hg2) (by kernel_rfl) (xc Tryz.call105) ((p_C aE w8).mono ?_)))))))))
 rintro e w9 ⟨he,hE⟩
 obtain ⟨hs,hb⟩:=hs.pp hb hE
 refine ⟨(vi (s_C aE)),he.trans (by kernel_rfl),.inr ⟨_,hs,hb⟩,?_⟩
 refine qw 9 (vb (((aH.len:Int):Int) != (s_C aE))) Kp9 (wy 28 hg2) (qz 10 (vb (((aH.len:Int):Int) != (s_C aE))) (zS (S8 (zI (zI zR)))) (fun _ _=>(xT hg2)) (wn (zO ⟨true,_,_,hg2,rfl,hs,hb,hm⟩)))
 refine xK Kp3 (qC rfl (yD 28 hg2) rfl) (qn 4 Kp4 (qC rfl (yD 28 hg2) rfl) (qn 5 Kp5 (qC rfl (yD 28 hg2) rfl) (qn 6 Kp6 (qC rfl (yD 28 hg2) rfl) (qn 7 Kp7 (qC rfl (yD 28 hg2) rfl) (lg 8 (xK Kp8 (qC rfl (yD 28 hg2) rfl) (qn 9 Kp9 (qC rfl (yD 28 hg2) rfl) (qz 10 (vb false) (zS (S8 (zI (zI zR)))) (fun _ _=>(xF hg2)) (wn (zO ⟨false,_,_,hg2,rfl,hs,hb,hm⟩))))))))))
 rintro ρ w7 ⟨b1'0,y1,H2,he0,hy1,hs,hb,hH⟩
 subst he0
 have h:=h y1 hy1
 refine vI hH (zO (vQ (fun ρ wJ=>∃b2'0:Bool,∃HJ:NP,(y1=b2'0)∧Hst w0 H w2 HJ wJ∧HB HJ wJ [(p1,(Ab aE aI aJ aK aL aH),107)]∧Has ρ [(1,(vi deep1)),(2,(vp seen1)),(3,(vp (some p1))),(7,(vi (cond b2'0 53 (s_H aE aI aJ aK aL 0 0))))]) ?_ ?_))
 refine vO (t:=y1) (by kernel_rfl) (fun hc3=>?_) (fun hc3=>?_)
 refine rg (q (ln ⟨true,_,hc3,hs,hb,hm⟩))
 refine zB (zO ⟨false,_,hc3,hs,hb,hm⟩)
 rintro ρ w10 ⟨b2'0,H3,he0,hs,hb,hH⟩
 subst he0
 refine vI hH (zO (zA (eg (q (ln (zJ ?_))))))
 have ⟨h,hs⟩:=hs.hr (h H3 w10)
 obtain ⟨I1,mu1,h0,hr⟩:=h
 refine vH (σ:=Int×Int×NP×World) (fun s ρ w=>w=s.2.2.2∧Has ρ [(1,(vi deep1)),(2,(vp seen1)),(3,(vp (some p1))),(7,(vi s.1)),(8,(vi s.2.1))]∧Hst w0 s.2.2.1 w s.2.2.1 w∧HB s.2.2.1 w [(p1,(Ab aE aI aJ aK aL aH),107)]∧I1 s.1 s.2.1 s.2.2.1 s.2.2.2) (fun s=>mu1 s.1 s.2.1 s.2.2.2) ((cond y1 53 (s_H aE aI aJ aK aL 0 0)),0,H3,w10) ⟨rfl,hm,hs,hb,h0⟩ ?_
 rintro ⟨e1,i1,Hl1,wl1⟩ ρ w ⟨hw,hH,hs,hb,hI⟩
 dsimp only at hw hH hs hb;subst w
 have h:=hr e1 i1 Hl1 wl1 hs hI
 refine zU hH (zA (zA (vQ (fun ρ wJ=>∃b3'0:Bool,∃HJ:NP,((e1 == 0)=b3'0)∧Hst w0 Hl1 wl1 HJ wJ∧HB HJ wJ [(p1,(Ab aE aI aJ aK aL aH),107)]∧Has ρ [(1,(vi deep1)),(2,(vp seen1)),(3,(vp (some p1))),(7,(vi e1)),(8,(vi i1)),(45,(vb (b3'0 && (decide (i1<(aH.len:Int))))))]) ?_ ?_)))
 refine rg (qc ?_)
 rcases Bool.eq_false_or_eq_true (e1 == 0) with hg4 | hg4
 refine qk 39 hg4 (qk 39 hg4 (q4 39 hg4 (xl (Tryz.isAgg66 _) (hb.d 0 5 gZ)) (qk 39 hg4 (qk 39 hg4 (q2 (vb (decide (i1<(aH.len:Int)))) (xT hg4) (ln ⟨true,_,hg4,hs,hb,hm⟩))))))
 refine sj5 39 hg4 (q2 (vb false) (xF hg4) (ln ⟨false,_,hg4,hs,hb,hm⟩))
 rintro ρ w11 ⟨b3'0,H4,he0,hs,hb,hH⟩
 subst he0
 refine vI hH (zO (cbr h ?_ ?_))<;>intro h
 refine zB (zO (zA (zJ (rg (q (q3 (xl (Tryz.isAgg66 _) (hb.d 0 5 gZ)) (q (qi (Tryz.runUnderlying66 _) (Tryz.sizeOf107 _) h fun a3 h=>?_))))))))
 have ⟨h,hs⟩:=hs.hr (h H4 w11)
 obtain ⟨aO,aP,aQ,aR,aS,bI,hv1,h⟩:=h
 refine qa (Tryz.isAgg107 _) (Tryz.sizeOf107 _) hv1 (qc (sc Tryz.call203 (h.mono fun e w12 ⟨r1,k,hk,h⟩=>have ⟨hs,hb⟩:=hk.hh hs hb;⟨_,k,?_⟩)))
 refine q (zC (yQ (zO (rg (qc (ln ⟨(r1,(q6.wrap (i1+1)),H4,w12),⟨rfl,hm,hs,hb,h.1⟩,h.2⟩))))))
 refine vF (yM (yM (yK (zO (eg (q0 (vi e1) (q0 (vi e1) (ln (er ?_)))))))))
 have ⟨h,hs⟩:=hs.hr (h H4 w11)
 refine rs1 Tryz.results203 ⟨e1,rfl,h⟩
 refine rg (q ?_)
 obtain ⟨a4,hp4,h⟩:=h
 refine q2 (vp (some a4)) (zG (p:=seen1) (by kernel_rfl) hp4) ?_
 have ⟨h,hs⟩:=hs.hr (h H1 w1)
 refine ql (Tryz.isAgg3 _) h fun v2 h=>qb (zN 3 (fun ρ wJ=>∃b4'0:Bool,∃HJ:NP,((decide (v2≥4096))=b4'0)∧Hst w0 H1 w1 HJ wJ∧HB HJ wJ [(p1,(Ab aE aI aJ aK aL aH),107)]∧Has ρ [(1,(vi deep1)),(2,(vp seen1)),(3,(vp (some p1))),(16,(vb (b4'0 || (decide (deep1≥64)))))]) ?_ ?_)
 rintro ρ w13 ⟨b4'0,H5,he0,hs,hb,hH⟩
 subst he0
 refine zQ hH (zC ?_)
 have ⟨h,hs⟩:=hs.hr (h H5 w13)
 refine zO ⟨((decide (v2≥4096)) || (decide (deep1≥64))),H5,hm,hs,hb,h⟩
 rcases Bool.eq_false_or_eq_true (decide (v2≥4096)) with hg6 | hg6
 refine sj2 13 hg6 (q2 (vb true) (xT hg6) (zC ⟨true,_,hg6,hs,hb,hm⟩))
 refine qk 13 hg6 (qk 13 hg6 (q2 (vb (decide (deep1≥64))) (xF hg6) (zC ⟨false,_,hg6,hs,hb,hm⟩)))
def m_F4 (aE aI:Int) (aJ aK:Int) (aL:ByteArray) (aH:Sl) (w0:World) (K:Int→WP):Prop :=∀H1 w1,Hst w0 None w0 H1 w1→∀p2 w2,New w1 (.cells #[(vi 0)] 3) p2 w2→vG w2 p2∧¬ H1 p2.block∧∀w3,w3=w2.setCell p2 (vi 0)→Calls Tryz.prog 203 #[(.agg #[(vi aE),(vi aI),(vi aJ),(vu aK),(vs aL),aH.v]),(vi 0),(vp (some p2))] w3 (fun e w4=>∃r1,e=.returned (vi r1)∧Kept H1 w3 w4∧K r1 w4)
theorem w_F4 (aE aI aJ aK aL aH w0 K) (h:m_F4 aE aI aJ aK aL aH w0 K):
  Calls Tryz.prog 147 #[(.agg #[(vi aE),(vi aI),(vi aJ),(vu aK),(vs aL),aH.v])] w0 (fun e w'=>∃r2,e=.returned (vi r2)∧K r2 w'):=by
 refine cw (args:=[(Aa aE aI aJ aK aL aH)]) Tryz.func147 Tryz.ntmps147 ?_
 obtain ⟨hs,hb⟩:=st0 w0
 refine eg (nw3 (Ab aE aI aJ aK aL aH) 107 hs hb xb fun p1 w1 H1 hs hb=>q (ln (eg ?_)))
 have ⟨h,hs⟩:=hs.hr (h H1 w1)
 refine nw2 hs hb h (zM (Tryz.zeroValue3 _) rfl) fun p2 w2 hs hb h=>?_
 obtain ⟨hp1,hnh,h⟩:=h
 refine zK (zD rfl) (vL (a:=p2) (v:=(vi 0)) (by kernel_rfl) (by kernel_rfl) rfl (Tryz.sizeOf3 _) hp1) ?_
 intro w3 hn2
 have h:=h w3 hn2
 have hk:=Kept.sc hnh hn2
 obtain ⟨hs,hb⟩:=hk.hh hs hb
 refine ln (eg (q2 (Aa aE aI aJ aK aL aH) (xa p1 (Ab aE aI aJ aK aL aH) (Tryz.isAgg107 _) (Tryz.sizeOf107 _) (hb.r0 0 6 gZ)) (sc Tryz.call203 (h.mono fun e w4 ⟨r1,k,hk,h⟩=>have ⟨hs,hb⟩:=hk.hh hs hb;⟨_,k,?_⟩))))
 refine q (ln (er (rs1 Tryz.results147 ⟨r1,rfl,h⟩)))
def m_G4 (p1:Option Addr) (t1:Int) (w0:World) (K:Int→WP):Prop :=Calls Tryz.prog 87 #[(vp p1),(vi t1)] w0 (fun e w1=>∃r1,e=.returned (vb r1)∧Br (!r1) (K 0 w1) (∃a1,p1=some a1∧∃v1:Sl,w1.cell? (a1.add 1)=some v1.v∧∃a2:Addr,At v1 (q6.wrap (t1 - 1)) 1 a2∧∃v2,w1.cell? a2=some (vi v2)∧K v2 w1))
theorem w_G4 (p1 t1 w0 K) (h:m_G4 p1 t1 w0 K):
  Calls Tryz.prog 97 #[(vp p1),(vi t1)] w0 (fun e w'=>∃r2,e=.returned (vi r2)∧K r2 w'):=by
 refine cw (args:=[(vp p1),(vi t1)]) Tryz.func97 Tryz.ntmps97 (eg (q0 (vi 0) (ln (zA (eg (q0 (vp p1) (q0 (vi t1) ?_)))))))
 refine sc Tryz.call87 (h.mono fun e w1 ⟨r1,k,h⟩=>⟨_,k,?_⟩)
 refine q (ln (cbr h ?_ ?_))<;>intro h
 refine eg (q (ln (er (zY (rs1 Tryz.results97 ⟨0,rfl,h⟩)))))
 refine zB (zO (eg (q ?_)))
 obtain ⟨a1,hp1,h⟩:=h
 refine q2 (vp (some a1)) (zG (p:=p1) (by kernel_rfl) hp1) (q (ql (Tryz.isAgg42 _) h fun v1 h=>qb (qi (Tryz.runUnderlying42 _) (Tryz.sizeOf3 _) h fun a2 h=>ql (Tryz.isAgg3 _) h fun v2 h=>q (ln (er (rs1 Tryz.results97 ⟨v2,rfl,h⟩))))))
def m_H4 (p1:Option Addr) (t1:Int) (w0:World) (K:Int→WP):Prop :=Calls Tryz.prog 87 #[(vp p1),(vi t1)] w0 (fun e w1=>∃r1,e=.returned (vb r1)∧Br (!r1) (K 0 w1) (∃a1,p1=some a1∧∃v1:Sl,w1.cell? (a1.add 2)=some v1.v∧∃a2:Addr,At v1 (q6.wrap (t1 - 1)) 1 a2∧∃v2,w1.cell? a2=some (vi v2)∧K v2 w1))
theorem w_H4 (p1 t1 w0 K) (h:m_H4 p1 t1 w0 K):
  Calls Tryz.prog 177 #[(vp p1),(vi t1)] w0 (fun e w'=>∃r2,e=.returned (vi r2)∧K r2 w'):=by
 refine cw (args:=[(vp p1),(vi t1)]) Tryz.func177 Tryz.ntmps177 (eg (q0 (vi 0) (ln (zA (eg (q0 (vp p1) (q0 (vi t1) ?_)))))))
 refine sc Tryz.call87 (h.mono fun e w1 ⟨r1,k,h⟩=>⟨_,k,?_⟩)
 refine q (ln (cbr h ?_ ?_))<;>intro h
 refine eg (q (ln (er (zY (rs1 Tryz.results177 ⟨0,rfl,h⟩)))))
 refine zB (zO (eg (q ?_)))
 obtain ⟨a1,hp1,h⟩:=h
 refine q2 (vp (some a1)) (zG (p:=p1) (by kernel_rfl) hp1) (q (ql (Tryz.isAgg42 _) h fun v1 h=>qb (qi (Tryz.runUnderlying42 _) (Tryz.sizeOf3 _) h fun a2 h=>ql (Tryz.isAgg3 _) h fun v2 h=>q (ln (er (rs1 Tryz.results177 ⟨v2,rfl,h⟩))))))
theorem uZ (a0 a1:Int) (a2 a3:Int) (a4:ByteArray) (a5 a6:Int) (b0 b1:Int) (b2 b3:Int) (b4:ByteArray) (b5 b6:Int) (w:World):(Go.binOp .eql 176 (.agg #[(.int .i64 a0),(.int .i64 a1),(.int .i64 a2),(.int .u64 a3),(.string a4),(.int .i64 a5),(.int .i64 a6)]) (.agg #[(.int .i64 b0),(.int .i64 b1),(.int .i64 b2),(.int .u64 b3),(.string b4),(.int .i64 b5),(.int .i64 b6)])).run Tryz.prog w=.ok (.bool ((a0 == b0) && ((a1 == b1) && ((a2 == b2) && ((a3 == b3) && ((decide (a4=b4)) && ((a5 == b5) && (a6 == b6)))))))) w:=by
 simp [Go.binOp,Op.equal,Op.maxDepth,go_sem,jER,bne]
 repeat' split
 all_goals simp_all
def m_N1_l1 (p1:Option Addr) (aA aB:Int) (aC aF:Int) (aD:ByteArray) (aG aM i1:Int) (w0:World) (Hl1:NP) (wl1:World) (Kc1:Int→NP→WP) (K:Int→Bool→WP):Prop :=∃a1,p1=some a1∧∃v1:Sl,wl1.cell? a1=some v1.v∧Br (decide (i1<(v1.len:Int))) (∃a2,p1=some a2∧∀w2,Hst w0 Hl1 wl1 Hl1 w2→∃v2:Sl,w2.cell? a2=some v2.v∧∃a3:Addr,At v2 i1 7 a3∧∃aO aP aQ aR aS bM bN,Row w2 a3 (Ad aO aP aQ aR aS bM bN)∧Br ((aO == aA) && ((aP == aB) && ((aQ == aC) && ((aR == aF) && ((decide (aS=aD)) && ((bM == aG) && (bN == aM))))))) (K (q6.wrap (i1+1)) true w2) (Kc1 (q6.wrap (i1+1)) Hl1 w2)) (K 0 false wl1)
def m_N1 (p1:Option Addr) (aA aB:Int) (aC aF:Int) (aD:ByteArray) (aG aM:Int) (w0:World) (K:Int→Bool→WP):Prop :=∀H1 w1,Hst w0 None w0 H1 w1→∃(I1:Int→NP→WP) (mu1:Int→World→Nat),I1 0 H1 w1∧∀(i1:Int) (Hl1:NP) (wl1:World),Hst w0 Hl1 wl1 Hl1 wl1→I1 i1 Hl1 wl1→m_N1_l1 p1 aA aB aC aF aD aG aM i1 w0 Hl1 wl1 (fun y'0 H' w'=>I1 y'0 H' w'∧mu1 y'0 w'<mu1 i1 wl1) K
theorem w_N1 (p1 aA aB aC aF aD aG aM w0 K) (h:m_N1 p1 aA aB aC aF aD aG aM w0 K):
  Calls Tryz.prog 178 #[(vp p1),(.agg #[(vi aA),(vi aB),(vi aC),(vu aF),(vs aD),(vi aG),(vi aM)])] w0 (fun e w'=>∃r1 r2,e=.returned (.tuple #[(vi r1),(vb r2)])∧K r1 r2 w'):=by
 refine cw (args:=[(vp p1),(Ae aA aB aC aF aD aG aM)]) Tryz.func178 Tryz.ntmps178 ?_
 obtain ⟨hs,hb⟩:=st0 w0
 refine eg (nw3 (Ad aA aB aC aF aD aG aM) 176 hs hb xb fun p2 w1 H1 hs hb=>qb (ln (zA (eg (q (ln (zJ ?_)))))))
 have ⟨h,hs⟩:=hs.hr (h H1 w1)
 obtain ⟨I1,mu1,h0,hr⟩:=h
 refine vH (σ:=Int×NP×World) (fun s ρ w=>w=s.2.2∧Has ρ [(0,(vp p1)),(3,(vp (some p2))),(6,(vi s.1))]∧Hst w0 s.2.1 w s.2.1 w∧HB s.2.1 w [(p2,(Ad aA aB aC aF aD aG aM),176)]∧I1 s.1 s.2.1 s.2.2) (fun s=>mu1 s.1 s.2.2) (0,H1,w1) ⟨rfl,hm,hs,hb,h0⟩ ?_
 rintro ⟨i1,Hl1,wl1⟩ ρ w ⟨hw,hH,hs,hb,hI⟩
 dsimp only at hw hH hs hb;subst w
 have h:=hr i1 Hl1 wl1 hs hI
 refine zU hH (zA (eg (qb ?_)))
 obtain ⟨a1,hp1,h⟩:=h
 refine q2 (vp (some a1)) (zG (p:=p1) (by kernel_rfl) hp1) (q (ql (Tryz.isAgg41 _) h fun v1 h=>qb (ln (cbr h ?_ ?_))))<;>intro h
 refine zB (zO (zA (zJ (zA (uN (by kernel_rfl) (by kernel_rfl) (by kernel_rfl) (by kernel_rfl) ?_)))))
 intro w2 hw2
 have hs:Hst w0 Hl1 wl1 Hl1 w2:=by rw [hw2];exact hs.drew
 have hb:HB Hl1 w2 [(p2,(Ad aA aB aC aF aD aG aM),176)]:=by rw [hw2];exact hb.drew
 refine qq 0 (vp p1) Kp0 (qg 1 ?_)
 obtain ⟨a2,hp2,h⟩:=h
 refine sxQ (v:=(vp (some a2))) Kp1 (zD rfl) rfl (zG (p:=p1) (by kernel_rfl) hp2) (qq 2 (vp (some a2)) Kp2 (qg 3 ?_))
 have ⟨h,hs⟩:=hs.hr (h w2)
 obtain ⟨v2,hv3,h⟩:=h
 refine sxQ Kp3 (zD rfl) rfl (xl (Tryz.isAgg41 _) hv3) (qq 4 (vi i1) Kp4 (qg 5 ?_))
 obtain ⟨a3,hv2,h⟩:=h
 refine sxQ Kp5 (zD rfl) rfl (xi (Tryz.runUnderlying41 _) (Tryz.sizeOf176 _) hv2) (qg 6 ?_)
 obtain ⟨aO,aP,aQ,aR,aS,bM,bN,hv1,h⟩:=h
 refine sxQ (v:=(Ae aO aP aQ aR aS bM bN)) Kp6 (zD rfl) rfl (xa a3 (Ad aO aP aQ aR aS bM bN) (Tryz.isAgg176 _) (Tryz.sizeOf176 _) hv1) (qr 7 (Ae aA aB aC aF aD aG aM) Kp7 (xa p2 (Ad aA aB aC aF aD aG aM) (Tryz.isAgg176 _) (Tryz.sizeOf176 _) (hb.r0 0 7 gZ)) (qr 8 (vb ((aO == aA) && ((aP == aB) && ((aQ == aC) && ((aR == aF) && ((decide (aS=aD)) && ((bM == aG) && (bN == aM)))))))) Kp8 (jCH (by kernel_rfl) (by kernel_rfl) (by kernel_rfl) (uZ aO aP aQ aR aS bM bN aA aB aC aF aD aG aM _)) (wn (zO (cbr h ?_ ?_)))))<;>intro h
 refine eg (qd (ln (er (qN (zY (zY (qN (zY (xS (.inl rfl) Tryz.results178 (v:=(vi (q6.wrap (i1+1)))) (by kernel_rfl) (v':=(vb true)) (by kernel_rfl) ⟨(q6.wrap (i1+1)),true,rfl,h⟩)))))))))
 refine zB (yQ (zO (rg (qc (ln ⟨((q6.wrap (i1+1)),Hl1,w2),⟨rfl,hm,hs,hb,h.1⟩,h.2⟩)))))
 refine vF (yM (yM (yK (zO (eg (q0 (vi 0) (q0 (vb false) (ln (er (xS (.inl rfl) Tryz.results178 (v:=(vi 0)) (by kernel_rfl) (v':=(vb false)) (by kernel_rfl) ⟨0,false,rfl,h⟩))))))))))
def m_O_j1 (p1:Option Addr) (aA aB:Int) (aC aF:Int) (aD:ByteArray) (aG aM:Int) (x1:Bool) (w0:World) (H:NP) (w:World) (K:Int→Int→WP):Prop :=Br x1 (K 0 51 w) (∃C1:WP,C1 w.drew∧∀w4,w4=w.drew→Calls Tryz.prog 97 #[(vp p1),(vi aG)] w4 (fun e w5=>∃r1,e=.returned (vi r1)∧C1 w5∧Kept H w4 w5∧Calls Tryz.prog 97 #[(vp p1),(vi aM)] w5 (fun e w6=>∃r2,e=.returned (vi r2)∧C1 w6∧Kept H w5 w6∧∃C2:WP,C2 w6.drew∧∀w7,w7=w6.drew→Calls Tryz.prog 177 #[(vp p1),(vi aG)] w7 (fun e w8=>∃r3,e=.returned (vi r3)∧C2 w8∧Kept H w7 w8∧Calls Tryz.prog 177 #[(vp p1),(vi aM)] w8 (fun e w9=>∃r4,e=.returned (vi r4)∧C2 w9∧Kept H w8 w9∧∃z1,(∀w',C2 w'→(Builtin.max_ #[3,3] 3 #[(vi r3),(vi r4)]).run Tryz.prog w'=.ok (vi z1) w')∧∀y1:Bool,y1=((decide ((q6.wrap ((q6.wrap (1+r1))+r2))>4096)) || (decide ((q6.wrap (1+z1))>64)))→Br y1 (∀H2 w10,Hst w0 H w9 H2 w10→K 0 52 w10) (∀H2 w10,Hst w0 H w9 H2 w10→Calls Tryz.prog 178 #[(vp p1),(.agg #[(vi aA),(vi aB),(vi aC),(vu aF),(vs aD),(vi aG),(vi aM)])] w10 (fun e w11=>∃r5 r6,e=.returned (.tuple #[(vi r5),(vb r6)])∧Kept H2 w10 w11∧Br r6 (K r5 0 w11) (∃a1,p1=some a1∧∃v1:Sl,w11.cell? a1=some v1.v∧Br (decide ((v1.len:Int)≥65536)) (K 0 6 w11) (∃C3:WP,C3 w11.drew∧∀w12,w12=w11.drew→∃a2,p1=some a2∧∃v2:Sl,(∀w',C3 w'→w'.cell? a2=some v2.v)∧∀p3 w13,New w12 (.cells #[(vi aA),(vi aB),(vi aC),(vu aF),(vs aD),(vi aG),(vi aM)] 176) p3 w13→C3 w13∧∃s1:Sl,∃w14:World,(Builtin.append_ #[41,41] 41 #[v2.v,(Sl.mk (some p3) 1 1).v]).run Tryz.prog w13=.ok s1.v w14∧C3 w14∧Kept H2 w13 w14∧∃a3,p1=some a3∧vG w14 a3∧¬ H2 a3.block∧∀w15,w15=w14.setCell a3 s1.v→∃a4,p1=some a4∧∃v3:Sl,w15.cell? (a4.add 1)=some v3.v∧∀p4 w16,New w15 (.cells #[(vi (q6.wrap ((q6.wrap (1+r1))+r2)))] 3) p4 w16→∃s2:Sl,∃w17:World,(Builtin.append_ #[42,42] 42 #[v3.v,(Sl.mk (some p4) 1 1).v]).run Tryz.prog w16=.ok s2.v w17∧Kept H2 w16 w17∧∃a5,p1=some a5∧vG w17 (a5.add 1)∧¬ H2 (a5.add 1).block∧∀w18,w18=w17.setCell (a5.add 1) s2.v→∃a6,p1=some a6∧∃v4:Sl,w18.cell? (a6.add 2)=some v4.v∧∀p5 w19,New w18 (.cells #[(vi (q6.wrap (1+z1)))] 3) p5 w19→∃s3:Sl,∃w20:World,(Builtin.append_ #[42,42] 42 #[v4.v,(Sl.mk (some p5) 1 1).v]).run Tryz.prog w19=.ok s3.v w20∧Kept H2 w19 w20∧∃a7,p1=some a7∧vG w20 (a7.add 2)∧¬ H2 (a7.add 2).block∧∀w21,w21=w20.setCell (a7.add 2) s3.v→∃a8,p1=some a8∧∃v5:Sl,w21.cell? a8=some v5.v∧K (v5.len:Int) 0 w21)))))))))
def m_O_j2 (p1:Option Addr) (aA aB:Int) (aC aF:Int) (aD:ByteArray) (aG aM:Int) (x2:Bool) (w0:World) (H:NP) (w:World) (K:Int→Int→WP):Prop :=Br x2 (m_O_j1 p1 aA aB aC aF aD aG aM true w0 H w K) (Br (((s_C aA):Int) == 2) (Calls Tryz.prog 87 #[(vp p1),(vi aM)] w (fun e w22=>∃r7,e=.returned (vb r7)∧Kept H w w22∧m_O_j1 p1 aA aB aC aF aD aG aM (!r7) w0 H w22 K)) (m_O_j1 p1 aA aB aC aF aD aG aM false w0 H w K))
def m_O (p1:Option Addr) (aA aB:Int) (aC aF:Int) (aD:ByteArray) (aG aM:Int) (w0:World) (K:Int→Int→WP):Prop :=Br (((s_H aA aB aC aF aD aG aM):Int) != 0) (∀H1 w2,Hst w0 None w0 H1 w2→K 0 (s_H aA aB aC aF aD aG aM) w2) (Br (decide ((s_C aA)≥1)) (∀H1 w3,Hst w0 None w0 H1 w3→Calls Tryz.prog 87 #[(vp p1),(vi aG)] w3 (fun e w23=>∃r8,e=.returned (vb r8)∧Kept H1 w3 w23∧m_O_j2 p1 aA aB aC aF aD aG aM (!r8) w0 H1 w23 K)) (∀H1 w3,Hst w0 None w0 H1 w3→m_O_j2 p1 aA aB aC aF aD aG aM false w0 H1 w3 K))
theorem w_O (p1 aA aB aC aF aD aG aM w0 K) (h:m_O p1 aA aB aC aF aD aG aM w0 K):
  Calls Tryz.prog 113 #[(vp p1),(.agg #[(vi aA),(vi aB),(vi aC),(vu aF),(vs aD),(vi aG),(vi aM)])] w0 (fun e w'=>∃r9 r10,e=.returned (.tuple #[(vi r9),(vi r10)])∧K r9 r10 w'):=by
 refine cw (args:=[(vp p1),(Ae aA aB aC aF aD aG aM)]) Tryz.func113 Tryz.ntmps113 ?_
 obtain ⟨hs,hb⟩:=st0 w0
 refine eg (nw3 (Ad aA aB aC aF aD aG aM) 176 hs hb xb fun p2 w1 H1 hs hb=>qb (ln (eg (q2 (Ae aA aB aC aF aD aG aM) (xa p2 (Ad aA aB aC aF aD aG aM) (Tryz.isAgg176 _) (Tryz.sizeOf176 _) (hb.r0 0 7 gZ)) (sc Tryz.call176 ((p_H aA aB aC aF aD aG aM w1).mono ?_))))))
 rintro e w2 ⟨he,hE⟩
 refine ⟨_,he,?_⟩
 obtain ⟨hs,hb⟩:=hs.pp hb hE
 refine q (ln (zA (eg (qb (ln (cbr h ?_ ?_))))))<;>intro h
 refine eg (qc (ln (er (zY ?_))))
 have ⟨h,hs⟩:=hs.hr (h H1 w2)
 refine xS (.inl rfl) Tryz.results113 (v:=(vi 0)) (by kernel_rfl) (v':=(vi (s_H aA aB aC aF aD aG aM))) (by kernel_rfl) ⟨0,(s_H aA aB aC aF aD aG aM),rfl,h⟩
 refine zB (zO (eg (q (q3 (xl (Tryz.isAgg3 _) (hb.d0 0 gZ)) (sc Tryz.call105 ((p_C aA w2).mono ?_))))))
 rintro e w3 ⟨he,hE⟩
 refine ⟨_,he,?_⟩
 obtain ⟨hs,hb⟩:=hs.pp hb hE
 refine q (ln (zA (zA (qQ (fun ρ w=>∃x1,∃H:NP,Has ρ [(0,(vp p1)),(3,(vp (some p2))),(39,(vb x1))]∧Hst w0 H w H w∧HB H w [(p2,(Ad aA aB aC aF aD aG aM),176)]∧m_O_j1 p1 aA aB aC aF aD aG aM x1 w0 H w K) ?_ ?_))))
 rintro ρ w ⟨x1,H,hH,hs,hb,h⟩
 refine zU hH (cbr h ?_ ?_)<;>intro h
 refine eg (qb (ln (er (zY (xS (.inl rfl) Tryz.results113 (v:=(vi 0)) (by kernel_rfl) (v':=(vi 51)) (by kernel_rfl) ⟨0,51,rfl,h⟩)))))
 refine zB (zO (zA ?_))
 obtain ⟨C1,hC,h⟩:=h
 refine dr2 (fun x=>C1 x∧HB H x _) [3,8] [] ⟨hC,hb.drew⟩ h hs hb fun w4 hs hb h=>?_
 have hs:=hs.here
 refine qx 0 (vp p1) Kp0 (qx 1 (vp (some (p2.add 5))) Kp1 (qz 2 (vi aG) Kp2 (fun w' hw'=>(xl (Tryz.isAgg78 _) (hw'.2.cell 0 5 gZ (by kernel_rfl)))) (qx 5 (vp p1) Kp5 (qx 6 (vp (some (p2.add 6))) Kp6 (qz 7 (vi aM) Kp7 (fun w' hw'=>(xl (Tryz.isAgg78 _) (hw'.2.cell 0 6 gZ (by kernel_rfl)))) (lg 3 (zL Kp3 (zD rfl) (by kernel_rfl) (xc Tryz.call97) (h.mono ?_))))))))
 rintro e w5 ⟨r1,rfl,hC,hk,h⟩
 refine ⟨_,rfl,.inr ⟨hC,hb.kept hk⟩,?_⟩
 obtain ⟨hs,hb⟩:=hk.hh hs hb
 refine qx 4 (vi (q6.wrap (1+r1))) Kp4 (lg 8 (zL Kp8 (zD rfl) (by kernel_rfl) (xc Tryz.call97) (h.mono ?_)))
 rintro e w6 ⟨r2,rfl,hC,hk,h⟩
 refine ⟨_,rfl,.inr ⟨hC,hb.kept hk⟩,?_⟩
 obtain ⟨hs,hb⟩:=hk.hh hs hb
 refine qx 9 (vi (q6.wrap ((q6.wrap (1+r1))+r2))) Kp9 (qx 10 (vi (q6.wrap ((q6.wrap (1+r1))+r2))) (zS (S8 (zI (zI zR)))) (wn (zO (zA ?_))))
 obtain ⟨C2,hC,h⟩:=h
 refine dr2 (fun x=>C2 x∧HB H x _) [3,7] [] ⟨hC,hb.drew⟩ h hs hb fun w7 hs hb h=>?_
 have hs:=hs.here
 refine qx 0 (vp p1) Kp0 (qx 1 (vp (some (p2.add 5))) Kp1 (qz 2 (vi aG) Kp2 (fun w' hw'=>(xl (Tryz.isAgg78 _) (hw'.2.cell 0 5 gZ (by kernel_rfl)))) (qx 4 (vp p1) Kp4 (qx 5 (vp (some (p2.add 6))) Kp5 (qz 6 (vi aM) Kp6 (fun w' hw'=>(xl (Tryz.isAgg78 _) (hw'.2.cell 0 6 gZ (by kernel_rfl)))) (lg 3 (zL Kp3 (zD rfl) (by kernel_rfl) (xc Tryz.call177) (h.mono ?_))))))))
 rintro e w8 ⟨r3,rfl,hC,hk,h⟩
 refine ⟨_,rfl,.inr ⟨hC,hb.kept hk⟩,?_⟩
 obtain ⟨hs,hb⟩:=hk.hh hs hb
 refine lg 7 (zL Kp7 (zD rfl) (by kernel_rfl) (xc Tryz.call177) (h.mono ?_))
 rintro e w9 ⟨r4,rfl,hC,hk,h⟩
 refine ⟨_,rfl,.inr ⟨hC,hb.kept hk⟩,?_⟩
 obtain ⟨hs,hb⟩:=hk.hh hs hb
 refine qg 8 ?_
 obtain ⟨z1,hv9,h⟩:=h
 refine sy (v:=(vi z1)) Kp8 (fun w' hw'=>(vP (args:=#[(vi r3),(vi r4)]) (by kernel_rfl) (fun _=>rfl) (hv9 w' hw'.1))) (qx 9 (vi (q6.wrap (1+z1))) Kp9 (qx 10 (vi (q6.wrap (1+z1))) (zS (S8 (zI (zI zR)))) (wn (zO (zA (zA (vQ (fun ρ wJ=>∃b1'0 y1:Bool,∃HJ:NP,((decide ((q6.wrap ((q6.wrap (1+r1))+r2))>4096))=b1'0)∧(y1=(b1'0 || (decide ((q6.wrap (1+z1))>64))))∧Hst w0 H w9 HJ wJ∧HB HJ wJ [(p2,(Ad aA aB aC aF aD aG aM),176)]∧Has ρ [(0,(vp p1)),(3,(vp (some p2))),(8,(vi (q6.wrap ((q6.wrap (1+r1))+r2)))),(9,(vi (q6.wrap (1+z1)))),(65,(vb y1))]) ?_ ?_)))))))
 refine rg (qc ?_)
 rcases Bool.eq_false_or_eq_true (decide ((q6.wrap ((q6.wrap (1+r1))+r2))>4096)) with hg2 | hg2
 refine sj2 62 hg2 (q2 (vb true) (xT hg2) (ln ⟨true,_,_,hg2,rfl,hs,hb,hm⟩))
 refine qk 62 hg2 (qk 62 hg2 (q2 (vb (decide ((q6.wrap (1+z1))>64))) (xF hg2) (ln ⟨false,_,_,hg2,rfl,hs,hb,hm⟩)))
 rintro ρ w10 ⟨b1'0,y1,H2,he0,hy1,hs,hb,hH⟩
 subst he0
 have h:=h y1 hy1
 refine vI hH (zO (cbr h ?_ ?_))<;>intro h
 refine eg (qb (ln (er (zY ?_))))
 have ⟨h,hs⟩:=hs.hr (h H2 w10)
 refine xS (.inl rfl) Tryz.results113 (v:=(vi 0)) (by kernel_rfl) (v':=(vi 52)) (by kernel_rfl) ⟨0,52,rfl,h⟩
 refine zB (zO (eg (q (q2 (Ae aA aB aC aF aD aG aM) (xa p2 (Ad aA aB aC aF aD aG aM) (Tryz.isAgg176 _) (Tryz.sizeOf176 _) (hb.r0 0 7 gZ)) ?_))))
 have ⟨h,hs⟩:=hs.hr (h H2 w10)
 refine sc Tryz.call178 (h.mono fun e w11 ⟨r5,r6,k,hk,h⟩=>have ⟨hs,hb⟩:=hk.hh hs hb;⟨_,k,?_⟩)
 refine q (qd (ln (zA (eg (q (zC (zO (cbr h ?_ ?_))))))))<;>intro h
 refine eg (qc (ln (er (zY (xS (.inl rfl) Tryz.results113 (v:=(vi r5)) (by kernel_rfl) (v':=(vi 0)) (by kernel_rfl) ⟨r5,0,rfl,h⟩)))))
 refine zB (zO (zA (eg (q ?_))))
 obtain ⟨a1,hp1,h⟩:=h
 refine q2 (vp (some a1)) (zG (p:=p1) (by kernel_rfl) hp1) (q (ql (Tryz.isAgg41 _) h fun v1 h=>qb (ln (cbr h ?_ ?_))))<;>intro h
 refine eg (qb (ln (er (zY (xS (.inl rfl) Tryz.results113 (v:=(vi 0)) (by kernel_rfl) (v':=(vi 6)) (by kernel_rfl) ⟨0,6,rfl,h⟩)))))
 refine zB (zO (zA ?_))
 obtain ⟨C3,hC,h⟩:=h
 refine dr2 (fun x=>C3 x∧HB H2 x _) [6,7,10] [10] ⟨hC,hb.drew⟩ h hs hb fun w12 hs hb h=>?_
 have hs:=hs.here
 refine qx 0 (vp p1) Kp0 (qx 1 (vp p1) Kp1 (qg 2 ?_))
 obtain ⟨a2,hp2,h⟩:=h
 refine sy (v:=(vp (some a2))) Kp2 (fun _ _=>(zG (p:=p1) (by kernel_rfl) hp2)) (qx 3 (vp (some a2)) Kp3 (qg 4 ?_))
 obtain ⟨v2,hv7,h⟩:=h
 refine sy Kp4 (fun _ k=>xl (Tryz.isAgg41 _) (hv7 _ k.1)) (qz 5 (Ae aA aB aC aF aD aG aM) Kp5 (fun w' hw'=>(xa p2 (Ad aA aB aC aF aD aG aM) (Tryz.isAgg176 _) (Tryz.sizeOf176 _) (hw'.2.r0 0 7 gZ))) (lg 6 (qI (O:=(.cells #[(vi aA),(vi aB),(vi aC),(vu aF),(vs aD),(vi aG),(vi aM)] 176)) (fun p=>(Sl.mk (some p) 1 1).v) Kp6 (zD rfl) (by kernel_rfl) (vR (vs:=#[(0,(Ae aA aB aC aF aD aG aM))]) (by kernel_rfl) (by kernel_rfl)) ?_)))
 intro p3 w13 hn7
 have h:=h p3 w13 hn7
 refine ⟨.inr ⟨h.1,hb.kept (Ext.new (F:=None) hn7).keptP⟩,?_⟩
 have h:=h.2
 obtain ⟨hs,hb⟩:=hs.nw hb hn7
 refine lg 7 ?_
 obtain ⟨s1,w14,hv6,hC,hk,h⟩:=h
 refine sl (v:=s1.v) Kp7 (zD rfl) (by kernel_rfl) (vP (args:=#[v2.v,(Sl.mk (some p3) 1 1).v]) (by kernel_rfl) (fun _=>rfl) hv6) (.inr ⟨hC,hb.kept hk⟩) ?_
 obtain ⟨hs,hb⟩:=hk.hh hs hb
 refine qg 8 ?_
 obtain ⟨a3,hp3,h⟩:=h
 refine sy (v:=(vp (some a3))) Kp8 (fun _ _=>(zG (p:=p1) (by kernel_rfl) hp3)) (qx 9 (vp (some a3)) Kp9 (lg 10 ?_))
 obtain ⟨hp4,hnh,h⟩:=h
 refine sl_t (zS (S8 (zI (zI zR)))) (xs (v:=s1.v) (Tryz.sizeOf41 _) hp4) ?_
 intro w15 hn2
 have h:=h w15 hn2
 refine ⟨.inl (by kernel_rfl),?_⟩
 have hk:=Kept.sc hnh hn2
 obtain ⟨hs,hb⟩:=hk.hh hs hb
 refine wn (zO (eg (qb ?_)))
 obtain ⟨a4,hp5,h⟩:=h
 refine q2 (vp (some a4)) (zG (p:=p1) (by kernel_rfl) hp5) (q (ql (Tryz.isAgg42 _) h fun v3 h=>q (tH (O:=(.cells #[(vi (q6.wrap ((q6.wrap (1+r1))+r2)))] 3)) (fun p=>(Sl.mk (some p) 1 1).v) (zD rfl) (vR (vs:=#[(0,(vi (q6.wrap ((q6.wrap (1+r1))+r2))))]) (by kernel_rfl) (by kernel_rfl)) ?_)))
 intro p4 w16 hn6
 have h:=h p4 w16 hn6
 obtain ⟨hs,hb⟩:=hs.nw hb hn6
 obtain ⟨s2,w17,hv4,hk,h⟩:=h
 refine st (v:=s2.v) (zD rfl) (vP (args:=#[v3.v,(Sl.mk (some p4) 1 1).v]) (by kernel_rfl) (fun _=>rfl) hv4) ?_
 obtain ⟨hs,hb⟩:=hk.hh hs hb
 obtain ⟨a5,hp6,h⟩:=h
 refine q2 (vp (some a5)) (zG (p:=p1) (by kernel_rfl) hp6) (q ?_)
 obtain ⟨hp7,hnh,h⟩:=h
 refine zK (zD rfl) (vL (a:=(a5.add 1)) (v:=s2.v) (by kernel_rfl) (by kernel_rfl) rfl (Tryz.sizeOf42 _) hp7) ?_
 intro w18 hn3
 have h:=h w18 hn3
 have hk:=Kept.sc hnh hn3
 obtain ⟨hs,hb⟩:=hk.hh hs hb
 refine ln (eg (qb ?_))
 obtain ⟨a6,hp8,h⟩:=h
 refine q2 (vp (some a6)) (zG (p:=p1) (by kernel_rfl) hp8) (q (ql (Tryz.isAgg42 _) h fun v4 h=>q (tH (O:=(.cells #[(vi (q6.wrap (1+z1)))] 3)) (fun p=>(Sl.mk (some p) 1 1).v) (zD rfl) (vR (vs:=#[(0,(vi (q6.wrap (1+z1))))]) (by kernel_rfl) (by kernel_rfl)) ?_)))
 intro p5 w19 hn5
 have h:=h p5 w19 hn5
 obtain ⟨hs,hb⟩:=hs.nw hb hn5
 obtain ⟨s3,w20,hv2,hk,h⟩:=h
 refine st (v:=s3.v) (zD rfl) (vP (args:=#[v4.v,(Sl.mk (some p5) 1 1).v]) (by kernel_rfl) (fun _=>rfl) hv2) ?_
 obtain ⟨hs,hb⟩:=hk.hh hs hb
 obtain ⟨a7,hp9,h⟩:=h
 refine q2 (vp (some a7)) (zG (p:=p1) (by kernel_rfl) hp9) (q ?_)
 obtain ⟨hp10,hnh,h⟩:=h
 refine zK (zD rfl) (vL (a:=(a7.add 2)) (v:=s3.v) (by kernel_rfl) (by kernel_rfl) rfl (Tryz.sizeOf42 _) hp10) ?_
 intro w21 hn4
 have h:=h w21 hn4
 have hk:=Kept.sc hnh hn4
 obtain ⟨hs,hb⟩:=hk.hh hs hb
 refine ln (eg (q ?_))
 obtain ⟨a8,hp11,h⟩:=h
 refine q2 (vp (some a8)) (zG (p:=p1) (by kernel_rfl) hp11) (q (ql (Tryz.isAgg41 _) h fun v5 h=>qc (ln (er (xS (.inl rfl) Tryz.results113 (v:=(vi (v5.len:Int))) (by kernel_rfl) (v':=(vi 0)) (by kernel_rfl) ⟨(v5.len:Int),0,rfl,h⟩)))))
 refine rg (qc (zN 6 (fun ρ w=>∃x2,∃H:NP,Has ρ [(0,(vp p1)),(3,(vp (some p2))),(7,(vi (s_C aA))),(28,(vb x2))]∧Hst w0 H w H w∧HB H w [(p2,(Ad aA aB aC aF aD aG aM),176)]∧m_O_j2 p1 aA aB aC aF aD aG aM x2 w0 H w K) ?_ ?_))
 rintro ρ w ⟨x2,H,hH,hs,hb,h⟩
 refine zQ hH (q ?_)
 rcases Bool.eq_false_or_eq_true x2 with hg3 | hg3
 have h:=h.1 hg3
 refine sj3 29 hg3 (sm (sm (sm (sm (sm (sj 29 hg3 (q2 (vb true) (xT hg3) (ln ⟨true,H,hm,hs,hb,h⟩))))))))
 have h:=h.2 hg3
 refine qk 29 hg3 (qk 29 hg3 (qk 29 hg3 ?_))
 rcases Bool.eq_false_or_eq_true (((s_C aA):Int) == 2) with hg4 | hg4
 have h:=h.1 hg4
 refine qk 32 hg4 (qk 32 hg4 (q4 32 hg4 (xl (Tryz.isAgg78 _) (hb.d 0 6 gZ)) (vN (wy 32 hg4) (xc Tryz.call87) (h.mono ?_))))
 rintro e w22 ⟨r7,rfl,hk,h⟩
 refine ⟨_,rfl,?_⟩
 obtain ⟨hs,hb⟩:=hk.hh hs hb
 refine qk 32 hg4 (stq (v:=(vb (!r7))) (wy 29 hg3) (xT hg4) (q2 (vb (!r7)) (xF hg3) (ln ⟨(!r7),H,hm,hs,hb,h⟩)))
 have h:=h.2 hg4
 refine sj5 32 hg4 (stq (v:=(vb false)) (wy 29 hg3) (xF hg4) (q2 (vb false) (xF hg3) (ln ⟨false,H,hm,hs,hb,h⟩)))
 rcases Bool.eq_false_or_eq_true (decide ((s_C aA)≥1)) with hg5 | hg5
 have h:=h.1 hg5
 refine qk 22 hg5 (qk 22 hg5 (q4 22 hg5 (xl (Tryz.isAgg78 _) (hb.d 0 5 gZ)) ?_))
 have ⟨h,hs⟩:=hs.hr (h H1 w3)
 refine vN (wy 22 hg5) (xc Tryz.call87) (h.mono ?_)
 rintro e w23 ⟨r8,rfl,hk,h⟩
 refine ⟨_,rfl,?_⟩
 obtain ⟨hs,hb⟩:=hk.hh hs hb
 refine qk 22 hg5 (q2 (vb (!r8)) (xT hg5) (zC ⟨(!r8),H1,hm,hs,hb,h⟩))
 have h:=h.2 hg5
 refine sj5 22 hg5 (q2 (vb false) (xF hg5) (zC ?_))
 have ⟨h,hs⟩:=hs.hr (h H1 w3)
 exact ⟨false,H1,hm,hs,hb,h⟩
def m_O1_l1 (p1:Option Addr) (aH:Sl) (i1 aA:Int) (aB aC aF:Int) (aD:ByteArray) (aG aM:Int) (w0:World) (Hl1:NP) (wl1:World) (Kc1:Int→Int→Int→Int→Int→ByteArray→Int→Int→NP→WP) (K:Int→Int→WP):Prop :=Br (decide (i1<(aH.len:Int))) (∃a1:Addr,At aH i1 6 a1∧∃aO aP aQ aR aS bI,Row wl1 a1 (Ab aO aP aQ aR aS bI)∧Calls Tryz.prog 148 #[(vp p1),(.agg #[(vi aO),(vi aP),(vi aQ),(vu aR),(vs aS),bI.v])] wl1 (fun e w5=>∃r1 r2,e=.returned (.tuple #[(vi r1),(vi r2)])∧Kept Hl1 wl1 w5∧Br (r2 != 0) (K 0 r2 w5) (∀H3 w8,Hst w0 Hl1 w5 H3 w8→Kc1 (q6.wrap (i1+1)) aA aB aC aF aD (cond (i1 == 0) r1 aG) (cond (i1 == 0) aM r1) H3 w8))) (Calls Tryz.prog 113 #[(vp p1),(.agg #[(vi aA),(vi aB),(vi aC),(vu aF),(vs aD),(vi aG),(vi aM)])] wl1 (fun e w11=>∃r3 r4,e=.returned (.tuple #[(vi r3),(vi r4)])∧Kept Hl1 wl1 w11∧K r3 r4 w11))
def m_O1 (p1:Option Addr) (aE aI:Int) (aJ aK:Int) (aL:ByteArray) (aH:Sl) (w0:World) (K:Int→Int→WP):Prop :=∀H2 w4,Hst w0 None w0 H2 w4→∃(I1:Int→Int→Int→Int→Int→ByteArray→Int→Int→NP→WP) (mu1:Int→Int→Int→Int→Int→ByteArray→Int→Int→World→Nat),I1 0 aE aI aJ aK aL 0 0 H2 w4∧∀(i1 aA:Int) (aB aC aF:Int) (aD:ByteArray) (aG aM:Int) (Hl1:NP) (wl1:World),Hst w0 Hl1 wl1 Hl1 wl1→I1 i1 aA aB aC aF aD aG aM Hl1 wl1→m_O1_l1 p1 aH i1 aA aB aC aF aD aG aM w0 Hl1 wl1 (fun y'0 y'1 y'2 y'3 y'4 y'5 y'6 y'7 H' w'=>I1 y'0 y'1 y'2 y'3 y'4 y'5 y'6 y'7 H' w'∧mu1 y'0 y'1 y'2 y'3 y'4 y'5 y'6 y'7 w'<mu1 i1 aA aB aC aF aD aG aM wl1) K
theorem w_O1 (p1 aE aI aJ aK aL aH w0 K) (h:m_O1 p1 aE aI aJ aK aL aH w0 K):
  Calls Tryz.prog 148 #[(vp p1),(.agg #[(vi aE),(vi aI),(vi aJ),(vu aK),(vs aL),aH.v])] w0 (fun e w'=>∃r5 r6,e=.returned (.tuple #[(vi r5),(vi r6)])∧K r5 r6 w'):=by
 refine cw (args:=[(vp p1),(Aa aE aI aJ aK aL aH)]) Tryz.func148 Tryz.ntmps148 ?_
 obtain ⟨hs,hb⟩:=st0 w0
 refine eg (nw3 (Ab aE aI aJ aK aL aH) 107 hs hb xb fun p2 w1 H1 hs hb=>qb (ln (eg (q2 (Aa aE aI aJ aK aL aH) (xa p2 (Ab aE aI aJ aK aL aH) (Tryz.isAgg107 _) (Tryz.sizeOf107 _) (hb.r0 0 6 gZ)) (sc Tryz.call204 ((p_C1 aE aI aJ aK aL aH w1).mono ?_))))))
 rintro e w2 ⟨he,hE⟩
 refine ⟨_,he,?_⟩
 obtain ⟨hs,hb⟩:=hs.pp hb hE
 refine nw3 (Ad 0 0 0 0 (⟨#[]⟩) 0 0) 176 hs hb (zM (Tryz.zeroValue176 _) rfl) fun p3 w3 H2 hs hb=>zK (zD rfl) (xo p3 (Ad aE aI aJ aK aL 0 0) (Tryz.sizeOf176 _) (hb.k0 0 7 gZ)) ?_
 intro w4 hn3
 obtain ⟨hs,hb⟩:=hb.st1 0 hs hn3 gZ
 refine ln (zA (eg (q (ln (zJ ?_)))))
 have ⟨h,hs⟩:=hs.hr (h H2 w4)
 obtain ⟨I1,mu1,h0,hr⟩:=h
 refine vH (σ:=Int×Int×Int×Int×Int×ByteArray×Int×Int×NP×World) (fun s ρ w=>w=s.2.2.2.2.2.2.2.2.2∧Has ρ [(0,(vp p1)),(3,(vp (some p2))),(6,(vp (some p3))),(7,(vi s.1))]∧Hst w0 s.2.2.2.2.2.2.2.2.1 w s.2.2.2.2.2.2.2.2.1 w∧HB s.2.2.2.2.2.2.2.2.1 w [(p3,(Ad (s.2.1) (s.2.2.1) (s.2.2.2.1) (s.2.2.2.2.1) (s.2.2.2.2.2.1) (s.2.2.2.2.2.2.1) (s.2.2.2.2.2.2.2.1)),176),(p2,(Ab aE aI aJ aK aL aH),107)]∧I1 s.1 s.2.1 s.2.2.1 s.2.2.2.1 s.2.2.2.2.1 s.2.2.2.2.2.1 s.2.2.2.2.2.2.1 s.2.2.2.2.2.2.2.1 s.2.2.2.2.2.2.2.2.1 s.2.2.2.2.2.2.2.2.2) (fun s=>mu1 s.1 s.2.1 s.2.2.1 s.2.2.2.1 s.2.2.2.2.1 s.2.2.2.2.2.1 s.2.2.2.2.2.2.1 s.2.2.2.2.2.2.2.1 s.2.2.2.2.2.2.2.2.2) (0,aE,aI,aJ,aK,aL,0,0,H2,w4) ⟨rfl,hm,hs,hb,h0⟩ ?_
 rintro ⟨i1,aA,aB,aC,aF,aD,aG,aM,Hl1,wl1⟩ ρ w ⟨hw,hH,hs,hb,hI⟩
 dsimp only at hw hH hs hb;subst w
 have h:=hr i1 aA aB aC aF aD aG aM Hl1 wl1 hs hI
 refine zU hH (zA (eg (qb (q3 (xl (Tryz.isAgg66 _) (hb.d 1 5 (gS gZ))) (qb (ln (cbr h ?_ ?_)))))))<;>intro h
 refine zB (zO (zA (zJ (eg (qb (q3 (xl (Tryz.isAgg66 _) (hb.d 1 5 (gS gZ))) (q (qi (Tryz.runUnderlying66 _) (Tryz.sizeOf107 _) h fun a1 h=>?_))))))))
 obtain ⟨aO,aP,aQ,aR,aS,bI,hv1,h⟩:=h
 refine qa (Tryz.isAgg107 _) (Tryz.sizeOf107 _) hv1 (sc Tryz.call148 (h.mono fun e w5 ⟨r1,r2,k,hk,h⟩=>have ⟨hs,hb⟩:=hk.hh hs hb;⟨_,k,?_⟩))
 refine q (qd (ln (zA (eg (qb (ln (cbr h ?_ ?_)))))))<;>intro h
 refine eg (qc (ln (er (zY (qN (zY (zY (qN (zY (xS (.inl rfl) Tryz.results148 (v:=(vi 0)) (by kernel_rfl) (v':=(vi r2)) (by kernel_rfl) ⟨0,r2,rfl,h⟩))))))))))
 refine zB (zO (eg (qb (ln (vQ (fun ρ wJ=>∃b1'0:Bool,∃HJ:NP,((i1 == 0)=b1'0)∧Hst w0 Hl1 w5 HJ wJ∧HB HJ wJ [(p3,(Ad aA aB aC aF aD (cond b1'0 r1 aG) (cond b1'0 aM r1)),176),(p2,(Ab aE aI aJ aK aL aH),107)]∧Has ρ [(0,(vp p1)),(3,(vp (some p2))),(6,(vp (some p3))),(7,(vi i1))]) ?_ ?_)))))
 refine vO (t:=(i1 == 0)) (by kernel_rfl) (fun hc4=>?_) (fun hc4=>?_)
 refine rg (qb (zK (zD rfl) (vL (a:=(p3.add 5)) (v:=(vi r1)) (by kernel_rfl) (by kernel_rfl) rfl (Tryz.sizeOf78 _) (hb.canW 0 5 gZ (by kernel_rfl))) ?_))
 intro w9 hn6
 have hsb:Hst w0 Hl1 w5 Hl1 w9∧HB Hl1 w9 [(p3,(Ad aA aB aC aF aD r1 aM),176),(p2,(Ab aE aI aJ aK aL aH),107)]:=by
  rw [hn6];exact hb.set (i:=0) 5 (v:=(vi r1)) hs gZ (by kernel_rfl)
 obtain ⟨hs,hb⟩:=hsb
 refine ln ⟨true,_,hc4,hs,hb,hm⟩
 refine rg (qb (zK (zD rfl) (vL (a:=(p3.add 6)) (v:=(vi r1)) (by kernel_rfl) (by kernel_rfl) rfl (Tryz.sizeOf78 _) (hb.canW 0 6 gZ (by kernel_rfl))) ?_))
 intro w10 hn7
 have hsb:Hst w0 Hl1 w5 Hl1 w10∧HB Hl1 w10 [(p3,(Ad aA aB aC aF aD aG r1),176),(p2,(Ab aE aI aJ aK aL aH),107)]:=by
  rw [hn7];exact hb.set (i:=0) 6 (v:=(vi r1)) hs gZ (by kernel_rfl)
 obtain ⟨hs,hb⟩:=hsb
 refine ln ⟨false,_,hc4,hs,hb,hm⟩
 rintro ρ w8 ⟨b1'0,H3,he0,hs,hb,hH⟩
 subst he0
 refine vI hH (yQ (zO (rg (qc (zC ?_)))))
 have ⟨h,hs⟩:=hs.hr (h H3 w8)
 refine zO ⟨((q6.wrap (i1+1)),aA,aB,aC,aF,aD,(cond (i1 == 0) r1 aG),(cond (i1 == 0) aM r1),H3,w8),⟨rfl,hm,hs,hb,h.1⟩,h.2⟩
 refine vF (yM (yM (yK (zO (eg (q0 (vp p1) (q2 (Ae aA aB aC aF aD aG aM) (xa p3 (Ad aA aB aC aF aD aG aM) (Tryz.isAgg176 _) (Tryz.sizeOf176 _) (hb.r0 0 7 gZ)) (sc Tryz.call113 (h.mono fun e w11 ⟨r3,r4,k,hk,h⟩=>have ⟨hs,hb⟩:=hk.hh hs hb;⟨_,k,?_⟩)))))))))
 refine qd (ln (er (xS (.inl rfl) Tryz.results148 (v:=(vi r3)) (by kernel_rfl) (v':=(vi r4)) (by kernel_rfl) ⟨r3,r4,rfl,h⟩)))
def m_M2 (p1:Option Addr) (n1:Int) (w0:World) (K:WP):Prop :=∃a1,p1=some a1∧∃v1:Sl,w0.cell? a1=some v1.v∧∃s1:Sl,(Instr.sliceAt 41 v1.v none (some (vi n1)) none).run Tryz.prog w0=.ok s1.v w0∧∃a2,p1=some a2∧vG w0 a2∧∀w1,w1=w0.setCell a2 s1.v→∃a3,p1=some a3∧∃v2:Sl,w1.cell? (a3.add 1)=some v2.v∧∃s2:Sl,(Instr.sliceAt 42 v2.v none (some (vi n1)) none).run Tryz.prog w1=.ok s2.v w1∧∃a4,p1=some a4∧vG w1 (a4.add 1)∧∀w2,w2=w1.setCell (a4.add 1) s2.v→∃a5,p1=some a5∧∃v3:Sl,w2.cell? (a5.add 2)=some v3.v∧∃s3:Sl,(Instr.sliceAt 42 v3.v none (some (vi n1)) none).run Tryz.prog w2=.ok s3.v w2∧∃a6,p1=some a6∧vG w2 (a6.add 2)∧∀w3,w3=w2.setCell (a6.add 2) s3.v→K w3
theorem w_M2 (p1 n1 w0 K) (h:m_M2 p1 n1 w0 K):
  Calls Tryz.prog 149 #[(vp p1),(vi n1)] w0 (fun e w'=>e=.returned (.tuple #[])∧K  w'):=by
 refine cw (args:=[(vp p1),(vi n1)]) Tryz.func149 Tryz.ntmps149 (eg (q0 (vp p1) (q0 (vp p1) ?_)))
 obtain ⟨a1,hp1,h⟩:=h
 refine q2 (vp (some a1)) (zG (p:=p1) (by kernel_rfl) hp1) (q (ql (Tryz.isAgg41 _) h fun v1 h=>q ?_))
 obtain ⟨s1,hv5,h⟩:=h
 refine q2 s1.v (xU (by kernel_rfl) (by kernel_rfl) (by kernel_rfl) (by kernel_rfl) hv5) ?_
 obtain ⟨a2,hp2,h⟩:=h
 refine q2 (vp (some a2)) (zG (p:=p1) (by kernel_rfl) hp2) (q ?_)
 obtain ⟨hp3,h⟩:=h
 refine zK (zD rfl) (vL (a:=a2) (v:=s1.v) (by kernel_rfl) (by kernel_rfl) rfl (Tryz.sizeOf41 _) hp3) ?_
 intro w1 hn1
 have h:=h w1 hn1
 refine ln (eg (qb ?_))
 obtain ⟨a3,hp4,h⟩:=h
 refine q2 (vp (some a3)) (zG (p:=p1) (by kernel_rfl) hp4) (q (ql (Tryz.isAgg42 _) h fun v2 h=>q ?_))
 obtain ⟨s2,hv3,h⟩:=h
 refine q2 s2.v (xU (by kernel_rfl) (by kernel_rfl) (by kernel_rfl) (by kernel_rfl) hv3) ?_
 obtain ⟨a4,hp5,h⟩:=h
 refine q2 (vp (some a4)) (zG (p:=p1) (by kernel_rfl) hp5) (q ?_)
 obtain ⟨hp6,h⟩:=h
 refine zK (zD rfl) (vL (a:=(a4.add 1)) (v:=s2.v) (by kernel_rfl) (by kernel_rfl) rfl (Tryz.sizeOf42 _) hp6) ?_
 intro w2 hn2
 have h:=h w2 hn2
 refine ln (rg (qb ?_))
 obtain ⟨a5,hp7,h⟩:=h
 refine q2 (vp (some a5)) (zG (p:=p1) (by kernel_rfl) hp7) (q (ql (Tryz.isAgg42 _) h fun v3 h=>q ?_))
 obtain ⟨s3,hv1,h⟩:=h
 refine q2 s3.v (xU (by kernel_rfl) (by kernel_rfl) (by kernel_rfl) (by kernel_rfl) hv1) ?_
 obtain ⟨a6,hp8,h⟩:=h
 refine q2 (vp (some a6)) (zG (p:=p1) (by kernel_rfl) hp8) (q ?_)
 obtain ⟨hp9,h⟩:=h
 refine zK (zD rfl) (vL (a:=(a6.add 2)) (v:=s3.v) (by kernel_rfl) (by kernel_rfl) rfl (Tryz.sizeOf42 _) hp9) ?_
 intro w3 hn3
 have h:=h w3 hn3
 refine zC (jNZ (.inr rfl) Tryz.results149 ⟨rfl,h⟩)
def m_N2 (p1:Option Addr) (aE aI:Int) (aJ aK:Int) (aL:ByteArray) (aH:Sl) (w0:World) (K:Int→Int→WP):Prop :=∀H1 w1,Hst w0 None w0 H1 w1→Calls Tryz.prog 147 #[(.agg #[(vi aE),(vi aI),(vi aJ),(vu aK),(vs aL),aH.v])] w1 (fun e w2=>∃r1,e=.returned (vi r1)∧Kept H1 w1 w2∧Br (r1 != 0) (K 0 r1 w2) (∃a1,p1=some a1∧∃v1:Sl,w2.cell? a1=some v1.v∧Calls Tryz.prog 148 #[(vp p1),(.agg #[(vi aE),(vi aI),(vi aJ),(vu aK),(vs aL),aH.v])] w2 (fun e w3=>∃r2 r3,e=.returned (.tuple #[(vi r2),(vi r3)])∧Kept H1 w2 w3∧Br (r3 != 0) (Calls Tryz.prog 149 #[(vp p1),(vi (v1.len:Int))] w3 (fun e w4=>e=.returned (.tuple #[])∧Kept H1 w3 w4∧K r2 r3 w4)) (K r2 r3 w3))))
theorem w_N2 (p1 aE aI aJ aK aL aH w0 K) (h:m_N2 p1 aE aI aJ aK aL aH w0 K):
  Calls Tryz.prog 78 #[(vp p1),(.agg #[(vi aE),(vi aI),(vi aJ),(vu aK),(vs aL),aH.v])] w0 (fun e w'=>∃r4 r5,e=.returned (.tuple #[(vi r4),(vi r5)])∧K r4 r5 w'):=by
 refine cw (args:=[(vp p1),(Aa aE aI aJ aK aL aH)]) Tryz.func78 Tryz.ntmps78 ?_
 obtain ⟨hs,hb⟩:=st0 w0
 refine eg (nw3 (Ab aE aI aJ aK aL aH) 107 hs hb xb fun p2 w1 H1 hs hb=>qb (ln (eg (q2 (Aa aE aI aJ aK aL aH) (xa p2 (Ab aE aI aJ aK aL aH) (Tryz.isAgg107 _) (Tryz.sizeOf107 _) (hb.r0 0 6 gZ)) ?_))))
 have ⟨h,hs⟩:=hs.hr (h H1 w1)
 refine sc Tryz.call147 (h.mono fun e w2 ⟨r1,k,hk,h⟩=>have ⟨hs,hb⟩:=hk.hh hs hb;⟨_,k,?_⟩)
 refine q (ln (zA (eg (qb (ln (cbr h ?_ ?_))))))<;>intro h
 refine eg (qc (ln (er (zY (xS (.inl rfl) Tryz.results78 (v:=(vi 0)) (by kernel_rfl) (v':=(vi r1)) (by kernel_rfl) ⟨0,r1,rfl,h⟩)))))
 refine zB (zO (eg (q ?_)))
 obtain ⟨a1,hp1,h⟩:=h
 refine q2 (vp (some a1)) (zG (p:=p1) (by kernel_rfl) hp1) (q (ql (Tryz.isAgg41 _) h fun v1 h=>qb (ln (eg (q (q2 (Aa aE aI aJ aK aL aH) (xa p2 (Ab aE aI aJ aK aL aH) (Tryz.isAgg107 _) (Tryz.sizeOf107 _) (hb.r0 0 6 gZ)) (sc Tryz.call148 (h.mono fun e w3 ⟨r2,r3,k,hk,h⟩=>have ⟨hs,hb⟩:=hk.hh hs hb;⟨_,k,?_⟩))))))))
 refine q (qd (ln (zA (eg (qb (ln (cbr h ?_ ?_)))))))<;>intro h
 refine rg (qb (sc Tryz.call149 (h.mono fun e w4 ⟨k,hk,h⟩=>have ⟨hs,hb⟩:=hk.hh hs hb;⟨_,k,?_⟩)))
 refine ln (eg (qd (ln (er (xS (.inl rfl) Tryz.results78 (v:=(vi r2)) (by kernel_rfl) (v':=(vi r3)) (by kernel_rfl) ⟨r2,r3,rfl,h⟩)))))
 refine zB (zO (eg (qd (ln (er (xS (.inl rfl) Tryz.results78 (v:=(vi r2)) (by kernel_rfl) (v':=(vi r3)) (by kernel_rfl) ⟨r2,r3,rfl,h⟩))))))
end Go.Proofs
end
section
open Go Go.SE
namespace Go.Proofs
attribute [local irreducible] Calls
theorem uP (k:Int):(k=1∨k=2∨k=3∨k=4∨k=5∨k=6∨k=7∨k=8∨k=9)∨(Sp.shapeOf k=Sp.noShape∧Sp.isKind k=false∧∀m:Int,1≤m→m≤9→(k == m)=false):=by
 by_cases h:k=1∨k=2∨k=3∨k=4∨k=5∨k=6∨k=7∨k=8∨k=9
 ·exact .inl h
 ·right;refine ⟨?_,?_,fun m h1 h2=>?_⟩
  ·unfold Sp.shapeOf;repeat rw [if_neg (by omega)]
  ·unfold Sp.isKind;apply Bool.eq_false_iff.2;intro h3;simp at h3;omega
  ·rw [beq_eq_false_iff_ne];omega
theorem xN (k:Int):s_C k=(Sp.shapeOf k).kids:=by
 rcases uP k with h | ⟨h,_,hm⟩
 ·rcases h with rfl | rfl | rfl | rfl | rfl | rfl | rfl | rfl | rfl <;> decide
 ·rw [h];unfold s_C;simp [hm,Sp.noShape]
theorem jCX (k:Int):s_D k=(Sp.shapeOf k).frm:=by
 rcases uP k with h | ⟨h,_,hm⟩
 ·rcases h with rfl | rfl | rfl | rfl | rfl | rfl | rfl | rfl | rfl <;> decide
 ·rw [h];unfold s_D;simp [hm,Sp.noShape]
theorem jFL (k:Int):((k == 8) || (k == 9))=(Sp.shapeOf k).to:=by
 rcases uP k with h | ⟨h,_,hm⟩
 ·rcases h with rfl | rfl | rfl | rfl | rfl | rfl | rfl | rfl | rfl <;> decide
 ·rw [h];simp [hm,Sp.noShape]
theorem jKU (k:Int):(k == 2)=(Sp.shapeOf k).num:=by
 rcases uP k with h | ⟨h,_,hm⟩
 ·rcases h with rfl | rfl | rfl | rfl | rfl | rfl | rfl | rfl | rfl <;> decide
 ·rw [h];simp [hm,Sp.noShape]
theorem jJL (k:Int):(k == 3)=(Sp.shapeOf k).text:=by
 rcases uP k with h | ⟨h,_,hm⟩
 ·rcases h with rfl | rfl | rfl | rfl | rfl | rfl | rfl | rfl | rfl <;> decide
 ·rw [h];simp [hm,Sp.noShape]
theorem jJM (k:Int):(!(decide (k<1) || decide (k>9)))=Sp.isKind k:=by
 unfold Sp.isKind;by_cases h1:k<1 <;> by_cases h2:k>9 <;> simp [h1,h2] <;> omega
theorem ite53 (q:Bool):decide ((if q=true then (53:Int) else 0)=0)=!q:=by cases q <;> rfl
def Sp.nodeErr (n:Sp.Node):Int :=
 if Sp.vM n≠0 then 53 else if (decide ((Sp.shapeOf n.kind).kids<1) && n.a != 0) || (decide ((Sp.shapeOf n.kind).kids<2) && n.b != 0) then 53 else Sp.vJ (Sp.shapeOf n.kind) n
theorem jHL (n:Sp.Node):s_D1 n.kind n.frm n.to n.num n.text n.a n.b=(decide (Sp.vM n=0) && !((decide ((Sp.shapeOf n.kind).kids<1) && n.a != 0) || (decide ((Sp.shapeOf n.kind).kids<2) && n.b != 0))):=by
 obtain ⟨k,f,t,u,x,a,b⟩:=n;unfold s_D1 Sp.vM;simp only [xN,jCX,jFL k,jKU k,jJL k,jJM];have hk:=Sp.jDK k;generalize Sp.shapeOf k=s at *;obtain ⟨s1,s2,s3,s4,s5⟩:=s;generalize Sp.isKind k=i;have e1:decide (s5≥1)=!decide (s5<1):=by by_cases h:s5<1 <;> simp [h] <;> omega
 have e2:(s5 == 2)=!decide (s5<2):=by
  by_cases h:s5<2
  ·simp [h];omega
  ·simp [h];simp at hk;omega
 simp only [e1,e2,bne,ite53];generalize (f == 0)=c1;generalize (t == 0)=c2;generalize (u == 0)=c3;generalize decide (x=⟨#[]⟩)=c4;generalize (a == 0)=c5;generalize (b == 0)=c6;generalize decide (s5<1)=c7;generalize decide (s5<2)=c8;cases i <;> cases s1 <;> cases s2 <;> cases s3 <;> cases s4 <;> cases c1 <;> cases c2 <;> cases c3 <;> cases c4 <;> simp
theorem jCW (n:Sp.Node):s_H n.kind n.frm n.to n.num n.text n.a n.b=Sp.nodeErr n:=by
 unfold s_H Sp.nodeErr;rw [jHL,jCX,jFL];by_cases h1:Sp.vM n=0
 ·by_cases h2:((decide ((Sp.shapeOf n.kind).kids<1) && n.a != 0) || (decide ((Sp.shapeOf n.kind).kids<2) && n.b != 0))=true
  ·rw [h2];simp [h1]
  ·have h2:((decide ((Sp.shapeOf n.kind).kids<1) && n.a != 0) || (decide ((Sp.shapeOf n.kind).kids<2) && n.b != 0))=false:=by simpa using h2
   rw [h2];simp only [h1,ne_eq,not_true_eq_false,if_false,Bool.false_eq_true,decide_true,Bool.not_false,Bool.and_true,Bool.not_true,cond_false];unfold Sp.vJ Sp.jAD;have e1:(decide (n.frm≥0) && decide (n.frm<16))=(decide (0≤n.frm) && decide (n.frm<16)):=rfl;have e2:(decide (n.to≥0) && decide (n.to<16))=(decide (0≤n.to) && decide (n.to<16)):=rfl;have e3:(n.frm == n.to)=(n.to == n.frm):=by rw [Bool.eq_iff_iff];simp only [beq_iff_eq];exact eq_comm
   rw [e1,e2,e3];have e4:decide (((n.text.size:Int))>64)=decide (n.text.size>64):=decide_eq_decide.2 (by omega);rw [e4];generalize ((Sp.shapeOf n.kind).frm && !(decide (0≤n.frm) && decide (n.frm<16)) || (Sp.shapeOf n.kind).to && (!(decide (0≤n.to) && decide (n.to<16)) || n.to == n.frm))=c;cases c
   ·by_cases h:n.text.size>64 <;> simp [h]
   ·rfl
 ·simp [h1]
theorem jIM:SlType Tryz.prog 41 176 7 64:=by
 refine ⟨Tryz.underlying41,⟨Tryz.t176,_,by kernel_rfl,(by kernel_rfl:Tryz.t176.zero=some (.agg #[.int .i64 0,.int .i64 0,.int .i64 0,.int .u64 0,.string ⟨#[]⟩,.int .i64 0,.int .i64 0])),by kernel_rfl,by kernel_rfl,rfl⟩,by omega⟩
theorem jET:SlType Tryz.prog 42 3 1 8:=by
 refine ⟨Tryz.underlying42,⟨Tryz.t3,_,by kernel_rfl,(by kernel_rfl:Tryz.t3.zero=some (.int .i64 0)),by kernel_rfl,by kernel_rfl,rfl⟩,by omega⟩
def jOP (e:Sp.Ent):List Value:=jBF e.node
def jOO (e:Sp.Ent):List Value:=[.int .i64 e.size]
def jKW (e:Sp.Ent):List Value:=[.int .i64 e.depth]
structure PoolRS (w:World) (p:Addr) (L:Sp.Pool) (s1 s2 s3:Sl):Prop where
 box:Box w p [s1.v,s2.v,s3.v] 44
 r1:Rws w 176 7 s1 (L.map jOP)
 r2:Rws w 3 1 s2 (L.map jOO)
 r3:Rws w 3 1 s3 (L.map jKW)
 n1:¬ s1.blk p.block
 n2:¬ s2.blk p.block
 n3:¬ s3.blk p.block
 d12:∀b,s1.blk b→¬ s2.blk b
 d13:∀b,s1.blk b→¬ s3.blk b
 d23:∀b,s2.blk b→¬ s3.blk b
def yA (w:World) (p:Addr) (L:Sp.Pool) (F:NP):Prop:=∃s1 s2 s3,PoolRS w p L s1 s2 s3∧∀b,F b↔(b=p.block∨s1.blk b∨s2.blk b∨s3.blk b)
theorem yA.ext {G:NP} {w w':World} {p:Addr} {L:Sp.Pool} {F:NP} (h:yA w p L F) (hE:Ext G w w') (hd:∀b,F b→¬ G b):yA w' p L F:=by
 obtain ⟨s1,s2,s3,h,hF⟩:=h;exact ⟨s1,s2,s3,⟨h.box.ext hE (hd _ ((hF _).2 (.inl rfl))),h.r1.ext hE (fun b hb=>hd _ ((hF _).2 (.inr (.inl hb)))),h.r2.ext hE (fun b hb=>hd _ ((hF _).2 (.inr (.inr (.inl hb))))),h.r3.ext hE (fun b hb=>hd _ ((hF _).2 (.inr (.inr (.inr hb))))),h.n1,h.n2,h.n3,h.d12,h.d13,h.d23⟩,hF⟩
theorem yA.pure {w w':World} {p:Addr} {L:Sp.Pool} {F:NP} (h:yA w p L F) (hE:Pure w w'):yA w' p L F:=h.ext hE (fun _ _ h=>h)
theorem yA.lt {w:World} {p:Addr} {L:Sp.Pool} {F:NP} (h:yA w p L F) {b:Nat} (hb:F b):b<w.heap.size:=by
 obtain ⟨s1,s2,s3,h,hF⟩:=h;rcases (hF b).1 hb with rfl | hb | hb | hb
 ·exact h.box.lt
 ·exact h.r1.lt hb
 ·exact h.r2.lt hb
 ·exact h.r3.lt hb
theorem jHU (w0:World):Calls Tryz.prog 63 #[] w0 (fun e w'=>∃r:Option Addr,e=.returned (.pointer r)∧∃p F,r=some p∧yA w' p [] F∧Pure w0 w'∧∀b,F b→w0.heap.size≤b):=by
 refine w_E4 w0 (fun r w'=>∃p F,r=some p∧yA w' p [] F∧Pure w0 w'∧∀b,F b→w0.heap.size≤b) ?_;unfold m_E4;have hnil:∀b,¬ Sl.nil.blk b:=fun b hb=>by obtain ⟨a,h,_⟩:=hb;cases h
 intro p w1 h1;have b1:=Box.of_new h1;have E1:Pure w0 w1:=Ext.new h1
 first
  | exact ⟨p,(·=p.block),rfl,⟨Sl.nil,Sl.nil,Sl.nil,⟨b1,Rws.nil _ _ _,Rws.nil _ _ _,Rws.nil _ _ _,hnil _,hnil _,hnil _,fun b h=>(hnil b h).elim,fun b h=>(hnil b h).elim,fun b h=>(hnil b h).elim⟩,fun b=>by simp [hnil]⟩,E1,fun b hb=>by subst hb;exact New.own (Ext.refl w0) h1⟩
  | skip
theorem uA (p:Addr) (t:Int) (w0:World) {L:Sp.Pool} {F:NP} (hP:yA w0 p L F):Calls Tryz.prog 87 #[.pointer (some p),.int .i64 t] w0 (fun e w'=>∃r:Bool,e=.returned (.bool r)∧(r=Sp.inP L t∧w'=w0)):=by
 refine w_C4 _ _ w0 (fun r w'=>r=Sp.inP L t∧w'=w0) ?_;unfold m_C4;obtain ⟨s1,s2,s3,h,hF⟩:=hP;have hl:s1.len=L.length:=by rw [h.r1.len];simp
 refine ⟨fun hc=>⟨p,rfl,s1,h.box.cell0,?_,rfl⟩,fun hc=>⟨?_,rfl⟩⟩
 ·have:=of_decide_eq_true hc;rw [hl];simp [Sp.inP,this]
 ·have:=of_decide_eq_false hc;simp [Sp.inP];omega
theorem PoolRS.at1 {w:World} {p:Addr} {L:Sp.Pool} {s1 s2 s3:Sl} (h:PoolRS w p L s1 s2 s3) {t:Int} (ht:Sp.inP L t=true) (hok:Sp.Ok L):∃e,Sp.get L t=some e ∧
  (∃a,At s1 (IntKind.i64.wrap (t - 1)) 7 a∧Row w a (jOP e))∧(∃a,At s2 (IntKind.i64.wrap (t - 1)) 1 a∧Row w a (jOO e))∧(∃a,At s3 (IntKind.i64.wrap (t - 1)) 1 a∧Row w a (jKW e)):=by
 obtain ⟨e,he,_,hi,hLe⟩:=Sp.jCF ht
 have hin:=Sp.qJ.1 ht
 have hf:=hok.few
 have hw:IntKind.i64.wrap (t - 1)=((t - 1).toNat:Int):=by rw [i64 (by omega) (by omega)];omega
 obtain ⟨a1,h1,g1⟩:=h.r1.nth (j:=(t - 1).toNat) hi
 obtain ⟨a2,h2,g2⟩:=h.r2.nth (j:=(t - 1).toNat) hi
 obtain ⟨a3,h3,g3⟩:=h.r3.nth (j:=(t - 1).toNat) hi
 rw [hLe] at g1 g2 g3
 rw [hw]
 exact ⟨e,he,⟨a1,h1,g1⟩,⟨a2,h2,g2⟩,⟨a3,h3,g3⟩⟩
theorem tN (p:Addr) (t:Int) (w0:World) {L:Sp.Pool} {F:NP} (hP:yA w0 p L F) (hok:Sp.Ok L):Calls Tryz.prog 97 #[.pointer (some p),.int .i64 t] w0 (fun e w'=>∃r:Int,e=.returned (.int .i64 r)∧(r=Sp.sizeOf L t∧w'=w0)):=by
 refine w_G4 _ _ w0 (fun r w'=>r=Sp.sizeOf L t∧w'=w0) ?_;unfold m_G4;refine (uA p t w0 hP).mono ?_;rintro _ _ ⟨_,rfl,rfl,rfl⟩;refine ⟨_,rfl,fun h=>⟨?_,rfl⟩,fun h=>?_⟩
 ·have h:Sp.inP L t=false:=by simpa using h
  simp [Sp.sizeOf,Sp.uB h]
 ·have h:Sp.inP L t=true:=by simpa using h
  obtain ⟨s1,s2,s3,hS,hF⟩:=hP;obtain ⟨e,he,_,⟨a,hat,hr⟩,_⟩:=hS.at1 h hok;exact ⟨p,rfl,s2,hS.box.cell rfl,a,hat,_,jAW hr,by simp [Sp.sizeOf,he],rfl⟩
theorem jBA (p:Addr) (t:Int) (w0:World) {L:Sp.Pool} {F:NP} (hP:yA w0 p L F) (hok:Sp.Ok L):Calls Tryz.prog 177 #[.pointer (some p),.int .i64 t] w0 (fun e w'=>∃r:Int,e=.returned (.int .i64 r)∧(r=Sp.depthOf L t∧w'=w0)):=by
 refine w_H4 _ _ w0 (fun r w'=>r=Sp.depthOf L t∧w'=w0) ?_;unfold m_H4;refine (uA p t w0 hP).mono ?_;rintro _ _ ⟨_,rfl,rfl,rfl⟩;refine ⟨_,rfl,fun h=>⟨?_,rfl⟩,fun h=>?_⟩
 ·have h:Sp.inP L t=false:=by simpa using h
  simp [Sp.depthOf,Sp.uB h]
 ·have h:Sp.inP L t=true:=by simpa using h
  obtain ⟨s1,s2,s3,hS,hF⟩:=hP;obtain ⟨e,he,_,_,⟨a,hat,hr⟩⟩:=hS.at1 h hok;exact ⟨p,rfl,s3,hS.box.cell rfl,a,hat,_,jAW hr,by simp [Sp.depthOf,he],rfl⟩
theorem jBY (p:Addr) (t:Int) (w0:World) {L:Sp.Pool} {F:NP} (hP:yA w0 p L F) (hok:Sp.Ok L):Calls Tryz.prog 104 #[.pointer (some p),.int .i64 t] w0
  (fun e w'=>∃k f t' u:Int,∃x:ByteArray,∃a b:Int,∃r:Bool,e=.returned (.tuple #[.agg #[.int .i64 k,.int .i64 f,.int .i64 t',.int .u64 u,.string x,.int .i64 a,.int .i64 b],.bool r])∧(((⟨k,f,t',u,x,a,b⟩:Sp.Node)=Sp.zH L t∧r=Sp.inP L t)∧Pure w0 w')):=by
 refine w_D4 _ _ w0 (fun k f t' u x a b r w'=>((⟨k,f,t',u,x,a,b⟩:Sp.Node)=Sp.zH L t∧r=Sp.inP L t)∧Pure w0 w') ?_
 unfold m_D4
 intro H1 w1 hs1
 have hP1:=hP.pure hs1.first
 refine (uA p t w1 hP1).mono ?_
 rintro _ _ ⟨_,rfl,rfl,rfl⟩
 refine ⟨_,rfl,Kept.refl _,fun h=>?_,fun h=>?_⟩
 ·intro w3 hs3
  have h:Sp.inP L t=false:=by simpa using h
  exact ⟨⟨by simp [Sp.zH,Sp.uB h,Sp.jBT],h.symm⟩,hs1.first.hst hs3⟩
 ·have h:Sp.inP L t=true:=by simpa using h
  obtain ⟨s1,s2,s3,hS,hF⟩:=hP1
  obtain ⟨e,he,⟨a,hat,hr⟩,_,_⟩:=hS.at1 h hok
  refine ⟨p,rfl,s1,hS.box.cell0,a,hat,_,_,_,_,_,_,_,hr,?_⟩
  intro w4 hs4
  exact ⟨⟨by simp [Sp.zH,he],h.symm⟩,hs1.first.hst hs4⟩
theorem jNF (m n:Sp.Node):((m.kind == n.kind) && ((m.frm == n.frm) && ((m.to == n.to) && ((m.num == n.num) && ((decide (m.text=n.text)) && ((m.a == n.a) && (m.b == n.b)))))))=decide (m=n):=by
 obtain ⟨k,f,t,u,x,a,b⟩:=m;obtain ⟨k',f',t',u',x',a',b'⟩:=n;rw [Bool.eq_iff_iff];simp
theorem jHV (p:Addr) (n:Sp.Node) (w0:World) {L:Sp.Pool} {F:NP} (hP:yA w0 p L F) (hok:Sp.Ok L):Calls Tryz.prog 178 #[.pointer (some p),jDG n] w0
  (fun e w'=>∃r:Int,∃ok:Bool,e=.returned (.tuple #[.int .i64 r,.bool ok])∧((match Sp.find L n with | some i=>r=(i:Int)+1∧ok=true | none=>r=0∧ok=false)∧Pure w0 w')):=by
 obtain ⟨k,f,t,u,x,a,b⟩:=n
 generalize hn:(⟨k,f,t,u,x,a,b⟩:Sp.Node)=n
 have hnk:jDG n=.agg #[.int .i64 k,.int .i64 f,.int .i64 t,.int .u64 u,.string x,.int .i64 a,.int .i64 b]:=by rw [← hn];rfl
 rw [hnk]
 suffices key:∀K:Int→Bool→WP,(∀r ok w',((match Sp.find L n with | some i=>r=(i:Int)+1∧ok=true | none=>r=0∧ok=false)∧Pure w0 w')→K r ok w')→m_N1 (some p) k f t u x a b w0 K from
  w_N1 _ _ _ _ _ _ _ _ w0 _ (key _ (fun _ _ _ h=>h))
 intro K hK
 unfold m_N1
 intro H1 w1 hs1
 refine ⟨fun i H w'=>∃j:Nat,i=j∧j≤L.length∧Pure w0 w'∧∀q,q<j→∀e,L[q]?=some e→e.node≠n,fun i _=>((L.length:Int) - i).toNat,⟨0,rfl,Nat.zero_le _,hs1.first,fun q hq=>absurd hq (by omega)⟩,?_⟩
 rintro _ Hl wl hl ⟨j,rfl,hj,El,hno⟩
 unfold m_N1_l1
 obtain ⟨s1,s2,s3,hS,hF⟩:=hP.pure El
 have hf:=hok.few
 have hlen:s1.len=L.length:=by rw [hS.r1.len];simp
 refine ⟨p,rfl,s1,hS.box.cell0,fun h=>?_,fun h=>?_⟩
 ·have hlt:=vS hlen h
  refine ⟨p,rfl,?_⟩
  intro w2 hs2
  have E2:=El.hst hs2
  obtain ⟨s1',s2',s3',hS',_⟩:=hP.pure E2
  obtain ⟨a',hat,hr⟩:=hS'.r1.nth hlt
  refine ⟨s1',hS'.box.cell0,a',hat,_,_,_,_,_,_,_,hr,?_⟩
  have hB:=jNF L[j].node n
  rw [← hn] at hB
  simp only at hB
  rw [hB,hn]
  refine ⟨fun h=>?_,fun h=>?_⟩
  ·have h:=of_decide_eq_true h
   rw [zZ hlt (by omega)]
   refine hK _ _ _ ⟨?_,E2⟩
   have hfd:Sp.find L n=some j:=by
    unfold Sp.find;rw [List.findIdx?_eq_some_iff_getElem];exact ⟨hlt,by simp [h],fun q hq=>by simpa using hno q hq _ (List.getElem?_eq_getElem (by omega))⟩
   rw [hfd];exact ⟨by omega,rfl⟩
  ·have h:=of_decide_eq_false h
   rw [zZ hlt (by omega)]
   refine ⟨⟨j+1,rfl,hlt,E2,fun q hq e he=>?_⟩,qX hlt⟩
   by_cases hqj:q=j
   ·subst hqj;rw [List.getElem?_eq_getElem hlt] at he;cases he;exact h
   ·exact hno q (by omega) e he
 ·have hge:=vT hlen hj h
  subst hge
  refine hK _ _ _ ⟨?_,El⟩
  have hfd:Sp.find L n=none:=jGC (fun e he=>by
   obtain ⟨q,hq,rfl⟩:=List.mem_iff_getElem.1 he;exact hno q hq _ (List.getElem?_eq_getElem hq))
  rw [hfd];exact ⟨rfl,rfl⟩
theorem jDQ {P:Program} {t ty e:TypeId} {sz bytes:Nat} (T:SlType P t e sz bytes) {w:World} {p:Addr} {c:List Value} {Tp:TypeId} (hB:Box w p c Tp) {s:Sl} {rs:List (List Value)} (hR:Rws w e sz s rs) (hp:¬ s.blk p.block) {a:Addr} {r:List Value} (hr:Row w a r) (hl:r.length=sz) (h1:r.all qG=true) (hb:(rs.length+1)*bytes≤140737488355328) (hm:rs.length+1≤maxLen) :
  ∃s' w',(Builtin.append_ #[t,t] ty #[s.v,(Sl.mk (some a) 1 1).v]).run P w=.ok s'.v w'∧Rws w' e sz s' (rs++[r])∧Box w' p c Tp∧¬ s'.blk p.block∧Ext s.blk w w'∧(∀b,s'.blk b→s.blk b∨w.heap.size≤b):=by
 obtain ⟨s',w',hr',hR',hE,hb'⟩:=hR.append T (ty:=ty) (c:=1) hr hl h1 hb hm
 exact ⟨s',w',hr',hR',hB.ext hE hp,fun h=>(hb' _ h).elim hp (fun h=>by have:=hB.lt;omega),hE,hb'⟩
theorem jBR (n:Sp.Node):Sp.vM n=53∨Sp.vM n=0:=by
 unfold Sp.vM;simp only;split
 ·exact .inl rfl
 ·exact .inr rfl
theorem jGP (p:Addr) (n:Sp.Node) (w0:World) {L:Sp.Pool} {F:NP} (hP:yA w0 p L F) (hok:Sp.Ok L):Calls Tryz.prog 113 #[.pointer (some p),jDG n] w0
  (fun e w'=>∃r1 r2:Int,e=.returned (.tuple #[.int .i64 r1,.int .i64 r2])∧((r1,r2)=((Sp.make L n).1,(Sp.make L n).2.1)∧∃F',yA w' p (Sp.make L n).2.2 F'∧Ext F w0 w'∧∀b,F' b→F b∨w0.heap.size≤b)):=by
 obtain ⟨k,f,t,u,x,a,b⟩:=n
 generalize hn:(⟨k,f,t,u,x,a,b⟩:Sp.Node)=n
 have hnk:jDG n=.agg #[.int .i64 k,.int .i64 f,.int .i64 t,.int .u64 u,.string x,.int .i64 a,.int .i64 b]:=by rw [← hn];rfl
 rw [hnk]
 suffices key:∀K:Int→Int→WP,(∀r1 r2 w',((r1,r2)=((Sp.make L n).1,(Sp.make L n).2.1)∧∃F',yA w' p (Sp.make L n).2.2 F'∧Ext F w0 w'∧∀b,F' b→F b∨w0.heap.size≤b)→K r1 r2 w')→m_O (some p) k f t u x a b w0 K from
  w_O _ _ _ _ _ _ _ _ w0 _ (key _ (fun _ _ _ h=>h))
 intro K hK
 have hsh:=jCW n
 have hkd:=xN k
 rw [← hn] at hsh
 simp only at hsh
 rw [hn] at hsh
 have hna:n.a=a:=by rw [← hn]
 have hnb:n.b=b:=by rw [← hn]
 have hnkk:n.kind=k:=by rw [← hn]
 have hk:=Sp.jDK k
 have same:∀(r1 r2:Int) (w':World),Pure w0 w'→Sp.make L n=(r1,r2,L)→K r1 r2 w':=fun r1 r2 w' E h=>hK _ _ _ ⟨by rw [h],F,by rw [h];exact hP.pure E,E.pure,fun b h=>.inl h⟩
 have bad:∀(er:Int) (w':World),er≠0→Pure w0 w'→Sp.check L n=(0,0,er)→K 0 er w':=fun er w' h0 E h=>same 0 er w' E (by unfold Sp.make;simp [h,h0])
 unfold m_O
 rw [hsh,hkd]
 have good:Sp.nodeErr n=0→Sp.check L n=(if (Sp.vD n).any (fun t=>!Sp.inP L t) then (0,0,51) else if 1+((Sp.vD n).map (Sp.sizeOf L)).sum>4096∨(Sp.vD n).foldl (fun d t=>max d (Sp.depthOf L t)) 0+1>64 then (0,0,52) else (1+((Sp.vD n).map (Sp.sizeOf L)).sum,(Sp.vD n).foldl (fun d t=>max d (Sp.depthOf L t)) 0+1,0)):=by
  intro h;unfold Sp.nodeErr at h;unfold Sp.check;split at h
  ·cases h
  ·rename_i h1;simp only;rw [if_neg h1];split at h
   ·cases h
   ·rename_i h2;rw [if_neg h2,if_neg (by simpa using h)]
 refine ⟨fun h=>?_,fun h=>?_⟩
 ·intro H1 w2 hs2
  have h:Sp.nodeErr n≠0:=by simpa using h
  refine bad _ _ h hs2.first ?_
  unfold Sp.nodeErr at h ⊢
  unfold Sp.check
  by_cases h1:Sp.vM n≠0
  ·rw [if_pos h1,if_pos h1]
   have:Sp.vM n=53:=(jBR n).resolve_right h1
   rw [this]
  ·rw [if_neg h1] at h ⊢
   simp only
   rw [if_neg h1]
   by_cases h2:((decide ((Sp.shapeOf n.kind).kids<1) && n.a != 0) || (decide ((Sp.shapeOf n.kind).kids<2) && n.b != 0))=true
   ·rw [if_pos h2,if_pos h2]
   ·rw [if_neg h2] at h ⊢;rw [if_neg h2,if_pos h]
 have h0:Sp.nodeErr n=0:=by simpa using h
 have hchk:=good h0
 have hzero:((Sp.shapeOf k).kids<1→a=0)∧((Sp.shapeOf k).kids<2→b=0):=by
  unfold Sp.nodeErr at h0;split at h0
  ·cases h0
  ·split at h0
   ·cases h0
   ·rename_i _ h2;rw [hnkk,hna,hnb] at h2;simp at h2;exact h2
 have hz0:Sp.inP L 0=false:=by simp [Sp.inP]
 have hs0:Sp.sizeOf L 0=0:=by simp [Sp.sizeOf,Sp.get,hz0]
 have hd0:Sp.depthOf L 0=0:=by simp [Sp.depthOf,Sp.get,hz0]
 have hsa:=hok.sizeOf a
 have hsb:=hok.sizeOf b
 have hda:=hok.depthOf a
 have hdb:=hok.depthOf b
 have hany:(Sp.vD n).any (fun t=>!Sp.inP L t)=((decide (1≤(Sp.shapeOf k).kids) && !Sp.inP L a) || (decide ((Sp.shapeOf k).kids=2) && !Sp.inP L b)):=by
  unfold Sp.vD;rw [hnkk,hna,hnb];rcases hk with h | h | h <;> rw [h] <;> simp
 have hsum:((Sp.vD n).map (Sp.sizeOf L)).sum=Sp.sizeOf L a+Sp.sizeOf L b:=by
  unfold Sp.vD;rw [hnkk,hna,hnb];rcases hk with h | h | h <;> rw [h] <;> simp
  ·rw [hzero.1 (by omega),hzero.2 (by omega),hs0];rfl
  ·rw [hzero.2 (by omega),hs0];omega
 have hmax:(Sp.vD n).foldl (fun d t=>max d (Sp.depthOf L t)) 0=max (Sp.depthOf L a) (Sp.depthOf L b):=by
  unfold Sp.vD;rw [hnkk,hna,hnb];rcases hk with h | h | h <;> rw [h] <;> simp
  ·rw [hzero.1 (by omega),hzero.2 (by omega),hd0];omega
  ·rw [hzero.2 (by omega),hd0];omega
  ·omega
 rw [hany,hsum,hmax] at hchk
 have J1:∀(x1:Bool) (H:NP) (w:World),Hst w0 H w H w→Pure w0 w→x1=((decide (1≤(Sp.shapeOf k).kids) && !Sp.inP L a) || (decide ((Sp.shapeOf k).kids=2) && !Sp.inP L b))→m_O_j1 (some p) k f t u x a b x1 w0 H w K:=by
  intro x1 H w hs E hx;rw [← hx] at hchk;unfold m_O_j1;refine ⟨fun h=>bad 51 w (by omega) E (by rw [hchk,h];rfl),fun h=>?_⟩;rw [h,if_neg (by simp)] at hchk;refine ⟨fun _=>True,trivial,?_⟩;rintro _ rfl;have Ed:Pure w0 w.drew:=E.trans (Ext.drew w);refine (tN p a w.drew (hP.pure Ed) hok).mono ?_;rintro _ _ ⟨_,rfl,rfl,rfl⟩;refine ⟨_,rfl,trivial,Kept.refl _,?_⟩;refine (tN p b w.drew (hP.pure Ed) hok).mono ?_;rintro _ _ ⟨_,rfl,rfl,rfl⟩;refine ⟨_,rfl,trivial,Kept.refl _,fun _=>True,trivial,?_⟩;rintro _ rfl;have Ed2:Pure w0 w.drew.drew:=Ed.trans (Ext.drew w.drew);refine (jBA p a w.drew.drew (hP.pure Ed2) hok).mono ?_;rintro _ _ ⟨_,rfl,rfl,rfl⟩;refine ⟨_,rfl,trivial,Kept.refl _,?_⟩;refine (jBA p b w.drew.drew (hP.pure Ed2) hok).mono ?_;rintro _ _ ⟨_,rfl,rfl,rfl⟩;refine ⟨_,rfl,trivial,Kept.refl _,_,fun w' _=>run_max_int2 _ _ _ _ _ _ _,?_⟩;have hmx:(if Sp.depthOf L b>Sp.depthOf L a then Sp.depthOf L b else Sp.depthOf L a)=max (Sp.depthOf L a) (Sp.depthOf L b):=by
   split <;> omega
  generalize hz:(if Sp.depthOf L b>Sp.depthOf L a then Sp.depthOf L b else Sp.depthOf L a)=z at *;have hz64:0≤z∧z≤64:=by rw [hmx];omega
  have e1:IntKind.i64.wrap (IntKind.i64.wrap (1+Sp.sizeOf L a)+Sp.sizeOf L b)=1+(Sp.sizeOf L a+Sp.sizeOf L b):=by
   rw [i64 (n:=1+Sp.sizeOf L a) (by omega) (by omega),i64 (by omega) (by omega)];omega
  have e2:IntKind.i64.wrap (1+z)=z+1:=by rw [i64 (by omega) (by omega)];omega
  rw [e1,e2];rw [← hmx] at hchk;rintro y1 rfl;have hsx:Hst w0 H w.drew.drew H w.drew.drew:=(hs.drew.here.drew).here;refine ⟨fun h=>?_,fun h=>?_⟩
  ·intro H2 w10 hs10;refine bad 52 w10 (by omega) (Ed2.hst hs10) ?_;rw [hchk,if_pos (by simpa using h)]
  ·intro H2 w10 hs10;have hck:Sp.check L n=(1+(Sp.sizeOf L a+Sp.sizeOf L b),z+1,0):=by rw [hchk,if_neg (by simp at h;omega)]
   have E10:=Ed2.hst hs10;rw [← hnk];refine (jHV p n w10 (hP.pure E10) hok).mono ?_;rintro _ w11 ⟨r,ok,rfl,hfd,E11⟩;refine ⟨_,_,rfl,E11.keptP,?_⟩;have E11':=E10.trans E11;have hs11:Hst w0 H2 w11 H2 w11:=hs10.again E11.keptP;cases hf:Sp.find L n with
   | some i =>
    rw [hf] at hfd
    obtain ⟨rfl,rfl⟩:=hfd
    exact Br.t rfl (same _ _ _ E11' (by unfold Sp.make;simp [hck,hf]))
   | none =>
    rw [hf] at hfd
    obtain ⟨rfl,rfl⟩:=hfd
    refine Br.f rfl ?_
    obtain ⟨s1,s2,s3,hS,hF⟩:=hP.pure E11'
    have hlen:s1.len=L.length:=by rw [hS.r1.len];simp
    refine ⟨p,rfl,s1,hS.box.cell0,fun h=>?_,fun h=>?_⟩
    ·have h2:65536≤L.length:=by have h:=of_decide_eq_true h;omega
     exact same _ _ _ E11' (by unfold Sp.make;simp [hck,hf,h2])
    ·have h2:¬ 65536≤L.length:=by have h:=of_decide_eq_false h;omega
     have hmk:Sp.make L n=((L.length:Int)+1,0,L++[⟨n,1+(Sp.sizeOf L a+Sp.sizeOf L b),z+1⟩]):=by unfold Sp.make;simp [hck,hf,h2]
     have hvis:∀b,F b→¬ H2 b:=fun b hb h2=>by have:=hP.lt hb;have:=hs11.old b h2;omega
     have hpF:F p.block:=(hF _).2 (.inl rfl)
     refine ⟨fun w'=>w'.cell? p=some s1.v,hS.box.cell0,?_⟩
     rintro _ rfl
     have E12:Pure w11 w11.drew:=Ext.drew w11
     refine ⟨p,rfl,s1,fun w' h'=>h',?_⟩
     intro p3 w13 h13
     have E13:Pure w11 w13:=E12.trans (Ext.new h13)
     have B13:=hS.box.pure E13
     refine ⟨B13.cell0,?_⟩
     obtain ⟨t1,w14,hr14,R14,B14,np1,X14,nb1⟩:=jDQ (P:=Tryz.prog) (ty:=41) jIM B13 (hS.r1.pure E13) hS.n1 (a:=p3) (r:=jBF n) (by rw [← hn];exact (Box.of_new h13).row) rfl rfl (by simp;omega) (by simp [maxLen];omega)
     refine ⟨t1,w14,hr14,B14.cell0,X14.kept (fun b hb h=>hvis b ((hF b).2 (.inr (.inl h))) hb),p,rfl,B14.canW0 (by simp),hvis _ hpF,?_⟩
     rintro w15 hw15
     have B15:Box w15 p [t1.v,s2.v,s3.v] 44:=by rw [hw15];exact B14.set0
     have X15:Ext (·=p.block) w14 w15:=by rw [hw15];exact Ext.setCell p _
     clear hw15
     have R15:=R14.ext X15 (fun b hb e=>np1 (e▸hb))
     have R2:=((hS.r2.pure E13).ext X14 (fun b h2 h1=>hS.d12 b h1 h2)).ext X15 (fun b hb e=>hS.n2 (e▸hb))
     have R3:=((hS.r3.pure E13).ext X14 (fun b h2 h1=>hS.d13 b h1 h2)).ext X15 (fun b hb e=>hS.n3 (e▸hb))
     have d12':∀b,t1.blk b→¬ s2.blk b:=fun b hb h2=>(nb1 b hb).elim (fun h=>hS.d12 b h h2) (fun h=>by have:=hS.r2.lt h2;have:=E13.size;omega)
     have d13':∀b,t1.blk b→¬ s3.blk b:=fun b hb h2=>(nb1 b hb).elim (fun h=>hS.d13 b h h2) (fun h=>by have:=hS.r3.lt h2;have:=E13.size;omega)
     refine ⟨p,rfl,s2,B15.cell rfl,?_⟩
     intro p4 w16 h16
     have E16:Pure w15 w16:=Ext.new h16
     have B16:=B15.pure E16
     obtain ⟨t2,w17,hr17,R17,B17,np2,X17,nb2⟩:=jDQ (P:=Tryz.prog) (ty:=42) jET B16 (R2.pure E16) hS.n2 (a:=p4) (r:=[.int .i64 (1+(Sp.sizeOf L a+Sp.sizeOf L b))]) (Box.of_new h16).row rfl rfl (by simp;omega) (by simp [maxLen];omega)
     refine ⟨t2,w17,hr17,X17.kept (fun b hb h=>hvis b ((hF b).2 (.inr (.inr (.inl h)))) hb),p,rfl,B17.canW (by simp),by rw [zX];exact hvis _ hpF,?_⟩
     rintro w18 hw18
     have B18:Box w18 p [t1.v,t2.v,s3.v] 44:=by rw [hw18];exact B17.set 1 _
     have X18:Ext (·=p.block) w17 w18:=by rw [hw18];have:=Ext.setCell (w:=w17) (p.add 1) t2.v;rw [zX] at this;exact this
     clear hw18
     have Q1:=((R15.pure E16).ext X17 (fun b h1 h2=>d12' b h1 h2)).ext X18 (fun b hb e=>np1 (e▸hb))
     have Q2:=R17.ext X18 (fun b hb e=>np2 (e▸hb))
     have Q3:=((R3.pure E16).ext X17 (fun b h3 h2=>hS.d23 b h2 h3)).ext X18 (fun b hb e=>hS.n3 (e▸hb))
     have d12'':∀b,t1.blk b→¬ t2.blk b:=fun b hb h2=>(nb2 b h2).elim (fun h=>d12' b hb h) (fun h=>by have:=(R15.pure E16).lt hb;omega)
     have d23':∀b,t2.blk b→¬ s3.blk b:=fun b hb h2=>(nb2 b hb).elim (fun h=>hS.d23 b h h2) (fun h=>by have:=(R3.pure E16).lt h2;omega)
     refine ⟨p,rfl,s3,B18.cell rfl,?_⟩
     intro p5 w19 h19
     have E19:Pure w18 w19:=Ext.new h19
     have B19:=B18.pure E19
     obtain ⟨t3,w20,hr20,R20,B20,np3,X20,nb3⟩:=jDQ (P:=Tryz.prog) (ty:=42) jET B19 (Q3.pure E19) hS.n3 (a:=p5) (r:=[.int .i64 (z+1)]) (Box.of_new h19).row rfl rfl (by simp;omega) (by simp [maxLen];omega)
     refine ⟨t3,w20,hr20,X20.kept (fun b hb h=>hvis b ((hF b).2 (.inr (.inr (.inr h)))) hb),p,rfl,B20.canW (by simp),by rw [zX];exact hvis _ hpF,?_⟩
     rintro w21 hw21
     have B21:Box w21 p [t1.v,t2.v,t3.v] 44:=by rw [hw21];exact B20.set 2 _
     have X21:Ext (·=p.block) w20 w21:=by rw [hw21];have:=Ext.setCell (w:=w20) (p.add 2) t3.v;rw [zX] at this;exact this
     clear hw21
     have d13'':∀b,t1.blk b→¬ t3.blk b:=fun b hb h2=>(nb3 b h2).elim (fun h=>d13' b hb h) (fun h=>by have:=(Q1.pure E19).lt hb;omega)
     have d23'':∀b,t2.blk b→¬ t3.blk b:=fun b hb h2=>(nb3 b h2).elim (fun h=>d23' b hb h) (fun h=>by have:=(Q2.pure E19).lt hb;omega)
     have Z1:=((Q1.pure E19).ext X20 (fun b h1 h2=>d13' b h1 h2)).ext X21 (fun b hb e=>np1 (e▸hb))
     have Z2:=((Q2.pure E19).ext X20 (fun b h1 h2=>d23' b h1 h2)).ext X21 (fun b hb e=>np2 (e▸hb))
     have Z3:=R20.ext X21 (fun b hb e=>np3 (e▸hb))
     have hl1:(t1.len:Int)=L.length+1:=by rw [R14.len];simp
     refine ⟨p,rfl,t1,B21.cell0,?_⟩
     rw [hl1]
     refine hK _ _ _ ⟨by rw [hmk],fun b=>b=p.block∨t1.blk b∨t2.blk b∨t3.blk b,?_,?_,?_⟩
     ·rw [hmk]
      exact ⟨t1,t2,t3,⟨B21,by simpa [jOP] using Z1,by simpa [jOO] using Z2,by simpa [jKW] using Z3,np1,np2,np3,d12'',d13'',d23''⟩,fun _=>Iff.rfl⟩
     ·have a1:Ext F w0 w14:=(E11'.trans E13).pure.trans' X14 (fun i _ h=>(hF i).2 (.inr (.inl h)))
      have a2:Ext F w0 w15:=a1.trans' X15 (fun i _ h=>(hF i).2 (.inl h))
      have a3:Ext F w0 w17:=(a2.thenPure E16).trans' X17 (fun i _ h=>(hF i).2 (.inr (.inr (.inl h))))
      have a4:Ext F w0 w18:=a3.trans' X18 (fun i _ h=>(hF i).2 (.inl h))
      have a5:Ext F w0 w20:=(a4.thenPure E19).trans' X20 (fun i _ h=>(hF i).2 (.inr (.inr (.inr h))))
      exact a5.trans' X21 (fun i _ h=>(hF i).2 (.inl h))
     ·have z13:w0.heap.size≤w13.heap.size:=(E11'.trans E13).size
      have z16:w0.heap.size≤w16.heap.size:=by have:=X14.size;have:=X15.size;have:=E16.size;omega
      have z19:w0.heap.size≤w19.heap.size:=by have:=X17.size;have:=X18.size;have:=E19.size;omega
      rintro b (rfl | hb | hb | hb)
      ·exact .inl hpF
      ·exact (nb1 b hb).imp (fun h=>(hF b).2 (.inr (.inl h))) (fun h=>by omega)
      ·exact (nb2 b hb).imp (fun h=>(hF b).2 (.inr (.inr (.inl h)))) (fun h=>by omega)
      ·exact (nb3 b hb).imp (fun h=>(hF b).2 (.inr (.inr (.inr h)))) (fun h=>by omega)
 have J2:∀(x2:Bool) (H:NP) (w:World),Hst w0 H w H w→Pure w0 w→x2=(decide (1≤(Sp.shapeOf k).kids) && !Sp.inP L a)→m_O_j2 (some p) k f t u x a b x2 w0 H w K:=by
  intro x2 H w hs E hx;unfold m_O_j2;rw [hkd];refine ⟨fun h=>J1 true H w hs E (by rw [← hx,h];rfl),fun h=>⟨fun h2=>?_,fun h2=>J1 false H w hs E ?_⟩⟩
  ·refine (uA p b w (hP.pure E)).mono ?_;rintro _ _ ⟨_,rfl,rfl,rfl⟩;refine ⟨_,rfl,Kept.refl _,J1 _ H _ hs E ?_⟩;have h2:(Sp.shapeOf k).kids=2:=by simpa using h2
   rw [← hx,h];simp [h2]
  ·have h2:(Sp.shapeOf k).kids≠2:=by simpa using h2
   rw [← hx,h];simp [h2]
 refine ⟨fun h=>?_,fun h=>?_⟩
 ·intro H1 w3 hs3
  refine (uA p a w3 (hP.pure hs3.first)).mono ?_
  rintro _ _ ⟨_,rfl,rfl,rfl⟩
  refine ⟨_,rfl,Kept.refl _,J2 _ H1 _ hs3.here hs3.first ?_⟩
  have:1≤(Sp.shapeOf k).kids:=by have:=of_decide_eq_true h;omega
  simp [this]
 ·intro H1 w3 hs3
  refine J2 _ H1 _ hs3.here hs3.first ?_
  have:¬ 1≤(Sp.shapeOf k).kids:=by have:=of_decide_eq_false h;omega
  simp [this]
theorem jGD (s:Sp.Shape) (n:Sp.Node):Sp.vJ s n≠53:=by
 unfold Sp.vJ;split
 ·omega
 ·split <;> omega
theorem jKZ (k f t u:Int) (x:ByteArray) (len:Nat):Sp.xO ⟨k,f,t,u,x,0,0⟩ len=(if (Sp.nodeErr ⟨k,f,t,u,x,0,0⟩≠53∧(len:Int)≠(Sp.shapeOf k).kids) then 53 else Sp.nodeErr ⟨k,f,t,u,x,0,0⟩):=by
 unfold Sp.xO Sp.nodeErr;simp only;rcases jBR ⟨k,f,t,u,x,0,0⟩ with h | h
 ·rw [h];simp
 ·rw [h];have:=jGD (Sp.shapeOf k) ⟨k,f,t,u,x,0,0⟩;by_cases h2:(len:Int)=(Sp.shapeOf k).kids <;> simp [h2,this]
theorem jDT {S:NP} (q:Addr) (hq:¬ S q.block) (T:TypeId) (t:Sp.Tree):∀(s:Sl) (inside seen:Int) (w0:World),0≤inside→0≤seen→TreeAt S w0 s t→(∀b,S b→b<w0.heap.size)→Box w0 q [.int .i64 seen] T →
  Calls Tryz.prog 203 #[.agg (yL t s).toArray,.int .i64 inside,.pointer (some q)] w0
   (fun e w'=>∃r:Int,e=.returned (.int .i64 r)∧(r=(Sp.qY inside seen t).1∧Box w' q [.int .i64 (Sp.qY inside seen t).2] T∧Ext (·=q.block) w0 w')):=by
 induction t using Sp.Tree.ind with
 | h k f t u x ks ih =>
 intro s inside seen w0 hi0 hn0 hT hSw hB
 suffices key:∀K:Int→WP,(∀r w',(r=(Sp.qY inside seen (.mk k f t u x ks)).1∧Box w' q [.int .i64 (Sp.qY inside seen (.mk k f t u x ks)).2] T∧Ext (·=q.block) w0 w')→K r w')→m_T k f t u x s inside (some q) w0 K from
  w_T _ _ _ _ _ _ _ _ w0 _ (key _ (fun _ _ h=>h))
 intro K hK
 have hql:=hB.lt
 unfold m_T
 refine ⟨q,rfl,?_⟩
 intro H1 w1 hs1
 have hB1:=hB.pure hs1.first
 refine ⟨seen,hB1.cell0,?_⟩
 intro H5 w13 hs5
 have E13:=hs1.first.hst hs5
 have hB13:=hB.pure E13
 have hq0:∀{H w' H' w''},Hst w0 H w' H' w''→¬ H' q.block:=fun h hh=>by have:=h.old _ hh;omega
 unfold m_T_j1
 refine ⟨fun h=>?_,fun h=>?_⟩
 ·have : Sp.qY inside seen (.mk k f t u x ks) = (52, seen) := by
   rw [Sp.qY];simp only [Bool.or_eq_true,decide_eq_true_eq] at h;by_cases h1:4096≤seen
   ·rw [if_pos h1]
   ·rw [if_neg h1,if_pos (by omega)]
  rw [this] at hK;exact hK _ _ ⟨rfl,hB13,E13.pure⟩
 ·have h1 : ¬ 4096 ≤ seen ∧ ¬ 64 ≤ inside := by
   simp only [Bool.or_eq_false_iff,decide_eq_false_iff_not] at h;omega
  have hsp:Sp.qY inside seen (.mk k f t u x ks)=Sp.qA (inside+1) (Sp.xO ⟨k,f,t,u,x,0,0⟩ ks.length) (seen+1) ks:=by rw [Sp.qY,if_neg h1.1,if_neg h1.2]
  rw [hsp] at hK
  have hlen:s.len=ks.length:=by cases hT;assumption
  have hfit:ks.length≤9223372036854775807:=by cases hT;assumption
  refine ⟨q,rfl,seen,hB13.cell0,q,rfl,hB13.canW0 (by simp),hq0 hs5,?_⟩
  rw [i64 (n:=seen+1) (by omega) (by omega)]
  rintro w2 hw2
  have hB2:Box w2 q [.int .i64 (seen+1)] T:=by rw [hw2];exact hB13.set0
  have E2:Ext (·=q.block) w0 w2:=by rw [hw2];exact E13.pure.trans (Ext.setCell q _)
  clear hw2
  rintro y1 rfl
  have hsh:=jCW ⟨k,f,t,u,x,0,0⟩
  simp only at hsh
  rw [hsh,xN,hlen]
  have hown:cond ((Sp.nodeErr ⟨k,f,t,u,x,0,0⟩ != 53) && ((ks.length:Int) != (Sp.shapeOf k).kids)) 53 (Sp.nodeErr ⟨k,f,t,u,x,0,0⟩)=Sp.xO ⟨k,f,t,u,x,0,0⟩ ks.length:=by
   rw [jKZ];by_cases h2:Sp.nodeErr ⟨k,f,t,u,x,0,0⟩=53
   ·simp [h2]
   ·by_cases h3:(ks.length:Int)=(Sp.shapeOf k).kids
    ·simp [h3]
    ·have e1:(Sp.nodeErr ⟨k,f,t,u,x,0,0⟩ != 53)=true:=by simpa using h2
     have e2:((ks.length:Int) != (Sp.shapeOf k).kids)=true:=by simpa using h3
     rw [e1,e2,if_pos ⟨h2,h3⟩];rfl
  rw [hown]
  intro H3 w10 hs3
  have E10:Ext (·=q.block) w0 w10:=E2.hst hs3
  have hB10:=hB2.ext hs3.ext (hq0 hs3)
  refine ⟨fun e i H w'=>∃j:Nat,i=j∧j≤ks.length∧∃n:Int,0≤n∧Ext (·=q.block) w0 w'∧Box w' q [.int .i64 n] T∧Sp.qA (inside+1) e n (ks.drop j)=Sp.qA (inside+1) (Sp.xO ⟨k,f,t,u,x,0,0⟩ ks.length) (seen+1) ks,fun _ i _=>((ks.length:Int) - i).toNat,⟨0,rfl,Nat.zero_le _,seen+1,by omega,E10,hB10,rfl⟩,?_⟩
  rintro e1 _ Hl wl hl ⟨j,rfl,hj,n,hn,El,hBl,heq⟩
  unfold m_T_l2
  have hTl:=hT.ext El (fun b hb e=>hq (e▸hb))
  refine ⟨fun hc=>?_,fun hc=>?_⟩
  ·simp only [Bool.and_eq_true,beq_iff_eq] at hc
   obtain ⟨he,hlt⟩:=hc
   have hlt:=vS hlen hlt
   subst he
   cases hTl with
   | mk _ _ _ _ _ _ _ rs len fit row kid =>
   obtain ⟨a,hat,ha,hr⟩:=row j hlt
   refine ⟨a,hat,?_⟩
   intro H4 w11 hs4
   have E11:=El.hst hs4
   have hT11:=hT.ext E11 (fun b hb e=>hq (e▸hb))
   have hr11:Row w11 a (yL ks[j] (rs j)):=hs4.ext.row hr (fun hh=>by have:=hs4.old _ hh;have:=hSw _ ha;omega)
   have hk11:TreeAt S w11 (rs j) ks[j]:=(kid j hlt).ext hs4.ext (fun b hb hh=>by have:=hs4.old _ hh;have:=hSw _ hb;omega)
   have hB11:=hBl.ext hs4.ext (hq0 hs4)
   refine ⟨_,_,_,_,_,rs j,hr11,?_⟩
   rw [i64 (n:=inside+1) (by omega) (by omega)]
   refine (ih j hlt (rs j) (inside+1) n w11 (by omega) hn hk11 (fun b hb=>by have:=hSw b hb;have:=E11.size;omega) hB11).mono ?_
   rintro _ w12 ⟨r,rfl,rfl,hB12,E12⟩
   refine ⟨_,rfl,E12.kept (fun b hb e=>hq0 hs4 (e▸hb)),?_⟩
   rw [zZ hlt (by omega)]
   refine ⟨⟨j+1,rfl,hlt,_,jEC ks[j] (inside+1) n hn,E11.trans E12,hB12,?_⟩,qX hlt⟩
   rw [← heq];exact (jAY hlt (inside+1) n).symm
  ·intro H4 w11 hs4
   have hfin:Sp.qA (inside+1) e1 n (ks.drop j)=(e1,n):=by
    by_cases he:e1=0
    ·have hge : j = ks.length := by
      rw [he] at hc;have hc:decide ((j:Int)<(s.len:Int))=false:=by simpa using hc
      exact vT hlen hj hc
     rw [hge,List.drop_length];rfl
    ·exact jBU he _ _
   rw [hfin] at heq
   refine hK _ _ ⟨by rw [← heq],?_,El.hst hs4⟩
   rw [← heq];exact hBl.ext hs4.ext (hq0 hs4)
theorem jFD {S:NP} (t:Sp.Tree) (s:Sl) (w0:World) (hT:TreeAt S w0 s t) (hSw:∀b,S b→b<w0.heap.size) :
  Calls Tryz.prog 147 #[.agg (yL t s).toArray] w0 (fun e w'=>∃r:Int,e=.returned (.int .i64 r)∧(r=(Sp.qY 0 0 t).1∧Pure w0 w')):=by
 obtain ⟨k,f,to,u,x,ks⟩:=t
 refine w_F4 _ _ _ _ _ _ w0 (fun r w'=>r=(Sp.qY 0 0 (.mk k f to u x ks)).1∧Pure w0 w') ?_
 unfold m_F4
 intro H1 w1 hs1 p w2 h2
 have b2:=Box.of_new h2
 have E2:Pure w0 w2:=hs1.first.trans (Ext.new h2)
 have o2:=New.own hs1.first h2
 have hpH:¬ H1 p.block:=fun hh=>by have:=hs1.lt _ hh;have:=h2.at_size;omega
 refine ⟨b2.canW0 (by simp),hpH,?_⟩
 rintro w3 hw3
 have b3:Box w3 p [.int .i64 0] 3:=by rw [hw3];exact b2.set0
 have E3:Pure w0 w3:=by rw [hw3];exact E2.own o2 (Ext.setCell p _)
 clear hw3
 refine (jDT p (fun h=>by have:=hSw _ h;omega) _ _ s 0 0 w3 (Int.le_refl _) (Int.le_refl _) (hT.pure E3) (fun b hb=>by have:=hSw b hb;have:=E3.size;omega) b3).mono ?_
 rintro _ w4 ⟨r,rfl,rfl,_,E4⟩
 exact ⟨_,rfl,E4.kept (fun b hb e=>hpH (e▸hb)),rfl,E3.own o2 E4⟩
theorem jHT (p:Addr) (n:Nat) (w0:World) {L:Sp.Pool} {F:NP} (hP:yA w0 p L F) (hn:n≤L.length) :
  Calls Tryz.prog 149 #[.pointer (some p),.int .i64 n] w0 (fun e w'=>e=.returned (.tuple #[])∧yA w' p (L.take n) F∧Ext F w0 w'):=by
 suffices key:∀K:WP,(∀w',yA w' p (L.take n) F∧Ext F w0 w'→K w')→m_M2 (some p) n w0 K from
  w_M2 _ _ w0 _ (key _ (fun _ h=>h))
 intro K hK
 unfold m_M2
 obtain ⟨s1,s2,s3,hS,hF⟩:=hP
 obtain ⟨t1,hr1,R1,hb1⟩:=Rws.hi (P:=Tryz.prog) jIM hS.r1 (k:=.i64) (n:=n) (by omega) (by simpa using hn)
 refine ⟨p,rfl,s1,hS.box.cell0,t1,hr1,p,rfl,hS.box.canW0 (by simp),?_⟩
 rintro w1 hw1
 have B1:Box w1 p [t1.v,s2.v,s3.v] 44:=by rw [hw1];exact hS.box.set0
 have X1:Ext (·=p.block) w0 w1:=by rw [hw1];exact Ext.setCell p _
 clear hw1
 obtain ⟨t2,hr2,R2,hb2⟩:=Rws.hi (P:=Tryz.prog) jET (hS.r2.ext X1 (fun b hb e=>hS.n2 (e▸hb))) (k:=.i64) (n:=n) (by omega) (by simpa using hn)
 refine ⟨p,rfl,s2,B1.cell rfl,t2,hr2,p,rfl,B1.canW (by simp),?_⟩
 rintro w2 hw2
 have B2:Box w2 p [t1.v,t2.v,s3.v] 44:=by rw [hw2];exact B1.set 1 _
 have X2:Ext (·=p.block) w1 w2:=by rw [hw2];have:=Ext.setCell (w:=w1) (p.add 1) t2.v;rw [zX] at this;exact this
 clear hw2
 obtain ⟨t3,hr3,R3,hb3⟩:=Rws.hi (P:=Tryz.prog) jET (hS.r3.ext (X1.trans X2) (fun b hb e=>hS.n3 (e▸hb))) (k:=.i64) (n:=n) (by omega) (by simpa using hn)
 refine ⟨p,rfl,s3,B2.cell rfl,t3,hr3,p,rfl,B2.canW (by simp),?_⟩
 rintro w3 hw3
 have B3:Box w3 p [t1.v,t2.v,t3.v] 44:=by rw [hw3];exact B2.set 2 _
 have X3:Ext (·=p.block) w2 w3:=by rw [hw3];have:=Ext.setCell (w:=w2) (p.add 2) t3.v;rw [zX] at this;exact this
 clear hw3
 have E:=(X1.trans X2).trans X3
 refine hK _ ⟨⟨t1,t2,t3,⟨B3,?_,?_,?_,fun h=>hS.n1 ((hb1 _).1 h),fun h=>hS.n2 ((hb2 _).1 h),fun h=>hS.n3 ((hb3 _).1 h),fun b h1 h2=>hS.d12 b ((hb1 b).1 h1) ((hb2 b).1 h2),fun b h1 h2=>hS.d13 b ((hb1 b).1 h1) ((hb3 b).1 h2),fun b h1 h2=>hS.d23 b ((hb2 b).1 h1) ((hb3 b).1 h2)⟩,fun b=>by rw [hF b,hb1 b,hb2 b,hb3 b]⟩,E.mono (fun i _ h=>(hF i).2 (.inl h))⟩
 ·have:=R1.ext E (fun b hb e=>hS.n1 ((hb1 _).1 (e▸hb)))
  rw [List.map_take];simpa using this
 ·have:=R2.ext (X2.trans X3) (fun b hb e=>hS.n2 ((hb2 _).1 (e▸hb)))
  rw [List.map_take];simpa using this
 ·have:=R3.ext X3 (fun b hb e=>hS.n3 ((hb3 _).1 (e▸hb)))
  rw [List.map_take];simpa using this
theorem jGM {S:NP} (p:Addr) (t:Sp.Tree):∀(s:Sl) (w0:World) (L:Sp.Pool) (F:NP),Sp.Tree.two t→TreeAt S w0 s t→yA w0 p L F→Sp.Ok L→(∀b,F b→¬ S b)→(∀b,S b→b<w0.heap.size) →
  Calls Tryz.prog 148 #[.pointer (some p),.agg (yL t s).toArray] w0
   (fun e w'=>∃r1:Int,∃r2:Int,e=.returned (.tuple #[.int .i64 r1,.int .i64 r2])∧((r1,r2)=((Sp.grow L t).1,(Sp.grow L t).2.1)∧∃F',yA w' p (Sp.grow L t).2.2 F'∧Ext F w0 w'∧∀b,F' b→F b∨w0.heap.size≤b)):=by
 induction t using Sp.Tree.ind with
 | h k f t u x ks ih =>
 intro s w0 L F h2 hT hP hok hFS hSw
 suffices key:∀K:Int→Int→WP,(∀r1 r2 w',((r1,r2)=((Sp.grow L (.mk k f t u x ks)).1,(Sp.grow L (.mk k f t u x ks)).2.1)∧∃F',yA w' p (Sp.grow L (.mk k f t u x ks)).2.2 F'∧Ext F w0 w'∧∀b,F' b→F b∨w0.heap.size≤b)→K r1 r2 w')→m_O1 (some p) k f t u x s w0 K from
  w_O1 _ _ _ _ _ _ _ w0 _ (key _ (fun _ _ _ h=>h))
 intro K hK
 obtain ⟨hk2,hall⟩:=jKO.1 h2
 have hsp:Sp.grow L (.mk k f t u x ks)=Sp.vV ⟨k,f,t,u,x,0,0⟩ 0 L ks:=by rw [Sp.grow]
 rw [hsp] at hK
 have hlen:s.len=ks.length:=by cases hT;assumption
 unfold m_O1
 intro H2 w4 hs4
 refine ⟨fun i a1 a2 a3 a4 a5 a6 a7 H w'=>∃j:Nat,i=j∧j≤ks.length∧∃(L':Sp.Pool) (F':NP),Sp.vV ⟨k,f,t,u,x,0,0⟩ 0 L ks=Sp.vV ⟨a1,a2,a3,a4,a5,a6,a7⟩ j L' (ks.drop j)∧Sp.Ok L'∧yA w' p L' F'∧(∀b,F' b→F b∨w0.heap.size≤b)∧(∀b,F' b→¬ H b)∧Ext F w0 w',fun i _ _ _ _ _ _ _ _=>((ks.length:Int) - i).toNat,
  ⟨0,rfl,Nat.zero_le _,L,F,by simp,hok,hP.pure hs4.first,fun b h=>.inl h,hs4.disj0 (fun b hb=>hP.lt hb),hs4.first.pure⟩,?_⟩
 rintro _ a1 a2 a3 a4 a5 a6 a7 Hl wl hl ⟨j,rfl,hj,L',F',heq,hok',hPl,hF',hv,El⟩
 unfold m_O1_l1
 refine ⟨fun h=>?_,fun h=>?_⟩
 ·have hlt:=vS hlen h
  have hTl:TreeAt S wl s (.mk k f t u x ks):=hT.ext El (fun b hs hf=>hFS b hf hs)
  have hkid:∃a r,At s j 6 a∧Row wl a (yL ks[j] r)∧TreeAt S wl r ks[j]:=by
   cases hTl with
   | mk _ _ _ _ _ _ _ rs len fit row kid=>exact let ⟨a,h1,_,h3⟩:=row j hlt;⟨a,rs j,h1,h3,kid j hlt⟩
  obtain ⟨a,r,hat,hrow,hTk⟩:=hkid
  refine ⟨a,hat,_,_,_,_,_,r,hrow,?_⟩
  have hsz:w0.heap.size≤wl.heap.size:=El.size
  refine (ih j hlt r wl L' F' (jDY hall hlt) hTk hPl hok' (fun b hb hs=>(hF' b hb).elim (fun h=>hFS b h hs) (fun h=>by have:=hSw b hs;omega)) (fun b hs=>by have:=hSw b hs;omega)).mono ?_
  rintro _ w8 ⟨r1,r2,rfl,hr,F8,hP8,E8,hF8⟩
  have e1:r1=(Sp.grow L' ks[j]).1:=congrArg Prod.fst hr
  have e2:r2=(Sp.grow L' ks[j]).2.1:=congrArg Prod.snd hr
  rw [List.drop_eq_getElem_cons hlt] at heq
  have hF8':∀b,F8 b→F b∨w0.heap.size≤b:=fun b hb=>(hF8 b hb).elim (hF' b) (fun h=>by right;omega)
  have Ew8:Ext F w0 w8:=El.trans' E8 (fun i hi h=>(hF' i h).elim id (fun h=>by omega))
  refine ⟨_,_,rfl,E8.kept (fun b hH hF=>hv b hF hH),fun h=>?_,fun h=>?_⟩
  ·have h:(Sp.grow L' ks[j]).2.1≠0:=by rw [← e2];simpa using h
   rw [jDL h] at heq
   refine hK _ _ _ ?_
   rw [heq];exact ⟨by rw [e2],F8,hP8,Ew8,hF8'⟩
  ·have h:(Sp.grow L' ks[j]).2.1=0:=by rw [← e2];simpa using h
   rw [jBV h] at heq
   intro H3 w9 hs9
   have hv8:∀b,F8 b→¬ Hl b:=fun b hb hH=>(hF8 b hb).elim (fun h=>hv b h hH) (fun h=>by have:=hl.lt b hH;omega)
   have hv9:∀b,F8 b→¬ H3 b:=hs9.disj (fun b hb=>⟨hP8.lt hb,hv8 b hb⟩)
   rw [zZ hlt (by omega)]
   refine ⟨⟨j+1,rfl,hlt,_,F8,?_,(Sp.tW ks[j] L' hok').1,hP8.ext hs9.ext hv9,hF8',hv9,Ew8.hst hs9⟩,qX hlt⟩
   rw [heq,e1]
   have hj0:(((j:Int)) == 0)=decide (j=0):=by rw [Bool.eq_iff_iff];simp
   rw [hj0]
   by_cases hj0':j=0
   ·subst hj0';rfl
   ·simp [hj0']
 ·have hge:=vT hlen hj h
  rw [hge,List.drop_length,Sp.vV] at heq
  refine (jGP p ⟨a1,a2,a3,a4,a5,a6,a7⟩ wl hPl hok').mono ?_
  rintro _ w9 ⟨r1,r2,rfl,hr,F9,hP9,E9,hF9⟩
  have hsz:w0.heap.size≤wl.heap.size:=El.size
  refine ⟨_,_,rfl,E9.kept (fun b hH hF=>hv b hF hH),hK _ _ _ ?_⟩
  rw [heq]
  exact ⟨hr,F9,hP9,El.trans' E9 (fun i hi h=>(hF' i h).elim id (fun h=>by omega)),fun b hb=>(hF9 b hb).elim (hF' b) (fun h=>by right;omega)⟩
theorem jEZ (t:Sp.Tree):∀L,(Sp.grow L t).2.1≠0→(Sp.grow L t).1=0:=by
 induction t using Sp.Tree.ind with
 | h k f t u x ks ih =>
  have hmk:∀L n,(Sp.make L n).2.1≠0→(Sp.make L n).1=0:=by
   intro L n h;unfold Sp.make at h ⊢;simp only at h ⊢;split at h
   ·rename_i h1;rw [if_pos h1]
   ·rename_i h1;rw [if_neg h1];split at h
    ·rename_i hf;exact absurd rfl h
    ·split at h
     ·rename_i h2;simp [h2]
     ·exact absurd rfl h
  have:∀(ks:List Sp.Tree),(∀i (hi:i<ks.length),∀L,(Sp.grow L ks[i]).2.1≠0→(Sp.grow L ks[i]).1=0)→∀n i L,(Sp.vV n i L ks).2.1≠0→(Sp.vV n i L ks).1=0:=by
   intro ks;induction ks with
   | nil=>intro _ n i L h;unfold Sp.vV at h ⊢;exact hmk L n h
   | cons t ts iht =>
    intro hh n i L h
    unfold Sp.vV at h ⊢
    split at h
    ·rename_i h1;rw [if_pos h1]
    ·rename_i h1;rw [if_neg h1];exact iht (fun i hi=>hh (i+1) (by simpa using hi)) _ _ _ h
  intro L h
  unfold Sp.grow at h ⊢
  exact this ks ih _ _ L h
theorem jJU {S:NP} (p:Addr) (t:Sp.Tree) (s:Sl) (w0:World) {L:Sp.Pool} {F:NP} (hT:TreeAt S w0 s t) (hP:yA w0 p L F) (hok:Sp.Ok L) (hFS:∀b,F b→¬ S b) (hSw:∀b,S b→b<w0.heap.size) :
  Calls Tryz.prog 78 #[.pointer (some p),.agg (yL t s).toArray] w0
   (fun e w'=>∃r1:Int,∃r2:Int,e=.returned (.tuple #[.int .i64 r1,.int .i64 r2])∧((r1,r2)=((Sp.of L t).1,(Sp.of L t).2.1)∧∃F',yA w' p (Sp.of L t).2.2 F'∧Ext F w0 w'∧∀b,F' b→F b∨w0.heap.size≤b)):=by
 obtain ⟨k,f,to,u,x,ks⟩:=t
 suffices key:∀K:Int→Int→WP,(∀r1 r2 w',((r1,r2)=((Sp.of L (.mk k f to u x ks)).1,(Sp.of L (.mk k f to u x ks)).2.1)∧∃F',yA w' p (Sp.of L (.mk k f to u x ks)).2.2 F'∧Ext F w0 w'∧∀b,F' b→F b∨w0.heap.size≤b)→K r1 r2 w')→m_N2 (some p) k f to u x s w0 K from
  w_N2 _ _ _ _ _ _ _ w0 _ (key _ (fun _ _ _ h=>h))
 intro K hK
 unfold m_N2
 intro H1 w1 hs1
 have E1:=hs1.first
 generalize ht:Sp.Tree.mk k f to u x ks=t at *
 have htr:(Value.agg #[.int .i64 k,.int .i64 f,.int .i64 to,.int .u64 u,.string x,s.v])=.agg (yL t s).toArray:=by rw [← ht];rfl
 rw [htr]
 refine (jFD t s w1 (hT.pure E1) (fun b hb=>by have:=hSw b hb;have:=E1.size;omega)).mono ?_
 rintro _ w2 ⟨r1,rfl,rfl,E2⟩
 have E12:=E1.trans E2
 refine ⟨_,rfl,E2.keptP,fun h=>?_,fun h=>?_⟩
 ·have h:(Sp.qY 0 0 t).1≠0:=by simpa using h
  have:Sp.of L t=(0,(Sp.qY 0 0 t).1,L):=by rw [Sp.of,if_pos h]
  refine hK _ _ _ ?_
  rw [this];exact ⟨rfl,F,hP.pure E12,E12.pure,fun _ h=>.inl h⟩
 ·have h:(Sp.qY 0 0 t).1=0:=by simpa using h
  have hP2:=hP.pure E12
  have hv:∀b,F b→¬ H1 b:=hs1.disj0 (fun b hb=>hP.lt hb)
  obtain ⟨s1,s2,s3,hS,hF0⟩:=id hP2
  have hl0:s1.len=L.length:=by rw [hS.r1.len];simp
  refine ⟨p,rfl,s1,hS.box.cell0,?_⟩
  refine (jGM p t s w2 L F (jFX t _ _ h) (hT.pure E12) hP2 hok hFS (fun b hb=>by have:=hSw b hb;have:=E12.size;omega)).mono ?_
  rintro _ w5 ⟨r1,r2,rfl,hr,F5,hP5,E5,hF5⟩
  have e1:r1=(Sp.grow L t).1:=congrArg Prod.fst hr
  have e2:r2=(Sp.grow L t).2.1:=congrArg Prod.snd hr
  have hs4:w0.heap.size≤w2.heap.size:=E12.size
  have E05:Ext F w0 w5:=E12.pure.trans E5
  have hF5':∀b,F5 b→F b∨w0.heap.size≤b:=fun b hb=>(hF5 b hb).elim .inl (fun h=>.inr (by omega))
  have hs2:=hs1.again E2.keptP
  have hv5:∀b,F5 b→¬ H1 b:=fun b hb hH=>(hF5 b hb).elim (fun h=>hv b h hH) (fun h=>by have:=hs2.lt b hH;omega)
  refine ⟨_,_,rfl,E5.kept (fun b hH hF=>hv b hF hH),fun h'=>?_,fun h'=>?_⟩
  ·have h':(Sp.grow L t).2.1≠0:=by rw [← e2];simpa using h'
   obtain ⟨hok5,M,hM⟩:=Sp.tW t L hok
   rw [hl0]
   refine (jHT p L.length w5 hP5 (by rw [hM];simp)).mono ?_
   rintro _ w6 ⟨rfl,hP6,E6⟩
   have:Sp.of L t=(0,(Sp.grow L t).2.1,L):=by rw [Sp.of,if_neg (by simp [h]),if_pos h']
   refine ⟨rfl,E6.kept (fun b hH hF=>hv5 b hF hH),hK _ _ _ ?_⟩
   rw [this]
   rw [hM,List.take_left] at hP6
   exact ⟨by rw [e1,e2,jEZ t L h'],F5,hP6,E05.trans' E6 (fun i hi h=>(hF5' i h).elim id (fun h=>by omega)),hF5'⟩
  ·have h':(Sp.grow L t).2.1=0:=by rw [← e2];simpa using h'
   have:Sp.of L t=((Sp.grow L t).1,0,(Sp.grow L t).2.2):=by rw [Sp.of,if_neg (by simp [h]),if_neg (by simp [h'])]
   refine hK _ _ _ ?_
   rw [this]
   exact ⟨by rw [e1,e2,h'],F5,hP5,E05,hF5'⟩
theorem TreeAt.hst {S:NP} {w0 w w':World} {H H':NP} {s:Sl} {t:Sp.Tree} (h:TreeAt S w s t) (hs:Hst w0 H w H' w') (hd:∀b,S b→b<w.heap.size∧¬ H b):TreeAt S w' s t :=
 h.ext hs.ext (fun b hb hh=>hs.disj (G:=S) hd b hb hh)
theorem jFC {S:NP} (t:Sp.Tree):∀(s:Sl) (most:Int) (w0:World),0≤most→most≤1000000000→TreeAt S w0 s t→(∀b,S b→b<w0.heap.size) →
  Calls Tryz.prog 75 #[.agg (yL t s).toArray,.int .i64 most] w0 (fun e w'=>∃r:Int,e=.returned (.int .i64 r)∧(r=Sp.tY most t∧Pure w0 w')):=by
 induction t using Sp.Tree.ind with
 | h k f t u x ks ih =>
 intro s most w0 hm0 hm hT hSw
 suffices key:∀K:Int→WP,(∀r w',(r=Sp.tY most (.mk k f t u x ks)∧Pure w0 w')→K r w')→m_M1 k f t u x s most w0 K from
  w_M1 _ _ _ _ _ _ _ w0 _ (key _ (fun _ _ h=>h))
 intro K hK
 have hlen:s.len=ks.length:=by cases hT;assumption
 have hfit:ks.length≤9223372036854775807:=by cases hT;assumption
 unfold m_M1
 intro H1 w1 hs1
 refine ⟨fun n i H w'=>∃j:Nat,i=j∧j≤ks.length∧1≤n∧n≤most+1∧Pure w0 w'∧Sp.yS most 1 ks=Sp.yS most n (ks.drop j),fun _ i _=>((ks.length:Int) - i).toNat,⟨0,rfl,Nat.zero_le _,Int.le_refl _,by omega,hs1.first,rfl⟩,?_⟩
 rintro n _ Hl wl hl ⟨j,rfl,hj,hn1,hn2,El,heq⟩
 unfold m_M1_l1
 refine ⟨fun hc=>?_,fun hc=>?_⟩
 ·simp only [Bool.and_eq_true,decide_eq_true_eq] at hc
  have hlt:j<ks.length:=by omega
  rw [List.drop_eq_getElem_cons hlt,Sp.yS,if_pos hc.2] at heq
  have hT1:=hT.pure El
  cases hT1 with
  | mk _ _ _ _ _ _ _ rs len fit row kid =>
  obtain ⟨a,hat,ha,hr⟩:=row j hlt
  refine ⟨a,hat,?_⟩
  intro H2 w2 hs2
  have hd:∀b,S b→¬ H2 b:=fun b hb hh=>by have:=hs2.old _ hh;have:=hSw b hb;omega
  refine ⟨_,_,_,_,_,rs j,hs2.ext.row hr (hd _ ha),?_⟩
  rw [i64 (n:=most - n) (by omega) (by omega)]
  refine (ih j hlt (rs j) (most - n) w2 (by omega) (by omega) ((kid j hlt).ext hs2.ext hd) (fun b hb=>by have:=hSw b hb;have:=(El.hst hs2).size;omega)).mono ?_
  rintro _ w3 ⟨r,rfl,rfl,E3⟩
  have hpf:=Sp.jDD ks[j] (most - n) (by omega)
  refine ⟨_,rfl,E3.keptP,?_⟩
  rw [zZ hlt (by omega),i64 (n:=n+Sp.tY (most - n) ks[j]) (by omega) (by omega)]
  exact ⟨⟨j+1,rfl,hlt,by omega,by omega,(El.hst hs2).trans E3,heq⟩,qX hlt⟩
 ·intro H2 w2 hs2
  refine hK _ _ ⟨?_,El.hst hs2⟩
  rw [Sp.tY,heq]
  by_cases hj2:j=ks.length
  ·rw [hj2,List.drop_length];rfl
  ·have hlt:j<ks.length:=by omega
   rw [List.drop_eq_getElem_cons hlt,Sp.yS,if_neg]
   intro h
   have:decide (n≤most)=true:=decide_eq_true h
   have h2:decide ((j:Int)<(s.len:Int))=true:=decide_eq_true (by omega)
   rw [this,h2] at hc;cases hc
theorem jFN {xs ys:List Sp.Tree} {j:Nat} (hl:xs.length=ys.length) (hj:j<xs.length):Sp.yP (xs.drop j) (ys.drop j)=(Sp.same xs[j] (ys[j]'(by omega)) && Sp.yP (xs.drop (j+1)) (ys.drop (j+1))):=by
 rw [List.drop_eq_getElem_cons hj,List.drop_eq_getElem_cons (show j<ys.length by omega),Sp.yP]
theorem jCU:∀{xs ys:List Sp.Tree},Sp.yP xs ys=true→xs.length=ys.length
 | [],[],_=>rfl
 | a :: xs,b :: ys,h=>by simp only [Sp.yP,Bool.and_eq_true] at h;simp [jCU h.2]
 | [],b :: ys,h=>by simp [Sp.yP] at h
 | a :: xs,[],h=>by simp [Sp.yP] at h
theorem jGO {S:NP} (t:Sp.Tree):∀(t':Sp.Tree) (s s':Sl) (w0:World),TreeAt S w0 s t→TreeAt S w0 s' t'→(∀b,S b→b<w0.heap.size) →
  Calls Tryz.prog 47 #[.agg (yL t s).toArray,.agg (yL t' s').toArray] w0 (fun e w'=>∃r:Bool,e=.returned (.bool r)∧(r=Sp.same t t'∧Pure w0 w')):=by
 induction t using Sp.Tree.ind with
 | h k f t u x ks ih =>
 intro t' s s' w0 hT hT' hSw
 obtain ⟨k',f',tt',u',x',ks'⟩:=t'
 suffices key:∀K:Bool→WP,(∀r w',(r=Sp.same (.mk k f t u x ks) (.mk k' f' tt' u' x' ks')∧Pure w0 w')→K r w')→m_L1 k f t u x s k' f' tt' u' x' s' w0 K from
  w_L1 _ _ _ _ _ _ _ _ _ _ _ _ w0 _ (key _ (fun _ _ h=>h))
 intro K hK
 have hlen:s.len=ks.length:=by cases hT;assumption
 have hlen':s'.len=ks'.length:=by cases hT';assumption
 have hfit:ks.length≤9223372036854775807:=by cases hT;assumption
 unfold m_L1
 rintro y1 rfl
 refine ⟨fun h=>?_,fun h=>?_⟩
 ·intro H7 w7 hs7
  refine hK _ _ ⟨?_,hs7.first⟩
  symm
  apply Bool.eq_false_iff.2
  intro hs
  simp only [Sp.same,Bool.and_eq_true,decide_eq_true_eq] at hs
  obtain ⟨⟨⟨⟨⟨rfl,rfl⟩,rfl⟩,rfl⟩,rfl⟩,h6⟩:=hs
  have:=jCU h6
  simp [hlen,hlen',this] at h
 ·have hne : k = k' ∧ f = f' ∧ t = tt' ∧ u = u' ∧ x = x' ∧ ks.length = ks'.length := by
   simp only [Bool.or_eq_false_iff,bne_eq_false_iff_eq,Bool.not_eq_false',decide_eq_true_eq] at h;obtain ⟨⟨⟨⟨⟨h1,h2⟩,h3⟩,h4⟩,h5⟩,h6⟩:=h;exact ⟨h1,h2,h3,h4,h5,by omega⟩
  obtain ⟨rfl,rfl,rfl,rfl,rfl,hll⟩:=hne
  have hsp:Sp.same (.mk k f t u x ks) (.mk k f t u x ks')=Sp.yP ks ks':=by simp [Sp.same]
  rw [hsp] at hK
  intro H7 w7 hs7
  refine ⟨fun i H w'=>∃j:Nat,i=j∧j≤ks.length∧Pure w0 w'∧Sp.yP ks ks'=Sp.yP (ks.drop j) (ks'.drop j),fun i _=>((ks.length:Int) - i).toNat,⟨0,rfl,Nat.zero_le _,hs7.first,rfl⟩,?_⟩
  rintro _ Hl wl hl ⟨j,rfl,hj,El,heq⟩
  unfold m_L1_l1
  refine ⟨fun hc=>?_,fun hc=>?_⟩
  ·have hlt:=vS hlen hc
   have hlt':j<ks'.length:=by omega
   rw [jFN hll hlt] at heq
   have g1:∃a r,At s j 6 a∧S a.block∧(∀w',Pure w0 w'→Row w' a (yL ks[j] r))∧TreeAt S w0 r ks[j]:=by
    cases hT with
    | mk _ _ _ _ _ _ _ rs len fit row kid=>obtain ⟨a,h1,h2,h3⟩:=row j hlt;exact ⟨a,rs j,h1,h2,fun w' E=>E.row h3 id,kid j hlt⟩
   have g2:∃a r,At s' j 6 a∧S a.block∧(∀w',Pure w0 w'→Row w' a (yL ks'[j] r))∧TreeAt S w0 r ks'[j]:=by
    cases hT' with
    | mk _ _ _ _ _ _ _ rs len fit row kid=>obtain ⟨a,h1,h2,h3⟩:=row j hlt';exact ⟨a,rs j,h1,h2,fun w' E=>E.row h3 id,kid j hlt'⟩
   obtain ⟨a,r,hat,_,hr,hk⟩:=g1
   obtain ⟨a',r',hat',_,hr',hk'⟩:=g2
   refine ⟨fun w'=>Pure w0 w',El.trans (Ext.drew wl),?_⟩
   rintro _ rfl
   have Ed:=El.trans (Ext.drew wl)
   refine ⟨a,hat,_,_,_,_,_,r,fun w' h=>hr w' h,a',hat',_,_,_,_,_,r',fun w' h=>hr' w' h,?_⟩
   refine (ih j hlt ks'[j] r r' wl.drew (hk.pure Ed) (hk'.pure Ed) (fun b hb=>by have:=hSw b hb;have:=Ed.size;omega)).mono ?_
   rintro _ w13 ⟨q,rfl,rfl,E13⟩
   refine ⟨_,rfl,Ed.trans E13,E13.keptP,fun h=>?_,fun h=>?_⟩
   ·have h:Sp.same ks[j] ks'[j]=false:=by simpa using h
    exact hK _ _ ⟨by rw [heq,h];rfl,Ed.trans E13⟩
   ·have h:Sp.same ks[j] ks'[j]=true:=by simpa using h
    rw [h,Bool.true_and] at heq
    rw [zZ hlt (by omega)]
    exact ⟨⟨j+1,rfl,hlt,Ed.trans E13,heq⟩,qX hlt⟩
  ·have hge:=vT hlen hj hc
   subst hge
   rw [List.drop_length,hll,List.drop_length] at heq
   exact hK _ _ ⟨heq.symm,El⟩
end Go.Proofs
end
section
namespace Go.Sp
theorem jHS (ts:List Tree) (t:Tree):cntAll (ts++[t])=cntAll ts+cnt t:=by
 induction ts with
 | nil=>simp [cntAll]
 | cons a ts ih=>rw [List.cons_append,cntAll,cntAll,ih];omega
theorem jLE (L:Pool) (n:Node):(make L n).2.2.length≤L.length+1:=by
 rcases jFW L n with e | ⟨_,e⟩ <;> rw [e] <;> simp
theorem jLL (t:Tree):∀L,(grow L t).2.2.length≤L.length+cnt t:=by
 induction t using Tree.ind with
 | h k f t u x ks ih =>
  have:∀(ks:List Tree),(∀i (hi:i<ks.length),∀L,(grow L ks[i]).2.2.length≤L.length+cnt ks[i])→∀n i L,(vV n i L ks).2.2.length≤L.length+1+cntAll ks:=by
   intro ks;induction ks with
   | nil=>intro _ n i L;unfold vV;have:=jLE L n;simp only [cntAll];omega
   | cons t ts iht =>
    intro hh n i L
    have h0:=hh 0 (by simp) L
    simp only [List.getElem_cons_zero] at h0
    unfold vV
    simp only [cntAll]
    split
    ·simp only;omega
    ·have:=iht (fun i hi=>hh (i+1) (by simpa using hi)) (if i=0 then { n with a:=(grow L t).1 } else { n with b:=(grow L t).1 }) (i+1) (grow L t).2.2
     omega
  intro L
  have:=this ks ih ⟨k,f,t,u,x,0,0⟩ 0 L
  unfold grow
  rw [cnt];omega
theorem jOT (L:Pool) (t:Tree):(of L t).2.2.length≤L.length+cnt t:=by
 have:=jLL t L;unfold of;split
 ·simp only;omega
 ·split
  ·simp only;omega
  ·exact this
end Go.Sp
end
section
open Go Go.SE
namespace Go.Sp
def xD (ts:List Tree):Pool:=ts.foldl (fun L t=>(of L t).2.2) []
theorem jFT (ts:List Tree):Wf (xD ts)∧(xD ts).length≤cntAll ts:=by
 have:∀(ts:List Tree) L,Wf L→Wf (ts.foldl (fun L t=>(of L t).2.2) L)∧(ts.foldl (fun L t=>(of L t).2.2) L).length≤L.length+cntAll ts:=by
  intro ts;induction ts with
  | nil=>intro L h;exact ⟨h,by simp [cntAll]⟩
  | cons t ts ih =>
   intro L h
   obtain ⟨h1,h2⟩:=ih _ (of_wf h t)
   have:=jOT L t
   exact ⟨h1,by rw [List.foldl_cons,cntAll];omega⟩
 obtain ⟨h1,h2⟩:=this ts [] Wf.nil;exact ⟨h1,by unfold xD;simpa using h2⟩
end Go.Sp
namespace Go.Proofs
attribute [local irreducible] Calls
structure Pl2 (w0:World) (H:NP) (w:World) (p q:Addr) (L1 L2:Sp.Pool) (F1 F2:NP):Prop where
 pure:Pure w0 w
 pool:vE w p L1 F1
 ref:yA w q L2 F2
 o1:∀b,F1 b→w0.heap.size≤b∧¬ H b∧¬ F2 b
 o2:∀b,F2 b→w0.heap.size≤b∧¬ H b
section
variable {w0 w w':World} {H H':NP} {p q:Addr} {L1 L2:Sp.Pool} {F1 F2:NP}
theorem Pl2.pureE (h:Pl2 w0 H w p q L1 L2 F1 F2) (E:Pure w w'):Pl2 w0 H w' p q L1 L2 F1 F2:=⟨h.pure.trans E,h.pool.pure E,h.ref.pure E,h.o1,h.o2⟩
theorem Pl2.first (h:Pl2 w H w' p q L1 L2 F1 F2) (E:Pure w0 w):Pl2 w0 H w' p q L1 L2 F1 F2 :=
 ⟨E.trans h.pure,h.pool,h.ref,fun b hb=>⟨Nat.le_trans E.size (h.o1 b hb).1,(h.o1 b hb).2⟩,fun b hb=>⟨Nat.le_trans E.size (h.o2 b hb).1,(h.o2 b hb).2⟩⟩
theorem Pl2.hst (h:Pl2 w0 H w p q L1 L2 F1 F2) (hs:Hst w0 H w H' w'):Pl2 w0 H' w' p q L1 L2 F1 F2:=by
 have d:∀b,b<w.heap.size→¬ H b→¬ H' b:=fun b h1 h2=>hs.disj (G:=(·=b)) (fun c e=>by subst e;exact ⟨h1,h2⟩) b rfl;have d1:∀b,F1 b→¬ H' b:=fun b hb=>d b (h.pool.lt hb) (h.o1 b hb).2.1;have d2:∀b,F2 b→¬ H' b:=fun b hb=>d b (h.ref.lt hb) (h.o2 b hb).2;exact ⟨h.pure.hst hs,h.pool.ext hs.ext d1,h.ref.ext hs.ext d2,fun b hb=>⟨(h.o1 b hb).1,d1 b hb,(h.o1 b hb).2.2⟩,fun b hb=>⟨(h.o2 b hb).1,d2 b hb⟩⟩
theorem Pl2.of1 (h:Pl2 w0 H w p q L1 L2 F1 F2) (hH:∀b,H b→b<w.heap.size) {L:Sp.Pool} {F:NP} (hP:vE w' p L F) (hE:Ext F1 w w') (hF:∀b,F b→F1 b∨w.heap.size≤b):Pl2 w0 H w' p q L L2 F F2:=by
 refine ⟨h.pure.trans' hE (fun i hi hb=>by have:=(h.o1 i hb).1;omega),hP,h.ref.ext hE (fun b hb h1=>(h.o1 b h1).2.2 hb),fun b hb=>?_,h.o2⟩;rcases hF b hb with h1 | h1
 ·exact h.o1 b h1
 ·exact ⟨by have:=h.pure.size;omega,fun hh=>by have:=hH b hh;omega,fun hh=>by have:=h.ref.lt hh;omega⟩
theorem Pl2.of2 (h:Pl2 w0 H w p q L1 L2 F1 F2) (hH:∀b,H b→b<w.heap.size) {L:Sp.Pool} {F:NP} (hP:yA w' q L F) (hE:Ext F2 w w') (hF:∀b,F b→F2 b∨w.heap.size≤b):Pl2 w0 H w' p q L1 L F1 F:=by
 refine ⟨h.pure.trans' hE (fun i hi hb=>by have:=(h.o2 i hb).1;omega),h.pool.ext hE (fun b hb h1=>(h.o1 b hb).2.2 h1),hP,fun b hb=>⟨(h.o1 b hb).1,(h.o1 b hb).2.1,fun hh=>?_⟩,fun b hb=>?_⟩
 ·rcases hF b hh with h1 | h1
  ·exact (h.o1 b hb).2.2 h1
  ·have:=h.pool.lt hb;omega
 ·rcases hF b hb with h1 | h1
  ·exact h.o2 b h1
  ·exact ⟨by have:=h.pure.size;omega,fun hh=>by have:=hH b hh;omega⟩
end
end Go.Proofs
end
section
open Go Go.SE
namespace Go.Proofs
attribute [local irreducible] Calls
theorem jGT {S:NP} (ts:List Sp.Tree) (s:Sl) (w0:World) (hT:TreeAt S w0 s (.mk 0 0 0 0 ⟨#[]⟩ ts)) (hS:∀b,S b→b<w0.heap.size) :
  Calls Tryz.prog 23 #[s.v] w0 (fun e w'=>∃r:Bool,e=.returned (.bool r)∧((r=false→ts.length≤10∧Sp.cntAll ts≤500)∧Pure w0 w')):=by
 refine w_R1 _ w0 (fun r w'=>(r=false→ts.length≤10∧Sp.cntAll ts≤500)∧Pure w0 w') ?_
 unfold m_R1
 cases hT with
 | mk _ _ _ _ _ _ _ rs len fit row kid =>
 refine ⟨fun n i w'=>∃j:Nat,i=j∧j≤ts.length∧j≤11∧n=(Sp.cntAll (ts.take j):Nat)∧n<500∧Pure w0 w',fun _ i _=>(12 - i).toNat,⟨0,rfl,Nat.zero_le _,by omega,by simp [Sp.cntAll],by omega,Ext.refl _⟩,?_⟩
 rintro n _ wl ⟨j,rfl,hj,hj11,hn,hn4,E⟩
 unfold m_R1_l1
 refine ⟨fun h=>?_,fun h=>⟨fun hr=>?_,E⟩⟩
 ·rw [Bool.and_eq_true] at h
  have hlt:=vS len h.1
  have h10:=of_decide_eq_true h.2
  obtain ⟨a,hat,hSa,hrow⟩:=row j hlt
  have hkid:=kid j hlt
  have htk:ts.take (j+1)=ts.take j++[ts[j]]:=List.take_succ_eq_append_getElem hlt
  have hsn:=Sp.jHS (ts.take j) ts[j]
  rw [← htk] at hsn
  generalize ts[j]=x at *
  generalize rs j=sx at *
  obtain ⟨xk,xf,xt,xu,xx,xks⟩:=x
  have hrl:Row wl a (yL (.mk xk xf xt xu xx xks) sx):=E.row hrow (fun h=>h)
  refine ⟨a,hat,_,_,_,_,_,sx,hrl,?_⟩
  refine (jFC (.mk xk xf xt xu xx xks) sx 500 wl (by omega) (by omega) (hkid.pure E) (fun b hb=>by have:=hS b hb;have:=E.size;omega)).mono ?_
  rintro _ w1 ⟨r,rfl,rfl,E1⟩
  obtain ⟨p1,p2,p3⟩:=Sp.jDD (.mk xk xf xt xu xx xks) 500 (by omega)
  generalize Sp.tY 500 (.mk xk xf xt xu xx xks)=r at *
  refine ⟨r,rfl,?_⟩
  rw [IntWalk.i64_in _ (by omega),IntWalk.i64_in _ (by omega)]
  refine ⟨fun h=>⟨(fun h=>by cases h),E.trans E1⟩,fun h=>?_⟩
  have h:=of_decide_eq_false h
  have hc:=p3 (by omega)
  refine ⟨⟨j+1,by omega,hlt,by omega,?_,by omega,E.trans E1⟩,by show (12 - ((j:Int)+1)).toNat<(12 - (j:Int)).toNat;omega⟩
  rw [hsn];omega
 ·have hr:=of_decide_eq_false hr
  have hjl:j=ts.length:=by
   rw [Bool.and_eq_false_iff] at h;rcases h with h | h
   ·exact vT len hj h
   ·have:=of_decide_eq_false h;omega
  subst hjl
  rw [List.take_length] at hn
  exact ⟨by omega,by omega⟩
theorem jFE {S:NP} (ts:List Sp.Tree) (s:Sl) (w0:World) (hT:TreeAt S w0 s (.mk 0 0 0 0 ⟨#[]⟩ ts)) (hS:∀b,S b→b<w0.heap.size) (hn:ts.length≤10) :
  Calls Tryz.prog 25 #[s.v] w0 (fun e w'=>∃r1:Option Addr,∃r2:Option Addr,∃r4:Bool,e=.returned (.tuple #[.pointer r1,.pointer r2,.bool r4])∧∃p q F1 F2,r1=some p∧r2=some q∧r4=true∧Pl2 w0 None w' p q (Sp.xD ts) (Sp.xD ts) F1 F2):=by
 suffices key:∀K:Option Addr→Option Addr→Bool→WP,(∀p q F1 F2 H w',Pl2 w0 H w' p q (Sp.xD ts) (Sp.xD ts) F1 F2→K (some p) (some q) true w')→m_H1 s w0 K from
  w_H1 _ w0 _ (key _ (fun p q F1 F2 H w' h=>⟨p,q,F1,F2,rfl,rfl,rfl,h.pure,h.pool,h.ref,fun b hb=>⟨(h.o1 b hb).1,id,(h.o1 b hb).2.2⟩,fun b hb=>⟨(h.o2 b hb).1,id⟩⟩))
 intro K hK
 cases hT with
 | mk _ _ _ _ _ _ _ rs len fit row kid =>
 unfold m_H1
 refine (c_New w0).mono ?_
 rintro _ w1 ⟨_,rfl,p,rfl,E1,F1,hP1,hF1⟩
 refine ⟨_,rfl,E1.keptP,?_⟩
 refine (jHU w1).mono ?_
 rintro _ w2 ⟨_,rfl,q,F2,rfl,hP2,E2,hF2⟩
 refine ⟨_,rfl,E2.keptP,Br.f rfl ?_⟩
 have S0:Pl2 w0 None w2 p q [] [] F1 F2:=⟨E1.trans E2,hP1.pure E2,hP2,
  fun b hb=>⟨hF1 b hb,id,fun h2=>by have:=hF2 b h2;have:=hP1.lt hb;omega⟩,fun b hb=>⟨by have:=hF2 b hb;have:=E1.size;omega,id⟩⟩
 refine ⟨fun i H w'=>∃j:Nat,i=j∧j≤ts.length∧∃F1 F2,Pl2 w0 H w' p q (Sp.xD (ts.take j)) (Sp.xD (ts.take j)) F1 F2,fun i _=>((ts.length:Int) - i).toNat,⟨0,rfl,Nat.zero_le _,F1,F2,S0⟩,?_⟩
 rintro _ Hl wl hl ⟨j,rfl,hj,F1,F2,hq⟩
 unfold m_H1_l1
 refine ⟨fun h=>?_,fun h=>?_⟩
 ·have hlt:=vS len h
  have htk:ts.take (j+1)=ts.take j++[ts[j]]:=List.take_succ_eq_append_getElem hlt
  obtain ⟨hW,_⟩:=Sp.jFT (ts.take j)
  have hstep:Sp.xD (ts.take (j+1))=(Sp.of (Sp.xD (ts.take j)) ts[j]).2.2:=by rw [htk];unfold Sp.xD;rw [List.foldl_append];rfl
  generalize Sp.xD (ts.take j)=Q at *
  obtain ⟨a,hat,hSa,hrow⟩:=row j hlt
  have hkid:=kid j hlt
  generalize ts[j]=x at *
  generalize rs j=sx at *
  obtain ⟨xk,xf,xt,xu,xx,xks⟩:=x
  have hrl:Row wl a (yL (.mk xk xf xt xu xx xks) sx):=hq.pure.row hrow (fun h=>h)
  refine ⟨a,hat,_,_,_,_,_,sx,hrl,?_⟩
  refine (c_Of (S:=S) p (.mk xk xf xt xu xx xks) sx wl (hkid.pure hq.pure) hq.pool hW.ok (fun b hb hh=>by have:=(hq.o1 b hb).1;have:=hS b hh;omega) (fun b hb=>by have:=hS b hb;have:=hq.pure.size;omega)).mono ?_
  rintro _ w3 ⟨r3,r4,rfl,h34,F1',hP3,E3,hF3⟩
  have k3:Kept Hl wl w3:=E3.kept (fun b hb h1=>(hq.o1 b h1).2.1 hb)
  refine ⟨_,_,rfl,k3,?_⟩
  have hq3:=hq.of1 (fun b hb=>hl.lt b hb) hP3 E3 hF3
  have hl3:=hl.again k3
  have hr3:Row w3 a (yL (.mk xk xf xt xu xx xks) sx):=hq3.pure.row hrow (fun h=>h)
  refine ⟨a,hat,_,_,_,_,_,sx,hr3,?_⟩
  refine (jJU (S:=S) q (.mk xk xf xt xu xx xks) sx w3 (hkid.pure hq3.pure) hq3.ref hW.ok (fun b hb hh=>by have:=(hq3.o2 b hb).1;have:=hS b hh;omega) (fun b hb=>by have:=hS b hb;have:=hq3.pure.size;omega)).mono ?_
  rintro _ w4 ⟨r5,r6,rfl,h56,F2',hP4,E4,hF4⟩
  have k4:Kept Hl w3 w4:=E4.kept (fun b hb h1=>(hq3.o2 b h1).2 hb)
  refine ⟨_,_,rfl,k4,?_⟩
  have hq4:=hq3.of2 (fun b hb=>hl3.lt b hb) hP4 E4 hF4
  injection h34 with e3 e4
  injection h56 with e5 e6
  refine Br.f (by rw [e4,e6,e3,e5];simp) ?_
  intro H1 w6 hs6
  rw [zZ hlt (by omega)]
  refine ⟨⟨j+1,rfl,hlt,F1',F2',?_⟩,qX hlt⟩
  rw [hstep]
  exact hq4.hst hs6
 ·have hge:=vT len hj h
  subst hge
  rw [List.take_length] at hq
  exact hK _ _ _ _ _ _ hq
end Go.Proofs
end
section
open Go Go.SE
namespace Go.Sp
end Go.Sp
namespace Go.Proofs
attribute [local irreducible] Calls
end Go.Proofs
end
section
open Go Go.SE
namespace Go.Sp
def Dep (L:Pool) (S:List Way) (t y:Int):Prop :=
 (∃v∈S,v.t=t∧v.rule≠0∧y=v.frm)∨(t ∉ vA S∧0<y∧(y=(madeS L S t).1∨y=(madeS L S t).2.1))
inductive Dp (L:Pool) (S:List Way):Int→Int→Prop
 | refl (t:Int):Dp L S t t
 | step {t y z:Int}:Dep L S t y→Dp L S y z→Dp L S t z
theorem Dep.way {L:Pool} {S:List Way} {t y r f:Int} (hn:(vA S).Nodup) (hl:SE.look (S.map fun v=>(v.t,(v.rule,v.frm))) t=some (r,f)):Dep L S t y↔r≠0∧y=f:=by
 have hm:=jEY hl;obtain ⟨v,hv,e⟩:=List.mem_map.1 hm;simp only [Prod.mk.injEq] at e;obtain ⟨rfl,rfl,rfl⟩:=e;have hk:v.t∈vA S:=List.mem_map.2 ⟨v,hv,rfl⟩;unfold Dep;constructor
 ·rintro (⟨u,hu,e,hr,rfl⟩ | ⟨h,_⟩)
  ·have hnd:((S.map fun v=>(v.t,(v.rule,v.frm))).map Prod.fst).Nodup:=by rw [List.map_map];exact hn
   have h2:=jHO hnd (List.mem_map.2 ⟨u,hu,rfl⟩);rw [e,hl] at h2;simp only [Option.some.injEq,Prod.mk.injEq] at h2;exact ⟨by rw [h2.1];exact hr,h2.2.symm⟩
  ·exact absurd hk h
 ·rintro ⟨h1,rfl⟩;exact .inl ⟨v,hv,rfl,h1,rfl⟩
theorem Dp.all {L:Pool} {S:List Way} {M:List Step} (hc:∀s∈M,∀y,Dep L S s.t y→y∈M.map Step.t) {t x:Int} (ht:t∈M.map Step.t) (h:Dp L S t x):x∈M.map Step.t:=by
 induction h with
 | refl=>exact ht
 | step hd _ ih =>
  obtain ⟨s,hs,rfl⟩:=List.mem_map.1 ht
  exact ih (hc s hs _ hd)
end Go.Sp
namespace Go.Proofs
attribute [local irreducible] Calls
def strow (s:Sp.Step):List Value:=[.int .i64 s.rule,.int .i64 s.a,.int .i64 s.b,.int .i64 s.t]
def tru (_:Unit):Value:=.bool true
def bmap (B:List Int):List (Int×Unit):=B.map fun t=>(t,())
theorem jMJ (B:List Int) (t:Int):bmap (B++[t])=bmap B++[(t,())]:=by simp [bmap]
def PW (ma mb:Nat) (c5:Addr) (sl:Sl) (b:Nat):Prop:=b=ma∨b=mb∨b=c5.block∨sl.blk b
def says (f:FuncId) (c1 c2 c3 c4 c5:Addr):Value:=.func (.func f) #[] #[.pointer (some c1),.pointer (some c2),.pointer (some c3),.pointer (some c4),.pointer (some c5)]
structure PrfAt (w:World) (k:Addr) (c1 c2 c3 c4 c5:Addr) (ma mb:Nat) (sl:Sl) (l:List Sp.Step) (B:List Int):Prop where
 a1:w.cell? c1=some (.map (some ma))
 a2:w.cell? c2=some (.map (some mb))
 a3:w.cell? c3=some (.pointer (some k))
 a4:w.cell? c4=some (says 188 c1 c2 c3 c4 c5)
 a5:Box w c5 [sl.v] 216
 am:IMap jIT w ma (Sp.amap l)
 bm:IMap tru w mb (bmap B)
 ls:Rws w 220 4 sl (l.map strow)
 d:∀b,PW ma mb c5 sl b→b≠c1.block∧b≠c2.block∧b≠c3.block∧b≠c4.block
 n1:ma≠mb
 n2:ma≠c5.block
 n3:mb≠c5.block
 n4:¬ sl.blk ma
 n5:¬ sl.blk mb
 n6:¬ sl.blk c5.block
structure SaysAt (w:World) (k p:Addr) (c1 c2 c3 c4 c5:Addr) (ma mb:Nat) (L:Sp.Pool) (G:List Int) (S:List Sp.Way) (F FP:NP) (sl:Sl) (l:List Sp.Step) (B:List Int):Prop where
 prf:PrfAt w k c1 c2 c3 c4 c5 ma mb sl l B
 know:qK w k p G S F
 pool:vE w p L FP
 dF:∀b,F b→¬ PW ma mb c5 sl b
 dP:∀b,FP b→¬ PW ma mb c5 sl b
section
variable {w w':World} {k p c1 c2 c3 c4 c5:Addr} {ma mb:Nat} {L:Sp.Pool} {G:List Int} {S:List Sp.Way} {F FP:NP} {sl:Sl} {l:List Sp.Step} {B:List Int}
theorem PrfAt.ext {X:NP} (h:PrfAt w k c1 c2 c3 c4 c5 ma mb sl l B) (hE:Ext X w w') (h1:∀b,PW ma mb c5 sl b→¬ X b) (x1:¬ X c1.block) (x2:¬ X c2.block) (x3:¬ X c3.block) (x4:¬ X c4.block):PrfAt w' k c1 c2 c3 c4 c5 ma mb sl l B :=
 ⟨hE.cell h.a1 x1,hE.cell h.a2 x2,hE.cell h.a3 x3,hE.cell h.a4 x4,h.a5.ext hE (h1 _ (.inr (.inr (.inl rfl)))),h.am.ext hE (h1 _ (.inl rfl)),h.bm.ext hE (h1 _ (.inr (.inl rfl))),h.ls.ext hE (fun b hb=>h1 b (.inr (.inr (.inr hb)))),h.d,h.n1,h.n2,h.n3,h.n4,h.n5,h.n6⟩
theorem PrfAt.lt (h:PrfAt w k c1 c2 c3 c4 c5 ma mb sl l B) {b:Nat} (hb:PW ma mb c5 sl b):b<w.heap.size:=by
 rcases hb with rfl | rfl | rfl | hb
 ·exact h.am.lt
 ·exact h.bm.lt
 ·exact h.a5.lt
 ·exact h.ls.lt hb
theorem SaysAt.ext {X:NP} {n:Nat} (h:SaysAt w k p c1 c2 c3 c4 c5 ma mb L G S F FP sl l B) (hE:Ext X w w') (hn:∀b,X b→n≤b) (z1:∀b,PW ma mb c5 sl b→b<n∨¬ X b) (zc:c1.block<n∧c2.block<n∧c3.block<n∧c4.block<n) (zF:∀b,F b→b<n) (zP:∀b,FP b→b<n):SaysAt w' k p c1 c2 c3 c4 c5 ma mb L G S F FP sl l B:=by
 have hx:∀b,b<n→¬ X b:=fun b hb hX=>by have:=hn b hX;omega
 exact ⟨h.prf.ext hE (fun b hb=>(z1 b hb).elim (hx b) id) (hx _ zc.1) (hx _ zc.2.1) (hx _ zc.2.2.1) (hx _ zc.2.2.2),h.know.ext hE (fun b hb=>hx b (zF b hb)),h.pool.ext hE (fun b hb=>hx b (zP b hb)),h.dF,h.dP⟩
theorem SaysAt.pure (h:SaysAt w k p c1 c2 c3 c4 c5 ma mb L G S F FP sl l B) (E:Pure w w'):SaysAt w' k p c1 c2 c3 c4 c5 ma mb L G S F FP sl l B :=
 ⟨h.prf.ext E (fun _ _ h=>h) (fun h=>h) (fun h=>h) (fun h=>h) (fun h=>h),h.know.pure E,h.pool.pure E,h.dF,h.dP⟩
theorem SaysAt.zc (h:SaysAt w k p c1 c2 c3 c4 c5 ma mb L G S F FP sl l B):c1.block<w.heap.size∧c2.block<w.heap.size∧c3.block<w.heap.size∧c4.block<w.heap.size :=
 ⟨World.block_lt_of_cell? w _ h.prf.a1,World.block_lt_of_cell? w _ h.prf.a2,World.block_lt_of_cell? w _ h.prf.a3,World.block_lt_of_cell? w _ h.prf.a4⟩
theorem PrfAt.bar (h:PrfAt w k c1 c2 c3 c4 c5 ma mb sl l B) (t:Int):∃w',(Instr.mapUpdate 278 (.map (some mb)) (.int .i64 t) (.bool true)).run Tryz.prog w=.ok () w'∧(∃B',(B'=B∨B'=B++[t])∧PrfAt w' k c1 c2 c3 c4 c5 ma mb sl l B')∧Ext (·=mb) w w':=by
 have hd:=h.d mb (.inr (.inl rfl));have back:∀{w':World} {B':List Int},IMap tru w' mb (bmap B')→Ext (·=mb) w w'→PrfAt w' k c1 c2 c3 c4 c5 ma mb sl l B':=fun hI hE =>
  ⟨hE.cell h.a1 (fun e=>hd.1 e.symm),hE.cell h.a2 (fun e=>hd.2.1 e.symm),hE.cell h.a3 (fun e=>hd.2.2.1 e.symm),hE.cell h.a4 (fun e=>hd.2.2.2 e.symm),h.a5.ext hE (fun e=>h.n3 e.symm),h.am.ext hE h.n1,hI,h.ls.ext hE (fun b hb e=>h.n5 (e▸hb)),h.d,h.n1,h.n2,h.n3,h.n4,h.n5,h.n6⟩
 cases hl:SE.look (bmap B) t with
 | none =>
  obtain ⟨w',h1,h2,h3⟩:=h.bm.put (P:=Tryz.prog) (T:=278) Tryz.underlying278 Tryz.underlying78 hl ()
  exact ⟨w',h1,⟨_,.inr rfl,back (by rw [jMJ];exact h2) h3⟩,h3⟩
 | some v =>
  cases v
  obtain ⟨w',h1,h2,h3⟩:=h.bm.again (P:=Tryz.prog) (T:=278) Tryz.underlying278 Tryz.underlying78 hl
  exact ⟨w',h1,⟨_,.inl rfl,back h2 h3⟩,h3⟩
end
structure SaysRet (w0:World) (k p:Addr) (c1 c2 c3 c4 c5:Addr) (ma mb:Nat) (L:Sp.Pool) (G:List Int) (S:List Sp.Way) (F FP:NP) (sl:Sl) (l:List Sp.Step) (t r:Int) (ok:Bool) (w':World) (sl':Sl) (M:List Sp.Step) (B':List Int):Prop where
 st:SaysAt w' k p c1 c2 c3 c4 c5 ma mb L G S F FP sl' (l++M) B'
 prf:Sp.PrfOk L G (fun x=>x∈Sp.vA S) (l++M) B'
 new:∀s∈M,Sp.jOA S s.t≤Sp.jOA S t∧(Sp.Sub L t s.t∨s.t∈Sp.vA S)
 idx:ok=true→∃i,r=((i:Nat):Int)∧∃hi:i<(l++M).length,(l++M)[i].t=t
 drv:ok=true↔Sp.Drv L (fun x=>x∈Sp.vA S) t
 ext:Ext (PW ma mb c5 sl) w0 w'
 own:∀b,sl'.blk b→sl.blk b∨w0.heap.size≤b
 last:ok=true→M=[]∨Sp.tAt (l++M) (((l++M).length:Int) - 1)=t
 dp:∀s∈M,Sp.Dp L S t s.t
 cl:∀s∈M,∀y,Sp.Dep L S s.t y→y∈(l++M).map Sp.Step.t
structure SaysCur (w0:World) (H:NP) (w:World) (k p:Addr) (c1 c2 c3 c4 c5:Addr) (ma mb:Nat) (L:Sp.Pool) (G:List Int) (S:List Sp.Way) (F FP:NP) (sl:Sl) (l:List Sp.Step) (t:Int) (sl1:Sl) (M B:_):Prop where
 st:SaysAt w k p c1 c2 c3 c4 c5 ma mb L G S F FP sl1 (l++M) B
 prf:Sp.PrfOk L G (fun x=>x∈Sp.vA S) (l++M) B
 new:∀s∈M,Sp.jOA S s.t<Sp.jOA S t∧(Sp.Sub L t s.t∨s.t∈Sp.vA S)
 ext:Ext (PW ma mb c5 sl) w0 w
 own:∀b,sl1.blk b→sl.blk b∨w0.heap.size≤b
 vis:∀b,sl1.blk b→¬ H b
 hs:Hst w0 H w H w
 dp:∀s∈M,Sp.Dp L S t s.t
 cl:∀s∈M,∀y,Sp.Dep L S s.t y→y∈(l++M).map Sp.Step.t
section
variable {w0 w w':World} {H H':NP} {k p c1 c2 c3 c4 c5:Addr} {ma mb:Nat} {L:Sp.Pool} {G:List Int} {S:List Sp.Way} {F FP:NP} {sl sl1 sl2:Sl} {l M M2:List Sp.Step} {B0 B B2:List Int} {t:Int}
theorem PW.old (h:SaysAt w0 k p c1 c2 c3 c4 c5 ma mb L G S F FP sl l B0) (ho:∀b,sl1.blk b→sl.blk b∨w0.heap.size≤b):∀b,PW ma mb c5 sl1 b→b<w0.heap.size→PW ma mb c5 sl b:=by
 rintro b (hb | hb | hb | hb) hlt
 ·exact .inl hb
 ·exact .inr (.inl hb)
 ·exact .inr (.inr (.inl hb))
 ·exact (ho b hb).elim (fun h=>.inr (.inr (.inr h))) (fun h=>by omega)
theorem SaysCur.nh (h:SaysCur w0 H w k p c1 c2 c3 c4 c5 ma mb L G S F FP sl l t sl1 M B) (h0:SaysAt w0 k p c1 c2 c3 c4 c5 ma mb L G S F FP sl l B0):∀b,PW ma mb c5 sl1 b→¬ H b:=by
 have old:∀b,b<w0.heap.size→¬ H b:=fun b hb hh=>by have:=h.hs.old b hh;omega
 rintro b (rfl | rfl | rfl | hb)
 ·exact old _ (h0.prf.lt (.inl rfl))
 ·exact old _ (h0.prf.lt (.inr (.inl rfl)))
 ·exact old _ (h0.prf.lt (.inr (.inr (.inl rfl))))
 ·exact h.vis b hb
theorem SaysCur.hst (h:SaysCur w0 H w k p c1 c2 c3 c4 c5 ma mb L G S F FP sl l t sl1 M B) (h0:SaysAt w0 k p c1 c2 c3 c4 c5 ma mb L G S F FP sl l B0) (hs:Hst w0 H w H' w'):SaysCur w0 H' w' k p c1 c2 c3 c4 c5 ma mb L G S F FP sl l t sl1 M B:=by
 have dj:=hs.disj (G:=PW ma mb c5 sl1) (fun b hb=>⟨h.st.prf.lt hb,h.nh h0 b hb⟩);exact ⟨h.st.ext hs.ext hs.old (fun b hb=>.inr (dj b hb)) h0.zc (fun b hb=>h0.know.lt hb) (fun b hb=>h0.pool.lt hb),h.prf,h.new,h.ext.hst hs,h.own,fun b hb=>dj b (.inr (.inr (.inr hb))),hs.here,h.dp,h.cl⟩
theorem SaysCur.step {u r:Int} {ok:Bool} (h:SaysCur w0 H w k p c1 c2 c3 c4 c5 ma mb L G S F FP sl l t sl1 M B) (h0:SaysAt w0 k p c1 c2 c3 c4 c5 ma mb L G S F FP sl l B0) (hr:SaysRet w k p c1 c2 c3 c4 c5 ma mb L G S F FP sl1 (l++M) u r ok w' sl2 M2 B2) (hu:Sp.jOA S u<Sp.jOA S t) (hsub:Sp.Sub L t u∨u∈Sp.vA S) (hcl:∀x,u∈Sp.vA S→Sp.jOA S x≤Sp.jOA S u→x∈Sp.vA S) (hdep:Sp.Dep L S t u) :
  Kept H w w'∧SaysCur w0 H w' k p c1 c2 c3 c4 c5 ma mb L G S F FP sl l t sl2 (M++M2) B2:=by
 have hk:Kept H w w':=hr.ext.kept (fun b hb hx=>h.nh h0 b hx hb)
 refine ⟨hk,by rw [← List.append_assoc];exact hr.st,by rw [← List.append_assoc];exact hr.prf,fun s hs=>?_,h.ext.trans' hr.ext (fun i hi hb=>PW.old h0 h.own i hb hi),fun b hb=>?_,fun b hb hh=>?_,h.hs.again hk,fun s hs=>?_,fun s hs y hy=>?_⟩
 ·rcases List.mem_append.1 hs with hs | hs
  ·exact h.new s hs
  ·obtain ⟨q1,q2⟩:=hr.new s hs
   refine ⟨by omega,?_⟩
   rcases q2 with q2 | q2
   ·rcases hsub with h1 | h1
    ·exact .inl (h1.trans q2)
    ·exact .inr (hcl _ h1 q1)
   ·exact .inr q2
 ·rcases hr.own b hb with h1 | h1
  ·exact h.own b h1
  ·right;have:=h.ext.size;omega
 ·rcases hr.own b hb with h1 | h1
  ·exact h.vis b h1 hh
  ·have:=h.hs.lt b hh;omega
 ·rcases List.mem_append.1 hs with hs | hs
  ·exact h.dp s hs
  ·exact .step hdep (hr.dp s hs)
 ·rw [← List.append_assoc]
  rcases List.mem_append.1 hs with hs | hs
  ·rw [List.map_append];exact List.mem_append_left _ (h.cl s hs y hy)
  ·exact hr.cl s hs y hy
end
end Go.Proofs
end
section
open Go Go.SE
namespace Go.Proofs
attribute [local irreducible] Calls
end Go.Proofs
end
section
open Go Go.SE
open Go.IntKind renaming i64 → q6
namespace Go.Proofs
set_option maxRecDepth 100000
set_option maxHeartbeats 4000000
attribute [local irreducible] wpL wpX opE wpE Calls
def m_U1_l1 (l1:Sl) (t1 i1:Int) (wl1:World) (Kc1:Int→WP) (K:Bool→WP):Prop :=Br (decide (i1<(l1.len:Int))) (∃a1:Addr,At l1 i1 1 a1∧∃v1,wl1.cell? a1=some (vi v1)∧Br (v1 == t1) (K true wl1) (Kc1 (q6.wrap (i1+1)) wl1)) (K false wl1)
def m_U1 (l1:Sl) (t1:Int) (w0:World) (K:Bool→WP):Prop :=∃(I1:Int→WP) (mu1:Int→World→Nat),I1 0 w0∧∀(i1:Int) (wl1:World),I1 i1 wl1→m_U1_l1 l1 t1 i1 wl1 (fun y'0 w'=>I1 y'0 w'∧mu1 y'0 w'<mu1 i1 wl1) K
theorem w_U1 (l1 t1 w0 K) (h:m_U1 l1 t1 w0 K):
  Calls Tryz.prog 88 #[l1.v,(vi t1)] w0 (fun e w'=>∃r1,e=.returned (vb r1)∧K r1 w'):=by
 refine cw (args:=[l1.v,(vi t1)]) Tryz.func88 Tryz.ntmps88 (eg (q0 (vb false) (ln (zA (eg (q0 (vi 0) (ln ?_)))))))
 refine zJ ?_
 obtain ⟨I1,mu1,h0,hr⟩:=h
 refine vH (σ:=Int×World) (fun s ρ w=>w=s.2∧Has ρ [(0,l1.v),(1,(vi t1)),(5,(vi s.1))]∧I1 s.1 s.2) (fun s=>mu1 s.1 s.2) (0,w0) ⟨rfl,hm,h0⟩ ?_
 rintro ⟨i1,wl1⟩ ρ w ⟨hw,hH,hI⟩
 dsimp only at hw hH;subst w
 have h:=hr i1 wl1 hI
 refine zU hH (zA (eg (qd (ln (cbr h ?_ ?_)))))<;>intro h
 refine zB (zO (zA (zJ (eg (qb (qi (Tryz.runUnderlying46 _) (Tryz.sizeOf78 _) h fun a1 h=>ql (Tryz.isAgg78 _) h fun v1 h=>qb (ln (cbr h ?_ ?_))))))))<;>intro h
 refine eg (q (ln (er (qN (zY (zY (qN (zY (rs1 Tryz.results88 ⟨true,rfl,h⟩)))))))))
 refine zB (yQ (zO (rg (qc (ln ⟨((q6.wrap (i1+1)),wl1),⟨rfl,hm,h.1⟩,h.2⟩)))))
 refine vF (yM (yM (yK (zO (eg (q0 (vb false) (ln (er (rs1 Tryz.results88 ⟨false,rfl,h⟩)))))))))
def m_I4 (k1:Option Addr) (t1:Int) (w0:World) (K:Int→WP):Prop :=∃a1,k1=some a1∧∃v1,w0.cell? a1=some (vp v1)∧Calls Tryz.prog 87 #[(vp v1),(vi t1)] w0 (fun e w1=>∃r1,e=.returned (vb r1)∧Br (!r1) (K 51 w1) (∃a2,k1=some a2∧∃v2:Sl,w1.cell? (a2.add 1)=some v2.v∧Calls Tryz.prog 88 #[v2.v,(vi t1)] w1 (fun e w2=>∃r2,e=.returned (vb r2)∧Br (!r2) (∃a3,k1=some a3∧∃v3:Sl,w2.cell? (a3.add 1)=some v3.v∧∀p1 w3,New w2 (.cells #[(vi t1)] 78) p1 w3→∃s1:Sl,∃w4:World,(Builtin.append_ #[46,46] 46 #[v3.v,(Sl.mk (some p1) 1 1).v]).run Tryz.prog w3=.ok s1.v w4∧∃a4,k1=some a4∧vG w4 (a4.add 1)∧∀w5,w5=w4.setCell (a4.add 1) s1.v→K 0 w5) (K 0 w2))))
theorem w_I4 (k1 t1 w0 K) (h:m_I4 k1 t1 w0 K):
  Calls Tryz.prog 29 #[(vp k1),(vi t1)] w0 (fun e w'=>∃r3,e=.returned (vi r3)∧K r3 w'):=by
 refine cw (args:=[(vp k1),(vi t1)]) Tryz.func29 Tryz.ntmps29 (eg (q0 (vi 0) (ln (zA (eg (q0 (vp k1) ?_))))))
 obtain ⟨a1,hp1,h⟩:=h
 refine q2 (vp (some a1)) (zG (p:=k1) (by kernel_rfl) hp1) (q (ql (Tryz.isAgg45 _) h fun v1 h=>q (sc Tryz.call87 (h.mono fun e w1 ⟨r1,k,h⟩=>⟨_,k,?_⟩))))
 refine q (ln (cbr h ?_ ?_))<;>intro h
 refine eg (q (ln (er (zY (rs1 Tryz.results29 ⟨51,rfl,h⟩)))))
 refine zB (zO (zA (eg (q ?_))))
 obtain ⟨a2,hp2,h⟩:=h
 refine q2 (vp (some a2)) (zG (p:=k1) (by kernel_rfl) hp2) (q (ql (Tryz.isAgg46 _) h fun v2 h=>q (sc Tryz.call88 (h.mono fun e w2 ⟨r2,k,h⟩=>⟨_,k,?_⟩))))
 refine q (ln (cbr h ?_ ?_))<;>intro h
 refine rg (qb ?_)
 obtain ⟨a3,hp3,h⟩:=h
 refine q2 (vp (some a3)) (zG (p:=k1) (by kernel_rfl) hp3) (q (ql (Tryz.isAgg46 _) h fun v3 h=>q (tH (O:=(.cells #[(vi t1)] 78)) (fun p=>(Sl.mk (some p) 1 1).v) (zD rfl) (vR (vs:=#[(0,(vi t1))]) (by kernel_rfl) (by kernel_rfl)) ?_)))
 intro p1 w3 hn2
 have h:=h p1 w3 hn2
 obtain ⟨s1,w4,hv1,h⟩:=h
 refine st (v:=s1.v) (zD rfl) (vP (args:=#[v3.v,(Sl.mk (some p1) 1 1).v]) (by kernel_rfl) (fun _=>rfl) hv1) ?_
 obtain ⟨a4,hp4,h⟩:=h
 refine q2 (vp (some a4)) (zG (p:=k1) (by kernel_rfl) hp4) (q ?_)
 obtain ⟨hp5,h⟩:=h
 refine zK (zD rfl) (vL (a:=(a4.add 1)) (v:=s1.v) (by kernel_rfl) (by kernel_rfl) rfl (Tryz.sizeOf46 _) hp5) ?_
 intro w5 hn1
 have h:=h w5 hn1
 refine ln (eg (q (ln (er (rs1 Tryz.results29 ⟨0,rfl,h⟩)))))
 refine zB (zO (eg (q (ln (er (rs1 Tryz.results29 ⟨0,rfl,h⟩))))))
def s_A1 (kind1:Int):Bool :=(((kind1 == 7) || (kind1 == 8)) || (kind1 == 9))
theorem pw_A1 (kind1:Int) (w0:World) :
  Calls Tryz.prog 159 #[(vi kind1)] w0 (fun e w'=>(e=.returned (vb (((kind1 == 7) || (kind1 == 8)) || (kind1 == 9))))∧Pure w0 w'):=by
 refine cw (args:=[(vi kind1)]) Tryz.func159 Tryz.ntmps159 (eg (q0 (vb false) (ln (zA ?_))))
 refine vQ (fun ρ wJ=>w0=wJ∧Has ρ [(2,(vb (((kind1 == 7) || (kind1 == 8)) || (kind1 == 9))))]) ?_ ?_
 refine rg (qc (zN 3 (fun ρ wJ=>∃b4'0:Bool,((kind1 == 7)=b4'0)∧w0=wJ∧Has ρ [(0,(vi kind1)),(8,(vb (b4'0 || (kind1 == 8))))]) ?_ ?_))
 rintro ρ w4 ⟨b4'0,he0,hw,hH⟩
 subst he0
 subst hw
 refine zQ hH (q (zN 3 (fun ρ wJ=>∃b5'0:Bool,(((kind1 == 7) || (kind1 == 8))=b5'0)∧w0=wJ∧Has ρ [(12,(vb (b5'0 || (kind1 == 9))))]) ?_ ?_))
 rintro ρ w5 ⟨b5'0,he0,hw,hH⟩
 subst he0
 subst hw
 refine zQ hH (q (ln ⟨rfl,hm⟩))
 rcases Bool.eq_false_or_eq_true ((kind1 == 7) || (kind1 == 8)) with hg8 | hg8
 refine sj2 9 hg8 (q2 (vb true) (xT hg8) (zC ⟨true,hg8,rfl,hm⟩))
 refine qk 9 hg8 (qk 9 hg8 (q2 (vb (kind1 == 9)) (xF hg8) (zC ⟨false,hg8,rfl,hm⟩)))
 rcases Bool.eq_false_or_eq_true (kind1 == 7) with hg6 | hg6
 refine sj2 5 hg6 (q2 (vb true) (xT hg6) (zC ⟨true,hg6,rfl,hm⟩))
 refine qk 5 hg6 (qk 5 hg6 (q2 (vb (kind1 == 8)) (xF hg6) (zC ⟨false,hg6,rfl,hm⟩)))
 rintro ρ w3 ⟨hw,hH⟩
 subst hw
 refine vI hH (zO (er (rs1 Tryz.results159 (v:=(vb (((kind1 == 7) || (kind1 == 8)) || (kind1 == 9)))) ⟨by kernel_rfl,Ext.refl _⟩)))
theorem p_A1 (kind1:Int) (w0:World):Calls Tryz.prog 159 #[(.int .i64 kind1)] w0 (fun e w'=>e=.returned (.bool (s_A1 kind1))∧Pure w0 w'):=pw_A1 kind1 w0
def m_P_j3 (s1:Sl) (t1 aA:Int) (aB aC:Int) (x1:Bool) (H:NP) (w:World) (Kc2:Int→NP→WP) (_K:Sl→WP):Prop :=Br x1 (∃a10:Addr,At s1 aB 1 a10∧vG w a10∧¬ H a10.block∧∀w6,w6=w.setCell a10 (vb true)→Br (aA == 4) (∃a11:Addr,At s1 aC 1 a11∧vG w6 a11∧¬ H a11.block∧∀w7,w7=w6.setCell a11 (vb true)→Kc2 (q6.wrap (t1 - 1)) H w7) (Kc2 (q6.wrap (t1 - 1)) H w6)) (Kc2 (q6.wrap (t1 - 1)) H w)
def m_P_l2 (k1:Option Addr) (s1:Sl) (t1:Int) (w0:World) (Hl2:NP) (wl2:World) (Kc2:Int→NP→WP) (K:Sl→WP):Prop :=Br (decide (t1≥1)) (∃a9,k1=some a9∧∃v8,wl2.cell? a9=some (vp v8)∧Calls Tryz.prog 104 #[(vp v8),(vi t1)] wl2 (fun e w3=>∃aA aD aE aF aG aB aC r1,e=.returned (.tuple #[(Ae aA aD aE aF aG aB aC),(vb r1)])∧Kept Hl2 wl2 w3∧∃a12:Addr,At s1 t1 1 a12∧∀H1 w5,Hst w0 Hl2 w3 H1 w5→∃v9,w5.cell? a12=some (vb v9)∧∀H3 w11,Hst w0 H1 w5 H3 w11→m_P_j3 s1 t1 aA aB aC (v9 && ((aA == 4) || (s_A1 aA))) H3 w11 Kc2 K)) (K s1 wl2)
def m_P_l1 (k1:Option Addr) (s1:Sl) (i1:Int) (w0:World) (Hl1:NP) (wl1:World) (Kc1:Int→NP→WP) (K:Sl→WP):Prop :=∃a3,k1=some a3∧∃v3:Sl,wl1.cell? (a3.add 1)=some v3.v∧Br (decide (i1<(v3.len:Int))) (∃a4,k1=some a4∧∃v4:Sl,wl1.cell? (a4.add 1)=some v4.v∧∃a5:Addr,At v4 i1 1 a5∧∃v5,wl1.cell? a5=some (vi v5)∧∃a6:Addr,At s1 v5 1 a6∧vG wl1 a6∧¬ Hl1 a6.block∧∀w2,w2=wl1.setCell a6 (vb true)→Kc1 (q6.wrap (i1+1)) Hl1 w2) (∃a7,k1=some a7∧∃v6,wl1.cell? a7=some (vp v6)∧∃a8,v6=some a8∧∃v7:Sl,wl1.cell? a8=some v7.v∧∃(I2:Int→NP→WP) (mu2:Int→World→Nat),I2 (v7.len:Int) Hl1 wl1∧∀(t1:Int) (Hl2:NP) (wl2:World),Hst w0 Hl2 wl2 Hl2 wl2→I2 t1 Hl2 wl2→m_P_l2 k1 s1 t1 w0 Hl2 wl2 (fun y'0 H' w'=>I2 y'0 H' w'∧mu2 y'0 w'<mu2 t1 wl2) K)
def m_P (k1:Option Addr) (w0:World) (K:Sl→WP):Prop :=∃a1,k1=some a1∧∃v1,w0.cell? a1=some (vp v1)∧∃a2,v1=some a2∧∃v2:Sl,w0.cell? a2=some v2.v∧∃s1:Sl,∃w1:World,(Instr.makeSlice 157 (vi (q6.wrap ((v2.len:Int)+1))) (vi (q6.wrap ((v2.len:Int)+1)))).run Tryz.prog w0=.ok s1.v w1∧Kept None w0 w1∧∃(I1:Int→NP→WP) (mu1:Int→World→Nat),I1 0 None w1∧∀(i1:Int) (Hl1:NP) (wl1:World),Hst w0 Hl1 wl1 Hl1 wl1→I1 i1 Hl1 wl1→m_P_l1 k1 s1 i1 w0 Hl1 wl1 (fun y'0 H' w'=>I1 y'0 H' w'∧mu1 y'0 w'<mu1 i1 wl1) K
theorem w_P (k1 w0 K) (h:m_P k1 w0 K):
  Calls Tryz.prog 89 #[(vp k1)] w0 (fun e w'=>∃r2:Sl,e=.returned r2.v∧K r2 w'):=by
 refine cw (args:=[(vp k1)]) Tryz.func89 Tryz.ntmps89 ?_
 obtain ⟨hs,hb⟩:=st0 w0
 refine eg (q (ln (eg (q ?_))))
 obtain ⟨a1,hp1,h⟩:=h
 refine q2 (vp (some a1)) (zG (p:=k1) (by kernel_rfl) hp1) (q (ql (Tryz.isAgg45 _) h fun v1 h=>?_))
 obtain ⟨a2,hp2,h⟩:=h
 refine q2 (vp (some a2)) (zG (p:=v1) (by kernel_rfl) hp2) (q (ql (Tryz.isAgg41 _) h fun v2 h=>qb ?_))
 obtain ⟨s1,w1,hv13,hk,h⟩:=h
 refine st (v:=s1.v) (zD rfl) (jHC (by kernel_rfl) (by kernel_rfl) hv13) ?_
 obtain ⟨hs,hb⟩:=hk.hh hs hb
 refine q (ln (zA (eg (q (ln (zJ ?_))))))
 obtain ⟨I1,mu1,h0,hr⟩:=h
 refine vH (σ:=Int×NP×World) (fun s ρ w=>w=s.2.2∧Has ρ [(0,(vp k1)),(3,s1.v),(4,(vi s.1))]∧Hst w0 s.2.1 w s.2.1 w∧HB s.2.1 w []∧I1 s.1 s.2.1 s.2.2) (fun s=>mu1 s.1 s.2.2) (0,None,w1) ⟨rfl,hm,hs,hb,h0⟩ ?_
 rintro ⟨i1,Hl1,wl1⟩ ρ w ⟨hw,hH,hs,hb,hI⟩
 dsimp only at hw hH hs hb;subst w
 have h:=hr i1 Hl1 wl1 hs hI
 refine zU hH (zA (eg (qb ?_)))
 obtain ⟨a3,hp3,h⟩:=h
 refine q2 (vp (some a3)) (zG (p:=k1) (by kernel_rfl) hp3) (q (ql (Tryz.isAgg46 _) h fun v3 h=>qb (ln (cbr h ?_ ?_))))<;>intro h
 refine zB (zO (zA (zJ (rg (qb ?_)))))
 obtain ⟨a4,hp4,h⟩:=h
 refine q2 (vp (some a4)) (zG (p:=k1) (by kernel_rfl) hp4) (q (ql (Tryz.isAgg46 _) h fun v4 h=>q (qi (Tryz.runUnderlying46 _) (Tryz.sizeOf78 _) h fun a5 h=>ql (Tryz.isAgg78 _) h fun v5 h=>qi (Tryz.runUnderlying157 _) (Tryz.sizeOf4 _) h fun a6 h=>?_)))
 obtain ⟨hp5,hnh,h⟩:=h
 refine zK (zD rfl) (vL (a:=a6) (v:=(vb true)) (by kernel_rfl) (by kernel_rfl) rfl (Tryz.sizeOf4 _) hp5) ?_
 intro w2 hn1
 have h:=h w2 hn1
 have hk:=Kept.sc hnh hn1
 obtain ⟨hs,hb⟩:=hk.hh hs hb
 refine zC (yQ (zO (rg (qc (ln ⟨((q6.wrap (i1+1)),Hl1,w2),⟨rfl,hm,hs,hb,h.1⟩,h.2⟩)))))
 refine vF (yM (yM (yK (zO (zA (eg (q0 (vp k1) ?_)))))))
 obtain ⟨a7,hp6,h⟩:=h
 refine q2 (vp (some a7)) (zG (p:=k1) (by kernel_rfl) hp6) (q (ql (Tryz.isAgg45 _) h fun v6 h=>?_))
 obtain ⟨a8,hp7,h⟩:=h
 refine q2 (vp (some a8)) (zG (p:=v6) (by kernel_rfl) hp7) (q (ql (Tryz.isAgg41 _) h fun v7 h=>qb (ln (zJ ?_))))
 obtain ⟨I2,mu2,h0,hr⟩:=h
 refine vH (σ:=Int×NP×World) (fun s ρ w=>w=s.2.2∧Has ρ [(0,(vp k1)),(3,s1.v),(5,(vi s.1))]∧Hst w0 s.2.1 w s.2.1 w∧HB s.2.1 w []∧I2 s.1 s.2.1 s.2.2) (fun s=>mu2 s.1 s.2.2) ((v7.len:Int),Hl1,wl1) ⟨rfl,hm,hs,hb,h0⟩ ?_
 rintro ⟨t1,Hl2,wl2⟩ ρ w ⟨hw,hH,hs,hb,hI⟩
 dsimp only at hw hH hs hb;subst w
 have h:=hr t1 Hl2 wl2 hs hI
 refine zU hH (zA (eg (qb (ln (cbr h ?_ ?_)))))<;>intro h
 refine zB (zO (zA (zJ (eg (q ?_)))))
 obtain ⟨a9,hp8,h⟩:=h
 refine q2 (vp (some a9)) (zG (p:=k1) (by kernel_rfl) hp8) (q (ql (Tryz.isAgg45 _) h fun v8 h=>q (sc Tryz.call104 (h.mono fun e w3 ⟨aA,aD,aE,aF,aG,aB,aC,r1,k,hk,h⟩=>have ⟨hs,hb⟩:=hk.hh hs hb;⟨_,k,?_⟩))))
 refine qc (nw3 (Ad 0 0 0 0 (⟨#[]⟩) 0 0) 176 hs hb (zM (Tryz.zeroValue176 _) rfl) fun p1 w4 H1 hs hb=>zK (zD rfl) (xo p1 (Ad aA aD aE aF aG aB aC) (Tryz.sizeOf176 _) (hb.k0 0 7 gZ)) ?_)
 intro w5 hn3
 obtain ⟨hs,hb⟩:=hb.st1 0 hs hn3 gZ
 refine q (ln (zA (qQ (fun ρ w=>∃x1,∃H:NP,Has ρ [(0,(vp k1)),(3,s1.v),(5,(vi t1)),(6,(vp (some p1))),(70,(vb x1))]∧Hst w0 H w H w∧HB H w [(p1,(Ad aA aD aE aF aG aB aC),176)]∧m_P_j3 s1 t1 aA aB aC x1 H w (fun y'0 H' w'=>I2 y'0 H' w'∧mu2 y'0 w'<mu2 t1 wl2) K) ?_ ?_)))
 rintro ρ w ⟨x1,H,hH,hs,hb,h⟩
 refine zU hH (cbr h ?_ ?_)<;>intro h
 refine eg (qb (q3 (xl (Tryz.isAgg78 _) (hb.d 0 5 gZ)) (qi (Tryz.runUnderlying157 _) (Tryz.sizeOf4 _) h fun a10 h=>?_)))
 obtain ⟨hp9,hnh,h⟩:=h
 refine zK (zD rfl) (vL (a:=a10) (v:=(vb true)) (by kernel_rfl) (by kernel_rfl) rfl (Tryz.sizeOf4 _) hp9) ?_
 intro w6 hn4
 have h:=h w6 hn4
 have hk:=Kept.sc hnh hn4
 obtain ⟨hs,hb⟩:=hk.hh hs hb
 refine ln (eg (q (q3 (xl (Tryz.isAgg3 _) (hb.d0 0 gZ)) (q (ln (cbr h ?_ ?_))))))<;>intro h
 refine rg (qb (q3 (xl (Tryz.isAgg78 _) (hb.d 0 6 gZ)) (qi (Tryz.runUnderlying157 _) (Tryz.sizeOf4 _) h fun a11 h=>?_)))
 obtain ⟨hp10,hnh,h⟩:=h
 refine zK (zD rfl) (vL (a:=a11) (v:=(vb true)) (by kernel_rfl) (by kernel_rfl) rfl (Tryz.sizeOf4 _) hp10) ?_
 intro w7 hn5
 have h:=h w7 hn5
 have hk:=Kept.sc hnh hn5
 obtain ⟨hs,hb⟩:=hk.hh hs hb
 refine zC (yQ (zO (rg (qc (ln ⟨((q6.wrap (t1 - 1)),H,w7),⟨rfl,hm,hs,hb.drop 1,h.1⟩,h.2⟩)))))
 refine zB (yQ (zO (rg (qc (ln ⟨((q6.wrap (t1 - 1)),H,w6),⟨rfl,hm,hs,hb.drop 1,h.1⟩,h.2⟩)))))
 refine zB (yQ (zO (rg (qc (ln ⟨((q6.wrap (t1 - 1)),H,w),⟨rfl,hm,hs,hb.drop 1,h.1⟩,h.2⟩)))))
 refine rg (qb (qi (Tryz.runUnderlying157 _) (Tryz.sizeOf4 _) h fun a12 h=>?_))
 have ⟨h,hs⟩:=hs.hr (h H1 w5)
 refine ql (Tryz.isAgg4 _) h fun v9 h=>q (zN 9 (fun ρ wJ=>∃b2'0:Bool,∃HJ:NP,(v9=b2'0)∧Hst w0 H1 w5 HJ wJ∧HB HJ wJ [(p1,(Ad aA aD aE aF aG aB aC),176)]∧Has ρ [(0,(vp k1)),(3,s1.v),(5,(vi t1)),(6,(vp (some p1))),(70,(vb (b2'0 && ((aA == 4) || (s_A1 aA)))))]) ?_ ?_)
 rintro ρ w11 ⟨b2'0,H3,he0,hs,hb,hH⟩
 subst he0
 refine zQ hH (zC ?_)
 have ⟨h,hs⟩:=hs.hr (h H3 w11)
 refine zO ⟨(v9 && ((aA == 4) || (s_A1 aA))),H3,hm,hs,hb,h⟩
 rcases Bool.eq_false_or_eq_true v9 with hg4 | hg4
 refine qk 61 hg4 (q4 61 hg4 (xl (Tryz.isAgg3 _) (hb.d0 0 gZ)) (qk 61 hg4 (qk 61 hg4 (zN 4 (fun ρ wJ=>∃b3'0:Bool,∃HJ:NP,((aA == 4)=b3'0)∧Hst w0 H1 w5 HJ wJ∧HB HJ wJ [(p1,(Ad aA aD aE aF aG aB aC),176)]∧Has ρ [(0,(vp k1)),(3,s1.v),(5,(vi t1)),(6,(vp (some p1))),(61,(vb v9)),(69,(vb (b3'0 || (s_A1 aA))))]) ?_ ?_))))
 rintro ρ w13 ⟨b3'0,H4,he0,hs,hb,hH⟩
 subst he0
 refine zQ hH (q2 (vb ((aA == 4) || (s_A1 aA))) (xT hg4) (zC ⟨true,_,hg4,hs,hb,hm⟩))
 rcases Bool.eq_false_or_eq_true (aA == 4) with hg6 | hg6
 refine sj3 65 hg6 (stq (v:=(vb true)) (wy 61 hg4) (xT hg6) (zC ⟨true,_,hg6,hs,hb,hm⟩))
 refine qk 65 hg6 (q4 65 hg6 (xl (Tryz.isAgg3 _) (hb.d0 0 gZ)) (vN (wy 65 hg6) (xc Tryz.call159) ((p_A1 aA w5).mono ?_)))
 rintro e w14 ⟨he,hE⟩
 refine ⟨_,he,?_⟩
 obtain ⟨hs,hb⟩:=hs.pp hb hE
 refine stq (v:=(vb (s_A1 aA))) (wy 61 hg4) (xF hg6) (zC ⟨false,_,hg6,hs,hb,hm⟩)
 refine sj4 61 hg4 (sm (sm (sm (sj 61 hg4 (q2 (vb false) (xF hg4) (zC ⟨false,_,hg4,hs,hb,hm⟩))))))
 refine vF (yM (yM (yK (zO (eg (q0 s1.v (q0 s1.v (ln (er (rs1 Tryz.results89 ⟨s1,rfl,h⟩))))))))))
def m_V1_l1 (r1 l1:Sl) (t1:Int) (wl1:World) (Kc1:Sl→Int→WP) (K:Sl→WP):Prop :=Br (decide (t1<(r1.len:Int))) (∃a1:Addr,At r1 t1 1 a1∧∃v1,wl1.cell? a1=some (vb v1)∧Br v1 (∀p1 w2,New wl1 (.cells #[(vi t1)] 78) p1 w2→∃s1:Sl,∃w3:World,(Builtin.append_ #[46,46] 46 #[l1.v,(Sl.mk (some p1) 1 1).v]).run Tryz.prog w2=.ok s1.v w3∧Kc1 s1 (q6.wrap (t1+1)) w3) (Kc1 l1 (q6.wrap (t1+1)) wl1)) (K l1 wl1)
def m_V1 (k1:Option Addr) (w0:World) (K:Sl→WP):Prop :=Calls Tryz.prog 89 #[(vp k1)] w0 (fun e w1=>∃r1:Sl,e=.returned r1.v∧∃(I1:Sl→Int→WP) (mu1:Sl→Int→World→Nat),I1 Sl.nil 1 w1∧∀(l1:Sl) (t1:Int) (wl1:World),I1 l1 t1 wl1→m_V1_l1 r1 l1 t1 wl1 (fun y'0 y'1 w'=>I1 y'0 y'1 w'∧mu1 y'0 y'1 w'<mu1 l1 t1 wl1) K)
theorem w_V1 (k1 w0 K) (h:m_V1 k1 w0 K):
  Calls Tryz.prog 31 #[(vp k1)] w0 (fun e w'=>∃r2:Sl,e=.returned r2.v∧K r2 w'):=by
 refine cw (args:=[(vp k1)]) Tryz.func31 Tryz.ntmps31 (eg (q0 Sl.nil.v (ln (eg (q0 (vp k1) ?_)))))
 refine sc Tryz.call89 (h.mono fun e w1 ⟨r1,k,h⟩=>⟨_,k,?_⟩)
 refine q (ln (eg (q (ln (zA (eg (q (ln (zJ ?_)))))))))
 obtain ⟨I1,mu1,h0,hr⟩:=h
 refine vH (σ:=Sl×Int×World) (fun s ρ w=>w=s.2.2∧Has ρ [(3,r1.v),(4,s.1.v),(5,(vi s.2.1))]∧I1 s.1 s.2.1 s.2.2) (fun s=>mu1 s.1 s.2.1 s.2.2) (Sl.nil,1,w1) ⟨rfl,hm,h0⟩ ?_
 rintro ⟨l1,t1,wl1⟩ ρ w ⟨hw,hH,hI⟩
 dsimp only at hw hH;subst w
 have h:=hr l1 t1 wl1 hI
 refine zU hH (zA (eg (qd (ln (cbr h ?_ ?_)))))<;>intro h
 refine zB (zO (zA (zJ (eg (qb (qi (Tryz.runUnderlying157 _) (Tryz.sizeOf4 _) h fun a1 h=>ql (Tryz.isAgg4 _) h fun v1 h=>ln (cbr h ?_ ?_)))))))<;>intro h
 refine rg (qb (nw4 (fun p=>(Sl.mk (some p) 1 1).v) h fun p1 w2 h=>?_))
 obtain ⟨s1,w3,hv1,h⟩:=h
 refine st (v:=s1.v) (zD rfl) (vP (args:=#[l1.v,(Sl.mk (some p1) 1 1).v]) (by kernel_rfl) (fun _=>rfl) hv1) (q0 s1.v (zC (yQ (zO (rg (q0 (vi t1) (q0 (vi (q6.wrap (t1+1))) (q0 (vi (q6.wrap (t1+1))) (ln ⟨(s1,(q6.wrap (t1+1)),w3),⟨rfl,hm,h.1⟩,h.2⟩)))))))))
 refine zB (yQ (zO (rg (qc (ln ⟨(l1,(q6.wrap (t1+1)),wl1),⟨rfl,hm,h.1⟩,h.2⟩)))))
 refine vF (yM (yM (yK (zO (eg (q0 l1.v (q0 l1.v (ln (er (rs1 Tryz.results31 ⟨l1,rfl,h⟩))))))))))
end Go.Proofs
end
