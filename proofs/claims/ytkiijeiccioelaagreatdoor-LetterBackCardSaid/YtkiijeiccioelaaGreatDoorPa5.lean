import Derived.Test.YtkiijeiccioelaaGreatDoorProg
import Derived.KernelRfl
import Derived.Test.YtkiijeiccioelaaGreatDoorPa2
import Derived.Test.YtkiijeiccioelaaGreatDoorPa4
import Derived.Recover
import Derived.Test.YtkiijeiccioelaaGreatDoorPa3
section
open Go Go.SE
open Go.IntKind renaming i64 → q6
namespace Go.Proofs
open Tryz
set_option maxRecDepth 100000
set_option maxHeartbeats 4000000
attribute [local irreducible] wpL wpX opE wpE Calls
def m_P3 (x1:Option Addr) (e1 at1:Int) (w0:World) (K:WP):Prop :=∃a1,x1=some a1∧∃v1,w0.cell? (a1.add 2)=some (vi v1)∧Br (v1 == 0) (∃a2,x1=some a2∧jT w0 (a2.add 2)∧∀w1,w1=w0.setCell (a2.add 2) (vi e1)→∃a3,x1=some a3∧jT w1 (a3.add 3)∧∀w2,w2=w1.setCell (a3.add 3) (vi at1)→K w2) (K w0)
theorem w_P3 (x1 e1 at1 w0 K) (h:m_P3 x1 e1 at1 w0 K):
  Calls prog 30 #[(vp x1),(vi e1),(vi at1)] w0 (fun e w'=>e=.returned (.tuple #[])∧K  w'):=by
 refine cw (args:=[(vp x1),(vi e1),(vi at1)]) func30 ntmps30 (eg (q0 (vp x1) ?_))
 refine qm h fun a1 h=>q (ql (isAgg30 _) h fun v1 h=>q (ln (cbr h ?_ ?_)))<;>intro h
 refine rg (qd (qm h fun a2 h=>q (st1 (sizeOf30 _) h fun w1 h=>qm h fun a3 h=>q (st1 (sizeOf3 _) h fun w2 h=>jC (jFV (.inr rfl) results30 ⟨rfl,h⟩)))))
 refine jB (jFV (.inr rfl) results30 ⟨rfl,h⟩)
def m_T_j2 (x1:Option Addr) (x2:Int) (eword1:ByteArray) (x3:Bool) (H:NP) (w:World) (Kc1:Int→NP→WP) (K:Int→Bool→WP):Prop :=Br x3 (∃a3,x1=some a3∧jT w (a3.add 1)∧¬ H (a3.add 1).block∧∀w7,w7=w.setCell (a3.add 1) (vi (q6.wrap ((eword1.size:Int)+2)))→K x2 true w7) (Kc1 (q6.wrap (x2+1)) H w)
def m_T_l1 (x1:Option Addr) (r1:Array Value) (x2:Int) (w0:World) (Hl1:NP) (wl1:World) (Kc1:Int→NP→WP) (K:Int→Bool→WP):Prop :=Br (decide (x2<8)) (∃efrom1 etext1 efake1 eword1,(Instr.index 77 (.agg r1) (vi x2)).run prog wl1=.ok (.agg #[(vb efrom1),(vb etext1),(vb efake1),(vs eword1)]) wl1∧Br (decide (eword1=⟨#[]⟩)) (∀H1 w3,Hst w0 Hl1 wl1 H1 w3→Kc1 (q6.wrap (x2+1)) H1 w3) (∀H1 w3,Hst w0 Hl1 wl1 H1 w3→∃C1:WP,C1 w3.drew∧∀w4,w4=w3.drew→∃a1,x1=some a1∧∃v1,w4.cell? a1=some (vs v1)∧∃s1,(Go.binOp .add 9 (vs eword1) (vs (⟨#[32]⟩:ByteArray))).run prog w4=.ok (vs s1) w4∧Calls prog 52 #[(vs v1),(vs s1)] w4 (fun e w5=>∃r2,e=.returned (vb r2)∧C1 w5∧Kept H1 w4 w5∧Br r2 (∃a2,x1=some a2∧jT w5 (a2.add 1)∧¬ H1 (a2.add 1).block∧∀w6,w6=w5.setCell (a2.add 1) (vi (q6.wrap ((eword1.size:Int)+1)))→K x2 false w6) (∃C2:WP,C2 w5.drew∧∀w8,w8=w5.drew→Br efake1 (∃a4,x1=some a4∧∃v2,w8.cell? a4=some (vs v2)∧∃s2,(Go.binOp .add 9 (vs eword1) (vs (⟨#[33,32]⟩:ByteArray))).run prog w8=.ok (vs s2) w8∧Calls prog 52 #[(vs v2),(vs s2)] w8 (fun e w9=>∃r3,e=.returned (vb r3)∧C2 w9∧Kept H1 w8 w9∧m_T_j2 x1 x2 eword1 r3 H1 w9 Kc1 K)) (m_T_j2 x1 x2 eword1 false H1 w8 Kc1 K))))) (Calls prog 30 #[(vp x1),(vi 110),(vi 0)] wl1 (fun e w10=>e=.returned (.tuple #[])∧Kept Hl1 wl1 w10∧K 0 false w10))
def m_T (x1:Option Addr) (w0:World) (K:Int→Bool→WP):Prop :=Calls prog 26 #[] w0 (fun e w1=>∃r1:Array Value,e=.returned (.agg r1)∧Kept None w0 w1∧∃(I1:Int→NP→WP) (mu1:Int→World→Nat),I1 0 None w1∧∀(x2:Int) (Hl1:NP) (wl1:World),Hst w0 Hl1 wl1 Hl1 wl1→I1 x2 Hl1 wl1→m_T_l1 x1 r1 x2 w0 Hl1 wl1 (fun y'0 H' w'=>I1 y'0 H' w'∧mu1 y'0 w'<mu1 x2 wl1) K)
theorem w_T (x1 w0 K) (h:m_T x1 w0 K):
  Calls prog 25 #[(vp x1)] w0 (fun e w'=>∃r4 r5,e=.returned (.tuple #[(vi r4),(vb r5)])∧K r4 r5 w'):=by
 refine cw (args:=[(vp x1)]) func25 ntmps25 ?_
 obtain ⟨hs,hb⟩:=st0 w0
 refine eg (qb (ln (jA (eg (sc call26 (h.mono fun e w1 ⟨r1,k,hk,h⟩=>have ⟨hs,hb⟩:=hk.hh hs hb;⟨_,k,?_⟩))))))
 refine q (ln (jM ?_))
 obtain ⟨I1,mu1,h0,hr⟩:=h
 refine kL (σ:=Int×NP×World) (fun s ρ w=>w=s.2.2∧Has ρ [(0,(vp x1)),(6,(.agg r1)),(7,(vi s.1))]∧Hst w0 s.2.1 w s.2.1 w∧HB s.2.1 w []∧I1 s.1 s.2.1 s.2.2) (fun s=>mu1 s.1 s.2.2) (0,None,w1) ⟨rfl,hm,hs,hb,h0⟩ ?_
 rintro ⟨x2,Hl1,wl1⟩ ρ w ⟨hw,hH,hs,hb,hI⟩
 dsimp only at hw hH hs hb;subst w
 have h:=hr x2 Hl1 wl1 hs hI
 refine jQ hH (eg (q (ln (jA (cbr h ?_ ?_)))))<;>intro h
 refine jB (jN (jA (jM (eg (q ?_)))))
 obtain ⟨efrom1,etext1,efake1,eword1,hv5,h⟩:=h
 refine q2 (.agg #[(vb efrom1),(vb etext1),(vb efake1),(vs eword1)]) (vX (by kernel_rfl) (by kernel_rfl) hv5) (nw3 [(vb false),(vb false),(vb false),ve] 76 hs hb (jG (zeroValue76 _) rfl) fun p1 w2 H1 hs hb=>q (qG (jK rfl) (xo p1 (Ak efrom1 etext1 efake1 eword1) (sizeOf76 _) (hb.k0 0 4 gZ)) ?_))
 intro w3 hn2
 obtain ⟨hs,hb⟩:=hb.st1 0 hs hn2 gZ
 refine ln (jM (eg (q (q3 (xl (isAgg9 _) (hb.d 0 3 gZ)) (q2 (vb (decide (eword1=⟨#[]⟩))) (xM (by kernel_rfl) (by kernel_rfl)) (q (ln (cbr h ?_ ?_))))))))<;>intro h
 refine jB (uS (uS (jN (rg (qb (jC ?_))))))
 have ⟨h,hs⟩:=hs.hr (h H1 w3)
 refine jN ⟨((q6.wrap (x2+1)),H1,w3),⟨rfl,hm,hs,hb.drop 1,h.1⟩,h.2⟩
 refine jA ?_
 have ⟨h,hs⟩:=hs.hr (h H1 w3)
 obtain ⟨C1,hC,h⟩:=h
 refine dr2 (fun x=>C1 x∧HB H1 x _) [7] [] ⟨hC,hb.drew⟩ h hs hb fun w4 hs hb h=>?_
 have hs:=hs.here
 refine qx 0 (vp x1) Kp0 (qg 1 ?_)
 obtain ⟨a1,hp1,h⟩:=h
 refine sy Kp1 (fun _ _=>xn hp1) (qx 2 (vp (some a1)) Kp2 (qg 3 ?_))
 obtain ⟨v1,hv4,h⟩:=h
 refine sye Kp3 (xl (isAgg9 _) hv4) (qx 4 (vp (some (p1.add 3))) Kp4 (qz 5 (vs eword1) Kp5 (fun w' hw'=>(xl (isAgg9 _) (hw'.2.cell 0 3 gZ (by kernel_rfl)))) (qg 6 ?_)))
 obtain ⟨s1,hv3,h⟩:=h
 refine sye (v:=(vs s1)) Kp6 (uJ (by kernel_rfl) (by kernel_rfl) (by kernel_rfl) hv3) (lg 7 (slc Kp7 call52 (h.mono ?_)))
 rintro e w5 ⟨r2,rfl,hC,hk,h⟩
 refine ⟨_,rfl,.inr ⟨hC,hb.kept hk⟩,?_⟩
 obtain ⟨hs,hb⟩:=hk.hh hs hb
 refine qx 8 (vb r2) Kp8 (wn (jN (cbr h ?_ ?_)))<;>intro h
 refine eg (qb (q3 (xl (isAgg9 _) (hb.d 0 3 gZ)) (qb (qm h fun a2 h=>q (st2 (sizeOf3 _) hs hb h fun w6 hs hb h=>ln (eg (qc (ln (er (qJ (qJ (zM (zM (qJ (zM (oX (.inl rfl) results25 (v:=(vi x2)) (by kernel_rfl) (v':=(vb false)) (by kernel_rfl) ⟨x2,false,rfl,h⟩))))))))))))))))
 refine jA (zC (fun ρ w=>∃x3,∃H:NP,Has ρ [(0,(vp x1)),(4,(vi x2)),(5,(vp (some p1))),(6,(.agg r1)),(7,(vi x2)),(32,(vb x3))]∧Hst w0 H w H w∧HB H w [(p1,(Ak efrom1 etext1 efake1 eword1),76)]∧m_T_j2 x1 x2 eword1 x3 H w (fun y'0 H' w'=>I1 y'0 H' w'∧mu1 y'0 w'<mu1 x2 wl1) K) ?_ ?_)
 rintro ρ w ⟨x3,H,hH,hs,hb,h⟩
 refine jQ hH (cbr h ?_ ?_)<;>intro h
 refine eg (qb (q3 (xl (isAgg9 _) (hb.d 0 3 gZ)) (qb (qm h fun a3 h=>q (st2 (sizeOf3 _) hs hb h fun w7 hs hb h=>ln (eg (qc (ln (er (qJ (qJ (zM (zM (qJ (zM (oX (.inl rfl) results25 (v:=(vi x2)) (by kernel_rfl) (v':=(vb true)) (by kernel_rfl) ⟨x2,true,rfl,h⟩))))))))))))))))
 refine jB (uS (uS (jN (rg (qb (ln ⟨((q6.wrap (x2+1)),H,w),⟨rfl,hm,hs,hb.drop 1,h.1⟩,h.2⟩))))))
 obtain ⟨C2,hC,h⟩:=h
 refine dr2 (fun x=>C2 x∧HB H1 x _) [10] [] ⟨hC,hb.drew⟩ h hs hb fun w8 hs hb h=>?_
 have hs:=hs.here
 refine qx 0 (vp (some (p1.add 2))) Kp0 (qz 1 (vb efake1) Kp1 (fun w' hw'=>(xl (isAgg4 _) (hw'.2.cell 0 2 gZ (by kernel_rfl)))) (qx 2 (vb efake1) Kp2 (qg 3 ?_)))
 obtain ⟨hg1,h⟩|⟨hg1,h⟩:=h.br
 refine sz (v:=(vp x1)) Kp3 (wy 35 hg1) (fun _ _=>(by kernel_rfl)) (qg 4 ?_)
 obtain ⟨a4,hp6,h⟩:=h
 refine sz Kp4 (wy 35 hg1) (fun _ _=>xn hp6) (qw 5 (vp (some a4)) Kp5 (wy 35 hg1) (qg 6 ?_))
 obtain ⟨v2,hv2,h⟩:=h
 refine sze Kp6 (wy 35 hg1) (xl (isAgg9 _) hv2) (qw 7 (vp (some (p1.add 3))) Kp7 (wy 35 hg1) (qg 8 (sz (v:=(vs eword1)) Kp8 (wy 35 hg1) (fun w' hw'=>(xl (isAgg9 _) (hw'.2.cell 0 3 gZ (by kernel_rfl)))) (qg 9 ?_))))
 obtain ⟨s2,hv1,h⟩:=h
 refine sze (v:=(vs s2)) Kp9 (wy 35 hg1) (uJ (by kernel_rfl) (by kernel_rfl) (by kernel_rfl) hv1) (lg 10 (jHY (jJ (S8 (jD (jD jI)))) (wy 35 hg1) (by kernel_rfl) (xc call52) (h.mono ?_)))
 rintro e w9 ⟨r3,rfl,hC,hk,h⟩
 refine ⟨_,rfl,.inr ⟨hC,hb.kept hk⟩,?_⟩
 obtain ⟨hs,hb⟩:=hk.hh hs hb
 refine qz 11 (vb r3) (jJ (S8 (jD (jD (jD jI))))) (fun _ _=>(xT hg1)) (qx 12 (vb r3) (jJ (S8 (S4 jI))) (wn (jN ⟨r3,H1,hm,hs,hb,h⟩)))
 refine jAL Kp3 (jX rfl (yD 35 hg1) rfl) (qn 4 Kp4 (jX rfl (yD 35 hg1) rfl) (qn 5 Kp5 (jX rfl (yD 35 hg1) rfl) (qn 6 Kp6 (jX rfl (yD 35 hg1) rfl) (qn 7 Kp7 (jX rfl (yD 35 hg1) rfl) (qn 8 Kp8 (jX rfl (yD 35 hg1) rfl) (qn 9 Kp9 (jX rfl (yD 35 hg1) rfl) (lg 10 (jAL (jJ (S8 (jD (jD jI)))) (jX rfl (yD 35 hg1) rfl) (qz 11 (vb false) (jJ (S8 (jD (jD (jD jI))))) (fun _ _=>(xF hg1)) (qx 12 (vb false) (jJ (S8 (S4 jI))) (wn (jN ⟨false,H1,hm,hs,hb,h⟩))))))))))))
 refine zV (xG (xG (xE (jN (eg (q0 (vp x1) (sc call30 (h.mono fun e w10 ⟨k,hk,h⟩=>have ⟨hs,hb⟩:=hk.hh hs hb;⟨_,k,?_⟩))))))))
 refine ln (eg (qb (ln (er (oX (.inl rfl) results25 (v:=(vi 0)) (by kernel_rfl) (v':=(vb false)) (by kernel_rfl) ⟨0,false,rfl,h⟩)))))
def m_Q3 (x1:Option Addr) (w0:World) (K:Int→WP):Prop :=∃a1,x1=some a1∧∀w1,Hst w0 None w0 None w1→∃v1,w1.cell? (a1.add 1)=some (vi v1)∧∃a2,x1=some a2∧∃v2,w1.cell? a2=some (vs v2)∧Br (decide (v1≥(v2.size:Int))) (∃a3,x1=some a3∧∃v3,w1.cell? a3=some (vs v3)∧Calls prog 30 #[(vp x1),(vi 3),(vi (v3.size:Int))] w1 (fun e w2=>e=.returned (.tuple #[])∧Kept None w1 w2∧K 0 w2)) (∃a4,x1=some a4∧∀w3,Hst w0 None w1 None w3→∃v4,w3.cell? a4=some (vs v4)∧∃a5,x1=some a5∧∃v5,w3.cell? (a5.add 1)=some (vi v5)∧∃e1:Int,(Instr.index 9 (vs v4) (vi v5)).run prog w3=.ok (.int .u8 e1) w3∧K e1 w3)
theorem w_Q3 (x1 w0 K) (h:m_Q3 x1 w0 K):
  Calls prog 53 #[(vp x1)] w0 (fun e w'=>∃r1:Int,e=.returned (.int .u8 r1)∧K r1 w'):=by
 refine cw (args:=[(vp x1)]) func53 ntmps53 ?_
 obtain ⟨hs,hb⟩:=st0 w0
 refine eg (q (ln (jA (jA (zW (by kernel_rfl) (by kernel_rfl) (by kernel_rfl) (by kernel_rfl) ?_)))))
 intro w1 hw1
 have hs:Hst w0 None w0 None w1:=by rw [hw1];exact hs.drew
 have hb:HB None w1 []:=by rw [hw1];exact hb.drew
 refine qq 0 (vp x1) Kp0 (qg 1 ?_)
 obtain ⟨a1,hp1,h⟩:=h
 refine sxQ Kp1 (jK rfl) rfl (xn hp1) (qq 2 (vp (some (a1.add 1))) Kp2 (qg 3 ?_))
 have ⟨h,hs⟩:=hs.hr (h w1)
 obtain ⟨v1,hv6,h⟩:=h
 refine sxQ Kp3 (jK rfl) rfl (xl (isAgg3 _) hv6) (qq 4 (vp x1) Kp4 (qg 5 ?_))
 obtain ⟨a2,hp2,h⟩:=h
 refine sxQ Kp5 (jK rfl) rfl (xn hp2) (qq 6 (vp (some a2)) Kp6 (qg 7 ?_))
 obtain ⟨v2,hv5,h⟩:=h
 refine sxQ Kp7 (jK rfl) rfl (xl (isAgg9 _) hv5) (qq 8 (vi (v2.size:Int)) Kp8 (qq 9 (vb (decide (v1≥(v2.size:Int)))) Kp9 (wn (jN (cbr h ?_ ?_)))))<;>intro h
 refine eg (qb (qm h fun a3 h=>q (ql (isAgg9 _) h fun v3 h=>q (sc call30 (h.mono fun e w2 ⟨k,hk,h⟩=>have ⟨hs,hb⟩:=hk.hh hs hb;⟨_,k,?_⟩)))))
 refine ln (eg (q (ln (er (zM (rs1 results53 ⟨0,rfl,h⟩))))))
 refine jB (jN (jA (zW (by kernel_rfl) (by kernel_rfl) (by kernel_rfl) (by kernel_rfl) ?_)))
 intro w3 hw3
 have hs:Hst w0 None w1 None w3:=by rw [hw3];exact hs.drew
 have hb:HB None w3 []:=by rw [hw3];exact hb.drew
 refine qq 0 (vp x1) Kp0 (qg 1 ?_)
 obtain ⟨a4,hp4,h⟩:=h
 refine sxQ Kp1 (jK rfl) rfl (xn hp4) (qq 2 (vp (some a4)) Kp2 (qg 3 ?_))
 have ⟨h,hs⟩:=hs.hr (h w3)
 obtain ⟨v4,hv4,h⟩:=h
 refine sxQ Kp3 (jK rfl) rfl (xl (isAgg9 _) hv4) (qq 4 (vp x1) Kp4 (qg 5 ?_))
 obtain ⟨a5,hp5,h⟩:=h
 refine sxQ Kp5 (jK rfl) rfl (xn hp5) (qq 6 (vp (some (a5.add 1))) Kp6 (qg 7 ?_))
 obtain ⟨v5,hv3,h⟩:=h
 refine sxQ Kp7 (jK rfl) rfl (xl (isAgg3 _) hv3) (qg 8 ?_)
 obtain ⟨e1,hv2,h⟩:=h
 refine sxQ (v:=(.int .u8 e1)) Kp8 (jK rfl) rfl (vX (by kernel_rfl) (by kernel_rfl) hv2) (qq 9 (.int .u8 e1) Kp9 (wn (jN (er (rs1 results53 ⟨e1,rfl,h⟩)))))
def m_Y_j1 (x1:Option Addr) (r1:Int) (x2:Bool) (w:World) (K:Int→WP):Prop :=Br x2 (∃a2,x1=some a2∧∃v2,w.cell? (a2.add 1)=some (vi v2)∧Calls prog 30 #[(vp x1),(vi 2),(vi v2)] w (fun e w2=>e=.returned (.tuple #[])∧∃a3,x1=some a3∧∃v3,w2.cell? (a3.add 1)=some (vi v3)∧∃a4,x1=some a4∧jT w2 (a4.add 1)∧∀w3,w3=w2.setCell (a4.add 1) (vi (q6.wrap (v3+1)))→K r1 w3)) (∃a5,x1=some a5∧∃v4,w.cell? (a5.add 1)=some (vi v4)∧∃a6,x1=some a6∧jT w (a6.add 1)∧∀w4,w4=w.setCell (a6.add 1) (vi (q6.wrap (v4+1)))→K r1 w4)
def m_Y (x1:Option Addr) (some1:ByteArray) (w0:World) (K:Int→WP):Prop :=∃a1,x1=some a1∧∃v1,w0.cell? (a1.add 2)=some (vi v1)∧Br (v1 != 0) (K 0 w0) (Calls prog 53 #[(vp x1)] w0 (fun e w1=>∃r1:Int,e=.returned (.int .u8 r1)∧∃a7,x1=some a7∧∃v5,w1.cell? (a7.add 2)=some (vi v5)∧Br (v5 == 0) (Calls prog 54 #[(vs some1),(.int .u8 r1)] w1 (fun e w5=>∃r2,e=.returned (vi r2)∧m_Y_j1 x1 r1 (decide (r2<0)) w5 K)) (m_Y_j1 x1 r1 false w1 K)))
theorem w_Y (x1 some1 w0 K) (h:m_Y x1 some1 w0 K):
  Calls prog 27 #[(vp x1),(vs some1)] w0 (fun e w'=>∃r3:Int,e=.returned (.int .u8 r3)∧K r3 w'):=by
 refine cw (args:=[(vp x1),(vs some1)]) func27 ntmps27 (eg (q0 (.int .u8 0) (ln (jA (eg (q0 (vp x1) ?_))))))
 refine qm h fun a1 h=>q (ql (isAgg30 _) h fun v1 h=>q (ln (cbr h ?_ ?_)))<;>intro h
 refine eg (q (ln (er (zM (rs1 results27 ⟨0,rfl,h⟩)))))
 refine jB (jN (eg (q (sc call53 (h.mono fun e w1 ⟨r1,k,h⟩=>⟨_,k,?_⟩)))))
 refine q (ln (jA (jA (zC (fun ρ w=>∃x2,Has ρ [(0,(vp x1)),(5,(.int .u8 r1)),(23,(vb x2))]∧m_Y_j1 x1 r1 x2 w K) ?_ ?_))))
 rintro ρ w ⟨x2,hH,h⟩
 refine jQ hH (cbr h ?_ ?_)<;>intro h
 refine rg (qb (qm h fun a2 h=>q (ql (isAgg3 _) h fun v2 h=>sc call30 (h.mono fun e w2 ⟨k,h⟩=>⟨_,k,?_⟩))))
 refine ln (eg (q (qm h fun a3 h=>q (ql (isAgg3 _) h fun v3 h=>q (qm h fun a4 h=>q (st1 (sizeOf3 _) h fun w3 h=>ln (eg (qb (ln (er (rs1 results27 ⟨r1,rfl,h⟩)))))))))))
 refine jB (jN (eg (q (qm h fun a5 h=>q (ql (isAgg3 _) h fun v4 h=>q (qm h fun a6 h=>q (st1 (sizeOf3 _) h fun w4 h=>ln (eg (qb (ln (er (rs1 results27 ⟨r1,rfl,h⟩))))))))))))
 refine rg (q (qm h fun a7 h=>q (ql (isAgg30 _) h fun v5 h=>qb ?_)))
 obtain ⟨hg1,h⟩|⟨hg1,h⟩:=h.br
 refine qk 18 hg1 (qk 18 hg1 (vK (wy 18 hg1) (xc call54) (h.mono ?_)))
 rintro e w5 ⟨r2,rfl,h⟩
 refine ⟨_,rfl,?_⟩
 refine qk 18 hg1 (q2 (vb (decide (r2<0))) (xT hg1) (ln ⟨(decide (r2<0)),hm,h⟩))
 refine sj4 18 hg1 (q2 (vb false) (xF hg1) (ln ⟨false,hm,h⟩))
def m_F_j3 (x1:Option Addr) (r2:Int) (w0:World) (H:NP) (w:World) (K:Int→WP):Prop :=∃a5,x1=some a5∧∀w4,Hst w0 H w H w4→∃v5,w4.cell? (a5.add 1)=some (vi v5)∧∃a6,x1=some a6∧∃v6,w4.cell? a6=some (vs v6)∧Br (decide (v5<(v6.size:Int))) (∃a7,x1=some a7∧∃v7,w4.cell? a7=some (vs v7)∧∃a8,x1=some a8∧∃v8,w4.cell? (a8.add 1)=some (vi v8)∧∃e1:Int,(Instr.index 9 (vs v7) (vi v8)).run prog w4=.ok (.int .u8 e1) w4∧Br (e1 != 32) (∃a9,x1=some a9∧∃v9,w4.cell? (a9.add 1)=some (vi v9)∧Calls prog 30 #[(vp x1),(vi 2),(vi v9)] w4 (fun e w5=>e=.returned (.tuple #[])∧Kept H w4 w5∧K r2 w5)) (K r2 w4)) (K r2 w4)
def m_F_j2 (x1:Option Addr) (v2 r2:Int) (x2:Bool) (w0:World) (H:NP) (w:World) (K:Int→WP):Prop :=Br x2 (Calls prog 30 #[(vp x1),(vi 2),(vi v2)] w (fun e w6=>e=.returned (.tuple #[])∧Kept H w w6∧m_F_j3 x1 r2 w0 H w6 K)) (m_F_j3 x1 r2 w0 H w K)
def m_F_j1 (x1:Option Addr) (v2:Int) (w0:World) (H:NP) (w:World) (K:Int→WP):Prop :=∃a3,x1=some a3∧∀w1,Hst w0 H w H w1→∃v3,w1.cell? a3=some (vs v3)∧∃a4,x1=some a4∧∃v4,w1.cell? (a4.add 1)=some (vi v4)∧∃s1,(Instr.sliceAt 9 (vs v3) (some (vi v2)) (some (vi v4)) none).run prog w1=.ok (vs s1) w1∧Br (decide (s1=⟨#[]⟩)) (Calls prog 27 #[(vp x1),(vs (⟨#[48,49,50,51,52,53,54,55,56,57]⟩:ByteArray))] w1 (fun e w2=>∃r1:Int,e=.returned (.int .u8 r1)∧Kept H w1 w2∧K 0 w2)) (Calls prog 55 #[(vs s1),(vi 10),(vi 64)] w1 (fun e w3=>∃r2,∃r3:Value,e=.returned (.tuple #[(vu r2),r3])∧Kept H w1 w3∧∃b1,(Go.binOp .neq 87 r3 (.nilIface:Value)).run prog w3=.ok (vb b1) w3∧Br b1 (m_F_j2 x1 v2 r2 true w0 H w3 K) (Br (decide ((s1.size:Int)>1)) (∃e2:Int,(Instr.index 9 (vs s1) (vi 0)).run prog w3=.ok (.int .u8 e2) w3∧m_F_j2 x1 v2 r2 (e2 == 48) w0 H w3 K) (m_F_j2 x1 v2 r2 false w0 H w3 K))))
def m_F_l4 (x1:Option Addr) (v2:Int) (w0:World) (Hl1:NP) (wl1:World) (Kc4:NP→WP) (K:Int→WP):Prop :=∃a10,x1=some a10∧∀w7,Hst w0 Hl1 wl1 Hl1 w7→∃v10,w7.cell? (a10.add 1)=some (vi v10)∧∃a11,x1=some a11∧∃v11,w7.cell? a11=some (vs v11)∧Br (decide (v10<(v11.size:Int))) (∃a12,x1=some a12∧∃v12,w7.cell? a12=some (vs v12)∧∃a13,x1=some a13∧∃v13,w7.cell? (a13.add 1)=some (vi v13)∧∃e3:Int,(Instr.index 9 (vs v12) (vi v13)).run prog w7=.ok (.int .u8 e3) w7∧Br (decide (e3≥48)) (∃a14,x1=some a14∧∃v14,w7.cell? a14=some (vs v14)∧∃a15,x1=some a15∧∃v15,w7.cell? (a15.add 1)=some (vi v15)∧∃e4:Int,(Instr.index 9 (vs v14) (vi v15)).run prog w7=.ok (.int .u8 e4) w7∧Br (decide (e4≤57)) (∃a16,x1=some a16∧∃v16,w7.cell? (a16.add 1)=some (vi v16)∧∃a17,x1=some a17∧jT w7 (a17.add 1)∧¬ Hl1 (a17.add 1).block∧∀w8,w8=w7.setCell (a17.add 1) (vi (q6.wrap (v16+1)))→Kc4 Hl1 w8) (m_F_j1 x1 v2 w0 Hl1 w7 K)) (m_F_j1 x1 v2 w0 Hl1 w7 K)) (m_F_j1 x1 v2 w0 Hl1 w7 K)
def m_F (x1:Option Addr) (w0:World) (K:Int→WP):Prop :=∃a1,x1=some a1∧∃v1,w0.cell? (a1.add 2)=some (vi v1)∧Br (v1 != 0) (K 0 w0) (∃a2,x1=some a2∧∃v2,w0.cell? (a2.add 1)=some (vi v2)∧∃(I1:NP→WP) (mu1:World→Nat),I1 None w0∧∀Hl1 wl1,Hst w0 Hl1 wl1 Hl1 wl1→I1 Hl1 wl1→m_F_l4 x1 v2 w0 Hl1 wl1 (fun H' w'=>I1 H' w'∧mu1 w'<mu1 wl1) K)
theorem w_F (x1 w0 K) (h:m_F x1 w0 K):
  Calls prog 28 #[(vp x1)] w0 (fun e w'=>∃r4,e=.returned (vu r4)∧K r4 w'):=by
 refine cw (args:=[(vp x1)]) func28 ntmps28 ?_
 obtain ⟨hs,hb⟩:=st0 w0
 refine eg (q (ln (jA (eg (q (qm h fun a1 h=>q (ql (isAgg30 _) h fun v1 h=>q (ln (cbr h ?_ ?_)))))))))<;>intro h
 refine eg (q (ln (er (zM (rs1 results28 ⟨0,rfl,h⟩)))))
 refine jB (jN (eg (q (qm h fun a2 h=>q (ql (isAgg3 _) h fun v2 h=>q (ln (jA (zC (fun ρ w=>∃H:NP,Has ρ [(0,(vp x1)),(3,(vi v2))]∧Hst w0 H w H w∧HB H w []∧m_F_j1 x1 v2 w0 H w K) ?_ ?_))))))))
 rintro ρ w ⟨H,hH,hs,hb,h⟩
 refine jQ hH (jA (zW (by kernel_rfl) (by kernel_rfl) (by kernel_rfl) (by kernel_rfl) ?_))
 intro w1 hw1
 have hs:Hst w0 H w H w1:=by rw [hw1];exact hs.drew
 have hb:HB H w1 []:=by rw [hw1];exact hb.drew
 refine qq 0 (vp x1) Kp0 (qg 1 ?_)
 obtain ⟨a3,hp3,h⟩:=h
 refine sxQ Kp1 (jK rfl) rfl (xn hp3) (qq 2 (vp (some a3)) Kp2 (qg 3 ?_))
 have ⟨h,hs⟩:=hs.hr (h w1)
 obtain ⟨v3,hv11,h⟩:=h
 refine sxQ Kp3 (jK rfl) rfl (xl (isAgg9 _) hv11) (qq 4 (vi v2) Kp4 (qq 5 (vp x1) Kp5 (qg 6 ?_)))
 obtain ⟨a4,hp4,h⟩:=h
 refine sxQ Kp6 (jK rfl) rfl (xn hp4) (qq 7 (vp (some (a4.add 1))) Kp7 (qg 8 ?_))
 obtain ⟨v4,hv10,h⟩:=h
 refine sxQ Kp8 (jK rfl) rfl (xl (isAgg3 _) hv10) (qg 9 ?_)
 obtain ⟨s1,hv9,h⟩:=h
 refine sxQ (v:=(vs s1)) Kp9 (jK rfl) rfl (yF (by kernel_rfl) (by kernel_rfl) (by kernel_rfl) (by kernel_rfl) hv9) (qq 10 (vs s1) (jJ (S8 (jD (jD jI)))) (wn (jN (jA (eg (q (q2 (vb (decide (s1=⟨#[]⟩))) (xM (by kernel_rfl) (by kernel_rfl)) (ln (cbr h ?_ ?_)))))))))<;>intro h
 refine eg (q (sc call27 (h.mono fun e w2 ⟨r1,k,hk,h⟩=>have ⟨hs,hb⟩:=hk.hh hs hb;⟨_,k,?_⟩)))
 refine ln (eg (q (ln (er (zM (rs1 results28 ⟨0,rfl,h⟩))))))
 refine jB (jN (eg (q (sc call55 (h.mono fun e w3 ⟨r2,r3,k,hk,h⟩=>have ⟨hs,hb⟩:=hk.hh hs hb;⟨_,k,?_⟩)))))
 refine q (qd (ln (jA (jA (zC (fun ρ w=>∃x2,∃H:NP,Has ρ [(0,(vp x1)),(3,(vi v2)),(5,(vu r2)),(87,(vb x2))]∧Hst w0 H w H w∧HB H w []∧m_F_j2 x1 v2 r2 x2 w0 H w K) ?_ ?_)))))
 rintro ρ w ⟨x2,H,hH,hs,hb,h⟩
 refine jQ hH (zC (fun ρ w=>∃H:NP,Has ρ [(0,(vp x1)),(5,(vu r2))]∧Hst w0 H w H w∧HB H w []∧m_F_j3 x1 r2 w0 H w K) ?_ ?_)
 rintro ρ w ⟨H,hH,hs,hb,h⟩
 refine jQ hH (jA (jA (zW (by kernel_rfl) (by kernel_rfl) (by kernel_rfl) (by kernel_rfl) ?_)))
 intro w4 hw4
 have hs:Hst w0 H w H w4:=by rw [hw4];exact hs.drew
 have hb:HB H w4 []:=by rw [hw4];exact hb.drew
 refine qq 0 (vp x1) Kp0 (qg 1 ?_)
 obtain ⟨a5,hp5,h⟩:=h
 refine sxQ Kp1 (jK rfl) rfl (xn hp5) (qq 2 (vp (some (a5.add 1))) Kp2 (qg 3 ?_))
 have ⟨h,hs⟩:=hs.hr (h w4)
 obtain ⟨v5,hv6,h⟩:=h
 refine sxQ Kp3 (jK rfl) rfl (xl (isAgg3 _) hv6) (qq 4 (vp x1) Kp4 (qg 5 ?_))
 obtain ⟨a6,hp6,h⟩:=h
 refine sxQ Kp5 (jK rfl) rfl (xn hp6) (qq 6 (vp (some a6)) Kp6 (qg 7 ?_))
 obtain ⟨v6,hv5,h⟩:=h
 refine sxQ Kp7 (jK rfl) rfl (xl (isAgg9 _) hv5) (qq 8 (vi (v6.size:Int)) Kp8 (qq 9 (vb (decide (v5<(v6.size:Int)))) Kp9 (qq 10 (vb (decide (v5<(v6.size:Int)))) (jJ (S8 (jD (jD jI)))) (qg 11 ?_))))
 obtain ⟨hg1,h⟩|⟨hg1,h⟩:=h.br
 refine sxQ (v:=(vp x1)) (jJ (S8 (jD (jD (jD jI))))) (wy 101 hg1) rfl (by kernel_rfl) (qg 12 ?_)
 obtain ⟨a7,hp7,h⟩:=h
 refine sxQ (jJ (S8 (S4 jI))) (wy 101 hg1) rfl (xn hp7) (qg 13 (sxQ (v:=(vp (some a7))) (jJ (S8 (S4 (jD jI)))) (wy 101 hg1) rfl (by kernel_rfl) (qg 14 ?_)))
 obtain ⟨v7,hv4,h⟩:=h
 refine sxQ (jJ (S8 (S4 (jD (jD jI))))) (wy 101 hg1) rfl (xl (isAgg9 _) hv4) (qg 15 (sxQ (v:=(vp x1)) (jJ (S8 (S4 (jD (jD (jD jI)))))) (wy 101 hg1) rfl (by kernel_rfl) (qg 16 ?_)))
 obtain ⟨a8,hp8,h⟩:=h
 refine sxQ (jJ (S8 (S8 jI))) (wy 101 hg1) rfl (xn hp8) (qg 17 (sxQ (v:=(vp (some (a8.add 1)))) (jJ (S8 (S8 (jD jI)))) (wy 101 hg1) rfl (by kernel_rfl) (qg 18 ?_)))
 obtain ⟨v8,hv3,h⟩:=h
 refine sxQ (jJ (S8 (S8 (jD (jD jI))))) (wy 101 hg1) rfl (xl (isAgg3 _) hv3) (qg 19 ?_)
 obtain ⟨e1,hv2,h⟩:=h
 refine sxQ (v:=(.int .u8 e1)) (jJ (S8 (S8 (jD (jD (jD jI)))))) (wy 101 hg1) rfl (vX (by kernel_rfl) (by kernel_rfl) hv2) (qg 20 (sxQ (v:=(vb (e1 != 32))) (jJ (S8 (S8 (S4 jI)))) (wy 101 hg1) rfl (by kernel_rfl) (qr 21 (vb (e1 != 32)) (jJ (S8 (S8 (S4 (jD jI))))) (xT hg1) (wn (jN (cbr h ?_ ?_))))))<;>intro h
 refine rg (qb (qm h fun a9 h=>q (ql (isAgg3 _) h fun v9 h=>sc call30 (h.mono fun e w5 ⟨k,hk,h⟩=>have ⟨hs,hb⟩:=hk.hh hs hb;⟨_,k,?_⟩))))
 refine ln (eg (qb (ln (er (rs1 results28 ⟨r2,rfl,h⟩)))))
 refine jB (jN (eg (qb (ln (er (rs1 results28 ⟨r2,rfl,h⟩))))))
 refine jAL (jJ (S8 (jD (jD (jD jI))))) (jX rfl (yD 101 hg1) rfl) (qn 12 (jJ (S8 (S4 jI))) (jX rfl (yD 101 hg1) rfl) (qn 13 (jJ (S8 (S4 (jD jI)))) (jX rfl (yD 101 hg1) rfl) (qn 14 (jJ (S8 (S4 (jD (jD jI))))) (jX rfl (yD 101 hg1) rfl) (qn 15 (jJ (S8 (S4 (jD (jD (jD jI)))))) (jX rfl (yD 101 hg1) rfl) (qn 16 (jJ (S8 (S8 jI))) (jX rfl (yD 101 hg1) rfl) (qn 17 (jJ (S8 (S8 (jD jI)))) (jX rfl (yD 101 hg1) rfl) (qn 18 (jJ (S8 (S8 (jD (jD jI))))) (jX rfl (yD 101 hg1) rfl) (qn 19 (jJ (S8 (S8 (jD (jD (jD jI)))))) (jX rfl (yD 101 hg1) rfl) (qn 20 (jJ (S8 (S8 (S4 jI)))) (jX rfl (yD 101 hg1) rfl) (qr 21 (vb false) (jJ (S8 (S8 (S4 (jD jI))))) (xF hg1) (wn (jN (kR (by kernel_rfl) (jB (jN (eg (q0 (vu r2) (q0 (vu r2) (ln (er (rs1 results28 ⟨r2,rfl,h⟩)))))))))))))))))))))
 refine cbr h ?_ ?_<;>intro h
 refine rg (qb (sc call30 (h.mono fun e w6 ⟨k,hk,h⟩=>have ⟨hs,hb⟩:=hk.hh hs hb;⟨_,k,?_⟩)))
 refine ln ⟨H,hm,hs,hb,h⟩
 refine jB (jN ⟨H,hm,hs,hb,h⟩)
 refine rg (q ?_)
 obtain ⟨b1,hv8,h⟩:=h
 refine q2 (vb b1) (x_bini (by kernel_rfl) (by kernel_rfl) hv8) (q ?_)
 obtain ⟨hg2,h⟩|⟨hg2,h⟩:=h.br
 refine sj4 78 hg2 (sm (sm (sm (sj 78 hg2 (q2 (vb true) (xT hg2) (ln ⟨true,H,hm,hs,hb,h⟩))))))
 refine qk 78 hg2 (qk 78 hg2 (qk 78 hg2 (qk 78 hg2 ?_)))
 obtain ⟨hg3,h⟩|⟨hg3,h⟩:=h.br
 refine qk 82 hg3 ?_
 obtain ⟨e2,hv7,h⟩:=h
 refine stq (v:=(.int .u8 e2)) (wy 82 hg3) (vX (by kernel_rfl) (by kernel_rfl) hv7) (qk 82 hg3 (stq (v:=(vb (e2 == 48))) (wy 78 hg2) (xT hg3) (q2 (vb (e2 == 48)) (xF hg2) (ln ⟨(e2 == 48),H,hm,hs,hb,h⟩))))
 refine sj3 82 hg3 (stq (v:=(vb false)) (wy 78 hg2) (xF hg3) (q2 (vb false) (xF hg2) (ln ⟨false,H,hm,hs,hb,h⟩)))
 refine jM ?_
 obtain ⟨I1,mu1,h0,hr⟩:=h
 refine kL (σ:=NP×World) (fun s ρ w=>w=s.2∧Has ρ [(0,(vp x1)),(3,(vi v2))]∧Hst w0 s.1 w s.1 w∧HB s.1 w []∧I1 s.1 s.2) (fun s=>mu1 s.2) (None,w0) ⟨rfl,hm,hs,hb,h0⟩ ?_
 rintro ⟨Hl1,wl1⟩ ρ w ⟨hw,hH,hs,hb,hI⟩
 dsimp only at hw hH hs hb;subst w
 have h:=hr Hl1 wl1 hs hI
 refine jQ hH (jA (jA (zW (by kernel_rfl) (by kernel_rfl) (by kernel_rfl) (by kernel_rfl) ?_)))
 intro w7 hw7
 have hs:Hst w0 Hl1 wl1 Hl1 w7:=by rw [hw7];exact hs.drew
 have hb:HB Hl1 w7 []:=by rw [hw7];exact hb.drew
 refine qq 0 (vp x1) Kp0 (qg 1 ?_)
 obtain ⟨a10,hp10,h⟩:=h
 refine sxQ Kp1 (jK rfl) rfl (xn hp10) (qq 2 (vp (some (a10.add 1))) Kp2 (qg 3 ?_))
 have ⟨h,hs⟩:=hs.hr (h w7)
 obtain ⟨v10,hv20,h⟩:=h
 refine sxQ Kp3 (jK rfl) rfl (xl (isAgg3 _) hv20) (qq 4 (vp x1) Kp4 (qg 5 ?_))
 obtain ⟨a11,hp11,h⟩:=h
 refine sxQ Kp5 (jK rfl) rfl (xn hp11) (qq 6 (vp (some a11)) Kp6 (qg 7 ?_))
 obtain ⟨v11,hv19,h⟩:=h
 refine sxQ Kp7 (jK rfl) rfl (xl (isAgg9 _) hv19) (qq 8 (vi (v11.size:Int)) Kp8 (qq 9 (vb (decide (v10<(v11.size:Int)))) Kp9 (qq 10 (vb (decide (v10<(v11.size:Int)))) (jJ (S8 (jD (jD jI)))) (qg 11 ?_))))
 obtain ⟨hg4,h⟩|⟨hg4,h⟩:=h.br
 refine sxQ (v:=(vp x1)) (jJ (S8 (jD (jD (jD jI))))) (wy 26 hg4) rfl (by kernel_rfl) (qg 12 ?_)
 obtain ⟨a12,hp12,h⟩:=h
 refine sxQ (jJ (S8 (S4 jI))) (wy 26 hg4) rfl (xn hp12) (qg 13 (sxQ (v:=(vp (some a12))) (jJ (S8 (S4 (jD jI)))) (wy 26 hg4) rfl (by kernel_rfl) (qg 14 ?_)))
 obtain ⟨v12,hv18,h⟩:=h
 refine sxQ (jJ (S8 (S4 (jD (jD jI))))) (wy 26 hg4) rfl (xl (isAgg9 _) hv18) (qg 15 (sxQ (v:=(vp x1)) (jJ (S8 (S4 (jD (jD (jD jI)))))) (wy 26 hg4) rfl (by kernel_rfl) (qg 16 ?_)))
 obtain ⟨a13,hp13,h⟩:=h
 refine sxQ (jJ (S8 (S8 jI))) (wy 26 hg4) rfl (xn hp13) (qg 17 (sxQ (v:=(vp (some (a13.add 1)))) (jJ (S8 (S8 (jD jI)))) (wy 26 hg4) rfl (by kernel_rfl) (qg 18 ?_)))
 obtain ⟨v13,hv17,h⟩:=h
 refine sxQ (jJ (S8 (S8 (jD (jD jI))))) (wy 26 hg4) rfl (xl (isAgg3 _) hv17) (qg 19 ?_)
 obtain ⟨e3,hv16,h⟩:=h
 refine sxQ (v:=(.int .u8 e3)) (jJ (S8 (S8 (jD (jD (jD jI)))))) (wy 26 hg4) rfl (vX (by kernel_rfl) (by kernel_rfl) hv16) (qg 20 (sxQ (v:=(vb (decide (e3≥48)))) (jJ (S8 (S8 (S4 jI)))) (wy 26 hg4) rfl (by kernel_rfl) (qr 21 (vb (decide (e3≥48))) (jJ (S8 (S8 (S4 (jD jI))))) (xT hg4) (qq 22 (vb (decide (e3≥48))) (jJ (S8 (S8 (S4 (jD (jD jI)))))) (qg 23 ?_)))))
 obtain ⟨hg5,h⟩|⟨hg5,h⟩:=h.br
 refine sxQ (v:=(vp x1)) (jJ (S8 (S8 (S4 (jD (jD (jD jI))))))) (wy 38 hg5) rfl (by kernel_rfl) (qg 24 ?_)
 obtain ⟨a14,hp14,h⟩:=h
 refine sxQ (jJ (S8 (S8 (S8 jI)))) (wy 38 hg5) rfl (xn hp14) (qg 25 (sxQ (v:=(vp (some a14))) (jJ (S8 (S8 (S8 (jD jI))))) (wy 38 hg5) rfl (by kernel_rfl) (qg 26 ?_)))
 obtain ⟨v14,hv15,h⟩:=h
 refine sxQ (jJ (S8 (S8 (S8 (jD (jD jI)))))) (wy 38 hg5) rfl (xl (isAgg9 _) hv15) (qg 27 (sxQ (v:=(vp x1)) (jJ (S8 (S8 (S8 (jD (jD (jD jI))))))) (wy 38 hg5) rfl (by kernel_rfl) (qg 28 ?_)))
 obtain ⟨a15,hp15,h⟩:=h
 refine sxQ (jJ (S8 (S8 (S8 (S4 jI))))) (wy 38 hg5) rfl (xn hp15) (qg 29 (sxQ (v:=(vp (some (a15.add 1)))) (jJ (S8 (S8 (S8 (S4 (jD jI)))))) (wy 38 hg5) rfl (by kernel_rfl) (qg 30 ?_)))
 obtain ⟨v15,hv14,h⟩:=h
 refine sxQ (jJ (S8 (S8 (S8 (S4 (jD (jD jI))))))) (wy 38 hg5) rfl (xl (isAgg3 _) hv14) (qg 31 ?_)
 obtain ⟨e4,hv13,h⟩:=h
 refine sxQ (v:=(.int .u8 e4)) (jJ (S8 (S8 (S8 (S4 (jD (jD (jD jI)))))))) (wy 38 hg5) rfl (vX (by kernel_rfl) (by kernel_rfl) hv13) (qg 32 (sxQ (v:=(vb (decide (e4≤57)))) (jJ (S8 (S8 (S8 (S8 jI))))) (wy 38 hg5) rfl (by kernel_rfl) (qr 33 (vb (decide (e4≤57))) (jJ (S8 (S8 (S8 (S8 (jD jI)))))) (xT hg5) (wn (jN (cbr h ?_ ?_))))))<;>intro h
 refine jB (jN (jM (rg (q (qm h fun a16 h=>q (ql (isAgg3 _) h fun v16 h=>q (qm h fun a17 h=>q (st2 (sizeOf3 _) hs hb h fun w8 hs hb h=>jC (uS (jN ⟨(Hl1,w8),⟨rfl,hm,hs,hb,h.1⟩,h.2⟩))))))))))
 refine zV (xG (xG (xE (jN ⟨Hl1,hm,hs,hb,h⟩))))
 refine jAL (jJ (S8 (S8 (S4 (jD (jD (jD jI))))))) (jX rfl (yD 38 hg5) rfl) (qn 24 (jJ (S8 (S8 (S8 jI)))) (jX rfl (yD 38 hg5) rfl) (qn 25 (jJ (S8 (S8 (S8 (jD jI))))) (jX rfl (yD 38 hg5) rfl) (qn 26 (jJ (S8 (S8 (S8 (jD (jD jI)))))) (jX rfl (yD 38 hg5) rfl) (qn 27 (jJ (S8 (S8 (S8 (jD (jD (jD jI))))))) (jX rfl (yD 38 hg5) rfl) (qn 28 (jJ (S8 (S8 (S8 (S4 jI))))) (jX rfl (yD 38 hg5) rfl) (qn 29 (jJ (S8 (S8 (S8 (S4 (jD jI)))))) (jX rfl (yD 38 hg5) rfl) (qn 30 (jJ (S8 (S8 (S8 (S4 (jD (jD jI))))))) (jX rfl (yD 38 hg5) rfl) (qn 31 (jJ (S8 (S8 (S8 (S4 (jD (jD (jD jI)))))))) (jX rfl (yD 38 hg5) rfl) (qn 32 (jJ (S8 (S8 (S8 (S8 jI))))) (jX rfl (yD 38 hg5) rfl) (qr 33 (vb false) (jJ (S8 (S8 (S8 (S8 (jD jI)))))) (xF hg5) (wn (jN (kR (by kernel_rfl) (zV (xG (xG (xE (jN ⟨Hl1,hm,hs,hb,h⟩))))))))))))))))))
 refine jAL (jJ (S8 (jD (jD (jD jI))))) (jX rfl (yD 26 hg4) rfl) (qn 12 (jJ (S8 (S4 jI))) (jX rfl (yD 26 hg4) rfl) (qn 13 (jJ (S8 (S4 (jD jI)))) (jX rfl (yD 26 hg4) rfl) (qn 14 (jJ (S8 (S4 (jD (jD jI))))) (jX rfl (yD 26 hg4) rfl) (qn 15 (jJ (S8 (S4 (jD (jD (jD jI)))))) (jX rfl (yD 26 hg4) rfl) (qn 16 (jJ (S8 (S8 jI))) (jX rfl (yD 26 hg4) rfl) (qn 17 (jJ (S8 (S8 (jD jI)))) (jX rfl (yD 26 hg4) rfl) (qn 18 (jJ (S8 (S8 (jD (jD jI))))) (jX rfl (yD 26 hg4) rfl) (qn 19 (jJ (S8 (S8 (jD (jD (jD jI)))))) (jX rfl (yD 26 hg4) rfl) (qn 20 (jJ (S8 (S8 (S4 jI)))) (jX rfl (yD 26 hg4) rfl) (qr 21 (vb false) (jJ (S8 (S8 (S4 (jD jI))))) (xF hg4) (qq 22 (vb false) (jJ (S8 (S8 (S4 (jD (jD jI)))))) (qn 23 (jJ (S8 (S8 (S4 (jD (jD (jD jI))))))) (jX rfl (yD (c:=false) 38 rfl) rfl) (qn 24 (jJ (S8 (S8 (S8 jI)))) (jX rfl (yD (c:=false) 38 rfl) rfl) (qn 25 (jJ (S8 (S8 (S8 (jD jI))))) (jX rfl (yD (c:=false) 38 rfl) rfl) (qn 26 (jJ (S8 (S8 (S8 (jD (jD jI)))))) (jX rfl (yD (c:=false) 38 rfl) rfl) (qn 27 (jJ (S8 (S8 (S8 (jD (jD (jD jI))))))) (jX rfl (yD (c:=false) 38 rfl) rfl) (qn 28 (jJ (S8 (S8 (S8 (S4 jI))))) (jX rfl (yD (c:=false) 38 rfl) rfl) (qn 29 (jJ (S8 (S8 (S8 (S4 (jD jI)))))) (jX rfl (yD (c:=false) 38 rfl) rfl) (qn 30 (jJ (S8 (S8 (S8 (S4 (jD (jD jI))))))) (jX rfl (yD (c:=false) 38 rfl) rfl) (qn 31 (jJ (S8 (S8 (S8 (S4 (jD (jD (jD jI)))))))) (jX rfl (yD (c:=false) 38 rfl) rfl) (qn 32 (jJ (S8 (S8 (S8 (S8 jI))))) (jX rfl (yD (c:=false) 38 rfl) rfl) (qq 33 (vb false) (jJ (S8 (S8 (S8 (S8 (jD jI)))))) (wn ?_)))))))))))))))))))))))
 refine jN (kR (by kernel_rfl) (zV (xG (xG (xE (jN ⟨Hl1,hm,hs,hb,h⟩))))))
def m_K_j3 (x1:Option Addr) (n1 x2 r3:Int) (H:NP) (w:World) (Kc2:Int→Int→NP→WP) (_K:Int→WP):Prop :=∃z1,(Go.binOp .shl 3 (vi n1) (vu 4)).run prog w=.ok (vi z1) w∧∃z2,(Go.binOp .or 3 (vi z1) (vi r3)).run prog w=.ok (vi z2) w∧∃a3,x1=some a3∧∃v2,w.cell? (a3.add 1)=some (vi v2)∧∃a4,x1=some a4∧jT w (a4.add 1)∧¬ H (a4.add 1).block∧∀w5,w5=w.setCell (a4.add 1) (vi (q6.wrap (v2+1)))→Kc2 z2 (q6.wrap (x2+1)) H w5
def m_K_l2 (x1:Option Addr) (from1 n1 x2:Int) (Hl1:NP) (wl1:World) (Kc2:Int→Int→NP→WP) (K:Int→WP):Prop :=Br (decide (x2<2)) (Calls prog 53 #[(vp x1)] wl1 (fun e w3=>∃r2:Int,e=.returned (.int .u8 r2)∧Kept Hl1 wl1 w3∧Calls prog 54 #[(vs (⟨#[48,49,50,51,52,53,54,55,56,57,97,98,99,100,101,102]⟩:ByteArray)),(.int .u8 r2)] w3 (fun e w4=>∃r3,e=.returned (vi r3)∧Kept Hl1 w3 w4∧Br (decide (r3<0)) (Calls prog 30 #[(vp x1),(vi 2),(vi from1)] w4 (fun e w6=>e=.returned (.tuple #[])∧Kept Hl1 w4 w6∧m_K_j3 x1 n1 x2 r3 Hl1 w6 Kc2 K)) (m_K_j3 x1 n1 x2 r3 Hl1 w4 Kc2 K)))) (∃C1:WP,C1 wl1.drew∧∀w7,w7=wl1.drew→∃a5,x1=some a5∧∃v3,w7.cell? (a5.add 2)=some (vi v3)∧Br (v3 == 0) (∃a6,x1=some a6∧∃v4,(∀w',C1 w'→w'.cell? a6=some (vs v4))∧∃a7,x1=some a7∧∃v5,(∀w',C1 w'→w'.cell? (a7.add 1)=some (vi v5))∧∃s1,(∀w',C1 w'→(Instr.sliceAt 9 (vs v4) (some (vi from1)) (some (vi v5)) none).run prog w'=.ok (vs s1) w')∧Calls prog 35 #[(.int .u8 (IntKind.u8.wrap n1))] w7 (fun e w8=>∃r4,e=.returned (vs r4)∧C1 w8∧Kept Hl1 w7 w8∧Br (!(decide (r4=s1))) (Calls prog 30 #[(vp x1),(vi 2),(vi from1)] w8 (fun e w9=>e=.returned (.tuple #[])∧Kept Hl1 w8 w9∧K (IntKind.u8.wrap n1) w9)) (K (IntKind.u8.wrap n1) w8))) (K (IntKind.u8.wrap n1) w7))
def m_K_j1 (x1:Option Addr) (from1:Int) (w0:World) (H:NP) (w:World) (K:Int→WP):Prop :=∃(I1:Int→Int→NP→WP) (mu1:Int→Int→World→Nat),I1 0 0 H w∧∀(n1 x2:Int) (Hl1:NP) (wl1:World),Hst w0 Hl1 wl1 Hl1 wl1→I1 n1 x2 Hl1 wl1→m_K_l2 x1 from1 n1 x2 Hl1 wl1 (fun y'0 y'1 H' w'=>I1 y'0 y'1 H' w'∧mu1 y'0 y'1 w'<mu1 n1 x2 wl1) K
def m_K (x1:Option Addr) (from1:Int) (w0:World) (K:Int→WP):Prop :=Calls prog 53 #[(vp x1)] w0 (fun e w1=>∃r1:Int,e=.returned (.int .u8 r1)∧Kept None w0 w1∧∃a1,x1=some a1∧∃v1,w1.cell? (a1.add 1)=some (vi v1)∧∃a2,x1=some a2∧jT w1 (a2.add 1)∧¬ None (a2.add 1).block∧∀w2,w2=w1.setCell (a2.add 1) (vi (q6.wrap (v1+1)))→∃a8,x1=some a8∧∃v6,w2.cell? (a8.add 2)=some (vi v6)∧Br (v6 != 0) (K 0 w2) (Br ((r1 == 34) || (r1 == 92)) (∀H2 w11,Hst w0 None w2 H2 w11→K r1 w11) (Br (r1 == 110) (∀H2 w11,Hst w0 None w2 H2 w11→K 10 w11) (Br (r1 != 120) (∀H2 w11,Hst w0 None w2 H2 w11→Calls prog 30 #[(vp x1),(vi 2),(vi from1)] w11 (fun e w13=>e=.returned (.tuple #[])∧Kept H2 w11 w13∧K 0 w13)) (∀H2 w11,Hst w0 None w2 H2 w11→m_K_j1 x1 from1 w0 H2 w11 K)))))
theorem w_K (x1 from1 w0 K) (h:m_K x1 from1 w0 K):
  Calls prog 56 #[(vp x1),(vi from1)] w0 (fun e w'=>∃r5:Int,e=.returned (.int .u8 r5)∧K r5 w'):=by
 refine cw (args:=[(vp x1),(vi from1)]) func56 ntmps56 ?_
 obtain ⟨hs,hb⟩:=st0 w0
 refine eg (q (ln (eg (q (sc call53 (h.mono fun e w1 ⟨r1,k,hk,h⟩=>have ⟨hs,hb⟩:=hk.hh hs hb;⟨_,k,?_⟩))))))
 refine q (ln (eg (q (qm h fun a1 h=>q (ql (isAgg3 _) h fun v1 h=>q (qm h fun a2 h=>q (st2 (sizeOf3 _) hs hb h fun w2 hs hb h=>ln (jA (zC (fun ρ w=>∃H:NP,Has ρ [(0,(vp x1)),(1,(vi from1))]∧Hst w0 H w H w∧HB H w []∧m_K_j1 x1 from1 w0 H w K) ?_ ?_)))))))))
 rintro ρ w ⟨H,hH,hs,hb,h⟩
 refine jQ hH (eg (q (ln (jA (eg (q (ln (jM ?_))))))))
 obtain ⟨I1,mu1,h0,hr⟩:=h
 refine kL (σ:=Int×Int×NP×World) (fun s ρ w=>w=s.2.2.2∧Has ρ [(0,(vp x1)),(1,(vi from1)),(6,(vi s.1)),(40,(vi s.2.1))]∧Hst w0 s.2.2.1 w s.2.2.1 w∧HB s.2.2.1 w []∧I1 s.1 s.2.1 s.2.2.1 s.2.2.2) (fun s=>mu1 s.1 s.2.1 s.2.2.2) (0,0,H,w) ⟨rfl,hm,hs,hb,h0⟩ ?_
 rintro ⟨n1,x2,Hl1,wl1⟩ ρ w ⟨hw,hH,hs,hb,hI⟩
 dsimp only at hw hH hs hb;subst w
 have h:=hr n1 x2 Hl1 wl1 hs hI
 refine jQ hH (eg (q (ln (jA (cbr h ?_ ?_)))))<;>intro h
 refine jB (jN (jA (jM (eg (q (sc call53 (h.mono fun e w3 ⟨r2,k,hk,h⟩=>have ⟨hs,hb⟩:=hk.hh hs hb;⟨_,k,?_⟩)))))))
 refine sc call54 (h.mono fun e w4 ⟨r3,k,hk,h⟩=>have ⟨hs,hb⟩:=hk.hh hs hb;⟨_,k,?_⟩)
 refine q (ln (jA (eg (qb (ln (zC (fun ρ w=>∃H:NP,Has ρ [(0,(vp x1)),(1,(vi from1)),(6,(vi n1)),(7,(vi r3)),(40,(vi x2))]∧Hst w0 H w H w∧HB H w []∧m_K_j3 x1 n1 x2 r3 H w (fun y'0 y'1 H' w'=>I1 y'0 y'1 H' w'∧mu1 y'0 y'1 w'<mu1 n1 x2 wl1) K) ?_ ?_))))))
 rintro ρ w ⟨H,hH,hs,hb,h⟩
 refine jQ hH (eg (q ?_))
 obtain ⟨z1,hv3,h⟩:=h
 refine q2 (vi z1) (uJ (by kernel_rfl) (by kernel_rfl) (by kernel_rfl) hv3) (q ?_)
 obtain ⟨z2,hv2,h⟩:=h
 refine q2 (vi z2) (uJ (by kernel_rfl) (by kernel_rfl) (by kernel_rfl) hv2) (q (ln (rg (q (qm h fun a3 h=>q (ql (isAgg3 _) h fun v2 h=>q (qm h fun a4 h=>q (st2 (sizeOf3 _) hs hb h fun w5 hs hb h=>jC (uS (jN (rg (qb (ln ⟨(z2,(q6.wrap (x2+1)),H,w5),⟨rfl,hm,hs,hb,h.1⟩,h.2⟩)))))))))))))
 refine cbr h ?_ ?_<;>intro h
 refine rg (qb (sc call30 (h.mono fun e w6 ⟨k,hk,h⟩=>have ⟨hs,hb⟩:=hk.hh hs hb;⟨_,k,?_⟩)))
 refine ln ⟨Hl1,hm,hs,hb,h⟩
 refine jB (jN ⟨Hl1,hm,hs,hb,h⟩)
 refine zV (xG (xG (xE (jN (jA (jA ?_))))))
 obtain ⟨C1,hC,h⟩:=h
 refine dr2 C1 [8] [] hC h hs hb fun w7 hs hb h=>?_
 have hs:=hs.here
 refine qx 0 (vp x1) Kp0 (qg 1 ?_)
 obtain ⟨a5,hp7,h⟩:=h
 refine sy Kp1 (fun _ _=>xn hp7) (qx 2 (vp (some (a5.add 2))) Kp2 (qg 3 ?_))
 obtain ⟨v3,hv7,h⟩:=h
 refine sye Kp3 (xl (isAgg30 _) hv7) (qx 4 (vb (v3 == 0)) Kp4 (qx 5 (vb (v3 == 0)) Kp5 (qg 6 ?_)))
 obtain ⟨hg1,h⟩|⟨hg1,h⟩:=h.br
 refine sz (v:=(vi n1)) Kp6 (wy 67 hg1) (fun _ _=>(by kernel_rfl)) (qw 7 (.int .u8 (IntKind.u8.wrap n1)) Kp7 (wy 67 hg1) (qw 9 (vp x1) Kp9 (wy 67 hg1) (qg 10 ?_)))
 obtain ⟨a6,hp8,h⟩:=h
 refine sz (jJ (S8 (jD (jD jI)))) (wy 67 hg1) (fun _ _=>xn hp8) (qw 11 (vp (some a6)) (jJ (S8 (jD (jD (jD jI))))) (wy 67 hg1) (qg 12 ?_))
 obtain ⟨v4,hv6,h⟩:=h
 refine sz (jJ (S8 (S4 jI))) (wy 67 hg1) (fun _ k=>xl (isAgg9 _) (hv6 _ k)) (qw 13 (vi from1) (jJ (S8 (S4 (jD jI)))) (wy 67 hg1) (qw 14 (vp x1) (jJ (S8 (S4 (jD (jD jI))))) (wy 67 hg1) (qg 15 ?_)))
 obtain ⟨a7,hp9,h⟩:=h
 refine sz (jJ (S8 (S4 (jD (jD (jD jI)))))) (wy 67 hg1) (fun _ _=>xn hp9) (qw 16 (vp (some (a7.add 1))) (jJ (S8 (S8 jI))) (wy 67 hg1) (qg 17 ?_))
 obtain ⟨v5,hv5,h⟩:=h
 refine sz (jJ (S8 (S8 (jD jI)))) (wy 67 hg1) (fun _ k=>xl (isAgg3 _) (hv5 _ k)) (qg 18 ?_)
 obtain ⟨s1,hv4,h⟩:=h
 refine sz (v:=(vs s1)) (jJ (S8 (S8 (jD (jD jI))))) (wy 67 hg1) (fun w' hw'=>(yF (by kernel_rfl) (by kernel_rfl) (by kernel_rfl) (by kernel_rfl) (hv4 w' hw'))) (lg 8 (jHY Kp8 (wy 67 hg1) (by kernel_rfl) (xc call35) (h.mono ?_)))
 rintro e w8 ⟨r4,rfl,hC,hk,h⟩
 refine ⟨_,rfl,.inr hC,?_⟩
 obtain ⟨hs,hb⟩:=hk.hh hs hb
 refine qg 19 (sz (v:=(vb (!(decide (r4=s1))))) (jJ (S8 (S8 (jD (jD (jD jI)))))) (wy 67 hg1) (fun _ _=>(yX (by kernel_rfl) (by kernel_rfl))) (qz 20 (vb (!(decide (r4=s1)))) (jJ (S8 (S8 (S4 jI)))) (fun _ _=>(xT hg1)) (wn (jN (cbr h ?_ ?_)))))<;>intro h
 refine rg (qb (sc call30 (h.mono fun e w9 ⟨k,hk,h⟩=>have ⟨hs,hb⟩:=hk.hh hs hb;⟨_,k,?_⟩)))
 refine ln (eg (qc (ln (er (rs1 results56 ⟨(IntKind.u8.wrap n1),rfl,h⟩)))))
 refine jB (jN (eg (qc (ln (er (rs1 results56 ⟨(IntKind.u8.wrap n1),rfl,h⟩))))))
 refine jAL Kp6 (jX rfl (yD 67 hg1) rfl) (qn 7 Kp7 (jX rfl (yD 67 hg1) rfl) (qn 9 Kp9 (jX rfl (yD 67 hg1) rfl) (qn 10 (jJ (S8 (jD (jD jI)))) (jX rfl (yD 67 hg1) rfl) (qn 11 (jJ (S8 (jD (jD (jD jI))))) (jX rfl (yD 67 hg1) rfl) (qn 12 (jJ (S8 (S4 jI))) (jX rfl (yD 67 hg1) rfl) (qn 13 (jJ (S8 (S4 (jD jI)))) (jX rfl (yD 67 hg1) rfl) (qn 14 (jJ (S8 (S4 (jD (jD jI))))) (jX rfl (yD 67 hg1) rfl) (qn 15 (jJ (S8 (S4 (jD (jD (jD jI)))))) (jX rfl (yD 67 hg1) rfl) (qn 16 (jJ (S8 (S8 jI))) (jX rfl (yD 67 hg1) rfl) (qn 17 (jJ (S8 (S8 (jD jI)))) (jX rfl (yD 67 hg1) rfl) (qn 18 (jJ (S8 (S8 (jD (jD jI))))) (jX rfl (yD 67 hg1) rfl) (lg 8 (jAL Kp8 (jX rfl (yD 67 hg1) rfl) (qn 19 (jJ (S8 (S8 (jD (jD (jD jI)))))) (jX rfl (yD 67 hg1) rfl) (qz 20 (vb false) (jJ (S8 (S8 (S4 jI)))) (fun _ _=>(xF hg1)) (wn (jN (kR (by kernel_rfl) (jB (jN (eg (q0 (vi n1) (qb (ln (er (rs1 results56 ⟨(IntKind.u8.wrap n1),rfl,h⟩))))))))))))))))))))))))))
 refine jM (eg (q (qm h fun a8 h=>q (ql (isAgg30 _) h fun v6 h=>qb (ln (cbr h ?_ ?_))))))<;>intro h
 refine eg (q (ln (er (qJ (zM (rs1 results56 ⟨0,rfl,h⟩))))))
 refine jA (vJ (fun ρ wJ=>∃HJ:NP,Hst w0 None w2 HJ wJ∧HB HJ wJ []∧Has ρ [(0,(vp x1)),(1,(vi from1)),(5,(.int .u8 r1)),(23,(vb ((r1 == 34) || (r1 == 92))))]) ?_ ?_)
 refine rg (qc (jU 3 (fun ρ wJ=>∃b3'0:Bool,∃HJ:NP,((r1 == 34)=b3'0)∧Hst w0 None w2 HJ wJ∧HB HJ wJ []∧Has ρ [(0,(vp x1)),(1,(vi from1)),(5,(.int .u8 r1)),(29,(vb (b3'0 || (r1 == 92))))]) ?_ ?_))
 rintro ρ w12 ⟨b3'0,H3,he0,hs,hb,hH⟩
 subst he0
 refine zB hH (q (ln ⟨_,hs,hb,hm⟩))
 rcases bte (r1 == 34) with hg5 | hg5
 refine sj2 26 hg5 (q2 (vb true) (xT hg5) (jC ⟨true,_,hg5,hs,hb,hm⟩))
 refine qk 26 hg5 (qk 26 hg5 (q2 (vb (r1 == 92)) (xF hg5) (jC ⟨false,_,hg5,hs,hb,hm⟩)))
 rintro ρ w11 ⟨H2,hs,hb,hH⟩
 refine kM hH (jN (cbr h ?_ ?_))<;>intro h
 refine eg (qb (ln (er (qJ (zM ?_)))))
 have ⟨h,hs⟩:=hs.hr (h H2 w11)
 refine rs1 results56 ⟨r1,rfl,h⟩
 refine eg (qc (ln (cbr h ?_ ?_)))<;>intro h
 refine eg (q (ln (er (qJ (zM ?_)))))
 have ⟨h,hs⟩:=hs.hr (h H2 w11)
 refine rs1 results56 ⟨10,rfl,h⟩
 refine eg (qc (ln (cbr h ?_ ?_)))<;>intro h
 refine eg (qb ?_)
 have ⟨h,hs⟩:=hs.hr (h H2 w11)
 refine sc call30 (h.mono fun e w13 ⟨k,hk,h⟩=>have ⟨hs,hb⟩:=hk.hh hs hb;⟨_,k,?_⟩)
 refine ln (eg (q (ln (er (qJ (zM (rs1 results56 ⟨0,rfl,h⟩)))))))
 refine jB (uS ?_)
 have ⟨h,hs⟩:=hs.hr (h H2 w11)
 refine jN ⟨H2,hm,hs,hb,h⟩
def m_I1_l1 (x1:Option Addr) (v1:Int) (b1:Sl) (wl1:World) (Kc1:Sl→WP) (K:ByteArray→WP):Prop :=∃a2,x1=some a2∧∃v2,wl1.cell? (a2.add 2)=some (vi v2)∧Br (v2 == 0) (∃a3,x1=some a3∧∃v3,wl1.cell? (a3.add 1)=some (vi v3)∧Calls prog 53 #[(vp x1)] wl1 (fun e w2=>∃r2:Int,e=.returned (.int .u8 r2)∧∃a4,x1=some a4∧∃v4,w2.cell? (a4.add 1)=some (vi v4)∧∃a5,x1=some a5∧jT w2 (a5.add 1)∧∀w3,w3=w2.setCell (a5.add 1) (vi (q6.wrap (v4+1)))→∃a6,x1=some a6∧∃v5,w3.cell? (a6.add 2)=some (vi v5)∧Br (v5 != 0) (Kc1 b1 w3) (Br (r2 == 34) (Br (decide ((b1.len:Int)>64)) (Calls prog 30 #[(vp x1),(vi 1),(vi v1)] w3 (fun e w4=>e=.returned (.tuple #[])∧∃c1,(convert 25 9 b1.v).run prog w4=.ok (vs c1) w4∧K c1 w4)) (∃c2,(convert 25 9 b1.v).run prog w3=.ok (vs c2) w3∧K c2 w3)) (Br (r2 == 92) (Calls prog 56 #[(vp x1),(vi v3)] w3 (fun e w5=>∃r3:Int,e=.returned (.int .u8 r3)∧∀p1 w6,New w5 (.cells #[(.int .u8 r3)] 5) p1 w6→∃s1:Sl,∃w7:World,(Builtin.append_ #[25,25] 25 #[b1.v,(Sl.mk (some p1) 1 1).v]).run prog w6=.ok s1.v w7∧Kc1 s1 w7)) (Br ((decide (r2<32)) || (decide (r2>126))) (Calls prog 30 #[(vp x1),(vi 2),(vi v3)] w3 (fun e w11=>e=.returned (.tuple #[])∧Kc1 b1 w11)) (∀p2 w12,New w3 (.cells #[(.int .u8 r2)] 5) p2 w12→∃s2:Sl,∃w13:World,(Builtin.append_ #[25,25] 25 #[b1.v,(Sl.mk (some p2) 1 1).v]).run prog w12=.ok s2.v w13∧Kc1 s2 w13)))))) (K ⟨#[]⟩ wl1)
def m_I1 (x1:Option Addr) (w0:World) (K:ByteArray→WP):Prop :=∃a1,x1=some a1∧∃v1,w0.cell? (a1.add 1)=some (vi v1)∧Calls prog 27 #[(vp x1),(vs (⟨#[34]⟩:ByteArray))] w0 (fun e w1=>∃r1:Int,e=.returned (.int .u8 r1)∧∃(I1:Sl→WP) (mu1:Sl→World→Nat),I1 Sl.nil w1∧∀(b1:Sl) (wl1:World),I1 b1 wl1→m_I1_l1 x1 v1 b1 wl1 (fun y'0 w'=>I1 y'0 w'∧mu1 y'0 w'<mu1 b1 wl1) K)
theorem w_I1 (x1 w0 K) (h:m_I1 x1 w0 K):
  Calls prog 29 #[(vp x1)] w0 (fun e w'=>∃r4,e=.returned (vs r4)∧K r4 w'):=by
 refine cw (args:=[(vp x1)]) func29 ntmps29 (eg (q0 ve (ln (eg (q0 (vp x1) ?_)))))
 refine qm h fun a1 h=>q (ql (isAgg3 _) h fun v1 h=>q (ln (eg (q (sc call27 (h.mono fun e w1 ⟨r1,k,h⟩=>⟨_,k,?_⟩))))))
 refine ln (eg (q (ln (jA (jM ?_)))))
 obtain ⟨I1,mu1,h0,hr⟩:=h
 refine kL (σ:=Sl×World) (fun s ρ w=>w=s.2∧Has ρ [(0,(vp x1)),(3,(vi v1)),(4,s.1.v)]∧I1 s.1 s.2) (fun s=>mu1 s.1 s.2) (Sl.nil,w1) ⟨rfl,hm,h0⟩ ?_
 rintro ⟨b1,wl1⟩ ρ w ⟨hw,hH,hI⟩
 dsimp only at hw hH;subst w
 have h:=hr b1 wl1 hI
 refine jQ hH (jA (eg (q (qm h fun a2 h=>q (ql (isAgg30 _) h fun v2 h=>q (ln (cbr h ?_ ?_)))))))<;>intro h
 refine jB (jN (jM (eg (q (qm h fun a3 h=>q (ql (isAgg3 _) h fun v3 h=>q (ln (eg (q (sc call53 (h.mono fun e w2 ⟨r2,k,h⟩=>⟨_,k,?_⟩)))))))))))
 refine q (ln (eg (q (qm h fun a4 h=>q (ql (isAgg3 _) h fun v4 h=>q (qm h fun a5 h=>q (st1 (sizeOf3 _) h fun w3 h=>ln (jM (eg (q (qm h fun a6 h=>q (ql (isAgg30 _) h fun v5 h=>qb (ln (cbr h ?_ ?_))))))))))))))<;>intro h
 refine jB (uS (uS (jN ⟨(b1,w3),⟨rfl,hm,h.1⟩,h.2⟩)))
 refine eg (qc (ln (cbr h ?_ ?_)))<;>intro h
 refine jA (eg (qc (ln (cbr h ?_ ?_))))<;>intro h
 refine rg (qb (sc call30 (h.mono fun e w4 ⟨k,h⟩=>⟨_,k,?_⟩)))
 refine ln (eg (q ?_))
 obtain ⟨c1,hv1,h⟩:=h
 refine q2 (vs c1) (qS (by kernel_rfl) hv1) (q (ln (er (qJ (qJ (zM (qJ (zM (rs1 results29 ⟨c1,rfl,h⟩)))))))))
 refine jB (jN (eg (q ?_)))
 obtain ⟨c2,hv2,h⟩:=h
 refine q2 (vs c2) (qS (by kernel_rfl) hv2) (q (ln (er (qJ (qJ (zM (qJ (zM (rs1 results29 ⟨c2,rfl,h⟩)))))))))
 refine eg (qc (ln (cbr h ?_ ?_)))<;>intro h
 refine rg (qc (sc call56 (h.mono fun e w5 ⟨r3,k,h⟩=>⟨_,k,?_⟩)))
 refine nw4 (fun p=>(Sl.mk (some p) 1 1).v) h fun p1 w6 h=>?_
 obtain ⟨s1,w7,hv3,h⟩:=h
 refine st (v:=s1.v) (jK rfl) (kB (args:=#[b1.v,(Sl.mk (some p1) 1 1).v]) (by kernel_rfl) (fun _=>rfl) hv3) (q0 s1.v (jC (uS (uS (jN ⟨(s1,w7),⟨rfl,hm,h.1⟩,h.2⟩)))))
 refine jA (vJ (fun ρ wJ=>w3=wJ∧Has ρ [(0,(vp x1)),(3,(vi v1)),(4,b1.v),(5,(vi v3)),(6,(.int .u8 r2)),(61,(vb ((decide (r2<32)) || (decide (r2>126)))))]) ?_ ?_)
 refine rg (qc (jU 3 (fun ρ wJ=>∃b4'0:Bool,((decide (r2<32))=b4'0)∧w3=wJ∧Has ρ [(0,(vp x1)),(3,(vi v1)),(4,b1.v),(5,(vi v3)),(6,(.int .u8 r2)),(67,(vb (b4'0 || (decide (r2>126)))))]) ?_ ?_))
 rintro ρ w10 ⟨b4'0,he0,hw,hH⟩
 subst he0
 subst hw
 refine zB hH (q (ln ⟨rfl,hm⟩))
 rcases bte (decide (r2<32)) with hg4 | hg4
 refine sj2 64 hg4 (q2 (vb true) (xT hg4) (jC ⟨true,hg4,rfl,hm⟩))
 refine qk 64 hg4 (qk 64 hg4 (q2 (vb (decide (r2>126))) (xF hg4) (jC ⟨false,hg4,rfl,hm⟩)))
 rintro ρ w9 ⟨hw,hH⟩
 subst hw
 refine kM hH (jN (cbr h ?_ ?_))<;>intro h
 refine rg (qb (sc call30 (h.mono fun e w11 ⟨k,h⟩=>⟨_,k,?_⟩)))
 refine jC (uS (uS (jN ⟨(b1,w11),⟨rfl,hm,h.1⟩,h.2⟩)))
 refine rg (qb (nw4 (fun p=>(Sl.mk (some p) 1 1).v) h fun p2 w12 h=>?_))
 obtain ⟨s2,w13,hv4,h⟩:=h
 refine st (v:=s2.v) (jK rfl) (kB (args:=#[b1.v,(Sl.mk (some p2) 1 1).v]) (by kernel_rfl) (fun _=>rfl) hv4) (q0 s2.v (jC (uS (uS (jN ⟨(s2,w13),⟨rfl,hm,h.1⟩,h.2⟩)))))
 refine zV (xG (xG (xE (jN (eg (q0 ve (ln (er (rs1 results29 ⟨⟨#[]⟩,rfl,h⟩)))))))))
def m_E_j5 (p1 p2:Addr) (aA aB aC:Int) (aD:ByteArray) (aE:Bool) (H:NP) (w:World) (K:Int→Int→Int→ByteArray→Bool→Int→Int→WP):Prop :=∃v3,w.cell? (p2.add 2)=some (vi v3)∧Br (v3 != 0) (∃C1:WP,C1 w.drew∧∀w9,w9=w.drew→∃v4,(∀w',C1 w'→w'.cell? (p2.add 2)=some (vi v4))∧∃v5,(∀w',C1 w'→w'.cell? (p2.add 3)=some (vi v5))∧(∀j,j<5→jT w9 (p1.add j))∧¬ H p1.block∧∀w10,w10=storeRow w9 p1 (Ag 0 0 0 false)→C1 w10∧∃aJ aK aL aM aN,Row w10 p1 (Aa aJ aK aL aM aN)∧K aJ aK aL aM aN v4 v5 w10) ((∀j,j<5→jT w (p1.add j))∧¬ H p1.block∧∀w11,w11=storeRow w p1 (Aa aA aB aC aD aE)→∃aO aP aQ aR aS,Row w11 p1 (Aa aO aP aQ aR aS)∧K aO aP aQ aR aS 0 0 w11)
def m_E_j4 (p1 p2:Addr) (aA aB aC:Int) (aD:ByteArray) (aE x1:Bool) (H:NP) (w:World) (K:Int→Int→Int→ByteArray→Bool→Int→Int→WP):Prop :=Br x1 (∃v6,w.cell? (p2.add 1)=some (vi v6)∧Calls prog 30 #[(vp (some p2)),(vi 4),(vi v6)] w (fun e w12=>e=.returned (.tuple #[])∧Kept H w w12∧m_E_j5 p1 p2 aA aB aC aD aE H w12 K)) (m_E_j5 p1 p2 aA aB aC aD aE H w K)
def m_E_j3 (s1:ByteArray) (p1 p2:Addr) (aA aB aC:Int) (aD:ByteArray) (aE:Bool) (H:NP) (w:World) (K:Int→Int→Int→ByteArray→Bool→Int→Int→WP):Prop :=∃v7,w.cell? (p2.add 2)=some (vi v7)∧Br (v7 == 0) (∃v8,w.cell? (p2.add 1)=some (vi v8)∧m_E_j4 p1 p2 aA aB aC aD aE (decide (v8<(s1.size:Int))) H w K) (m_E_j4 p1 p2 aA aB aC aD aE false H w K)
def m_E_j2 (s1:ByteArray) (p1 p2 a1:Addr) (aF aG aT:Int) (aI:ByteArray) (aH:Bool) (w0:World) (H:NP) (w:World) (K:Int→Int→Int→ByteArray→Bool→Int→Int→WP):Prop :=Calls prog 28 #[(vp (some p2))] w (fun e w7=>∃r3,e=.returned (vu r3)∧Kept H w w7∧∀w8,Hst w0 H w7 H w8→∃v2,w8.cell? (a1.add 1)=some (vb v2)∧Br v2 (Calls prog 27 #[(vp (some p2)),(vs (⟨#[32]⟩:ByteArray))] w8 (fun e w13=>∃r4:Int,e=.returned (.int .u8 r4)∧Kept H w8 w13∧Calls prog 29 #[(vp (some p2))] w13 (fun e w14=>∃r5,e=.returned (vs r5)∧Kept H w13 w14∧∀w15,Hst w0 H w14 H w15→m_E_j3 s1 p1 p2 aF aG r3 r5 aH H w15 K))) (m_E_j3 s1 p1 p2 aF aG r3 aI aH H w8 K))
def m_E_j1 (s1:ByteArray) (p1 p2:Addr) (r1:Int) (r2:Bool) (a1:Addr) (w0:World) (H:NP) (w:World) (K:Int→Int→Int→ByteArray→Bool→Int→Int→WP):Prop :=∃v1,w.cell? a1=some (vb v1)∧Br v1 (Calls prog 27 #[(vp (some p2)),(vs (⟨#[48,49]⟩:ByteArray))] w (fun e w16=>∃r6:Int,e=.returned (.int .u8 r6)∧Kept H w w16∧∀w17,Hst w0 H w16 H w17→Calls prog 27 #[(vp (some p2)),(vs (⟨#[32]⟩:ByteArray))] w17 (fun e w18=>∃r7:Int,e=.returned (.int .u8 r7)∧Kept H w17 w18∧m_E_j2 s1 p1 p2 a1 r1 (q6.wrap ((q6.wrap r6) - 48)) 0 ⟨#[]⟩ r2 w0 H w18 K))) (m_E_j2 s1 p1 p2 a1 r1 0 0 ⟨#[]⟩ r2 w0 H w K)
def m_E (s1:ByteArray) (w0:World) (K:Int→Int→Int→ByteArray→Bool→Int→Int→WP):Prop :=∀p1 w1,New w0 (.cells #[(vi 0),(vi 0),(vu 0),ve,(vb false)] 24) p1 w1→∀p2 w2,New w1 (.cells #[(vs s1),(vi 0),(vi 0),(vi 0)] 72) p2 w2→∀H1 w3,Hst w0 None w2 H1 w3→Calls prog 25 #[(vp (some p2))] w3 (fun e w4=>∃r1 r2,e=.returned (.tuple #[(vi r1),(vb r2)])∧Kept H1 w3 w4∧∀w6,Hst w0 H1 w4 H1 w6→∃C2:WP,C2 w6.drew∧∀w19,w19=w6.drew→(Calls prog 26 #[] w19 (fun e w20=>∃r8:Array Value,e=.returned (.agg r8)∧C2 w20∧Kept H1 w19 w20∧∃efrom1 etext1 efake1 eword1,(∀w',C2 w'→(Instr.index 77 (.agg r8) (vi r1)).run prog w'=.ok (.agg #[(vb efrom1),(vb etext1),(vb efake1),(vs eword1)]) w')∧∀p4 w21,New w20 (.cells #[(vb false),(vb false),(vb false),ve] 76) p4 w21→C2 w21∧(∀j,j<4→jT w21 (p4.add j))∧¬ H1 p4.block∧∀w22,w22=storeRow w21 p4 (Ak efrom1 etext1 efake1 eword1)→m_E_j1 s1 p1 p2 r1 r2 p4 w0 H1 w22 K))∧(∀p5 w23,New w19 (.cells #[(vb false),(vb false),(vb false),ve] 76) p5 w23→C2 w23∧Calls prog 26 #[] w23 (fun e w24=>∃r9:Array Value,e=.returned (.agg r9)∧C2 w24∧Kept H1 w23 w24∧∃efrom2 etext2 efake2 eword2,(∀w',C2 w'→(Instr.index 77 (.agg r9) (vi r1)).run prog w'=.ok (.agg #[(vb efrom2),(vb etext2),(vb efake2),(vs eword2)]) w')∧(∀j,j<4→jT w24 (p5.add j))∧¬ H1 p5.block∧∀w25,w25=storeRow w24 p5 (Ak efrom2 etext2 efake2 eword2)→m_E_j1 s1 p1 p2 r1 r2 p5 w0 H1 w25 K)))
theorem w_E (s1 w0 K) (h:m_E s1 w0 K):
  Calls prog 11 #[(vs s1)] w0 (fun e w'=>∃aU aV aW aX aY r10 r11,e=.returned (.tuple #[(Ac aU aV aW aX aY),(vi r10),(vi r11)])∧K aU aV aW aX aY r10 r11 w'):=by
 refine cw (args:=[(vs s1)]) func11 ntmps11 ?_
 obtain ⟨hs,hb⟩:=st0 w0
 refine eg (nw2 hs hb h (jG (zeroValue24 _) rfl) fun p1 w1 hs hb h=>qb (ln (eg (qb (nw2 hs hb h xb fun p2 w2 hs hb h=>q (ln (eg (nw3 (Ag 0 0 0 false) 24 hs hb (jG (zeroValue24 _) rfl) fun p3 w3 H1 hs hb=>ln (eg (q ?_))))))))))
 have ⟨h,hs⟩:=hs.hr (h H1 w3)
 refine sc call25 (h.mono fun e w4 ⟨r1,r2,k,hk,h⟩=>have ⟨hs,hb⟩:=hk.hh hs hb;⟨_,k,?_⟩)
 refine qd (qG (jK rfl) (qV (a:=p3) (v:=(vi r1)) (by kernel_rfl) (by kernel_rfl) rfl (sizeOf3 _) (hb.canW0 0 gZ (by kernel_rfl))) ?_)
 intro w5 hn2
 have hsb:Hst w0 H1 w4 H1 w5∧HB H1 w5 [(p3,(Ag r1 0 0 false),24)]:=by
  rw [hn2];exact hb.set0 (i:=0) (v:=(vi r1)) hs gZ (by kernel_rfl)
 obtain ⟨hs,hb⟩:=hsb
 refine q (qG (jK rfl) (qV (a:=(p3.add 4)) (v:=(vb r2)) (by kernel_rfl) (by kernel_rfl) rfl (sizeOf4 _) (hb.canW 0 4 gZ (by kernel_rfl))) ?_)
 intro w6 hn3
 have hsb:Hst w0 H1 w4 H1 w6∧HB H1 w6 [(p3,(Ag r1 0 0 r2),24)]:=by
  rw [hn3];exact hb.set (i:=0) 4 (v:=(vb r2)) hs gZ (by kernel_rfl)
 obtain ⟨hs,hb⟩:=hsb
 refine ln (jA (zC (fun ρ w=>∃a1:Addr,∃H:NP,Has ρ [(0,(vs s1)),(2,(vp (some p1))),(5,(vp (some p2))),(6,(vp (some p3))),(7,(vp (some a1)))]∧Hst w0 H w H w∧HB H w [(p3,(Ag r1 0 0 r2),24)]∧m_E_j1 s1 p1 p2 r1 r2 a1 w0 H w K) ?_ ?_))
 rintro ρ w ⟨a1,H,hH,hs,hb,h⟩
 refine jQ hH (jA (eg (q (ql (isAgg4 _) h fun v1 h=>ln (zC (fun ρ w=>∃aF aG aT aI aH,∃H:NP,Has ρ [(0,(vs s1)),(2,(vp (some p1))),(5,(vp (some p2))),(6,(vp (some p3))),(7,(vp (some a1)))]∧Hst w0 H w H w∧HB H w [(p3,(Aa aF aG aT aI aH),24)]∧m_E_j2 s1 p1 p2 a1 aF aG aT aI aH w0 H w K) ?_ ?_)))))
 rintro ρ w ⟨aF,aG,aT,aI,aH,H,hH,hs,hb,h⟩
 refine jQ hH (eg (q (sc call28 (h.mono fun e w7 ⟨r3,k,hk,h⟩=>have ⟨hs,hb⟩:=hk.hh hs hb;⟨_,k,?_⟩))))
 refine q (qG (jK rfl) (qV (a:=(p3.add 2)) (v:=(vu r3)) (by kernel_rfl) (by kernel_rfl) rfl (sizeOf22 _) (hb.canW 0 2 gZ (by kernel_rfl))) ?_)
 intro w8 hn4
 have hsb:Hst w0 H w7 H w8∧HB H w8 [(p3,(Aa aF aG r3 aI aH),24)]:=by
  rw [hn4];exact hb.set (i:=0) 2 (v:=(vu r3)) hs gZ (by kernel_rfl)
 obtain ⟨hs,hb⟩:=hsb
 refine ln (jA (eg (q ?_)))
 have ⟨h,hs⟩:=hs.hr (h w8)
 refine ql (isAgg4 _) h fun v2 h=>ln (zC (fun ρ w=>∃aA aB aC aD aE,∃H:NP,Has ρ [(0,(vs s1)),(2,(vp (some p1))),(5,(vp (some p2))),(6,(vp (some p3)))]∧Hst w0 H w H w∧HB H w [(p3,(Aa aA aB aC aD aE),24)]∧m_E_j3 s1 p1 p2 aA aB aC aD aE H w K) ?_ ?_)
 rintro ρ w ⟨aA,aB,aC,aD,aE,H,hH,hs,hb,h⟩
 refine jQ hH (jA (jA (zC (fun ρ w=>∃x1,∃H:NP,Has ρ [(2,(vp (some p1))),(5,(vp (some p2))),(6,(vp (some p3))),(54,(vb x1))]∧Hst w0 H w H w∧HB H w [(p3,(Aa aA aB aC aD aE),24)]∧m_E_j4 p1 p2 aA aB aC aD aE x1 H w K) ?_ ?_)))
 rintro ρ w ⟨x1,H,hH,hs,hb,h⟩
 refine jQ hH (zC (fun ρ w=>∃H:NP,Has ρ [(2,(vp (some p1))),(5,(vp (some p2))),(6,(vp (some p3)))]∧Hst w0 H w H w∧HB H w [(p3,(Aa aA aB aC aD aE),24)]∧m_E_j5 p1 p2 aA aB aC aD aE H w K) ?_ ?_)
 rintro ρ w ⟨H,hH,hs,hb,h⟩
 refine jQ hH (jA (eg (qc (ql (isAgg30 _) h fun v3 h=>q (ln (cbr h ?_ ?_))))))<;>intro h
 refine jA ?_
 obtain ⟨C1,hC,h⟩:=h
 refine dr2 (fun x=>C1 x∧HB H x _) [9] [] ⟨hC,hb.drew⟩ h hs hb fun w9 hs hb h=>?_
 have hs:=hs.here
 refine qx 0 (.agg #[(vi 0),(vi 0),(vu 0),ve,(vb false)]) Kp0 (qx 1 (vp (some p2)) Kp1 (qx 2 (vp (some p2)) Kp2 (qx 3 (vp (some (p2.add 2))) Kp3 (qg 4 ?_))))
 obtain ⟨v4,hv3,h⟩:=h
 refine sy Kp4 (fun _ k=>xl (isAgg30 _) (hv3 _ k.1)) (qx 5 (vp (some p2)) Kp5 (qx 6 (vp (some p2)) Kp6 (qx 7 (vp (some (p2.add 3))) Kp7 (qg 8 ?_))))
 obtain ⟨v5,hv2,h⟩:=h
 refine sy Kp8 (fun _ k=>xl (isAgg3 _) (hv2 _ k.1)) (lg 9 ?_)
 obtain ⟨hp1,hnh,h⟩:=h
 refine yZ Kp9 (jK rfl) (by kernel_rfl) (xo p1 (Ag 0 0 0 false) (sizeOf24 _) hp1) ?_
 intro w10 hn5
 have h:=h w10 hn5
 refine ⟨.inr ⟨h.1,hb.kept (by rw [hn5];exact Kept.storeRow hnh)⟩,?_⟩
 have h:=h.2
 have hk:Kept H w9 w10:=by rw [hn5];exact Kept.storeRow hnh
 obtain ⟨hs,hb⟩:=hk.hh hs hb
 refine qx 10 (vi v4) (jJ (S8 (jD (jD jI)))) (qx 11 (vi v5) (jJ (S8 (jD (jD (jD jI))))) (wn (jN (er (zM ?_)))))
 obtain ⟨aJ,aK,aL,aM,aN,hv1,h⟩:=h
 refine jEM (.inl rfl) (vs:=[(Ac aJ aK aL aM aN),(vi v4),(vi v5)]) (v:=(.tuple #[(Ac aJ aK aL aM aN),(vi v4),(vi v5)])) results11 ⟨(rva (isAgg24 _) (sizeOf24 _) hv1),(rvT (by kernel_rfl)),(rvT (by kernel_rfl)),trivial⟩ (by kernel_rfl) ⟨aJ,aK,aL,aM,aN,v4,v5,rfl,h⟩
 refine jB (jN (eg (q2 (Ac aA aB aC aD aE) (xa p3 (Aa aA aB aC aD aE) (isAgg24 _) (sizeOf24 _) (hb.r0 0 5 gZ)) ?_)))
 obtain ⟨hp2,hnh,h⟩:=h
 refine ss (xo p1 (Aa aA aB aC aD aE) (sizeOf24 _) hp2) ?_
 intro w11 hn6
 have h:=h w11 hn6
 have hk:Kept H w w11:=by rw [hn6];exact Kept.storeRow hnh
 obtain ⟨hs,hb⟩:=hk.hh hs hb
 refine qb (ln (er ?_))
 obtain ⟨aO,aP,aQ,aR,aS,hv4,h⟩:=h
 refine jEM (.inl rfl) (vs:=[(Ac aO aP aQ aR aS),(vi 0),(vi 0)]) (v:=(.tuple #[(Ac aO aP aQ aR aS),(vi 0),(vi 0)])) results11 ⟨(rva (isAgg24 _) (sizeOf24 _) hv4),(rvT (by kernel_rfl)),(rvT (by kernel_rfl)),trivial⟩ (by kernel_rfl) ⟨aO,aP,aQ,aR,aS,0,0,rfl,h⟩
 refine cbr h ?_ ?_<;>intro h
 refine rg (qd (ql (isAgg3 _) h fun v6 h=>sc call30 (h.mono fun e w12 ⟨k,hk,h⟩=>have ⟨hs,hb⟩:=hk.hh hs hb;⟨_,k,?_⟩)))
 refine ln ⟨H,hm,hs,hb,h⟩
 refine jB (jN ⟨H,hm,hs,hb,h⟩)
 refine rg (qc (ql (isAgg30 _) h fun v7 h=>qb ?_))
 obtain ⟨hg1,h⟩|⟨hg1,h⟩:=h.br
 refine qk 46 hg1 (qk 46 hg1 (qk 46 hg1 ?_))
 obtain ⟨v8,hv7,h⟩:=h
 refine q4 46 hg1 (xl (isAgg3 _) hv7) (qk 46 hg1 (qk 46 hg1 (qk 46 hg1 (q2 (vb (decide (v8<(s1.size:Int)))) (xT hg1) (ln ⟨(decide (v8<(s1.size:Int))),H,hm,hs,hb,h⟩)))))
 refine sj2 46 hg1 (sj5 46 hg1 (q2 (vb false) (xF hg1) (ln ⟨false,H,hm,hs,hb,h⟩)))
 refine cbr h ?_ ?_<;>intro h
 refine eg (q (sc call27 (h.mono fun e w13 ⟨r4,k,hk,h⟩=>have ⟨hs,hb⟩:=hk.hh hs hb;⟨_,k,?_⟩)))
 refine ln (rg (q (sc call29 (h.mono fun e w14 ⟨r5,k,hk,h⟩=>have ⟨hs,hb⟩:=hk.hh hs hb;⟨_,k,?_⟩))))
 refine q (qG (jK rfl) (qV (a:=(p3.add 3)) (v:=(vs r5)) (by kernel_rfl) (by kernel_rfl) rfl (sizeOf9 _) (hb.canW 0 3 gZ (by kernel_rfl))) ?_)
 intro w15 hn7
 have hsb:Hst w0 H w14 H w15∧HB H w15 [(p3,(Aa aF aG r3 r5 aH),24)]:=by
  rw [hn7];exact hb.set (i:=0) 3 (v:=(vs r5)) hs gZ (by kernel_rfl)
 obtain ⟨hs,hb⟩:=hsb
 refine jC ?_
 have ⟨h,hs⟩:=hs.hr (h w15)
 refine jN ⟨aF,aG,r3,r5,aH,H,hm,hs,hb,h⟩
 refine jB (jN ⟨aF,aG,r3,aI,aH,H,hm,hs,hb,h⟩)
 refine cbr h ?_ ?_<;>intro h
 refine eg (q (sc call27 (h.mono fun e w16 ⟨r6,k,hk,h⟩=>have ⟨hs,hb⟩:=hk.hh hs hb;⟨_,k,?_⟩)))
 refine qc (qG (jK rfl) (qV (a:=(p3.add 1)) (v:=(vi (q6.wrap ((q6.wrap r6) - 48)))) (by kernel_rfl) (by kernel_rfl) rfl (sizeOf3 _) (hb.canW 0 1 gZ (by kernel_rfl))) ?_)
 intro w17 hn8
 have hsb:Hst w0 H w16 H w17∧HB H w17 [(p3,(Ag r1 (q6.wrap ((q6.wrap r6) - 48)) 0 r2),24)]:=by
  rw [hn8];exact hb.set (i:=0) 1 (v:=(vi (q6.wrap ((q6.wrap r6) - 48)))) hs gZ (by kernel_rfl)
 obtain ⟨hs,hb⟩:=hsb
 refine ln (rg (q ?_))
 have ⟨h,hs⟩:=hs.hr (h w17)
 refine sc call27 (h.mono fun e w18 ⟨r7,k,hk,h⟩=>have ⟨hs,hb⟩:=hk.hh hs hb;⟨_,k,?_⟩)
 refine ln ⟨r1,(q6.wrap ((q6.wrap r6) - 48)),0,⟨#[]⟩,r2,H,hm,hs,hb,h⟩
 refine jB (jN ⟨r1,0,0,⟨#[]⟩,r2,H,hm,hs,hb,h⟩)
 have ⟨h,hs⟩:=hs.hr (h w6)
 obtain ⟨C2,hC,h⟩:=h
 refine dr2 (fun x=>C2 x∧HB H1 x _) [0,4,5] [5] ⟨hC,hb.drew⟩ h hs hb fun w19 hs hb h=>?_
 have hs:=hs.here
 refine qx 1 (vp (some p3)) Kp1 (qz 2 (vi r1) Kp2 (fun w' hw'=>(xl (isAgg3 _) (hw'.2.cell0 0 gZ (by kernel_rfl)))) (jPT (k:=0) (k':=4) (by kernel_rfl) ?_ ?_))
 have h:=h.1
 refine slc Kp0 call26 (h.mono ?_)
 rintro e w20 ⟨r8,rfl,hC,hk,h⟩
 refine ⟨_,rfl,.inr ⟨hC,hb.kept hk⟩,?_⟩
 obtain ⟨hs,hb⟩:=hk.hh hs hb
 refine qg 3 ?_
 obtain ⟨efrom1,etext1,efake1,eword1,hv11,h⟩:=h
 refine sy (v:=(.agg #[(vb efrom1),(vb etext1),(vb efake1),(vs eword1)])) Kp3 (fun w' hw'=>(vX (by kernel_rfl) (by kernel_rfl) (hv11 w' hw'.1))) (lg 4 (kT (O:=(.cells #[(vb false),(vb false),(vb false),ve] 76)) (fun p=>.pointer (some p)) Kp4 (jK rfl) (by kernel_rfl) (jG (zeroValue76 _) rfl) ?_))
 intro p4 w21 hn10
 have h:=h p4 w21 hn10
 refine ⟨.inr ⟨h.1,hb.kept (Ext.new (F:=None) hn10).keptP⟩,?_⟩
 have h:=h.2
 obtain ⟨hs,hb⟩:=hs.nw hb hn10
 refine lg 5 ?_
 obtain ⟨hp3,hnh,h⟩:=h
 refine yZ Kp5 (jK rfl) (by kernel_rfl) (xo p4 (Ak efrom1 etext1 efake1 eword1) (sizeOf76 _) hp3) ?_
 intro w22 hn9
 have h:=h w22 hn9
 refine ⟨.inl (by kernel_rfl),?_⟩
 have hk:Kept H1 w21 w22:=by rw [hn9];exact Kept.storeRow hnh
 obtain ⟨hs,hb⟩:=hk.hh hs hb
 refine wn (jN ⟨p4,H1,hm,hs,hb,h⟩)
 have h:=h.2
 refine kT (O:=(.cells #[(vb false),(vb false),(vb false),ve] 76)) (fun p=>.pointer (some p)) Kp4 (jK rfl) (by kernel_rfl) (jG (zeroValue76 _) rfl) ?_
 intro p5 w23 hn12
 have h:=h p5 w23 hn12
 refine ⟨.inr ⟨h.1,hb.kept (Ext.new (F:=None) hn12).keptP⟩,?_⟩
 have h:=h.2
 obtain ⟨hs,hb⟩:=hs.nw hb hn12
 refine lg 0 (slc Kp0 call26 (h.mono ?_))
 rintro e w24 ⟨r9,rfl,hC,hk,h⟩
 refine ⟨_,rfl,.inr ⟨hC,hb.kept hk⟩,?_⟩
 obtain ⟨hs,hb⟩:=hk.hh hs hb
 refine qg 3 ?_
 obtain ⟨efrom2,etext2,efake2,eword2,hv12,h⟩:=h
 refine sy (v:=(.agg #[(vb efrom2),(vb etext2),(vb efake2),(vs eword2)])) Kp3 (fun w' hw'=>(vX (by kernel_rfl) (by kernel_rfl) (hv12 w' hw'.1))) (lg 5 ?_)
 obtain ⟨hp4,hnh,h⟩:=h
 refine yZ Kp5 (jK rfl) (by kernel_rfl) (xo p5 (Ak efrom2 etext2 efake2 eword2) (sizeOf76 _) hp4) ?_
 intro w25 hn11
 have h:=h w25 hn11
 refine ⟨.inl (by kernel_rfl),?_⟩
 have hk:Kept H1 w24 w25:=by rw [hn11];exact Kept.storeRow hnh
 obtain ⟨hs,hb⟩:=hk.hh hs hb
 refine wn (jN ⟨p5,H1,hm,hs,hb,h⟩)
end Go.Proofs
end
section
open Go Go.SE
namespace Go.Proofs
open Tryz
attribute [local irreducible] Calls
abbrev Lne (w:World) (a:Addr) (x:ByteArray) (i:Nat) (e k:Int):Prop:=Box w a [.string x,.int .i64 (i:Int),.int .i64 e,.int .i64 k] 72
def LSt (w:World) (a:Addr) (x:ByteArray):(Option Nat)→Prop
 | some i=>Lne w a x i 0 0∧i≤(bts x).length
 | none=>∃(i:Nat) (e k:Int),e≠0∧i≤(bts x).length+2∧Lne w a x i e k
section
variable {w w':World} {a:Addr} {x:ByteArray} {i:Nat} {e k:Int} {q:Option Nat}
theorem kA (h:Lne w a x i e k):w.cell? (a.add 1)=some (.int .i64 (i:Int)):=h.cell (i:=1) rfl
theorem yV (h:Lne w a x i e k):w.cell? (a.add 2)=some (.int .i64 e):=h.cell (i:=2) rfl
theorem lne_k (h:Lne w a x i e k):w.cell? (a.add 3)=some (.int .i64 k):=h.cell (i:=3) rfl
theorem kO (h:Lne w a x i e k) (j:Nat):Lne (w.setCell (a.add 1) (.int .i64 (j:Int))) a x j e k:=h.set 1 _
theorem LSt.ext {F:NP} (h:LSt w a x q) (E:Ext F w w') (hf:¬ F a.block):LSt w' a x q:=by
 cases q with
 | some i=>exact ⟨h.1.ext E hf,h.2⟩
 | none=>obtain ⟨i,e,k,h0,hi,h⟩:=h;exact ⟨i,e,k,h0,hi,h.ext E hf⟩
theorem LSt.pure (h:LSt w a x q) (E:Pure w w'):LSt w' a x q:=h.ext E id
theorem LSt.lt (h:LSt w a x q):a.block<w.heap.size:=by
 cases q with
 | some i=>exact h.1.lt
 | none=>obtain ⟨_,_,_,_,_,h⟩:=h;exact h.lt
end
structure LS (w0 w:World) (H:NP) (a:Addr) (x:ByteArray) (q:Option Nat):Prop where
 st:LSt w a x q
 ext:Ext (·=a.block) w0 w
 la:a.block<w0.heap.size
 oH:∀b,H b→w0.heap.size≤b∧b<w.heap.size
 few:(bts x).length≤10000000
section
variable {w0 w w':World} {H H':NP} {a:Addr} {x:ByteArray} {q q':Option Nat}
theorem LS.start (h:LSt w0 a x q) (hc:(bts x).length≤10000000):LS w0 w0 None a x q:=⟨h,Ext.refl _,h.lt,fun b hb=>hb.elim,hc⟩
theorem LS.nH (h:LS w0 w H a x q):¬ H a.block:=fun hh=>by have:=(h.oH _ hh).1;have:=h.la;omega
theorem LS.hst (h:LS w0 w H a x q) (hs:Hst w0 H w H' w'):LS w0 w' H' a x q :=
 ⟨h.st.ext hs.ext (fun hh=>by have:=hs.here.old _ hh;have:=h.la;omega),h.ext.trans' hs.ext (fun b hb hh=>by have:=hs.here.old b hh;omega),h.la,fun b hb=>⟨hs.here.old b hb,hs.here.lt b hb⟩,h.few⟩
theorem LS.to (h:LS w0 w H a x q) (hr:LSt w' a x q') (E:Ext (·=a.block) w w'):Kept H w w'∧LS w0 w' H a x q' :=
 ⟨E.kept (fun b hb e=>h.nH (e▸hb)),hr,h.ext.trans E,h.la,fun b hb=>⟨(h.oH b hb).1,by have:=(h.oH b hb).2;have:=E.size;omega⟩,h.few⟩
end
theorem uR (a:Addr) (x:ByteArray) (e k:Int) (he:e≠0) (i:Nat) (e0 k0:Int) (w0:World) (h:Lne w0 a x i e0 k0) :
  Calls prog 30 #[.pointer (some a),.int .i64 e,.int .i64 k] w0 (fun r w'=>r=.returned (.tuple #[])∧((∃e' k',e'≠0∧Lne w' a x i e' k')∧Ext (·=a.block) w0 w')):=by
 refine w_P3 (some a) e k w0 (fun w'=>(∃e' k',e'≠0∧Lne w' a x i e' k')∧Ext (·=a.block) w0 w') ?_
 unfold m_P3
 refine ⟨a,rfl,_,yV h,fun h0=>⟨a,rfl,h.canW (i:=2) (by simp),?_⟩,fun h0=>⟨⟨e0,k0,by simpa using h0,h⟩,Ext.refl _⟩⟩
 rintro w1 rfl
 have B1:Lne (w0.setCell (a.add 2) (.int .i64 e)) a x i e k0:=h.set 2 _
 refine ⟨a,rfl,B1.canW (i:=3) (by simp),?_⟩
 rintro w2 rfl
 exact ⟨⟨e,k,he,B1.set 3 _⟩,uD.trans uD⟩
theorem qC (a:Addr) (x:ByteArray) (e k:Int) (he:e≠0) (q:Option Nat) (w0:World) (h:LSt w0 a x q) :
  Calls prog 30 #[.pointer (some a),.int .i64 e,.int .i64 k] w0 (fun r w'=>r=.returned (.tuple #[])∧(LSt w' a x none∧Ext (·=a.block) w0 w')):=by
 obtain ⟨i,e0,k0,hi,h⟩:∃(i:Nat) (e0 k0:Int),i≤(bts x).length+2∧Lne w0 a x i e0 k0:=by
  cases q with
  | some i=>exact ⟨i,0,0,by have:=h.2;omega,h.1⟩
  | none=>obtain ⟨i,e,k,_,hi,h⟩:=h;exact ⟨i,e,k,hi,h⟩
 refine (uR a x e k he i e0 k0 w0 h).mono ?_
 rintro _ w' ⟨rfl,⟨e',k',h0,h'⟩,E⟩
 exact ⟨rfl,⟨i,e',k',h0,hi,h'⟩,E⟩
theorem tN (a:Addr) (x:ByteArray) (i:Nat) (e k:Int) (w0:World) (h:Lne w0 a x i e k) :
  Calls prog 53 #[.pointer (some a)] w0 (fun r w'=>∃c:Int,r=.returned (.int .u8 c)∧((∃u:UInt8,c=(u.toNat:Int))∧((∃u,(bts x)[i]?=some u∧c=(u.toNat:Int)∧Pure w0 w')∨((bts x)[i]?=none∧(∃e' k',e'≠0∧Lne w' a x i e' k')∧Ext (·=a.block) w0 w')))):=by
 refine w_Q3 (some a) w0 (fun c w'=>(∃u:UInt8,c=(u.toNat:Int))∧((∃u,(bts x)[i]?=some u∧c=(u.toNat:Int)∧Pure w0 w')∨((bts x)[i]?=none∧(∃e' k',e'≠0∧Lne w' a x i e' k')∧Ext (·=a.block) w0 w'))) ?_
 unfold m_Q3
 have hl:=lB x
 refine ⟨a,rfl,fun w1 hs1=>?_⟩
 have E1:=hs1.first
 have h1:=h.pure E1
 refine ⟨_,kA h1,a,rfl,_,h1.cell0,fun hc=>⟨a,rfl,_,h1.cell0,?_⟩,fun hc=>⟨a,rfl,fun w3 hs3=>?_⟩⟩
 ·refine (uR a x 3 _ (by decide) i e k w1 h1).mono ?_
  rintro _ w2 ⟨rfl,h2,E2⟩
  have hc:=of_decide_eq_true hc
  exact ⟨rfl,E2.kept (fun b hb=>hb.elim),⟨0,rfl⟩,.inr ⟨List.getElem?_eq_none (by omega),h2,E1.pure.trans E2⟩⟩
 ·have hc:i<(bts x).length:=by have:=of_decide_eq_false hc;omega
  have E3:=E1.hst hs3
  have h3:=h.pure E3
  exact ⟨_,h3.cell0,a,rfl,_,kA h3,_,jLY x i hc w3,⟨_,rfl⟩,.inl ⟨_,List.getElem?_eq_getElem hc,rfl,E3⟩⟩
theorem ib_neg (l:List UInt8) (c:UInt8):(Lib.indexByte l ((c.toNat:Int).toNat.toUInt8)<0)↔c ∉ l:=by
 have hc:((c.toNat:Int).toNat.toUInt8)=c:=by simp
 rw [hc];have hge:=Lib.indexByte_ge l c;constructor
 ·intro h hm;obtain ⟨i,hi,e⟩:=List.getElem_of_mem hm;exact Lib.indexByte_none (l:=l) (c:=c) (by omega) i (by rw [List.getElem?_eq_getElem hi,e])
 ·intro hm;apply Classical.byContradiction;intro h;have:=Lib.indexByte_some (l:=l) (c:=c) (o:=(Lib.indexByte l c).toNat) (by omega);exact hm (List.mem_of_getElem? this.1)
section
variable (a:Addr) (x:ByteArray) (q:Option Nat) (w0:World) (h:LSt w0 a x q) (hc:(bts x).length≤10000000)
include h hc
theorem lA (S:List UInt8):Calls prog 27 #[.pointer (some a),.string ⟨S.toArray⟩] w0 (fun r w'=>∃c:Int,r=.returned (.int .u8 c)∧(LSt w' a x (q.bind fun i=>(Sp.zP (bts x) (S.map UInt8.toNat) i).map Prod.snd)∧Ext (·=a.block) w0 w'∧∀i d,q=some i→Sp.zP (bts x) (S.map UInt8.toNat) i=some d→c=(d.1.toNat:Int))):=by
 refine w_Y (some a) ⟨S.toArray⟩ w0 (fun c w'=>LSt w' a x (q.bind fun i=>(Sp.zP (bts x) (S.map UInt8.toNat) i).map Prod.snd)∧Ext (·=a.block) w0 w'∧∀i d,q=some i→Sp.zP (bts x) (S.map UInt8.toNat) i=some d→c=(d.1.toNat:Int)) ?_;unfold m_Y;cases q with
 | none =>
  obtain ⟨i,e,k,h0,hi,h1⟩:=h
  exact ⟨a,rfl,_,yV h1,Br.t (by simpa using h0) ⟨⟨i,e,k,h0,hi,h1⟩,Ext.refl _,fun _ _ e=>by cases e⟩⟩
 | some i =>
  obtain ⟨h1,hi⟩:=h
  refine ⟨a,rfl,_,yV h1,Br.f rfl ?_⟩
  have fin : ∀ {w' : World} {c : Int} {R : Option (UInt8 × Nat)}, Sp.zP (bts x) (S.map UInt8.toNat) i = R → LSt w' a x (R.map Prod.snd) → Ext (· = a.block) w0 w' → (∀ d, R = some d → c = (d.1.toNat : Int)) →
    (LSt w' a x ((some i).bind fun i=>(Sp.zP (bts x) (S.map UInt8.toNat) i).map Prod.snd)∧Ext (·=a.block) w0 w'∧∀i' d,some i=some i'→Sp.zP (bts x) (S.map UInt8.toNat) i'=some d→c=(d.1.toNat:Int)):=fun e h E hr =>
   ⟨by show LSt _ a x ((Sp.zP (bts x) (S.map UInt8.toNat) i).map Prod.snd);rw [e];exact h,E,fun i' d e1 e2=>by cases e1;exact hr d (e▸e2)⟩
  refine (tN a x i 0 0 w0 h1).mono ?_
  rintro _ w1 ⟨c,rfl,_,⟨u,hu,rfl,E1⟩ | ⟨hu,⟨e',k',h0,h2⟩,E1⟩⟩
  ·have h2:=h1.pure E1
   have hlt:=Sp.jPO hu
   refine ⟨_,rfl,a,rfl,_,yV h2,Br.t rfl ?_⟩
   refine (tH ⟨S.toArray⟩ (u.toNat:Int) w1).mono ?_
   rintro _ w2 ⟨rfl,rfl⟩
   refine ⟨_,rfl,?_⟩
   have hib:=ib_neg S u
   unfold m_Y_j1
   refine ⟨fun hn=>⟨a,rfl,_,kA h2,?_⟩,fun hn=>⟨a,rfl,_,kA h2,a,rfl,h2.canW (i:=1) (by simp),?_⟩⟩
   ·have hn:u ∉ S:=hib.1 (of_decide_eq_true hn)
    refine (uR a x 2 _ (by decide) i 0 0 w2 h2).mono ?_
    rintro _ w3 ⟨rfl,⟨e',k',h0,h3⟩,E3⟩
    refine ⟨rfl,a,rfl,_,kA h3,a,rfl,h3.canW (i:=1) (by simp),?_⟩
    rintro w4 rfl
    rw [vY (show i≤(bts x).length by omega) (by omega)]
    refine fin (R:=none) ?_ ⟨i+1,e',k',h0,by omega,kO h3 (i+1)⟩ ((E1.pure.trans E3).trans uD) (fun _ h=>by cases h)
    unfold Sp.zP
    rw [hu]
    simp only
    rw [if_neg (fun hm=>hn (by
     obtain ⟨v,hv,e⟩:=List.mem_map.1 hm;rw [← UInt8.toNat_inj.1 e];exact hv))]
   ·have hn:u∈S:=Classical.byContradiction fun h=>of_decide_eq_false hn (hib.2 h)
    rintro w4 rfl
    rw [vY (show i≤(bts x).length by omega) (by omega)]
    refine fin (R:=some (u,i+1)) ?_ ⟨kO h2 (i+1),hlt⟩ (E1.pure.trans uD) (fun _ h=>by cases h;rfl)
    unfold Sp.zP
    rw [hu]
    simp only
    rw [if_pos (List.mem_map.2 ⟨u,hn,rfl⟩)]
  ·refine ⟨_,rfl,a,rfl,_,yV h2,Br.f (by simpa using h0) ?_⟩
   unfold m_Y_j1
   refine Br.f rfl ⟨a,rfl,_,kA h2,a,rfl,h2.canW (i:=1) (by simp),?_⟩
   rintro w4 rfl
   rw [vY (show i≤(bts x).length by omega) (by omega)]
   refine fin (R:=none) ?_ ⟨i+1,e',k',h0,by omega,kO h2 (i+1)⟩ (E1.trans uD) (fun _ h=>by cases h)
   unfold Sp.zP
   rw [hu]
end
def jDG (B:List UInt8) (j:Nat):Option Nat:=match B[j]? with | none=>some j | some c=>if c.toNat=32 then some j else none
theorem ln_num (B:List UInt8) (i:Nat):(Sp.vG B i).map Prod.snd=if Sp.zG B i=[]∨Sp.xJ (Sp.zG B i)=true then none else jDG B (i+(Sp.zG B i).length):=by
 unfold Sp.vG jDG;split
 ·rfl
 ·generalize B[i+(Sp.zG B i).length]?=o;cases o with
  | none=>rfl
  | some c=>simp only;split <;> rfl
theorem jTX {B:List UInt8} {i:Nat} {d:Nat×Nat} (h:Sp.vG B i=some d):d.1=Sp.decV (Sp.zG B i)∧Sp.decV (Sp.zG B i)<18446744073709551616:=by
 have hn:=Sp.jKA h;unfold Sp.vG at h;split at h
 ·cases h
 ·split at h
  ·cases h;exact ⟨rfl,hn.1⟩
  ·split at h
   ·cases h;exact ⟨rfl,hn.1⟩
   ·cases h
theorem ln_j3 {w0 w:World} {H:NP} {a:Addr} {x:ByteArray} {q:Option Nat} (r2:Int) (D:LS w0 w H a x q) :
  m_F_j3 (some a) r2 w0 H w (fun m w'=>m=r2∧LSt w' a x (q.bind (jDG (bts x)))∧Ext (·=a.block) w0 w'):=by
 unfold m_F_j3
 have hl:=lB x
 refine ⟨a,rfl,fun w4 hs4=>?_⟩
 have D4:=D.hst hs4
 cases q with
 | none =>
  have st:=D4.st
  obtain ⟨i,e,k,h0,hi,h4⟩:=st
  refine ⟨_,kA h4,a,rfl,_,h4.cell0,fun hlt=>?_,fun _=>⟨rfl,D4.st,D4.ext⟩⟩
  have hlt:i<(bts x).length:=by have:=of_decide_eq_true hlt;omega
  refine ⟨a,rfl,_,h4.cell0,a,rfl,_,kA h4,_,jLY x i hlt w4,fun _=>⟨a,rfl,_,kA h4,?_⟩,fun _=>⟨rfl,D4.st,D4.ext⟩⟩
  refine (qC a x 2 _ (by decide) none w4 D4.st).mono ?_
  rintro _ w5 ⟨rfl,h5,E5⟩
  obtain ⟨k5,D5⟩:=D4.to h5 E5
  exact ⟨rfl,k5,rfl,D5.st,D5.ext⟩
 | some j =>
  have st:=D4.st
  obtain ⟨h4,hj⟩:=st
  show ∃v5:Int,_
  refine ⟨_,kA h4,a,rfl,_,h4.cell0,fun hlt=>?_,fun hlt=>⟨rfl,?_,D4.ext⟩⟩
  ·have hlt:j<(bts x).length:=by have:=of_decide_eq_true hlt;omega
   have hg:=List.getElem?_eq_getElem hlt
   refine ⟨a,rfl,_,h4.cell0,a,rfl,_,kA h4,_,jLY x j hlt w4,fun h32=>⟨a,rfl,_,kA h4,?_⟩,fun h32=>⟨rfl,?_,D4.ext⟩⟩
   ·refine (qC a x 2 _ (by decide) (some j) w4 D4.st).mono ?_
    rintro _ w5 ⟨rfl,h5,E5⟩
    obtain ⟨k5,D5⟩:=D4.to h5 E5
    refine ⟨rfl,k5,rfl,?_,D5.ext⟩
    show LSt w5 a x (jDG (bts x) j)
    unfold jDG
    rw [hg]
    simp only
    rw [if_neg (by have:=bne_iff_ne.1 h32;omega)]
    exact D5.st
   ·show LSt w4 a x (jDG (bts x) j)
    unfold jDG
    rw [hg]
    simp only
    rw [if_pos (by simp only [bne_eq_false_iff_eq] at h32;omega)]
    exact D4.st
  ·have hlt:j=(bts x).length:=by have:=of_decide_eq_false hlt;omega
   show LSt w4 a x (jDG (bts x) j)
   unfold jDG
   rw [List.getElem?_eq_none (by omega)]
   exact D4.st
set_option maxHeartbeats 1000000 in
theorem jUR (a:Addr) (x:ByteArray) (q:Option Nat) (w0:World) (h:LSt w0 a x q) (hc:(bts x).length≤10000000) (hv:ErrK w0 a) :
  Calls prog 28 #[.pointer (some a)] w0 (fun r w'=>∃m:Int,r=.returned (.int .u64 m)∧(LSt w' a x (q.bind fun i=>(Sp.vG (bts x) i).map Prod.snd)∧Ext (·=a.block) w0 w'∧∀i d,q=some i→Sp.vG (bts x) i=some d→m=(d.1:Int))):=by
 refine w_F (some a) w0 (fun m w'=>LSt w' a x (q.bind fun i=>(Sp.vG (bts x) i).map Prod.snd)∧Ext (·=a.block) w0 w'∧∀i d,q=some i→Sp.vG (bts x) i=some d→m=(d.1:Int)) ?_
 unfold m_F
 have hl:=lB x
 cases q with
 | none =>
  obtain ⟨i,e,k,h0,hi,h1⟩:=h
  exact ⟨a,rfl,_,yV h1,Br.t (by simpa using h0) ⟨⟨i,e,k,h0,hi,h1⟩,Ext.refl _,fun _ _ e=>by cases e⟩⟩
 | some i =>
  have D0:=LS.start h hc
  obtain ⟨h1,hi⟩:=h
  refine ⟨a,rfl,_,yV h1,Br.f rfl ⟨a,rfl,_,kA h1,?_⟩⟩
  have hdl:=Sp.jMV hi
  refine ⟨fun H w=>∃j:Nat,i≤j∧j+(Sp.zG (bts x) j).length=i+(Sp.zG (bts x) i).length∧LS w0 w H a x (some j),fun w=>match w.cell? (a.add 1) with | some (.int _ k)=>((bts x).length - k.toNat) | _=>0,⟨i,Nat.le_refl _,rfl,D0⟩,?_⟩
  rintro Hl wl hsl ⟨j,hij,hjl,D⟩
  unfold m_F_l4
  refine ⟨a,rfl,fun w7 hs7=>?_⟩
  have D7:=D.hst hs7
  have st7:=D7.st
  obtain ⟨h7,hj⟩:=st7
  have done:Sp.zG (bts x) j=[]→m_F_j1 (some a) (i:Int) w0 Hl w7 (fun m w'=>LSt w' a x ((some i).bind fun i=>(Sp.vG (bts x) i).map Prod.snd)∧Ext (·=a.block) w0 w'∧∀i' d,some i=some i'→Sp.vG (bts x) i'=some d→m=(d.1:Int)):=fun e=>by
   have hjj:j=i+(Sp.zG (bts x) i).length:=by rw [e] at hjl;simpa using hjl
   have fin : ∀ {w' : World} {m : Int} {R : Option Nat}, (Sp.vG (bts x) i).map Prod.snd = R → LSt w' a x R → Ext (· = a.block) w0 w' → (∀ d, Sp.vG (bts x) i = some d → m = (d.1 : Int)) →
     (LSt w' a x ((some i).bind fun i=>(Sp.vG (bts x) i).map Prod.snd)∧Ext (·=a.block) w0 w'∧∀i' d,some i=some i'→Sp.vG (bts x) i'=some d→m=(d.1:Int)):=fun e h E hm =>
    ⟨by show LSt _ a x ((Sp.vG (bts x) i).map Prod.snd);rw [e];exact h,E,fun i' d e1 e2=>by cases e1;exact hm d e2⟩
   unfold m_F_j1;refine ⟨a,rfl,fun w1 hs1=>?_⟩;have D1:=D7.hst hs1;have r1:=D1.st.1;refine ⟨_,r1.cell0,a,rfl,_,kA r1,_,by rw [hjj];exact jFP x i _ hdl w1,?_⟩;rw [Sp.jBY];have hsz:(ByteArray.mk (Sp.zG (bts x) i).toArray).size=(Sp.zG (bts x) i).length:=by simp [ByteArray.size]
   have hsnd:=ln_num (bts x) i;have hfst:=fun d=>jTX (B:=bts x) (i:=i) (d:=d);refine ⟨fun h0=>?_,fun h0=>?_⟩
   ·have h0 : Sp.zG (bts x) i = [] := by
     have:=congrArg ByteArray.size (of_decide_eq_true h0);rw [hsz] at this;exact List.length_eq_zero_iff.1 this
    rw [if_pos (.inl h0)] at hsnd;refine (lA a x (some j) w1 D1.st hc [48,49,50,51,52,53,54,55,56,57]).mono ?_;rintro _ w2 ⟨c,rfl,h2,E2,_⟩;obtain ⟨k2,D2⟩:=D1.to h2 E2;refine ⟨_,rfl,k2,fin hsnd ?_ D2.ext (fun d hd=>by rw [hd] at hsnd;cases hsnd)⟩;have hji:j=i:=by rw [h0] at hjj;simpa using hjj
    have:Sp.zP (bts x) ([48,49,50,51,52,53,54,55,56,57].map UInt8.toNat) i=none:=by
     unfold Sp.zP;split
     ·rfl
     ·rename_i c hcc;rw [if_neg];intro hm;have hd:Sp.isDig c=true:=by
       unfold Sp.isDig;rw [Bool.and_eq_true,decide_eq_true_eq,decide_eq_true_eq];simp at hm;omega
      have hlt:=Sp.jPO hcc;have:(bts x)[i]=c:=by rw [List.getElem?_eq_getElem hlt] at hcc;exact Option.some.inj hcc
      have:=Sp.jBZ hlt (by rw [this];exact hd);rw [h0] at this;cases this
    have h2':LSt w2 a x ((Sp.zP (bts x) ([48,49,50,51,52,53,54,55,56,57].map UInt8.toNat) j).map Prod.snd):=h2;rw [hji,this] at h2';exact h2'
   ·have hne:Sp.zG (bts x) i≠[]:=fun e=>by rw [e] at h0;simp at h0
    have hall:=Sp.jDN (bts x) i;refine (jJH _ hall hne (by omega) w1 (hv w1 D1.ext)).mono ?_;have hj3:∀{w:World} {q':Option Nat} {m:Int},LS w0 w Hl a x q'→(Sp.vG (bts x) i).map Prod.snd=q'.bind (jDG (bts x))→(∀d,Sp.vG (bts x) i=some d→m=(d.1:Int))→m_F_j3 (some a) m w0 Hl w (fun m w'=>LSt w' a x ((some i).bind fun i=>(Sp.vG (bts x) i).map Prod.snd)∧Ext (·=a.block) w0 w'∧∀i' d,some i=some i'→Sp.vG (bts x) i'=some d→m=(d.1:Int)):=fun {w q' m} D e hm=>by
     have key:∀{P Q:Int→WP},(∀m w,P m w→Q m w)→m_F_j3 (some a) m w0 Hl w P→m_F_j3 (some a) m w0 Hl w Q:=fun {P Q} hPQ hh=>by
      unfold m_F_j3 at hh ⊢;obtain ⟨a5,e5,hh⟩:=hh;refine ⟨a5,e5,fun w4 hs4=>?_⟩;obtain ⟨v5,c5,a6,e6,v6,c6,hb⟩:=hh w4 hs4;refine ⟨v5,c5,a6,e6,v6,c6,fun hlt=>?_,fun hlt=>hPQ _ _ (hb.2 hlt)⟩;obtain ⟨a7,e7,v7,c7,a8,e8,v8,c8,e1,hr,hb2⟩:=hb.1 hlt;refine ⟨a7,e7,v7,c7,a8,e8,v8,c8,e1,hr,fun h=>?_,fun h=>hPQ _ _ (hb2.2 h)⟩;obtain ⟨a9,e9,v9,c9,hC⟩:=hb2.1 h;exact ⟨a9,e9,v9,c9,hC.mono (fun e w5 hh=>⟨hh.1,hh.2.1,hPQ _ _ hh.2.2⟩)⟩
     refine key ?_ (ln_j3 m D);rintro _ w' ⟨rfl,h2,h3⟩;exact fin e h2 h3 hm
    have badj:∀{w:World} {m:Int},LS w0 w Hl a x (some j)→Sp.xJ (Sp.zG (bts x) i)=true→m_F_j2 (some a) (i:Int) m true w0 Hl w (fun m w'=>LSt w' a x ((some i).bind fun i=>(Sp.vG (bts x) i).map Prod.snd)∧Ext (·=a.block) w0 w'∧∀i' d,some i=some i'→Sp.vG (bts x) i'=some d→m=(d.1:Int)):=fun {w m} Dw hb=>by
     rw [if_pos (.inr hb)] at hsnd;unfold m_F_j2;refine Br.t rfl ?_;refine (qC a x 2 _ (by decide) (some j) w Dw.st).mono ?_;rintro _ w6 ⟨rfl,h6,E6⟩;obtain ⟨k6,D6⟩:=Dw.to h6 E6;exact ⟨rfl,k6,hj3 D6 hsnd (fun d hd=>by rw [hd] at hsnd;cases hsnd)⟩
    have goodj:∀{w:World},LS w0 w Hl a x (some j)→Sp.xJ (Sp.zG (bts x) i)=false→m_F_j2 (some a) (i:Int) ((Sp.decV (Sp.zG (bts x) i):Nat):Int) false w0 Hl w (fun m w'=>LSt w' a x ((some i).bind fun i=>(Sp.vG (bts x) i).map Prod.snd)∧Ext (·=a.block) w0 w'∧∀i' d,some i=some i'→Sp.vG (bts x) i'=some d→m=(d.1:Int)):=fun {w} Dw hb=>by
     rw [if_neg (by rw [hb];simp [hne]),← hjj] at hsnd;unfold m_F_j2;exact Br.f rfl (hj3 Dw hsnd (fun d hd=>by rw [(hfst d hd).1]))
    rintro _ w3 ⟨E3,⟨hlt,rfl⟩ | ⟨hge,k,T,v,rfl⟩⟩
    ·obtain ⟨k3,D3⟩:=D1.to (D1.st.pure E3) E3.pure;refine ⟨_,_,rfl,k3,_,jNB w3,fun hb=>(by cases hb),fun _=>⟨fun hb=>?_,fun hb=>?_⟩⟩
     ·have hb:1<(Sp.zG (bts x) i).length:=by have:=of_decide_eq_true hb;omega
      obtain ⟨c,hhd,hrun⟩:∃c,(Sp.zG (bts x) i).head?=some c∧(Instr.index 9 (.string ⟨(Sp.zG (bts x) i).toArray⟩) (.int .i64 0)).run prog w3=.ok (.int .u8 (c.toNat:Int)) w3:=by
       generalize Sp.zG (bts x) i=l at *;cases l with
       | nil=>simp at hb
       | cons c l=>exact ⟨c,rfl,jLY ⟨(c :: l).toArray⟩ 0 (by simp [bts]) w3⟩
      refine ⟨_,hrun,?_⟩;by_cases h48:c=48
      ·rw [show (((c.toNat:Int)) == 48)=true by rw [h48];rfl];exact badj D3 (by unfold Sp.xJ;rw [hhd,h48,decide_eq_true hb];simp)
      ·rw [show (((c.toNat:Int)) == 48)=false from beq_eq_false_iff_ne.2 (fun e=>h48 (by apply UInt8.toNat_inj.1;show c.toNat=48;omega))];exact goodj D3 (by unfold Sp.xJ;rw [hhd,decide_eq_false (by omega)];simp [h48])
     ·exact goodj D3 (by
       have:=of_decide_eq_false hb;unfold Sp.xJ;rw [decide_eq_false (by omega),decide_eq_false (by omega)];simp)
    ·obtain ⟨k3,D3⟩:=D1.to (D1.st.pure E3) E3.pure;exact ⟨_,_,rfl,k3,_,jTJ T v w3,fun _=>badj D3 (by unfold Sp.xJ;rw [decide_eq_true hge];rfl),fun hb=>(by cases hb)⟩
  have hdj:∀hlt:j<(bts x).length,¬ (48≤(bts x)[j].toNat∧(bts x)[j].toNat≤57)→Sp.zG (bts x) j=[]:=fun hlt hh=>Sp.jHW hlt (by unfold Sp.isDig;rw [Bool.and_eq_false_iff,decide_eq_false_iff_not,decide_eq_false_iff_not];omega)
  refine ⟨_,kA h7,a,rfl,x,h7.cell0,fun hc=>?_,fun hc=>done (Sp.jKV (by have:=of_decide_eq_false hc;omega))⟩
  have hlt:j<(bts x).length:=by have:=of_decide_eq_true hc;omega
  refine ⟨a,rfl,x,h7.cell0,a,rfl,_,kA h7,_,jLY x j hlt w7,fun hb=>?_,fun hb=>done (hdj hlt (by have:=of_decide_eq_false hb;omega))⟩
  refine ⟨a,rfl,x,h7.cell0,a,rfl,_,kA h7,_,jLY x j hlt w7,fun hb2=>?_,fun hb2=>done (hdj hlt (by have:=of_decide_eq_false hb2;omega))⟩
  refine ⟨a,rfl,_,kA h7,a,rfl,h7.canW (i:=1) (by simp),D7.nH,?_⟩
  rintro w8 rfl
  rw [vY (show j≤(bts x).length by omega) (by omega)]
  have hstep:Sp.zG (bts x) j=(bts x)[j] :: Sp.zG (bts x) (j+1):=Sp.jBZ hlt (by unfold Sp.isDig;rw [Bool.and_eq_true,decide_eq_true_eq,decide_eq_true_eq];have:=of_decide_eq_true hb;have:=of_decide_eq_true hb2;omega)
  obtain ⟨_,D8⟩:=D7.to (q':=some (j+1)) ⟨kO h7 (j+1),hlt⟩ uD
  refine ⟨⟨j+1,by omega,by rw [hstep] at hjl;simp only [List.length_cons] at hjl;omega,D8⟩,?_⟩
  show (match (w7.setCell (a.add 1) (.int .i64 ((j+1:Nat):Int))).cell? (a.add 1) with | some (.int _ k)=>((bts x).length - k.toNat) | _=>0)<(match wl.cell? (a.add 1) with | some (.int _ k)=>((bts x).length - k.toNat) | _=>0)
  rw [kA (kO h7 (j+1)),kA D.st.1]
  simp only
  omega
end Go.Proofs
end
section
open Go Go.SE
namespace Go.Sp
def jDC (B:List UInt8) (f:Nat):Nat→Option Nat
 | 0=>some 0
 | k+1=>match jDC B f k,jAW B (f+2+k) with
  | some n,some d=>some (16*n+d)
  | _,_=>none
theorem jUG {c v:Nat} (h:jUH c=some v):v<16:=by
 unfold jUH at h;split at h
 ·cases h;omega
 ·split at h
  ·cases h;omega
  ·cases h
theorem jUA {B:List UInt8} {f:Nat} {c:UInt8} (hc:B[f+1]?=some c) (h:c.toNat=120):vT B f=match jDC B f 2 with | some n=>if escB (UInt8.ofNat n)=(B.drop f).take 4 then some (UInt8.ofNat n,f+4) else none | none=>none:=by
 unfold vT;rw [hc];simp only;rw [if_neg (by omega),if_neg (by omega),if_neg (by omega)];simp only [jDC,Nat.add_zero];rw [show f+2+1=f+3 from rfl];cases jAW B (f+2) with
 | none=>rfl
 | some h=>cases jAW B (f+3) with
  | none=>rfl
  | some l=>simp
end Go.Sp
namespace Go.Proofs
open Tryz
attribute [local irreducible] Calls
theorem ib_hex:∀c:Fin 256,Lib.indexByte [48,49,50,51,52,53,54,55,56,57,97,98,99,100,101,102] (UInt8.ofNat c.val)=match Sp.jUH c.val with | some v=>(v:Int) | none=>-1:=by decide +kernel
theorem jIN (u:UInt8) (w:World):Calls prog 54 #[.string (⟨#[48,49,50,51,52,53,54,55,56,57,97,98,99,100,101,102]⟩:ByteArray),.int .u8 (u.toNat:Int)] w (fun e w'=>e=.returned (.int .i64 (match Sp.jUH u.toNat with | some v=>(v:Int) | none=>-1))∧w'=w):=by
 refine (tH _ _ w).mono ?_;rintro _ w' ⟨rfl,rfl⟩;have:=ib_hex ⟨u.toNat,u.toNat_lt⟩;simp only [UInt8.ofNat_toNat] at this;rw [← this];have hc:((u.toNat:Int).toNat.toUInt8)=u:=by simp
 rw [hc];exact ⟨rfl,rfl⟩
theorem jQF {P:Program} {t:TypeId} (n:Int) (w:World):∃z:Int,(Go.binOp .shl t (.int .i64 n) (.int .u64 4)).run P w=.ok (.int .i64 z) w:=by
 refine ⟨IntKind.i64.wrap (n*2 ^ min (4:Int).toNat IntKind.i64.bits),?_⟩;show (Op.shift .shl .i64 n .u64 4).run P w=_;unfold Op.shift;simp
theorem jQE {P:Program} {t:TypeId} (h:Nat) (hh:h<16) (w:World):(Go.binOp .shl t (.int .i64 (h:Int)) (.int .u64 4)).run P w=.ok (.int .i64 ((16*h:Nat):Int)) w:=by
 have hr:∀k:Fin 16,IntKind.i64.wrap ((k.val:Int)*2 ^ min (4:Int).toNat IntKind.i64.bits)=((16*k.val:Nat):Int):=by decide +kernel
 have:=hr ⟨h,hh⟩;show (Op.shift .shl .i64 (h:Int) .u64 4).run P w=_;unfold Op.shift;simp only at this;simpa using this
theorem jTH {P:Program} {t:TypeId} (h l:Nat) (hh:h<16) (hl:l<16) (w:World):(Go.binOp .or t (.int .i64 ((16*h:Nat):Int)) (.int .i64 (l:Int))).run P w=.ok (.int .i64 ((16*h+l:Nat):Int)) w:=by
 have hr:∀k m:Fin 16,IntKind.i64.wrap ((BitVec.ofInt IntKind.i64.bits ((16*k.val:Nat):Int) ||| BitVec.ofInt IntKind.i64.bits (m.val:Int)).toNat:Int)=((16*k.val+m.val:Nat):Int):=by decide +kernel
 have:=hr ⟨h,hh⟩ ⟨l,hl⟩;simp only at this;show ((pure (Value.int .i64 _):Sem Value)).run P w=_;rw [this];rfl
theorem jTI {P:Program} {t:TypeId} (a b:Int) (w:World):∃z:Int,(Go.binOp .or t (.int .i64 a) (.int .i64 b)).run P w=.ok (.int .i64 z) w :=
 ⟨_,show ((pure (Value.int .i64 _):Sem Value)).run P w=_ from rfl⟩
theorem jTD (n:Int):∃u:UInt8,IntKind.u8.wrap n=(u.toNat:Int):=by
 refine ⟨UInt8.ofNat (n % 256).toNat,?_⟩;rw [UInt8.toNat_ofNat'];simp [IntKind.wrap,IntKind.bits,IntKind.signed];omega
def Bad (w:World) (a:Addr) (x:ByteArray) (i:Nat):Prop:=∃e k,e≠0∧Lne w a x i e k
section
variable {w w':World} {a:Addr} {x:ByteArray} {i:Nat}
theorem Bad.st (h:Bad w a x i) (hi:i≤(bts x).length+2):LSt w a x none:=by obtain ⟨e,k,h0,h⟩:=h;exact ⟨i,e,k,h0,hi,h⟩
theorem Bad.ext {F:NP} (h:Bad w a x i) (E:Ext F w w') (hf:¬ F a.block):Bad w' a x i:=by obtain ⟨e,k,h0,h⟩:=h;exact ⟨e,k,h0,h.ext E hf⟩
end
set_option maxHeartbeats 1000000 in
theorem jJG (a:Addr) (x:ByteArray) (f:Nat) (w0:World) (h:Lne w0 a x (f+1) 0 0) (hf:f<(bts x).length) (hc:(bts x).length≤10000000) :
  Calls prog 56 #[.pointer (some a),.int .i64 (f:Int)] w0 (fun r w'=>∃c:Int,r=.returned (.int .u8 c)∧(LSt w' a x ((Sp.vT (bts x) f).map Prod.snd)∧Ext (·=a.block) w0 w'∧(∃u:UInt8,c=(u.toNat:Int))∧∀d,Sp.vT (bts x) f=some d→c=(d.1.toNat:Int))):=by
 refine w_K (some a) (f:Int) w0 (fun c w'=>LSt w' a x ((Sp.vT (bts x) f).map Prod.snd)∧Ext (·=a.block) w0 w'∧(∃u:UInt8,c=(u.toNat:Int))∧∀d,Sp.vT (bts x) f=some d→c=(d.1.toNat:Int)) ?_
 unfold m_K
 have hl:=lB x
 have la:=h.lt
 have none_:∀{c:Int} {w':World},Sp.vT (bts x) f=none→LSt w' a x none→Ext (·=a.block) w0 w'→(∃u:UInt8,c=(u.toNat:Int))→(LSt w' a x ((Sp.vT (bts x) f).map Prod.snd)∧Ext (·=a.block) w0 w'∧(∃u:UInt8,c=(u.toNat:Int))∧∀d,Sp.vT (bts x) f=some d→c=(d.1.toNat:Int)):=fun e h E hu=>by
  rw [e];exact ⟨h,E,hu,fun _ h=>by cases h⟩
 have some_:∀{d:UInt8×Nat} {w':World},Sp.vT (bts x) f=some d→Lne w' a x d.2 0 0→d.2≤(bts x).length→Ext (·=a.block) w0 w'→(LSt w' a x ((Sp.vT (bts x) f).map Prod.snd)∧Ext (·=a.block) w0 w'∧(∃u:UInt8,(d.1.toNat:Int)=(u.toNat:Int))∧∀d',Sp.vT (bts x) f=some d'→(d.1.toNat:Int)=(d'.1.toNat:Int)):=fun e h hd E=>by
  rw [e];exact ⟨⟨h,hd⟩,E,⟨_,rfl⟩,fun _ h=>by cases h;rfl⟩
 refine (tN a x (f+1) 0 0 w0 h).mono ?_
 rintro _ w1 ⟨c,rfl,hu,⟨u,hu1,rfl,E1⟩ | ⟨hu1,⟨e',k',h0,h1⟩,E1⟩⟩
 ·have h1:=h.pure E1
  have hlt:=Sp.jPO hu1
  refine ⟨_,rfl,E1.keptP,a,rfl,_,kA h1,a,rfl,h1.canW (i:=1) (by simp),id,?_⟩
  rintro w2 rfl
  rw [vY (show f+1≤(bts x).length by omega) (by omega)]
  have h2:=kO h1 (f+1+1)
  have E2:Ext (·=a.block) w0 (w1.setCell (a.add 1) (.int .i64 ((f+1+1:Nat):Int))):=E1.pure.trans uD
  generalize w1.setCell (a.add 1) (.int .i64 ((f+1+1:Nat):Int))=w2 at *
  refine ⟨a,rfl,_,yV h2,Br.f rfl ⟨fun hq=>?_,fun hq=>⟨fun hn=>?_,fun hn=>⟨fun hx=>?_,fun hx=>?_⟩⟩⟩⟩
  all_goals intro H2 w11 hs
  all_goals have nH:¬ H2 a.block:=fun hh=>by have:=hs.old _ hh;omega
  all_goals have h11:=h2.ext hs.ext nH
  all_goals have E11:Ext (·=a.block) w0 w11:=E2.trans' hs.ext (fun b hb hh=>by have:=hs.old b hh;omega)
  ·have hq:u.toNat=34∨u.toNat=92:=by simp at hq;omega
   have he:Sp.vT (bts x) f=some (u,f+2):=by unfold Sp.vT;rw [hu1];simp only;rw [if_pos hq]
   exact some_ he h11 (by simp only;omega) E11
  ·have hq:¬ (u.toNat=34∨u.toNat=92):=by simp at hq;omega
   have hn:u.toNat=110:=by simp at hn;omega
   have he:Sp.vT (bts x) f=some (10,f+2):=by unfold Sp.vT;rw [hu1];simp only;rw [if_neg hq,if_pos hn]
   exact some_ he h11 (by simp only;omega) E11
  ·have hq:¬ (u.toNat=34∨u.toNat=92):=by simp at hq;omega
   have hn:u.toNat≠110:=by simp at hn;omega
   have hx:u.toNat≠120:=by simp at hx;omega
   have he:Sp.vT (bts x) f=none:=by unfold Sp.vT;rw [hu1];simp only;rw [if_neg hq,if_neg hn,if_pos hx]
   refine (qC a x 2 _ (by decide) (some (f+1+1)) w11 ⟨h11,hlt⟩).mono ?_
   rintro _ w13 ⟨rfl,h13,E13⟩
   exact ⟨rfl,E13.kept (fun b hb e=>nH (e▸hb)),none_ he h13 (E11.trans E13) ⟨0,rfl⟩⟩
  ·have hx:u.toNat=120:=by simp at hx;omega
   have he:=Sp.jUA hu1 hx
   unfold m_K_j1
   refine ⟨fun n k H w=>∃j:Nat,k=(j:Int)∧j≤2∧((∃v:Nat,Sp.jDC (bts x) f j=some v∧n=(v:Int)∧(j<2→v<16)∧v<256∧f+2+j≤(bts x).length∧Lne w a x (f+2+j) 0 0)∨(Sp.jDC (bts x) f j=none∧Bad w a x (f+2+j)))∧Ext (·=a.block) w0 w∧∀b,H b→w0.heap.size≤b,fun _ k _=>(2 - k).toNat,
    ⟨0,rfl,by omega,.inl ⟨0,rfl,rfl,fun _=>by omega,by omega,by omega,h11⟩,E11,hs.old⟩,?_⟩
   rintro n _ Hl wl hsl ⟨j,rfl,hj,hst,El,hH⟩
   have nHl:¬ Hl a.block:=fun hh=>by have:=hH _ hh;omega
   have kp:∀{w w':World},Ext (·=a.block) w w'→Kept Hl w w':=fun E=>E.kept (fun b hb e=>nHl (e▸hb))
   unfold m_K_l2
   refine ⟨fun hlt2=>?_,fun hlt2=>?_⟩
   ·have hj2:j<2:=by have:=of_decide_eq_true hlt2;omega
    have bad:∀{w:World} (r:Int),Sp.jDC (bts x) f (j+1)=none→Bad w a x (f+2+j)→Ext (·=a.block) w0 w→m_K_j3 (some a) n (j:Int) r Hl w (fun n' k' H' w'=>(∃j:Nat,k'=(j:Int)∧j≤2∧((∃v:Nat,Sp.jDC (bts x) f j=some v∧n'=(v:Int)∧(j<2→v<16)∧v<256∧f+2+j≤(bts x).length∧Lne w' a x (f+2+j) 0 0)∨(Sp.jDC (bts x) f j=none∧Bad w' a x (f+2+j)))∧Ext (·=a.block) w0 w'∧∀b,H' b→w0.heap.size≤b)∧(2 - k').toNat<(2 - (j:Int)).toNat) (fun c w'=>LSt w' a x ((Sp.vT (bts x) f).map Prod.snd)∧Ext (·=a.block) w0 w'∧(∃u:UInt8,c=(u.toNat:Int))∧∀d,Sp.vT (bts x) f=some d→c=(d.1.toNat:Int)):=fun {w} r hk hb E=>by
     unfold m_K_j3;obtain ⟨z1,e1⟩:=jQF (P:=prog) (t:=3) n w;obtain ⟨z2,e2⟩:=jTI (P:=prog) (t:=3) z1 r w;obtain ⟨e,k,h0,hb⟩:=hb;refine ⟨z1,e1,z2,e2,a,rfl,_,kA hb,a,rfl,hb.canW (i:=1) (by simp),nHl,?_⟩;rintro w5 rfl;rw [vY (show f+2+j≤(bts x).length+2 by omega) (by omega),vY (show j≤2 by omega) (by omega)];exact ⟨⟨j+1,rfl,by omega,.inr ⟨hk,e,k,h0,kO hb (f+2+j+1)⟩,E.trans uD,hH⟩,by omega⟩
    have badc:∀{w:World} (u:UInt8),Sp.jDC (bts x) f (j+1)=none→Bad w a x (f+2+j)→Ext (·=a.block) w0 w→Calls prog 54 #[.string (⟨#[48,49,50,51,52,53,54,55,56,57,97,98,99,100,101,102]⟩:ByteArray),.int .u8 (u.toNat:Int)] w (fun e w4=>∃r3:Int,e=.returned (.int .i64 r3)∧Kept Hl w w4∧Br (decide (r3<0)) (Calls prog 30 #[.pointer (some a),.int .i64 2,.int .i64 (f:Int)] w4 (fun e w6=>e=.returned (.tuple #[])∧Kept Hl w4 w6∧m_K_j3 (some a) n (j:Int) r3 Hl w6 (fun n' k' H' w'=>(∃j:Nat,k'=(j:Int)∧j≤2∧((∃v:Nat,Sp.jDC (bts x) f j=some v∧n'=(v:Int)∧(j<2→v<16)∧v<256∧f+2+j≤(bts x).length∧Lne w' a x (f+2+j) 0 0)∨(Sp.jDC (bts x) f j=none∧Bad w' a x (f+2+j)))∧Ext (·=a.block) w0 w'∧∀b,H' b→w0.heap.size≤b)∧(2 - k').toNat<(2 - (j:Int)).toNat) (fun c w'=>LSt w' a x ((Sp.vT (bts x) f).map Prod.snd)∧Ext (·=a.block) w0 w'∧(∃u:UInt8,c=(u.toNat:Int))∧∀d,Sp.vT (bts x) f=some d→c=(d.1.toNat:Int)))) (m_K_j3 (some a) n (j:Int) r3 Hl w4 (fun n' k' H' w'=>(∃j:Nat,k'=(j:Int)∧j≤2∧((∃v:Nat,Sp.jDC (bts x) f j=some v∧n'=(v:Int)∧(j<2→v<16)∧v<256∧f+2+j≤(bts x).length∧Lne w' a x (f+2+j) 0 0)∨(Sp.jDC (bts x) f j=none∧Bad w' a x (f+2+j)))∧Ext (·=a.block) w0 w'∧∀b,H' b→w0.heap.size≤b)∧(2 - k').toNat<(2 - (j:Int)).toNat) (fun c w'=>LSt w' a x ((Sp.vT (bts x) f).map Prod.snd)∧Ext (·=a.block) w0 w'∧(∃u:UInt8,c=(u.toNat:Int))∧∀d,Sp.vT (bts x) f=some d→c=(d.1.toNat:Int)))):=fun {w} u hk hb E=>by
     refine (jIN u w).mono ?_;rintro _ w4 ⟨rfl,rfl⟩;refine ⟨_,rfl,Kept.refl _,fun hneg=>?_,fun hneg=>bad _ hk hb E⟩;obtain ⟨e,k,h0,hb⟩:=hb;refine (uR a x 2 _ (by decide) (f+2+j) e k w4 hb).mono ?_;rintro _ w6 ⟨rfl,h6,E6⟩;exact ⟨rfl,kp E6,bad _ hk h6 (E.trans E6)⟩
    rcases hst with ⟨v,hv,rfl,hv16,hv256,hlen,hL⟩ | ⟨hv,e,k,h0,hL⟩
    ·have hv16:=hv16 hj2
     refine (tN a x (f+2+j) 0 0 wl hL).mono ?_
     rintro _ w3 ⟨c3,rfl,hu3,⟨u3,hg3,rfl,E3⟩ | ⟨hg3,hb3,E3⟩⟩
     ·have h3:=hL.pure E3
      have hlt3:=Sp.jPO hg3
      refine ⟨_,rfl,E3.keptP,?_⟩
      cases hx3:Sp.jUH u3.toNat with
      | none =>
       have hk:Sp.jDC (bts x) f (j+1)=none:=by
        simp only [Sp.jDC,hv,Sp.jAW,hg3,hx3]
       refine (jIN u3 w3).mono ?_
       rintro _ w4 ⟨rfl,rfl⟩
       rw [hx3]
       refine ⟨_,rfl,Kept.refl _,Br.t rfl ?_⟩
       refine (uR a x 2 _ (by decide) (f+2+j) 0 0 w4 h3).mono ?_
       rintro _ w6 ⟨rfl,h6,E6⟩
       exact ⟨rfl,kp E6,bad _ hk h6 ((El.thenPure E3).trans E6)⟩
      | some d =>
       have hd:=Sp.jUG hx3
       have hk:Sp.jDC (bts x) f (j+1)=some (16*v+d):=by
        simp only [Sp.jDC,hv,Sp.jAW,hg3,hx3]
       refine (jIN u3 w3).mono ?_
       rintro _ w4 ⟨rfl,rfl⟩
       rw [hx3]
       refine ⟨_,rfl,Kept.refl _,Br.f (by simp) ?_⟩
       unfold m_K_j3
       refine ⟨_,jQE v hv16 w4,_,jTH v d hv16 hd w4,a,rfl,_,kA h3,a,rfl,h3.canW (i:=1) (by simp),nHl,?_⟩
       rintro w5 rfl
       rw [vY (show f+2+j≤(bts x).length by omega) (by omega),vY (show j≤2 by omega) (by omega)]
       refine ⟨⟨j+1,rfl,by omega,.inl ⟨16*v+d,hk,rfl,fun hj1=>?_,by omega,by omega,kO h3 (f+2+j+1)⟩,(El.thenPure E3).trans uD,hH⟩,by simp only;omega⟩
       have:j=0:=by omega
       subst this
       simp only [Sp.jDC,Option.some.injEq] at hv
       omega
     ·obtain ⟨u3,rfl⟩:=hu3
      have hk:Sp.jDC (bts x) f (j+1)=none:=by
       simp only [Sp.jDC,hv,Sp.jAW,hg3]
      exact ⟨_,rfl,kp E3,badc u3 hk hb3 (El.trans E3)⟩
    ·have hk:Sp.jDC (bts x) f (j+1)=none:=by simp only [Sp.jDC,hv]
     refine (tN a x (f+2+j) e k wl hL).mono ?_
     rintro _ w3 ⟨c3,rfl,⟨u3,rfl⟩,⟨u4,hg3,_,E3⟩ | ⟨hg3,hb3,E3⟩⟩
     ·exact ⟨_,rfl,E3.keptP,badc u3 hk ⟨e,k,h0,hL.pure E3⟩ (El.thenPure E3)⟩
     ·exact ⟨_,rfl,kp E3,badc u3 hk hb3 (El.trans E3)⟩
   ·have hj2:j=2:=by have:=of_decide_eq_false hlt2;omega
    subst hj2
    rcases hst with ⟨v,hv,rfl,_,hv256,hlen,hL⟩ | ⟨hv,e,k,h0,hL⟩
    ·refine ⟨fun w=>Lne w a x (f+2+2) 0 0,hL.pure (Ext.drew wl),?_⟩
     rintro w7 rfl
     have h7:=hL.pure (Ext.drew wl)
     have E7:Ext (·=a.block) w0 wl.drew:=El.thenPure (Ext.drew wl)
     rw [hv] at he
     simp only at he
     refine ⟨a,rfl,_,yV h7,Br.t rfl ⟨a,rfl,x,fun w' hh=>hh.cell0,a,rfl,_,fun w' hh=>kA hh,_,fun w' _=>jFP x f 4 (by omega) w',?_⟩⟩
     rw [lZ]
     refine (jEA (UInt8.ofNat v) wl.drew).mono ?_
     rintro _ w8 ⟨_,rfl,rfl,E8⟩
     have h8:=h7.pure E8
     refine ⟨_,rfl,h8,E8.keptP,fun hne=>?_,fun hne=>?_⟩
     ·have hne:¬ Sp.escB (UInt8.ofNat v)=((bts x).drop f).take 4:=fun e=>by rw [e] at hne;simp at hne
      rw [if_neg hne] at he
      refine (qC a x 2 _ (by decide) (some (f+2+2)) w8 ⟨h8,by omega⟩).mono ?_
      rintro _ w9 ⟨rfl,h9,E9⟩
      exact ⟨rfl,kp E9,none_ he h9 ((E7.thenPure E8).trans E9) ⟨_,rfl⟩⟩
     ·have heq:Sp.escB (UInt8.ofNat v)=((bts x).drop f).take 4:=by simpa using hne
      rw [if_pos heq] at he
      exact some_ he h8 (by simp only;omega) (E7.thenPure E8)
    ·rw [hv] at he
     simp only at he
     refine ⟨fun _=>True,trivial,?_⟩
     rintro w7 rfl
     have h7:=hL.pure (Ext.drew wl)
     have E7:Ext (·=a.block) w0 wl.drew:=El.thenPure (Ext.drew wl)
     refine ⟨a,rfl,_,yV h7,Br.f (by simpa using h0) ?_⟩
     exact none_ he (Bad.st ⟨e,k,h0,h7⟩ (by omega)) E7 (jTD n)
 ·refine ⟨_,rfl,E1.kept (fun b hb=>hb.elim),a,rfl,_,kA h1,a,rfl,h1.canW (i:=1) (by simp),id,?_⟩
  rintro w2 rfl
  rw [vY (show f+1≤(bts x).length by omega) (by omega)]
  have h2:=kO h1 (f+1+1)
  refine ⟨a,rfl,_,yV h2,Br.t (by simpa using h0) (none_ ?_ (Bad.st ⟨e',k',h0,h2⟩ (by omega)) (E1.trans uD) ⟨0,rfl⟩)⟩
  unfold Sp.vT
  rw [hu1]
end Go.Proofs
end
section
open Go Go.SE
namespace Go.Proofs
open Tryz
attribute [local irreducible] Calls
structure TxS (w0 w:World) (a:Addr) (x:ByteArray) (q:Option Nat) (b:Sl) (acc:List UInt8):Prop where
 st:LSt w a x q
 rows:Rws w 5 1 b (byr acc)
 own:∀k,b.blk k→w0.heap.size≤k
 ext:Ext (·=a.block) w0 w
 la:a.block<w0.heap.size
section
variable {w0 w w':World} {a:Addr} {x:ByteArray} {q q':Option Nat} {b:Sl} {acc:List UInt8}
theorem TxS.move (h:TxS w0 w a x q b acc) (hr:LSt w' a x q') (E:Ext (·=a.block) w w'):TxS w0 w' a x q' b acc :=
 ⟨hr,h.rows.ext E (fun k hk e=>by have:=h.own k hk;have:=h.la;omega),h.own,h.ext.trans E,h.la⟩
theorem TxS.app (h:TxS w0 w a x q b acc) (c:UInt8) (hl:acc.length≤10000000) {p:Addr} {w1:World} (hn:New w (.cells #[.int .u8 (c.toNat:Int)] 5) p w1) :
  ∃s w2,(Builtin.append_ #[25,25] 25 #[b.v,(Sl.mk (some p) 1 1).v]).run prog w1=.ok s.v w2∧TxS w0 w2 a x q s (acc++[c]):=by
 have E1:Pure w w1:=Ext.new hn
 obtain ⟨s,w2,hr,R,X,o⟩:=(h.rows.pure E1).append (P:=prog) (ty:=25) (c:=1) oV (r:=[.int .u8 (c.toNat:Int)]) (Box.of_new hn).row rfl rfl (by rw [zN];omega) (by rw [zN];simp [maxLen];omega)
 have z:=h.ext.size
 have z1:=E1.size
 refine ⟨s,w2,hr,⟨(h.st.pure E1).ext X (fun hh=>by have:=h.own _ hh;have:=h.la;omega),?_,fun k hk=>?_,(h.ext.thenPure E1).trans' X (fun k hk hh=>by have:=h.own k hh;omega),h.la⟩⟩
 ·rw [show byr (acc++[c])=byr acc++[[.int .u8 (c.toNat:Int)]] by simp [byr]];exact R
 ·rcases o k hk with h1 | h1
  ·exact h.own k h1
  ·omega
end
def jPS (n:Nat) (a:Addr) (w:World):Nat:=match w.cell? (a.add 2),w.cell? (a.add 1) with
 | some (.int _ e),some (.int _ k)=>if e=0 then n+1 - k.toNat else 0
 | _,_=>0
section
variable {w:World} {a:Addr} {x:ByteArray} {n j:Nat}
theorem jGL (h:LSt w a x (some j)):jPS n a w=n+1 - j:=by
 unfold jPS;rw [yV h.1,kA h.1];simp
theorem jOB (h:LSt w a x none):jPS n a w=0:=by
 obtain ⟨i,e,k,h0,_,h⟩:=h;unfold jPS;rw [yV h,kA h];simp only;rw [if_neg h0]
end
set_option maxHeartbeats 1000000 in
theorem jRZ (a:Addr) (x:ByteArray) (q:Option Nat) (w0:World) (h:LSt w0 a x q) (hc:(bts x).length≤10000000) :
  Calls prog 29 #[.pointer (some a)] w0 (fun e w'=>∃r:ByteArray,e=.returned (.string r)∧(LSt w' a x ((q.bind fun i=>(Sp.zP (bts x) [34] i).bind fun c=>Sp.vI (bts x) ((bts x).length+1) c.2 []).map Prod.snd)∧Ext (·=a.block) w0 w'∧∀d,(q.bind fun i=>(Sp.zP (bts x) [34] i).bind fun c=>Sp.vI (bts x) ((bts x).length+1) c.2 [])=some d→r=⟨d.1.toArray⟩)):=by
 refine w_I1 (some a) w0 (fun r w'=>LSt w' a x ((q.bind fun i=>(Sp.zP (bts x) [34] i).bind fun c=>Sp.vI (bts x) ((bts x).length+1) c.2 []).map Prod.snd)∧Ext (·=a.block) w0 w'∧∀d,(q.bind fun i=>(Sp.zP (bts x) [34] i).bind fun c=>Sp.vI (bts x) ((bts x).length+1) c.2 [])=some d→r=⟨d.1.toArray⟩) ?_
 unfold m_I1
 have hl:=lB x
 obtain ⟨i0,hi0⟩:∃i0:Int,w0.cell? (a.add 1)=some (.int .i64 i0):=by
  cases q with
  | some i=>exact ⟨_,kA h.1⟩
  | none=>obtain ⟨i,e,k,_,_,h⟩:=h;exact ⟨_,kA h⟩
 refine ⟨a,rfl,i0,hi0,?_⟩
 refine (lA a x q w0 h hc [34]).mono ?_
 rintro _ w1 ⟨c,rfl,h1,E1,_⟩
 generalize hR:(q.bind fun i=>(Sp.zP (bts x) [34] i).bind fun c=>Sp.vI (bts x) ((bts x).length+1) c.2 [])=R at *
 have hq:∃q1:Option Nat,LSt w1 a x q1∧(match q1 with | some j=>Sp.vI (bts x) ((bts x).length+1) j []=R | none=>R=none):=by
  cases q with
  | none=>exact ⟨none,h1,hR.symm⟩
  | some i =>
   simp only [Option.bind_some,List.map_cons,List.map_nil] at h1 hR
   have e34:(34:UInt8).toNat=34:=rfl
   rw [e34] at h1
   cases ht:Sp.zP (bts x) [34] i with
   | none=>rw [ht] at h1 hR;exact ⟨none,h1,hR.symm⟩
   | some d=>rw [ht] at h1 hR;exact ⟨some d.2,h1,hR⟩
 obtain ⟨q1,h1,hq⟩:=hq
 have hnil:∀b,¬ Sl.nil.blk b:=fun b hb=>by obtain ⟨a,h,_⟩:=hb;cases h
 refine ⟨_,rfl,fun b w=>∃(acc:List UInt8) (q:Option Nat),TxS w0 w a x q b acc∧(match q with | some j=>∃f,(bts x).length+1≤f+j∧acc.length≤j∧Sp.vI (bts x) f j acc=R | none=>R=none),fun _ w=>jPS (bts x).length a w,⟨[],q1,⟨h1,Rws.nil _ _ _,fun b hb=>(hnil b hb).elim,E1,h.lt⟩,?_⟩,?_⟩
 ·cases q1 with
  | none=>exact hq
  | some j=>exact ⟨_,Nat.le_add_right _ _,Nat.zero_le _,hq⟩
 rintro b wl ⟨acc,q2,D,hq2⟩
 unfold m_I1_l1
 cases q2 with
 | none =>
  have st:=D.st
  obtain ⟨i,e,k,h0,hi,hL⟩:=st
  refine ⟨a,rfl,_,yV hL,Br.f (by simpa using h0) ?_⟩
  rw [hq2]
  exact ⟨D.st,D.ext,fun d hd=>by cases hd⟩
 | some j =>
  obtain ⟨f,hf,hal,hT⟩:=hq2
  have st:=D.st
  obtain ⟨hL,hj⟩:=st
  obtain ⟨f,rfl⟩:∃g,f=g+1:=⟨f - 1,by omega⟩
  rw [Sp.vI] at hT
  have mu0:jPS (bts x).length a wl=(bts x).length+1 - j:=jGL D.st
  have dead : ∀ {b' : Sl} {w' : World} {acc' : List UInt8}, R = none → TxS w0 w' a x none b' acc' →
    (∃(acc:List UInt8) (q:Option Nat),TxS w0 w' a x q b' acc∧(match q with | some j=>∃f,(bts x).length+1≤f+j∧acc.length≤j∧Sp.vI (bts x) f j acc=R | none=>R=none))∧jPS (bts x).length a w'<jPS (bts x).length a wl:=fun hn D' =>
   ⟨⟨_,none,D',hn⟩,by rw [jOB D'.st,mu0];omega⟩
  have again : ∀ {b' : Sl} {w' : World} {j' : Nat} {acc' : List UInt8}, j < j' → acc'.length ≤ j' → Sp.vI (bts x) f j' acc' = R → TxS w0 w' a x (some j') b' acc' →
    (∃(acc:List UInt8) (q:Option Nat),TxS w0 w' a x q b' acc∧(match q with | some j=>∃f,(bts x).length+1≤f+j∧acc.length≤j∧Sp.vI (bts x) f j acc=R | none=>R=none))∧jPS (bts x).length a w'<jPS (bts x).length a wl:=fun h1 h2 h3 D' =>
   ⟨⟨_,some _,D',f,by omega,h2,h3⟩,by rw [jGL D'.st,mu0];have:=D'.st.2;omega⟩
  refine ⟨a,rfl,_,yV hL,Br.t rfl ⟨a,rfl,_,kA hL,?_⟩⟩
  refine (tN a x j 0 0 wl hL).mono ?_
  rintro _ w2 ⟨c2,rfl,_,⟨u,hu,rfl,E2⟩ | ⟨hu,⟨e',k',h0,h2⟩,E2⟩⟩
  ·have h2:=hL.pure E2
   have hlt:=Sp.jPO hu
   rw [hu] at hT
   simp only at hT
   refine ⟨_,rfl,a,rfl,_,kA h2,a,rfl,h2.canW (i:=1) (by simp),?_⟩
   rintro w3 rfl
   rw [vY (show j≤(bts x).length by omega) (by omega)]
   have h3:=kO h2 (j+1)
   have D3:=(D.move (q':=some j) ⟨h2,hj⟩ E2.pure).move (q':=some (j+1)) ⟨h3,hlt⟩ uD
   generalize w2.setCell (a.add 1) (.int .i64 ((j+1:Nat):Int))=w3 at *
   refine ⟨a,rfl,_,yV h3,Br.f rfl ⟨fun h34=>?_,fun h34=>⟨fun h92=>?_,fun h92=>⟨fun hlo=>?_,fun hlo=>?_⟩⟩⟩⟩
   ·have h34:u.toNat=34:=by have:=beq_iff_eq.1 h34;omega
    rw [if_pos h34] at hT
    have hbl:b.len=acc.length:=by rw [D3.rows.len,zN]
    refine ⟨fun h64=>?_,fun h64=>?_⟩
    ·refine (qC a x 1 _ (by decide) (some (j+1)) w3 D3.st).mono ?_
     rintro _ w4 ⟨rfl,h4,E4⟩
     have D4:=D3.move h4 E4
     rw [if_pos (by have:=of_decide_eq_true h64;omega)] at hT
     refine ⟨rfl,_,jEJ (P:=prog) underlying25 underlying5 underlying9 D4.rows.lst,?_⟩
     rw [← hT]
     exact ⟨D4.st,D4.ext,fun d hd=>by cases hd⟩
    ·rw [if_neg (by have:=of_decide_eq_false h64;omega)] at hT
     refine ⟨_,jEJ (P:=prog) underlying25 underlying5 underlying9 D3.rows.lst,?_⟩
     rw [← hT]
     exact ⟨D3.st,D3.ext,fun d hd=>by cases hd;rfl⟩
   ·have n34:u.toNat≠34:=by have:=beq_eq_false_iff_ne.1 h34;omega
    have h92:u.toNat=92:=by have:=beq_iff_eq.1 h92;omega
    have hu92:(bts x)[j]?=some 92:=by rw [hu];congr 1;apply UInt8.toNat_inj.1;exact h92
    rw [if_neg n34,if_pos h92] at hT
    refine (jJG a x j w3 h3 hlt hc).mono ?_
    rintro _ w5 ⟨c5,rfl,h5,E5,⟨v,rfl⟩,hv⟩
    have D5:=D3.move h5 E5
    refine ⟨_,rfl,fun p1 w6 n6=>?_⟩
    obtain ⟨s1,w7,hr,D7⟩:=D5.app v (by omega) n6
    refine ⟨s1,w7,hr,?_⟩
    cases he:Sp.vT (bts x) j with
    | none=>rw [he] at hT D7;exact dead hT.symm D7
    | some d =>
     rw [he] at hT D7
     have hd:=hv d he
     have:v=d.1:=by apply UInt8.toNat_inj.1;omega
     subst this
     have hd2:=(Sp.jKG hu92 he).2
     exact again (by omega) (by simp;omega) hT D7
   ·have n34:u.toNat≠34:=by have:=beq_eq_false_iff_ne.1 h34;omega
    have n92:u.toNat≠92:=by have:=beq_eq_false_iff_ne.1 h92;omega
    rw [if_neg n34,if_neg n92,if_pos (by simp at hlo;omega)] at hT
    refine (qC a x 2 _ (by decide) (some (j+1)) w3 D3.st).mono ?_
    rintro _ w11 ⟨rfl,h11,E11⟩
    exact ⟨rfl,dead hT.symm (D3.move h11 E11)⟩
   ·have n34:u.toNat≠34:=by have:=beq_eq_false_iff_ne.1 h34;omega
    have n92:u.toNat≠92:=by have:=beq_eq_false_iff_ne.1 h92;omega
    rw [if_neg n34,if_neg n92,if_neg (by simp at hlo;omega)] at hT
    intro p2 w12 n12
    obtain ⟨s2,w13,hr,D13⟩:=D3.app u (by omega) n12
    exact ⟨s2,w13,hr,again (by omega) (by simp;omega) hT D13⟩
  ·rw [hu] at hT
   refine ⟨_,rfl,a,rfl,_,kA h2,a,rfl,h2.canW (i:=1) (by simp),?_⟩
   rintro w3 rfl
   rw [vY (show j≤(bts x).length by omega) (by omega)]
   have h3:=kO h2 (j+1)
   have D3:=(D.move (q':=none) ⟨j,e',k',h0,by omega,h2⟩ E2).move (q':=none) ⟨j+1,e',k',h0,by omega,h3⟩ uD
   refine ⟨a,rfl,_,yV h3,Br.t (by simpa using h0) (dead hT.symm D3)⟩
end Go.Proofs
end
section
open Go Go.SE
namespace Go.Sp
def kss (n:Nat):List Int:=match n with | 0=>[1,2,3,4,5,6,7] | 1=>[1,2,3,4,5,6,7] | 2=>[2,3,4,5,6,7] | 3=>[3,4,5,6,7] | 4=>[4,5,6,7] | 5=>[5,6,7] | 6=>[6,7] | 7=>[7] | _=>[]
theorem kss_at {n:Nat} (h:n<8) (h0:n≠0):kss n=(n:Int) :: kss (n+1):=by
 rcases (show n=1∨n=2∨n=3∨n=4∨n=5∨n=6∨n=7 by omega) with rfl | rfl | rfl | rfl | rfl | rfl | rfl <;> rfl
def jOG (n:Nat):List UInt8:=if n=0 then [] else zU n
theorem jOA {B:List UInt8} {ks:List Int} {w:Int×Bool×Nat} (h:yM B ks=some w):w.2.2≤B.length:=by
 obtain ⟨h1,_,h3⟩:=lE ks w h;apply Classical.byContradiction;intro hn;have hd:B.drop w.2.2=[]:=List.drop_eq_nil_iff.2 (by omega);have hlen:w.2.2≤(zU w.1++(if w.2.1=true then [33] else [])++[32]).length:=by
  clear h1 h3 hd hn;induction ks with
  | nil=>cases h
  | cons k ks ih =>
   unfold yM at h
   split at h
   ·cases h;simp
   ·split at h
    ·cases h;simp
    ·exact ih h
 rw [hd] at h3;have:=congrArg List.length h3;simp only [List.length_append,List.length_cons,List.length_nil] at this hlen;omega
end Go.Sp
namespace Go.Proofs
open Tryz
attribute [local irreducible] Calls
theorem jGS {n:Nat} (h:n<8) (w':World):(Instr.index 77 (.agg jCP) (.int .i64 (n:Int))).run prog w'=.ok (.agg #[.bool (Sp.isSigned n),.bool (Sp.isTexted n),.bool ((n:Int) == 1 || (n:Int) == 4),.string ⟨(Sp.jOG n).toArray⟩]) w':=by
 rcases (show n=0∨n=1∨n=2∨n=3∨n=4∨n=5∨n=6∨n=7 by omega) with rfl | rfl | rfl | rfl | rfl | rfl | rfl | rfl <;> kernel_rfl
theorem jRY (a:Addr) (x:ByteArray) (w0:World) (h:Lne w0 a x 0 0 0) (hc:(bts x).length≤10000000) :
  Calls prog 25 #[.pointer (some a)] w0 (fun r w'=>∃(k:Int) (g:Bool),r=.returned (.tuple #[.int .i64 k,.bool g])∧(LSt w' a x ((Sp.qA (bts x)).map (·.2.2))∧Ext (·=a.block) w0 w'∧(match Sp.qA (bts x) with | some d=>k=d.1∧g=d.2.1 | none=>k=0∧g=false))):=by
 refine w_T (some a) w0 (fun k g w'=>LSt w' a x ((Sp.qA (bts x)).map (·.2.2))∧Ext (·=a.block) w0 w'∧(match Sp.qA (bts x) with | some d=>k=d.1∧g=d.2.1 | none=>k=0∧g=false)) ?_
 unfold m_T
 have la:=h.lt
 have hW:∀d,Sp.qA (bts x)=some d→d.2.2≤(bts x).length:=fun d hd=>Sp.jOA hd
 refine (yR w0).mono ?_
 rintro _ w1 ⟨_,rfl,rfl,E1⟩
 refine ⟨_,rfl,E1.keptP,fun k H w=>∃n:Nat,k=n∧n≤8∧Sp.yM (bts x) (Sp.kss n)=Sp.qA (bts x)∧Lne w a x 0 0 0∧Pure w0 w∧∀b,H b→w0.heap.size≤b,fun k _=>(8 - k).toNat,⟨0,rfl,by omega,rfl,h.pure E1,E1,fun b hb=>hb.elim⟩,?_⟩
 rintro _ Hl wl hsl ⟨n,rfl,hn,hks,hL,El,hH⟩
 have nHl:¬ Hl a.block:=fun hh=>by have:=hH _ hh;omega
 unfold m_T_l1
 refine ⟨fun hlt=>?_,fun hlt=>?_⟩
 ·have hlt:n<8:=by have:=of_decide_eq_true hlt;omega
  have step : ∀ {w : World} {H : NP}, Sp.yM (bts x) (Sp.kss (n + 1)) = Sp.qA (bts x) → Lne w a x 0 0 0 → Pure w0 w → (∀ b, H b → w0.heap.size ≤ b) →
    (∃m:Nat,IntKind.i64.wrap ((n:Int)+1)=m∧m≤8∧Sp.yM (bts x) (Sp.kss m)=Sp.qA (bts x)∧Lne w a x 0 0 0∧Pure w0 w∧∀b,H b→w0.heap.size≤b)∧(8 - IntKind.i64.wrap ((n:Int)+1)).toNat<(8 - (n:Int)).toNat:=fun h1 h2 h3 h4=>by
   rw [vY (show n≤8 by omega) (by omega)]
   exact ⟨⟨n+1,rfl,by omega,h1,h2,h3,h4⟩,by omega⟩
  refine ⟨_,_,_,_,jGS hlt wl,fun he=>?_,fun he=>?_⟩
  ·intro H1 w3 hs3
   have h3:=hL.ext hs3.ext (fun hh=>by have:=hs3.old _ hh;omega)
   have hn0:n=0:=by
    apply Classical.byContradiction;intro h0;have he:=congrArg (fun b:ByteArray=>b.data.toList) (of_decide_eq_true he);simp only [Sp.jOG,if_neg h0] at he;rcases (show n=1∨n=2∨n=3∨n=4∨n=5∨n=6∨n=7 by omega) with rfl | rfl | rfl | rfl | rfl | rfl | rfl <;> simp [Sp.zU] at he
   subst hn0
   exact step hks h3 (El.trans' hs3.ext (fun b hb hh=>by have:=hs3.old b hh;omega)) hs3.old
  ·intro H1 w3 hs3
   have hn0:n≠0:=fun h0=>by subst h0;simp [Sp.jOG] at he
   have h3:=hL.ext hs3.ext (fun hh=>by have:=hs3.old _ hh;omega)
   have E3:Pure w0 w3:=El.trans' hs3.ext (fun b hb hh=>by have:=hs3.old b hh;omega)
   have nH1:¬ H1 a.block:=fun hh=>by have:=hs3.old _ hh;omega
   rw [Sp.kss_at hlt hn0] at hks
   unfold Sp.yM at hks
   have hkw:Sp.jOG n=Sp.zU n:=by unfold Sp.jOG;rw [if_neg hn0]
   rw [hkw]
   have hwl:=Sp.jBT (n:Int)
   have hsz:(ByteArray.mk (Sp.zU (n:Int)).toArray).size=(Sp.zU (n:Int)).length:=by simp [ByteArray.size]
   refine ⟨fun _=>True,trivial,?_⟩
   rintro w4 rfl
   have h4:=h3.pure (Ext.drew w3)
   have E4:Pure w0 w3.drew:=E3.trans (Ext.drew w3)
   refine ⟨a,rfl,x,h4.cell0,_,xC w3.drew (Sp.zU n) [32] (by omega) (by simp),?_⟩
   refine (tI x ⟨(Sp.zU n++[32]).toArray⟩ w3.drew).mono ?_
   rintro _ w5 ⟨rfl,rfl⟩
   have hp1:Lib.hasPrefix x.data.toList (ByteArray.mk (Sp.zU (n:Int)++[32]).toArray).data.toList=(Sp.zU n++[32]).isPrefixOf (bts x):=rfl
   rw [hp1]
   refine ⟨_,rfl,trivial,Kept.refl _,fun hp=>?_,fun hp=>?_⟩
   ·rw [if_pos hp] at hks
    refine ⟨a,rfl,h4.canW (i:=1) (by simp),nH1,?_⟩
    rintro w6 rfl
    have hi:=hW _ hks.symm
    simp only at hi
    rw [hsz,vY (show (Sp.zU (n:Int)).length≤100000 by omega) (by omega),← hks]
    exact ⟨⟨kO h4 _,hi⟩,E4.pure.trans uD,rfl,rfl⟩
   ·rw [if_neg (by rw [hp];simp)] at hks
    refine ⟨fun _=>True,trivial,?_⟩
    rintro w8 rfl
    have h8:=h4.pure (Ext.drew w3.drew)
    have E8:Pure w0 w3.drew.drew:=E4.trans (Ext.drew w3.drew)
    refine ⟨fun hf=>⟨a,rfl,x,h8.cell0,_,xC _ (Sp.zU n) [33,32] (by omega) (by simp),?_⟩,fun hf=>?_⟩
    ·refine (tI x ⟨(Sp.zU n++[33,32]).toArray⟩ _).mono ?_
     rintro _ w9 ⟨rfl,rfl⟩
     have hp2:Lib.hasPrefix x.data.toList (ByteArray.mk (Sp.zU (n:Int)++[33,32]).toArray).data.toList=(Sp.zU n++[33,32]).isPrefixOf (bts x):=rfl
     rw [hp2]
     have hf:(n:Int)=1∨(n:Int)=4:=by simpa using hf
     refine ⟨_,rfl,trivial,Kept.refl _,?_⟩
     unfold m_T_j2
     refine ⟨fun hp=>?_,fun hp=>?_⟩
     ·rw [if_pos ⟨hf,hp⟩] at hks
      refine ⟨a,rfl,h8.canW (i:=1) (by simp),nH1,?_⟩
      rintro w6 rfl
      have hi:=hW _ hks.symm
      simp only at hi
      have hw2:IntKind.i64.wrap (((Sp.zU (n:Int)).length:Int)+2)=(((Sp.zU (n:Int)).length+2:Nat):Int):=by rw [IntWalk.i64_in _ (by omega)];omega
      rw [hsz,hw2,← hks]
      exact ⟨⟨kO h8 _,hi⟩,E8.pure.trans uD,rfl,rfl⟩
     ·rw [if_neg (by rw [hp];simp)] at hks
      exact step hks h8 E8 hs3.old
    ·have hf:¬ ((n:Int)=1∨(n:Int)=4):=by simpa using hf
     rw [if_neg (fun hh=>hf hh.1)] at hks
     unfold m_T_j2
     exact Br.f rfl (step hks h8 E8 hs3.old)
 ·have hn8:n=8:=by have:=of_decide_eq_false hlt;omega
  subst hn8
  have hks:none=Sp.qA (bts x):=hks
  refine (qC a x 110 _ (by decide) (some 0) wl ⟨hL,Nat.zero_le _⟩).mono ?_
  rintro _ w10 ⟨rfl,h10,E10⟩
  refine ⟨rfl,E10.kept (fun b hb e=>nHl (e▸hb)),?_⟩
  rw [← hks]
  exact ⟨h10,El.pure.trans E10,rfl,rfl⟩
end Go.Proofs
end
section
open Go Go.SE
namespace Go.Proofs
attribute [local irreducible] Calls
structure PaS (w0 w:World) (H:NP) (p1 p2:Addr) (x:ByteArray) (q:Option Nat):Prop where
 bx:∃c:List Value,c.length=5∧Box w p1 c 24
 st:LSt w p2 x q
 ne:p1.block≠p2.block
 e:Pure w0 w
 n1:w0.heap.size≤p1.block
 n2:w0.heap.size≤p2.block
 hH:∀b,H b→b≠p1.block∧b≠p2.block∧w0.heap.size≤b
section
variable {w0 w w':World} {H:NP} {p1 p2:Addr} {x:ByteArray} {q q':Option Nat}
theorem PaS.to (h:PaS w0 w H p1 p2 x q) (hr:LSt w' p2 x q') (E:Ext (·=p2.block) w w'):Kept H w w'∧PaS w0 w' H p1 p2 x q':=by
 obtain ⟨c,hc,hb⟩:=h.bx;exact ⟨E.kept (fun b hb e=>(h.hH b hb).2.1 e),⟨c,hc,hb.ext E h.ne⟩,hr,h.ne,h.e.trans' E (fun i hi e=>by have:=h.n2;omega),h.n1,h.n2,h.hH⟩
theorem PaS.hst (h:PaS w0 w H p1 p2 x q) (hs:Hst w0 H w H w'):PaS w0 w' H p1 p2 x q:=by
 obtain ⟨c,hc,hb⟩:=h.bx;exact ⟨⟨c,hc,hb.ext hs.ext (fun hh=>(h.hH _ hh).1 rfl)⟩,h.st.ext hs.ext (fun hh=>(h.hH _ hh).2.1 rfl),h.ne,h.e.trans' hs.ext (fun i hi hh=>by have:=(h.hH _ hh).2.2;omega),h.n1,h.n2,h.hH⟩
theorem PaS.pureE (h:PaS w0 w H p1 p2 x q) (E:Pure w w'):PaS w0 w' H p1 p2 x q:=by
 obtain ⟨c,hc,hb⟩:=h.bx;exact ⟨⟨c,hc,hb.pure E⟩,h.st.pure E,h.ne,h.e.trans E,h.n1,h.n2,h.hH⟩
theorem PaS.err (h:PaS w0 w H p1 p2 x q) (hv:∀w,Pure w0 w→ErrV w):ErrK w p2:=fun w' E=>hv w' (h.e.trans' E (fun i hi e=>by have:=h.n2;omega))
end
def PaR (w0:World) (R:Option Sp.Letter) (k f c:Int) (t:ByteArray) (g:Bool) (e:Int) (w':World):Prop:=(match R with | some l=>(⟨k,f,c,t,g⟩:Sp.Letter)=l∧e=0 | none=>e≠0)∧Pure w0 w'
section
variable {w0 w:World} {H:NP} {p1 p2:Addr} {x:ByteArray}
theorem jJY {R:Option Sp.Letter} (hR:R=none) (k f c:Int) (t:ByteArray) (g:Bool) (D:PaS w0 w H p1 p2 x none):m_E_j5 p1 p2 k f c t g H w (fun k f c t g e _ w'=>PaR w0 R k f c t g e w'):=by
 unfold m_E_j5;have st:=D.st;obtain ⟨i,e,at_,h0,hi,hL⟩:=st;refine ⟨_,yV hL,Br.t (by simpa using h0) ⟨fun w=>Lne w p2 x i e at_,hL.pure (Ext.drew w),?_⟩⟩;rintro w9 rfl;have D9:=D.pureE (Ext.drew w);have h9:Lne w.drew p2 x i e at_:=hL.pure (Ext.drew w);obtain ⟨cl,hcl,hB⟩:=D9.bx;refine ⟨_,fun w' hh=>yV hh,_,fun w' hh=>lne_k hh,hB.canWs (by omega),fun hh=>(D.hH _ hh).1 rfl,?_⟩;rintro w10 rfl;have X:=Ext.storeRow w.drew p1 [.int .i64 0,.int .i64 0,.int .u64 0,.string (⟨#[]⟩:ByteArray),.bool false];have B10:=hB.store (vs:=[.int .i64 0,.int .i64 0,.int .u64 0,.string (⟨#[]⟩:ByteArray),.bool false]) (by rw [hcl];rfl);refine ⟨h9.ext X (fun e=>D.ne e.symm),0,0,0,⟨#[]⟩,false,B10.row,?_,D9.e.trans' X (fun i hi e=>by have:=D.n1;omega)⟩;rw [hR];exact h0
theorem jQP {R:Option Sp.Letter} {i:Nat} (k f c:Int) (t:ByteArray) (g:Bool) (hR:R=some ⟨k,f,c,t,g⟩) (D:PaS w0 w H p1 p2 x (some i)):m_E_j5 p1 p2 k f c t g H w (fun k f c t g e _ w'=>PaR w0 R k f c t g e w'):=by
 unfold m_E_j5;obtain ⟨hL,_⟩:=D.st;obtain ⟨cl,hcl,hB⟩:=D.bx;refine ⟨_,yV hL,Br.f rfl ⟨hB.canWs (by omega),fun hh=>(D.hH _ hh).1 rfl,?_⟩⟩;rintro w11 rfl;have X:=Ext.storeRow w p1 [.int .i64 k,.int .i64 f,.int .u64 c,.string t,.bool g];have B11:=hB.store (vs:=[.int .i64 k,.int .i64 f,.int .u64 c,.string t,.bool g]) (by rw [hcl];rfl);refine ⟨k,f,c,t,g,B11.row,?_,D.e.trans' X (fun i hi e=>by have:=D.n1;omega)⟩;rw [hR];exact ⟨rfl,rfl⟩
theorem pa_3 {R:Option Sp.Letter} {q:Option Nat} (k f c:Int) (t:ByteArray) (g:Bool) (D:PaS w0 w H p1 p2 x q) (hR:R=q.bind fun i=>if i<(bts x).length then none else some ⟨k,f,c,t,g⟩):m_E_j3 x p1 p2 k f c t g H w (fun k f c t g e _ w'=>PaR w0 R k f c t g e w'):=by
 unfold m_E_j3;have hl:=lB x;cases q with
 | none =>
  have st:=D.st
  obtain ⟨i,e,at_,h0,hi,hL⟩:=st
  refine ⟨_,yV hL,Br.f (by simpa using h0) ?_⟩
  unfold m_E_j4
  exact Br.f rfl (jJY hR k f c t g D)
 | some i =>
  have st:=D.st
  obtain ⟨hL,hi⟩:=st
  refine ⟨_,yV hL,Br.t rfl ⟨_,kA hL,?_⟩⟩
  unfold m_E_j4
  refine ⟨fun hlt=>⟨_,kA hL,?_⟩,fun hlt=>?_⟩
  ·simp only [Option.bind_some] at hR
   rw [if_pos (by have:=of_decide_eq_true hlt;omega)] at hR
   refine (qC p2 x 4 _ (by decide) (some i) w D.st).mono ?_
   rintro _ w12 ⟨rfl,h12,E12⟩
   obtain ⟨k12,D12⟩:=D.to h12 E12
   exact ⟨rfl,k12,jJY hR k f c t g D12⟩
  ·simp only [Option.bind_some] at hR
   rw [if_neg (by have:=of_decide_eq_false hlt;omega)] at hR
   exact jQP k f c t g hR D
theorem m32:([32]:List UInt8).map UInt8.toNat=[32]:=rfl
theorem m01:([48,49]:List UInt8).map UInt8.toNat=[48,49]:=rfl
theorem jTZ {B:List UInt8} {k:Int} {i:Nat} (h:Sp.isTexted k=true):Sp.tG B k i=(Sp.zP B [32] i).bind fun c=>(Sp.zP B [34] c.2).bind fun d=>Sp.vI B (B.length+1) d.2 []:=by
 unfold Sp.tG;rw [if_pos h];cases Sp.zP B [32] i with
 | none=>rfl
 | some c=>simp only [Option.bind_some];cases Sp.zP B [34] c.2 <;> rfl
theorem jTY {B:List UInt8} {k:Int} {i:Nat} (h:Sp.isSigned k=true):Sp.xW B k i=(Sp.zP B [48,49] i).bind fun c=>(Sp.zP B [32] c.2).map fun d=>((c.1.toNat:Int) - 48,d.2):=by
 unfold Sp.xW;rw [if_pos h];cases Sp.zP B [48,49] i with
 | none=>rfl
 | some c=>simp only [Option.bind_some];cases Sp.zP B [32] c.2 <;> rfl
def jDT (B:List UInt8) (k f:Int) (g:Bool) (i:Nat):Option Sp.Letter:=(Sp.vG B i).bind fun n=>(Sp.tG B k n.2).bind fun d=>if d.2<B.length then none else some ⟨k,f,n.1,⟨d.1.toArray⟩,g⟩
theorem jLE (B:List UInt8):Sp.uG B=(Sp.qA B).bind fun w=>(Sp.xW B w.1 w.2.2).bind fun f=>jDT B w.1 f.1 w.2.1 f.2:=by
 unfold Sp.uG jDT;cases Sp.qA B with
 | none=>rfl
 | some w =>
  simp only [Option.bind_some]
  cases Sp.xW B w.1 w.2.2 with
  | none=>rfl
  | some f =>
   simp only [Option.bind_some]
   cases Sp.vG B f.2 with
   | none=>rfl
   | some n =>
    simp only [Option.bind_some]
    cases Sp.tG B w.1 n.2 <;> rfl
structure KbS (w:World) (H:NP) (a p2:Addr) (k:Int):Prop where
 bx:∃wd,Box w a (kbox k wd) 76
 ne:a.block≠p2.block
 nH:¬ H a.block
theorem KbS.ext {w w':World} {a:Addr} {k:Int} (h:KbS w H a p2 k) (E:Ext (·=p2.block) w w'):KbS w' H a p2 k:=by
 obtain ⟨wd,hb⟩:=h.bx;exact ⟨⟨wd,hb.ext E h.ne⟩,h.ne,h.nH⟩
theorem KbS.hst {w w':World} {a:Addr} {k:Int} (h:KbS w H a p2 k) (hs:Hst w0 H w H w'):KbS w' H a p2 k:=by
 obtain ⟨wd,hb⟩:=h.bx;exact ⟨⟨wd,hb.ext hs.ext h.nH⟩,h.ne,h.nH⟩
variable (hc:(bts x).length≤10000000)
include hc
theorem pa_2 {R:Option Sp.Letter} {q:Option Nat} (a:Addr) (k f:Int) (g:Bool) (hv:∀w,Pure w0 w→ErrV w) (D:PaS w0 w H p1 p2 x q) (B:KbS w H a p2 k) (hR:R=q.bind fun i=>jDT (bts x) k f g i):m_E_j2 x p1 p2 a k f 0 ⟨#[]⟩ g w0 H w (fun k f c t g e _ w'=>PaR w0 R k f c t g e w'):=by
 unfold m_E_j2;refine (jUR p2 x q w D.st hc (D.err hv)).mono ?_;rintro _ w7 ⟨m,rfl,h7,E7,hm⟩;obtain ⟨k7,D7⟩:=D.to h7 E7;have B7:=B.ext E7;refine ⟨_,rfl,k7,fun w8 hs8=>?_⟩;have D8:=D7.hst hs8;have B8:=B7.hst hs8;obtain ⟨wd,hB⟩:=B8.bx;obtain ⟨q3,rfl⟩:∃q3,(q.bind fun i=>(Sp.vG (bts x) i).map Prod.snd)=q3:=⟨_,rfl⟩;have hR3:R=(q.bind fun i=>(Sp.vG (bts x) i).map Prod.snd).bind fun i=>(Sp.tG (bts x) k i).bind fun d=>if d.2<(bts x).length then none else some ⟨k,f,m,⟨d.1.toArray⟩,g⟩:=by
  cases q with
  | none=>exact hR
  | some i =>
   simp only [Option.bind_some] at hR ⊢
   unfold jDT at hR
   cases hn:Sp.vG (bts x) i with
   | none=>rw [hn] at hR;exact hR
   | some n=>rw [hn] at hR;rw [hm i n rfl hn];exact hR
 clear hR;generalize (q.bind fun i=>(Sp.vG (bts x) i).map Prod.snd)=q3 at *;refine ⟨_,hB.cell (i:=1) rfl,fun htx=>?_,fun htx=>?_⟩
 ·refine (lA p2 x q3 w8 D8.st hc [32]).mono ?_;rintro _ w13 ⟨c13,rfl,h13,E13,_⟩;simp only [m32] at h13;obtain ⟨k13,D13⟩:=D8.to h13 E13;refine ⟨_,rfl,k13,?_⟩;refine (jRZ p2 x _ w13 D13.st hc).mono ?_;rintro _ w14 ⟨r5,rfl,h14,E14,h5⟩;obtain ⟨k14,D14⟩:=D13.to h14 E14;refine ⟨_,rfl,k14,fun w15 hs15=>?_⟩;have D15:=D14.hst hs15;refine pa_3 k f m r5 g D15 ?_;cases q3 with
  | none=>exact hR3
  | some i =>
   simp only [Option.bind_some] at hR3
   rw [jTZ htx] at hR3
   simp only [Option.bind_some] at h5 ⊢
   cases h1:Sp.zP (bts x) [32] i with
   | none=>rw [h1] at hR3;exact hR3
   | some c =>
    rw [h1] at hR3 h5
    simp only [Option.bind_some,Option.map_some] at hR3 h5 ⊢
    generalize ((Sp.zP (bts x) [34] c.2).bind fun d=>Sp.vI (bts x) ((bts x).length+1) d.2 [])=T at *
    cases T with
    | none=>exact hR3
    | some d=>rw [h5 d rfl];exact hR3
 ·refine pa_3 k f m ⟨#[]⟩ g D8 ?_;cases q3 with
  | none=>exact hR3
  | some i =>
   simp only [Option.bind_some] at hR3 ⊢
   unfold Sp.tG at hR3
   rw [if_neg (by rw [htx];decide)] at hR3
   exact hR3
theorem pa_1 {R:Option Sp.Letter} {q:Option Nat} (a:Addr) (k:Int) (g:Bool) (hv:∀w,Pure w0 w→ErrV w) (D:PaS w0 w H p1 p2 x q) (B:KbS w H a p2 k) (hR:R=q.bind fun i=>(Sp.xW (bts x) k i).bind fun f=>jDT (bts x) k f.1 g f.2):m_E_j1 x p1 p2 k g a w0 H w (fun k f c t g e _ w'=>PaR w0 R k f c t g e w'):=by
 unfold m_E_j1;obtain ⟨wd,hB⟩:=B.bx;refine ⟨_,hB.cell0,fun hs=>?_,fun hs=>?_⟩
 ·refine (lA p2 x q w D.st hc [48,49]).mono ?_;rintro _ w16 ⟨c16,rfl,h16,E16,hc16⟩;simp only [m01] at h16 hc16;obtain ⟨k16,D16⟩:=D.to h16 E16;refine ⟨_,rfl,k16,fun w17 hs17=>?_⟩;have D17:=D16.hst hs17;have B17:=(B.ext E16).hst hs17;refine (lA p2 x _ w17 D17.st hc [32]).mono ?_;rintro _ w18 ⟨c18,rfl,h18,E18,_⟩;simp only [m32] at h18;obtain ⟨k18,D18⟩:=D17.to h18 E18;refine ⟨_,rfl,k18,?_⟩;refine pa_2 hc a k _ g hv D18 (B17.ext E18) ?_
  ·cases q with
   | none=>exact hR
   | some i =>
    simp only [Option.bind_some] at hR ⊢
    rw [jTY hs] at hR
    cases h1:Sp.zP (bts x) [48,49] i with
    | none=>rw [h1] at hR;exact hR
    | some c =>
     rw [h1] at hR
     simp only [Option.bind_some,Option.map_some] at hR ⊢
     have hcv:=hc16 i c rfl h1
     have hm:=(Sp.xQ h1).2.2
     cases h2:Sp.zP (bts x) [32] c.2 with
     | none=>rw [h2] at hR;exact hR
     | some d =>
      rw [h2] at hR
      simp only [Option.map_some,Option.bind_some] at hR ⊢
      have hw:IntKind.i64.wrap (IntKind.i64.wrap c16 - 48)=(c.1.toNat:Int) - 48:=by
       have:c.1.toNat=48∨c.1.toNat=49:=by simpa using hm
       rw [hcv];rcases this with h | h <;> rw [h] <;> rfl
      rw [hw];exact hR
 ·refine pa_2 hc a k 0 g hv D B ?_
  ·cases q with
   | none=>exact hR
   | some i =>
    simp only [Option.bind_some] at hR ⊢
    unfold Sp.xW at hR
    rw [if_neg (by rw [hs];decide)] at hR
    exact hR
end
end Go.Proofs
end
section
open Go Go.SE
namespace Go.Proofs
attribute [local irreducible] wpL wpX opE wpE Calls
end Go.Proofs
end
section
namespace Go.SE
section
variable {P:Program} {n:Nat} {ρ:Env} {w:World} {ds:List Deferred} {Q:Exit→Act→World→Prop} {a:Act}
theorem jBQ {c1 c2:Code} (ha:Rep ds n ρ a)
  (h:wpE (x:=⟨none,ds⟩) P n c1 (fun e ρ' w'=>match e with | .normal=>∀a',Rep ds n ρ' a'→c2.wp P Q a' w' | .panic ch=>∀a',Rep ds n ρ' a'→Q (.panic ch) a' w' | _=>False) ρ w):(Code.seq c1 c2).wp P Q a w:=by
 refine wp_seq (wpIn_wide.1 (wpIn_mono (h a ha) ?_))
 rintro e a' w' ⟨ρ',⟨hr,hq⟩ | ⟨rfl,_,_,D,hr,hD,hq⟩⟩
 ·cases e <;> first | exact hq.elim | exact hq _ hr
 ·exact hq.elim
theorem jJK {c:Code} (ha:Rep ds n ρ a)
  (h:wpE (x:=⟨none,ds⟩) P n c (fun e ρ' w'=>match e with | .normal=>∀a',Rep ds n ρ' a'→Q .normal a' w' | .panic ch=>∀a',Rep ds n ρ' a'→Q (.panic ch) a' w' | _=>False) ρ w):c.wp P Q a w:=by
 refine wpIn_wide.1 (wpIn_mono (h a ha) ?_)
 rintro e a' w' ⟨ρ',⟨hr,hq⟩ | ⟨rfl,_,_,D,hr,hD,hq⟩⟩
 ·cases e <;> first | exact hq.elim | exact hq _ hr
 ·exact hq.elim
theorem jMO {id t:Nat} {f:FuncId} {caps:Array Operand} {ty ty':TypeId} {pos pos':String} {aft aft':Array Edge} {c2:Code} (ha:Rep ds n ρ a) (ht:t<n)
  (h:∀a',Rep (⟨.fn (.func f) (caps.map (evE ρ)),#[]⟩ :: ds) n (put ρ (some t) (.func (.func f) #[] (caps.map (evE ρ)))) a'→c2.wp P Q a' w) :
  (Code.seq (.region id #[⟨some t,.makeFunc (.func f) #[] caps,ty,pos,aft,none⟩,⟨none,.defer ⟨.value (.tmp t),#[],#[]⟩,ty',pos',aft',none⟩] false) c2).wp P Q a w:=by
 have h1:Rep ds n (put ρ (some t) (.func (.func f) #[] (caps.map (evE ρ)))) (a.put (some t) (.func (.func f) #[] (caps.map (evE ρ)))):=ha.put (fun k e=>by cases e;exact ht) _
 have h2:=h ({ (a.put (some t) (.func (.func f) #[] (caps.map (evE ρ)))) with defers:=⟨.fn (.func f) (caps.map (evE ρ)),#[]⟩ :: ds }.put none undef) ⟨rfl,h1.size,h1.get⟩
 refine wp_seq ((wpIn_wide (n:=0)).1 (wpIn_region_lit (l:=[_,_]) ?_))
 unfold wpListIn
 rw [if_pos (by simp [Region.wanted])]
 refine jAJ (ro:=none) ⟨by simp,?_⟩
 rw [ha.eval]
 simp only [execOp,Instr.makeFunc]
 show wpListIn _ 0 P _ _ _ _ _
 unfold wpListIn
 rw [if_pos (by simp [Region.wanted])]
 refine ⟨fun f _=>trivial,?_⟩
 have hev:(a.put (some t) (.func (.func f) #[] (caps.map (evE ρ)))).eval (.tmp t)=.func (.func f) #[] (caps.map (evE ρ)):=by
  rw [h1.eval];simp [evE,put,upd]
 have hd:=h1.defers
 simp [Oper.semAt,Fence.wide,execOp,resolve,hev,Deferred.ofValue,Oper.uponIn,wpListIn,Exit.then,hd]
 exact h2
theorem jHF {f:FuncId} {fn:Func} {c:Code} {args:List Value} {R:Ending→World→Prop} (hf:P.funcs[f]?=some fn) (hb:fn.body=some c) (hn:fn.ntmps=n) (hl:args.length≤n)
  (h:∀a,Rep [] n (jFD args) a→c.wp P (bodyPostD P fn R) a w):Calls P f args.toArray w R:=by
 subst hn;exact calls_of_wp_defers hf hb (h _ (jBD args hl))
inductive Recov:FrameMode→Value→FrameMode→Prop
 | idle:Recov .returning .nilIface .returning
 | hit (v:Value) (older:List PanicEntry):Recov (.panicking ({ v:=v,recovered:=false } :: older)) v (.panicking ({ v:=v,recovered:=true } :: older))
def bodyEN (P:Program) (fn:Func) (n:Nat) (R:Ending→World→Prop):Exit→Env→World→Prop
 | .normal,ρ,w=>∃v,(∀ds a,Rep ds n ρ a→(results fn a.tmps).run P w=.ok v w)∧R (.returned v) w
 | .panic ch,_,w=>R (.panicked ch) w
 | _,_,_=>False
theorem lY {id t t2:Nat} {f:FuncId} {fn:Func} {c:Code} {args:List Value} {v:Value} {u u':FrameMode} {R:Ending→World→Prop} {ty ty':TypeId} {pos pos':String} {aft aft':Array Edge}
  (hu:Recov u v u') (hf:P.funcs[f]?=some fn)
  (hb:fn.body=some (Code.seq (.region id #[⟨some t,.call ⟨.builtin .recover,#[],#[]⟩,ty,pos,aft,none⟩,⟨some t2,.assign (.tmp t),ty',pos',aft',none⟩] false) c))
  (hn:fn.ntmps=n) (hl:args.length≤n) (ht:t<n) (ht2:t2<n)
  (h:wpE (x:=⟨none,[]⟩) P n c (bodyEN P fn n R) (put (put (jFD args) (some t) v) (some t2) v) w) :
  CallsD P f args.toArray u w (fun e u1 w'=>u1=u'∧R e w'):=by
 subst hn
 refine callsD_of_wpS hf hb fun c₀ cs hm=>?_
 apply wpS_seq
 apply wpS_region
 have hr:=jBD args hl
 have h1:Rep [] fn.ntmps (put (jFD args) (some t) v) _:=hr.put (d:=some t) (fun k e=>by cases e;exact ht) v
 have h2:Rep [] fn.ntmps (put (put (jFD args) (some t) v) (some t2) v) _:=h1.put (d:=some t2) (fun k e=>by cases e;exact ht2) v
 have hv:((Act.mk (args.toArray++Array.replicate (fn.ntmps - args.toArray.size) undef) []).put (some t) v).eval (.tmp t)=v:=by
  rw [h1.eval];simp [evE,put,upd]
 have key:∀cs',cs'={ c₀ with mode:=u' } :: cs→c.wpS P (bodyPostS P fn c₀ cs fun e u1 w'=>u1=u'∧R e w') ((((Act.mk (args.toArray++Array.replicate (fn.ntmps - args.toArray.size) undef) []).put (some t) v)).put (some t2) v) cs' w:=by
  rintro cs' rfl;refine wpS_of_wp (jJK h2 (jBA ?_ h));intro e ρ' w' hq;cases e with
  | normal =>
   intro a' ha'
   obtain ⟨x,hx,hR⟩:=hq
   exact ⟨ha'.defers,u',rfl,x,hx _ a' ha',rfl,hR⟩
  | panic ch =>
   intro a' ha'
   exact ⟨ha'.defers,u',rfl,rfl,hq⟩
  | _=>exact hq.elim
 have h0:(execOp (Act.mk (args.toArray++Array.replicate (fn.ntmps - args.toArray.size) undef) []).eval ⟨some t,.call ⟨.builtin .recover,#[],#[]⟩,ty,pos,aft,none⟩).run P w=.ok .recover w:=by
  simp [execOp,resolve,invoke,builtin]
 show wpOpsS P _ _ [0,1] _ _ _
 cases hu with
 | idle =>
  have hrd:recoverD (c₀ :: cs)=none:=by simp [recoverD,hm]
  simp only [wpOpsS,List.getElem?_toArray,List.getElem?_cons_zero,List.getElem?_cons_succ]
  rw [if_pos (by simp [Region.wanted]),h0]
  simp only [hrd]
  rw [if_pos (by simp [Region.wanted])]
  simp only [execOp,hv,Oper.upon]
  exact key _ (by cases c₀;simp_all)
 | hit v older =>
  have hrd:recoverD (c₀ :: cs)=some (v,{ c₀ with mode:=.panicking ({ v:=v,recovered:=true } :: older) } :: cs):=by simp [recoverD,hm]
  simp only [wpOpsS,List.getElem?_toArray,List.getElem?_cons_zero,List.getElem?_cons_succ]
  rw [if_pos (by simp [Region.wanted]),h0]
  simp only [hrd]
  rw [if_pos (by simp [Region.wanted])]
  simp only [execOp,hv,Oper.upon]
  exact key _ rfl
end
section
variable {P:Program} {x:Cx} {n:Nat} {Q:Exit→Env→World→Prop} {ρ:Env} {w:World}
end
end Go.SE
end
section
open Go Go.SE
namespace Go.Proofs
open Tryz
attribute [local irreducible] Calls CallsD
theorem jKM {P:Program} {ε:Operand→Value} {w:World} {d:Option Tmp} {ty:TypeId} {pos:String} {aft:Array Edge} {g:Option (Nat×Bool)} {x:Operand} {X T:TypeId} {v:Value} {td:TypeDesc} (hx:ε x=.iface T v) (ht:P.underlying T=some td) (hi:∀m,td≠.interface m) :
  (execOp ε ⟨d,.typeAssert x X T true,ty,pos,aft,g⟩).run P w=.ok (.value (.tuple #[v,.bool true])) w:=by
 simp only [execOp,hx]
 have:(Instr.typeAssert (.iface T v) X T true).run P w=.ok (.tuple #[v,.bool true]) w:=by
  unfold Instr.typeAssert;simp only [Sem.run_bind,run_underlying ht,Result.andThen];cases td <;> first | exact absurd rfl (hi _) | simp
 simp [this]
set_option maxRecDepth 100000 in
theorem jPB (pf pr:Addr) (w:World):CallsD prog 133 #[.pointer (some pf),.pointer (some pr)] .returning w (fun e u' w'=>u'=.returning∧(e=.returned (.tuple #[])∧w'=w)):=by
 refine lY (args:=[.pointer (some pf),.pointer (some pr)]) (R:=fun e w'=>e=.returned (.tuple #[])∧w'=w) .idle func133 rfl ntmps133 (Nat.le_of_ble_eq_true rfl) (by decide) (by decide) ?_;refine jA ?_;refine rg ?_;refine q0 .nilIface ?_;refine q0 (.bool false) ?_;refine jC ?_;refine jN ?_;refine vM (t:=false) (by kernel_rfl) (fun hc1=>by cases hc1) (fun hc1=>?_);refine jB ?_;exact ⟨.tuple #[],fun ds a ha=>by rw [results_none results133],rfl,rfl⟩
set_option maxRecDepth 100000 in
theorem jRV (pf pr r:Addr) (from_ e:Int) (older:List PanicEntry) (w:World) (hf:w.cell? pf=some (.int .i64 from_)) (hr:w.cell? pr=some (.pointer (some r))) (h1:jT w (r.add 1)) (h2:jT w (r.add 2)) (h3:jT w (r.add 3)) :
  CallsD prog 133 #[.pointer (some pf),.pointer (some pr)] (.panicking ({ v:=.iface 191 (.int .i64 e),recovered:=false } :: older)) w (fun e' u' w'=>u'=.panicking ({ v:=.iface 191 (.int .i64 e),recovered:=true } :: older) ∧
   (e'=.returned (.tuple #[])∧w'=((w.setCell (r.add 1) (.int .i64 from_)).setCell (r.add 2) (.int .i64 e)).setCell (r.add 3) (.int .i64 from_))):=by
 refine lY (args:=[.pointer (some pf),.pointer (some pr)]) (R:=fun e' w'=>e'=.returned (.tuple #[])∧w'=((w.setCell (r.add 1) (.int .i64 from_)).setCell (r.add 2) (.int .i64 e)).setCell (r.add 3) (.int .i64 from_)) (.hit _ older) func133 rfl ntmps133 (Nat.le_of_ble_eq_true rfl) (by decide) (by decide) ?_
 refine jA ?_
 refine rg ?_
 refine q0 (.iface 191 (.int .i64 e)) ?_
 refine q0 (.bool true) ?_
 refine jC ?_
 refine jN ?_
 refine vM (t:=true) (by kernel_rfl) (fun hc1=>?_) (fun hc1=>by cases hc1)
 refine jA ?_
 refine rg ?_
 refine q0 (.iface 191 (.int .i64 e)) ?_
 refine q2 (.tuple #[.int .i64 e,.bool true]) (jKM (by kernel_rfl) underlying191 (by intro m;simp)) ?_
 refine q0 (.tuple #[.int .i64 e,.bool true]) ?_
 refine q0 (.int .i64 e) ?_
 refine q0 (.bool true) ?_
 refine q0 (.int .i64 e) ?_
 refine q0 (.bool true) ?_
 refine jC ?_
 refine jN ?_
 refine jA ?_
 refine jA ?_
 refine rg ?_
 refine q0 (.bool true) ?_
 refine q0 (.bool false) ?_
 refine jC ?_
 refine jN ?_
 refine vM (t:=false) (by kernel_rfl) (fun hc1=>by cases hc1) (fun hc1=>?_)
 refine jB ?_
 refine jN ?_
 refine rg ?_
 refine q2 (.pointer (some r)) (yG (a:=pr) (by kernel_rfl) (isAgg141 _) hr) ?_
 refine q2 (.pointer (some r)) (yG (a:=pr) (by kernel_rfl) (isAgg141 _) hr) ?_
 refine q2 (.pointer (some r)) (yG (a:=pr) (by kernel_rfl) (isAgg141 _) hr) ?_
 refine q2 (.int .i64 from_) (yG (a:=pf) (by kernel_rfl) (isAgg3 _) hf) ?_
 refine q0 (.int .i64 e) ?_
 refine q2 (.int .i64 from_) (yG (a:=pf) (by kernel_rfl) (isAgg3 _) hf) ?_
 refine q0 (.pointer (some r)) ?_
 refine q0 (.pointer (some (r.add 1))) ?_
 refine qG (jK rfl) (qV (a:=r.add 1) (v:=.int .i64 from_) (by kernel_rfl) (by kernel_rfl) rfl (sizeOf3 _) h1) ?_
 rintro w1 rfl
 refine q0 (.pointer (some r)) ?_
 refine q0 (.pointer (some (r.add 2))) ?_
 refine qG (jK rfl) (qV (a:=r.add 2) (v:=.int .i64 e) (by kernel_rfl) (by kernel_rfl) rfl (sizeOf30 _) (jT.setCell h2)) ?_
 rintro w2 rfl
 refine q0 (.pointer (some r)) ?_
 refine q0 (.pointer (some (r.add 3))) ?_
 refine qG (jK rfl) (qV (a:=r.add 3) (v:=.int .i64 from_) (by kernel_rfl) (by kernel_rfl) rfl (sizeOf3 _) (jT.setCell (jT.setCell h3))) ?_
 rintro w3 rfl
 refine jC ?_
 exact ⟨.tuple #[],fun ds a ha=>by rw [results_none results133],rfl,rfl⟩
theorem jSL {P:Program} {w:World} {f:FuncId} {cap args:Array Value} (hc:∀args w,(callFunc f args).run P w=.ok (.enter f args) w) (h:cap=args):(invoke (.fn (.func f) cap) #[]).run P w=.ok (.enter f args) w:=by
 subst h;simp [invoke,hc]
set_option maxRecDepth 100000 in
theorem jAF (r:Addr) (do_:Value) (e:Int) (w0:World) (he:w0.cell? (r.add 2)=some (.int .i64 e)) (h0:e≠0) :
  Calls prog 121 #[.pointer (some r),do_] w0 (fun e w'=>e=.returned (.tuple #[])∧Pure w0 w'):=by
 refine jAT (args:=[.pointer (some r),do_]) func121 rfl ntmps121 (Nat.le_of_ble_eq_true rfl) ?_
 refine jA ?_
 refine rg ?_
 refine uL (O:=(.cells #[(.pointer (some r))] 141)) (fun p=>.pointer (some p)) (jK rfl) (jSZ (cs:=#[(.pointer (some r))]) (by kernel_rfl)) ?_
 intro p1 w1 hn1
 have E1:Pure w0 w1:=Ext.new hn1
 have hp1:w1.cell? p1=some (.pointer (some r)):=(Box.of_newA hn1).cell0
 have he1:=E1.cell he id
 refine jC ?_
 refine jN ?_
 refine jA ?_
 refine jA ?_
 refine rg ?_
 refine q2 (.pointer (some r)) (yG (a:=p1) (by kernel_rfl) (isAgg141 _) hp1) ?_
 refine q2 (.bool false) (qK (x:=some r) (by kernel_rfl) rfl underlying141) ?_
 refine q0 (.bool false) ?_
 refine q2 (.pointer (some r)) (yG (a:=p1) (by kernel_rfl) (isAgg141 _) hp1) ?_
 refine q0 (.pointer (some r)) ?_
 refine q0 (.pointer (some (r.add 2))) ?_
 refine q2 (.int .i64 e) (yG (a:=r.add 2) (by kernel_rfl) (isAgg30 _) he1) ?_
 refine q0 (.bool ((e:Int) != 0)) ?_
 refine q0 (.bool ((e:Int) != 0)) ?_
 refine jC ?_
 refine jN ?_
 refine vM (t:=true) (by rw [show ((e:Int) != 0)=true by simpa using h0];kernel_rfl) (fun hc1=>?_) (fun hc1=>by cases hc1)
 refine jMN ?_
 refine zM ?_
 exact jFV (.inl rfl) results121 ⟨rfl,E1⟩
set_option maxRecDepth 100000 in
theorem jJE (r:Addr) (fd:FuncId) (caps:Array Value) (at_:Int) (w0:World) (K:WP) (h1:w0.cell? (r.add 1)=some (.int .i64 at_)) (h2:w0.cell? (r.add 2)=some (.int .i64 0))
  (hc:∀args w,(callFunc fd args).run prog w=.ok (.enter fd args) w)
  (hdo:∀w1 p pf,Pure w0 w1→w0.heap.size≤Addr.block p→w0.heap.size≤Addr.block pf→w1.cell? p=some (.pointer (some r))→w1.cell? pf=some (.int .i64 at_) →
   Calls prog fd caps w1 (fun e w2=>(e=.returned (.tuple #[])∧K w2)∨∃x,e=.panicked [{ v:=.iface 191 (.int .i64 x),recovered:=false }]∧w2.cell? p=some (.pointer (some r))∧w2.cell? pf=some (.int .i64 at_)∧jT w2 (r.add 1)∧jT w2 (r.add 2)∧jT w2 (r.add 3) ∧
    K (((w2.setCell (r.add 1) (.int .i64 at_)).setCell (r.add 2) (.int .i64 x)).setCell (r.add 3) (.int .i64 at_)))) :
  Calls prog 121 #[.pointer (some r),.func (.func fd) #[] caps] w0 (fun e w'=>e=.returned (.tuple #[])∧K w'):=by
 refine jHF (args:=[.pointer (some r),.func (.func fd) #[] caps]) func121 rfl ntmps121 (Nat.le_of_ble_eq_true rfl) ?_
 intro a ha
 refine jBQ ha ?_
 refine rg ?_
 refine uL (O:=(.cells #[(.pointer (some r))] 141)) (fun p=>.pointer (some p)) (jK rfl) (jSZ (cs:=#[(.pointer (some r))]) (by kernel_rfl)) ?_
 intro p1 w1 hn1
 have E1:Pure w0 w1:=Ext.new hn1
 have hp1:w1.cell? p1=some (.pointer (some r)):=(Box.of_newA hn1).cell0
 have he1:=E1.cell h2 id
 have hb1:=hn1.at_size
 clear ha
 refine jC ?_
 intro a ha
 refine jBQ ha ?_
 refine jA ?_
 refine rg ?_
 refine q2 (.pointer (some r)) (yG (a:=p1) (by kernel_rfl) (isAgg141 _) hp1) ?_
 refine q2 (.bool false) (qK (x:=some r) (by kernel_rfl) rfl underlying141) ?_
 refine q0 (.bool false) ?_
 refine q2 (.pointer (some r)) (yG (a:=p1) (by kernel_rfl) (isAgg141 _) hp1) ?_
 refine q0 (.pointer (some r)) ?_
 refine q0 (.pointer (some (r.add 2))) ?_
 refine q2 (.int .i64 0) (yG (a:=r.add 2) (by kernel_rfl) (isAgg30 _) he1) ?_
 refine q0 (.bool false) ?_
 refine q0 (.bool false) ?_
 refine jC ?_
 refine jN ?_
 refine vM (t:=false) (by kernel_rfl) (fun hc1=>by cases hc1) (fun hc1=>?_)
 refine jB ?_
 clear ha
 intro a ha
 refine jBQ ha ?_
 refine rg ?_
 refine q2 (.pointer (some r)) (yG (a:=p1) (by kernel_rfl) (isAgg141 _) hp1) ?_
 refine q0 (.pointer (some r)) ?_
 refine q0 (.pointer (some (r.add 1))) ?_
 refine q2 (.int .i64 at_) (yG (a:=r.add 1) (by kernel_rfl) (isAgg3 _) (E1.cell h1 id)) ?_
 refine uL (O:=(.cells #[(.int .i64 0)] 3)) (fun p=>.pointer (some p)) (jK rfl) (jG (zeroValue3 _) rfl) ?_
 intro p2 w2 hn2
 have E2:Pure w0 w2:=E1.trans (Ext.new hn2)
 have hb2:=hn2.at_size
 have B2:=Box.of_newA hn2
 refine qG (jK rfl) (qV (a:=p2) (v:=.int .i64 at_) (by kernel_rfl) (by kernel_rfl) rfl (sizeOf3 _) (B2.canW0 (by simp))) ?_
 intro w3 hw3
 have hb3:=World.block_lt_of_cell? w1 p1 hp1
 have E3:Pure w0 w3:=E2.own (p:=p2) (by have:=E1.size;omega) (hw3▸Ext.setCell p2 _)
 have hp3:w3.cell? p1=some (.pointer (some r)):=by
  rw [hw3];exact (Ext.setCell p2 _).cell ((Ext.new (F:=None) hn2).cell hp1 id) (fun e=>by omega)
 have hf3:w3.cell? p2=some (.int .i64 at_):=by
  rw [hw3];exact (B2.set0).cell0
 refine jC ?_
 clear ha
 intro a ha
 refine jMO ha (by decide) ?_
 clear ha
 intro a ha
 refine jJK ha ?_
 refine kJ (by kernel_rfl) ?_
 refine kC 1 ?_
 refine q0 (.func (.func fd) #[] caps) ?_
 refine jC ?_
 refine jBX (jK rfl) (by intro c hc;cases hc) (jMM (caps:=caps) (args:=#[]) (args':=caps) (by kernel_rfl) hc rfl (by simp)) ((hdo w3 p1 p2 E3 (by omega) (by have:=E1.size;omega) hp3 hf3).mono ?_)
 rintro e w4 (⟨rfl,hK⟩ | ⟨x,rfl,ha1,ha2,hw1,hw2,hw3',hK⟩)
 ·refine .inl ⟨_,rfl,?_⟩
  refine jPV ?_
  clear ha
  intro a ha
  show Leaves _ _ _ _ _ _ _
  rw [ha.defers]
  refine leaves_cons (f:=133) (args:=#[.pointer (some p2),.pointer (some p1)]) (by simp) (jSL call133 (by simp [evE,put,upd])) ?_
  refine (jPB p2 p1 w4).mono ?_
  rintro e u' w5 ⟨rfl,rfl,rfl⟩
  exact ⟨_,results_none results121 _ _ _,rfl,hK⟩
 ·refine .inr ⟨_,rfl,?_⟩
  intro ρ' 
  clear ha
  intro a ha
  show Leaves _ _ _ _ _ _ _
  rw [ha.defers]
  refine leaves_cons (f:=133) (args:=#[.pointer (some p2),.pointer (some p1)]) (by simp) (jSL call133 (by simp [evE,put,upd])) ?_
  refine (jRV p2 p1 r at_ x [] w4 ha2 ha1 hw1 hw2 hw3').mono ?_
  rintro e u' w5 ⟨rfl,rfl,rfl⟩
  exact ⟨_,results_none results121 _ _ _,rfl,hK⟩
structure RdAt (S:NP) (w:World) (a:Addr) (s:Sl) (bs:List UInt8) (at_ err spot:Int):Prop where
 box:Box w a [s.v,.int .i64 at_,.int .i64 err,.int .i64 spot] 170
 lst:Lst S w 1 s (byr bs)
 apart:∀b,S b→b≠a.block
 small:bs.length≤100000000000
 room:s.len≤s.cap
def jRK (e:Int):List PanicEntry:=[{ v:=.iface 191 (.int .i64 e),recovered:=false }]
section
variable {S:NP} {w w':World} {a:Addr} {s:Sl} {bs:List UInt8} {at_ err spot:Int}
theorem RdAt.ext {F:NP} (h:RdAt S w a s bs at_ err spot) (E:Ext F w w') (hF:∀b,S b→¬ F b) (ha:¬ F a.block):RdAt S w' a s bs at_ err spot :=
 ⟨h.box.ext E ha,h.lst.ext E hF,h.apart,h.small,h.room⟩
theorem RdAt.pure (h:RdAt S w a s bs at_ err spot) (E:Pure w w'):RdAt S w' a s bs at_ err spot:=h.ext E (fun _ _ h=>h) id
theorem RdAt.atC (h:RdAt S w a s bs at_ err spot):w.cell? (a.add 1)=some (.int .i64 at_):=h.box.cell (i:=1) rfl
theorem RdAt.errC (h:RdAt S w a s bs at_ err spot):w.cell? (a.add 2)=some (.int .i64 err):=h.box.cell (i:=2) rfl
theorem RdAt.setAt (h:RdAt S w a s bs at_ err spot) (k:Int):RdAt S (w.setCell (a.add 1) (.int .i64 k)) a s bs k err spot :=
 ⟨h.box.set 1 _,h.lst.ext (Ext.setCell _ _) (fun b hb e=>h.apart b hb (by rw [zA] at e;exact e)),h.apart,h.small,h.room⟩
theorem RdAt.setErr (h:RdAt S w a s bs at_ err spot) (k:Int):RdAt S (w.setCell (a.add 2) (.int .i64 k)) a s bs at_ k spot :=
 ⟨h.box.set 2 _,h.lst.ext (Ext.setCell _ _) (fun b hb e=>h.apart b hb (by rw [zA] at e;exact e)),h.apart,h.small,h.room⟩
theorem RdAt.setSpot (h:RdAt S w a s bs at_ err spot) (k:Int):RdAt S (w.setCell (a.add 3) (.int .i64 k)) a s bs at_ err k :=
 ⟨h.box.set 3 _,h.lst.ext (Ext.setCell _ _) (fun b hb e=>h.apart b hb (by rw [zA] at e;exact e)),h.apart,h.small,h.room⟩
theorem vE {k:Nat} {v:Value}:Ext (·=a.block) w (w.setCell (a.add k) v):=(Ext.setCell _ _).mono (fun i _ e=>by rw [zA] at e;exact e)
end
theorem jSP {S:NP} (a:Addr) (s:Sl) (bs:List UInt8) (at_:Nat) (err spot:Int) (w0:World) (h:RdAt S w0 a s bs at_ err spot) (hat:at_≤bs.length) :
  Calls prog 128 #[.pointer (some a)] w0 (fun e w'=>(∃hlt:at_<bs.length,e=.returned (.int .u8 (bs[at_].toNat:Int))∧RdAt S w' a s bs ((at_+1:Nat):Int) err spot∧Ext (·=a.block) w0 w') ∨
   (at_=bs.length∧e=.panicked (jRK 3)∧RdAt S w' a s bs at_ err spot∧Ext (·=a.block) w0 w')):=by
 refine (w_D1 (some a) w0 (fun o r w'=>(∃hlt:at_<bs.length,o=none∧r=(bs[at_].toNat:Int)∧RdAt S w' a s bs ((at_+1:Nat):Int) err spot∧Ext (·=a.block) w0 w')∨(at_=bs.length∧o=some (jRK 3)∧RdAt S w' a s bs at_ err spot∧Ext (·=a.block) w0 w')) ?_).mono ?_
 ·unfold m_D1
  refine ⟨a,rfl,fun w1 hs=>?_⟩
  have h1:=h.pure hs.first
  have hl:s.len=bs.length:=by rw [h.lst.len,zN]
  refine ⟨_,h1.atC,a,rfl,s,h1.box.cell0,fun hc=>?_,fun hc=>?_⟩
  ·have:at_=bs.length:=by have:=beq_iff_eq.1 hc;omega
   exact .inr ⟨this,rfl,h1,Ext.pure hs.first⟩
  ·have hne:at_≠bs.length:=by have:=beq_eq_false_iff_ne.1 hc;omega
   have hlt:at_<bs.length:=by omega
   unfold m_D1_j1
   refine ⟨a,rfl,_,h1.atC,a,rfl,h1.box.canW (i:=1) (by simp),id,?_⟩
   rintro w2 rfl
   have hw:IntKind.i64.wrap ((at_:Int)+1)=((at_+1:Nat):Int):=kQ hlt (by have:=h.small;omega)
   rw [hw]
   have h2:=h1.setAt ((at_+1:Nat):Int)
   refine ⟨a,rfl,fun w3 hs3=>?_⟩
   have h3:=h2.pure hs3.ext
   have hw2:IntKind.i64.wrap (((at_+1:Nat):Int) - 1)=(at_:Int):=by
    rw [IntWalk.i64_in _ (by have:=h.small;omega)];omega
   obtain ⟨c,hc1,_,hc3⟩:=jPN h3.lst hlt
   refine ⟨s,h3.box.cell0,a,rfl,_,h3.atC,c,?_,_,hc3,.inl ⟨hlt,rfl,rfl,h3,((Ext.pure hs.first).trans vE).thenPure hs3.ext⟩⟩
   rw [hw2];exact hc1
 ·rintro e w' (⟨r,rfl,h⟩ | ⟨ch,rfl,h⟩)
  ·rcases h with ⟨hlt,_,rfl,h⟩ | ⟨_,h,_⟩
   ·exact .inl ⟨hlt,rfl,h⟩
   ·cases h
  ·rcases h with ⟨hlt,h,_⟩ | ⟨h1,h2,h⟩
   ·cases h
   ·cases h2;exact .inr ⟨h1,rfl,h⟩
theorem c_num {S:NP} (a:Addr) (s:Sl) (bs:List UInt8) (at_:Nat) (err spot:Int) (w0:World) (h:RdAt S w0 a s bs at_ err spot) (hat:at_≤bs.length) :
  Calls prog 123 #[.pointer (some a)] w0 (fun e w'=>(∃n k:Nat,yT 0 0 (bs.drop at_)=.ok (n,k)∧e=.returned (.int .u64 (n:Int))∧n<18446744073709551616∧at_+k≤bs.length∧RdAt S w' a s bs ((at_+k:Nat):Int) err spot∧Ext (·=a.block) w0 w') ∨
   (∃x:Nat,∃at':Int,yT 0 0 (bs.drop at_)=.error x∧e=.panicked (jRK x)∧RdAt S w' a s bs at' err spot∧Ext (·=a.block) w0 w')):=by
 refine (w_U (some a) w0 (fun o r w' => (∃ n k : Nat, yT 0 0 (bs.drop at_) = .ok (n, k) ∧ o = none ∧ r = (n : Int) ∧ n < 18446744073709551616 ∧ at_ + k ≤ bs.length ∧ RdAt S w' a s bs ((at_ + k : Nat) : Int) err spot ∧ Ext (· = a.block) w0 w') ∨
   (∃x:Nat,∃at':Int,yT 0 0 (bs.drop at_)=.error x∧o=some (jRK x)∧RdAt S w' a s bs at' err spot∧Ext (·=a.block) w0 w')) ?_).mono ?_
 ·unfold m_U
  refine ⟨fun n i w=>∃acc k:Nat,n=(acc:Int)∧i=(k:Int)∧k≤9∧acc<2 ^ (7*k)∧at_+k≤bs.length∧yT k acc (bs.drop (at_+k))=yT 0 0 (bs.drop at_)∧RdAt S w a s bs ((at_+k:Nat):Int) err spot∧Ext (·=a.block) w0 w,fun _ i _=>(10 - i).toNat,⟨0,0,rfl,rfl,by omega,by simp,by simpa using hat,rfl,by simpa using h,Ext.refl _⟩,?_⟩
  rintro _ _ wl ⟨acc,k,rfl,rfl,hk,hacc,hle,hrd,hR,hE⟩
  unfold m_U_l1
  refine (jSP a s bs (at_+k) err spot wl hR hle).mono ?_
  rintro e w1 (⟨hlt,rfl,hR1,hE1⟩ | ⟨heq,rfl,hR1,hE1⟩)
  ·refine .inl ⟨_,rfl,?_⟩
   have hdrop:bs.drop (at_+k)=bs[at_+k] :: bs.drop (at_+k+1):=List.drop_eq_getElem_cons hlt
   generalize hcc:bs[at_+k]=c at *
   have hc:=c.toNat_lt
   rw [hdrop,yB] at hrd
   refine ⟨fun hb=>?_,fun hb=>?_⟩
   ·have hb':k=9∧1<c.toNat:=by simp at hb;omega
    rw [if_pos hb'] at hrd
    exact .inr ⟨11,_,hrd.symm,rfl,hR1,hE.trans hE1⟩
   ·have hb':¬ (k=9∧1<c.toNat):=by intro hh;simp at hb;omega
    rw [if_neg hb'] at hrd
    have hpw:c.toNat % 128*2 ^ (7*k)<18446744073709551616:=by
     by_cases h9:k=9
     ·subst h9;omega
     ·have h8:2 ^ (7*k)≤2 ^ 56:=Nat.pow_le_pow_right (by omega) (by omega);have h127:c.toNat % 128≤127:=by omega
      calc c.toNat % 128*2 ^ (7*k)≤127*2 ^ 56:=Nat.mul_le_mul h127 h8
       _<18446744073709551616:=by decide
    have hac:acc<18446744073709551616:=Nat.lt_of_lt_of_le hacc (by
     calc 2 ^ (7*k)≤2 ^ 63:=Nat.pow_le_pow_right (by omega) (by omega)
      _≤18446744073709551616:=by decide)
    have h7:IntKind.i64.wrap (7*(k:Int))=((7*k:Nat):Int):=by rw [IntWalk.i64_in _ (by omega)];simp
    have h128:128 ^ k=2 ^ (7*k):=by rw [Nat.pow_mul]
    have hsum:acc ||| (c.toNat % 128*2 ^ (7*k))=acc+c.toNat % 128*2 ^ (7*k):=or_add hacc
    have hsl:acc+c.toNat % 128*2 ^ (7*k)<18446744073709551616:=by
     rw [← hsum];exact Nat.or_lt_two_pow (n:=64) hac hpw
    unfold m_U_j2
    rw [h7]
    refine ⟨_,jKW c.toNat hc,_,by rw [vL (by omega)];exact jTG _ _ (by omega) hpw,_,jQG _ _ hac hpw,?_⟩
    rw [hsum]
    refine ⟨fun hs=>?_,fun hs=>?_⟩
    ·have hs':c.toNat<128:=by have:=of_decide_eq_true hs;omega
     rw [if_pos hs'] at hrd
     refine ⟨fun hz=>?_,fun hz=>?_⟩
     ·have hz':c.toNat=0∧0<k:=by simp at hz;omega
      rw [if_pos hz'] at hrd
      exact .inr ⟨10,_,hrd.symm,rfl,hR1,hE.trans hE1⟩
     ·have hz':¬ (c.toNat=0∧0<k):=by intro hh;simp at hz;omega
      rw [if_neg hz',h128] at hrd
      rw [Nat.mod_eq_of_lt hs'] at hsl ⊢
      exact .inl ⟨_,k+1,hrd.symm,rfl,rfl,hsl,by omega,hR1,hE.trans hE1⟩
    ·have hs':¬ c.toNat<128:=by have:=of_decide_eq_false hs;omega
     rw [if_neg hs',h128] at hrd
     have hk9:k≠9:=by omega
     rw [kQ (n:=10) (by omega) (by omega)]
     refine ⟨⟨_,k+1,rfl,rfl,by omega,?_,by omega,hrd,hR1,hE.trans hE1⟩,by show (10 - ((k+1:Nat):Int)).toNat<(10 - (k:Int)).toNat;omega⟩
     have:2 ^ (7*(k+1))=128*2 ^ (7*k):=by rw [Nat.mul_add,Nat.pow_add];omega
     rw [this]
     have h127:c.toNat % 128*2 ^ (7*k)≤127*2 ^ (7*k):=Nat.mul_le_mul_right _ (by omega)
     omega
  ·refine .inr ⟨_,rfl,.inr ⟨3,_,?_,rfl,hR1,hE.trans hE1⟩⟩
   rw [← hrd,heq,List.drop_length];rfl
 ·rintro e w' (⟨r,rfl,h⟩ | ⟨ch,rfl,h⟩)
  ·rcases h with ⟨n,k,h1,_,rfl,h⟩ | ⟨_,_,_,h,_⟩
   ·exact .inl ⟨n,k,h1,rfl,h⟩
   ·cases h
  ·rcases h with ⟨n,k,h1,h,_⟩ | ⟨x,at',h1,h2,h⟩
   ·cases h
   ·cases h2;exact .inr ⟨x,at',h1,rfl,h⟩
abbrev RdS (S:NP) (w:World) (a:Addr) (s:Sl) (bs:List UInt8) (r:Rd):Prop:=RdAt S w a s bs r.at_ r.err r.spot
theorem jAI {w:World} {p:Addr} {u v:Value} {T:TypeId} (h:Box w p [u] T):Box (w.setCell p v) p [v] T:=h.set0
theorem RdAt.gives {S:NP} {w:World} {a:Addr} {s:Sl} {bs:List UInt8} {at_ err spot:Int} (h:RdAt S w a s bs at_ err spot) (f e:Int) :
  jT w (a.add 1)∧jT w (a.add 2)∧jT w (a.add 3)∧RdAt S (((w.setCell (a.add 1) (.int .i64 f)).setCell (a.add 2) (.int .i64 e)).setCell (a.add 3) (.int .i64 f)) a s bs f e f :=
 ⟨h.box.canW (i:=1) (by simp),h.box.canW (i:=2) (by simp),h.box.canW (i:=3) (by simp),((h.setAt f).setErr e).setSpot f⟩
theorem lO {w:World} {a:Addr} {u v x:Value}:Ext (·=a.block) w (((w.setCell (a.add 1) u).setCell (a.add 2) v).setCell (a.add 3) x):=(vE.trans vE).trans vE
theorem jHM {S:NP} (a:Addr) (s:Sl) (bs:List UInt8) (r:Rd) (w0:World) (h:RdS S w0 a s bs r) (hat:r.at_≤bs.length) (hS:∀b,S b→b<w0.heap.size) :
  Calls prog 86 #[.pointer (some a)] w0 (fun e w'=>∃x:Int,e=.returned (.int .u64 x)∧x=((kW bs r).1:Int)∧RdS S w' a s bs (kW bs r).2∧Ext (·=a.block) w0 w'):=by
 refine w_V2 (some a) w0 (fun x w'=>x=((kW bs r).1:Int)∧RdS S w' a s bs (kW bs r).2∧Ext (·=a.block) w0 w') ?_
 unfold m_V2
 intro p1 w1 n1 p2 w2 n2
 have E1:Pure w0 w1:=Ext.new n1
 have E2:Pure w0 w2:=E1.trans (Ext.new n2)
 have hp1:w2.cell? p1=some (.pointer (some a)):=(Ext.new (F:=None) n2).cell (Box.of_newA n1).cell0 id
 have b1:=n1.at_size
 have b2:=n2.at_size
 have b12:p1.block≠p2.block:=by have:=World.block_lt_of_cell? w1 p1 (Box.of_newA n1).cell0;omega
 have ha0:=World.block_lt_of_cell? w0 a h.box.cell0
 have B2:=Box.of_newA n2
 have h2:=h.pure E2
 refine ⟨some a,hp1,?_⟩
 have fin:∀w3,(Box w3 p2 [.int .u64 ((kW bs r).1:Int)] 22∧RdS S w3 a s bs (kW bs r).2∧Ext (·=a.block) w0 w3)→∃v2:Int,w3.cell? p2=some (.int .u64 v2)∧jT w3 p2∧∀w4:World,w4=w3.setCell p2 (.int .u64 v2)→∃qV1:Int,w4.cell? p2=some (.int .u64 qV1)∧(qV1=((kW bs r).1:Int)∧RdS S w4 a s bs (kW bs r).2∧Ext (·=a.block) w0 w4):=by
  rintro w3 ⟨hB,hR,hE⟩;refine ⟨_,hB.cell0,hB.canW0 (by simp),?_⟩;rintro w4 rfl;have hx:Ext (·=p2.block) w3 (w3.setCell p2 (.int .u64 ((kW bs r).1:Int))):=Ext.setCell _ _;exact ⟨_,(jAI hB).cell0,rfl,hR.ext hx (fun b hb e=>by have:=hS b hb;have:=E1.size;omega) (fun e=>by have:=E1.size;omega),hE.trans' hx (fun i hi e=>by have:=E1.size;omega)⟩
 by_cases he:r.err=0
 ·refine (jJE a 122 _ r.at_ w2 (fun w3=>Box w3 p2 [.int .u64 ((kW bs r).1:Int)] 22∧RdS S w3 a s bs (kW bs r).2∧Ext (·=a.block) w0 w3) h2.atC (by have:=h2.errC;rw [he] at this;exact this) call122 ?_).mono ?_
  ·intro w3 p pf E3 hp hpf hpc hpfc
   have h3:=h2.pure E3
   refine (w_J3 p1 p2 w3 (fun o w4=>(o=none∧(Box w4 p2 [.int .u64 ((kW bs r).1:Int)] 22∧RdS S w4 a s bs (kW bs r).2∧Ext (·=a.block) w0 w4))∨(∃x,o=some (jRK x)∧w4.cell? p=some (.pointer (some a))∧w4.cell? pf=some (.int .i64 r.at_)∧jT w4 (a.add 1)∧jT w4 (a.add 2)∧jT w4 (a.add 3) ∧
    (Box (((w4.setCell (a.add 1) (.int .i64 r.at_)).setCell (a.add 2) (.int .i64 x)).setCell (a.add 3) (.int .i64 r.at_)) p2 [.int .u64 ((kW bs r).1:Int)] 22∧RdS S (((w4.setCell (a.add 1) (.int .i64 r.at_)).setCell (a.add 2) (.int .i64 x)).setCell (a.add 3) (.int .i64 r.at_)) a s bs (kW bs r).2∧Ext (·=a.block) w0 (((w4.setCell (a.add 1) (.int .i64 r.at_)).setCell (a.add 2) (.int .i64 x)).setCell (a.add 3) (.int .i64 r.at_))))) ?_).mono ?_
   ·unfold m_J3
    refine ⟨some a,E3.cell hp1 id,?_⟩
    refine (c_num a s bs r.at_ r.err r.spot w3 h3 hat).mono ?_
    rintro e w4 (⟨n,k,hn,rfl,hlt,hle,hR,hE⟩ | ⟨x,at',hn,rfl,hR,hE⟩)
    ·refine .inl ⟨_,rfl,?_⟩
     have hB4:Box w4 p2 [.int .u64 0] 22:=(B2.pure E3).ext hE (fun e=>by have:=E1.size;omega)
     refine ⟨hB4.canW0 (by simp),?_⟩
     rintro w5 rfl
     have hx:Ext (·=p2.block) w4 (w4.setCell p2 (.int .u64 (n:Int))):=Ext.setCell _ _
     have hrn:kW bs r=(n,⟨r.at_+k,0,r.spot⟩):=by simp [kW,he,hn]
     rw [hrn]
     refine .inl ⟨rfl,jAI hB4,?_,((Ext.pure (E2.trans E3)).trans hE).trans' hx (fun i hi e=>by have:=E1.size;omega)⟩
     have:=hR.ext hx (fun b hb e=>by have:=hS b hb;have:=E1.size;omega) (fun e=>by have:=E1.size;omega)
     rw [he] at this
     exact this
    ·refine .inr ⟨_,rfl,.inr ⟨x,rfl,?_⟩⟩
     have hrn:kW bs r=(0,⟨r.at_,x,r.at_⟩):=by simp [kW,he,hn]
     have hB4:Box w4 p2 [.int .u64 0] 22:=(B2.pure E3).ext hE (fun e=>by have:=E1.size;omega)
     obtain ⟨c1,c2,c3,hR'⟩:=hR.gives r.at_ x
     rw [hrn]
     exact ⟨hE.cell hpc (fun e=>by have:=E2.size;omega),hE.cell hpfc (fun e=>by have:=E2.size;omega),c1,c2,c3,hB4.ext lO (fun e=>by have:=E1.size;omega),hR',((Ext.pure (E2.trans E3)).trans hE).trans lO⟩
   ·rintro e w4 (⟨rfl,h⟩ | ⟨ch,rfl,h⟩)
    ·rcases h with ⟨_,h⟩ | ⟨_,h,_⟩
     ·exact .inl ⟨rfl,h⟩
     ·cases h
    ·rcases h with ⟨h,_⟩ | ⟨x,h1,h⟩
     ·cases h
     ·cases h1;exact .inr ⟨x,rfl,h⟩
  ·rintro e w3 ⟨rfl,hK⟩
   exact ⟨rfl,fin w3 hK⟩
 ·refine (jAF a _ r.err w2 h2.errC (by omega)).mono ?_
  rintro e w3 ⟨rfl,E3⟩
  have hrn:kW bs r=(0,r):=by simp [kW,he]
  refine ⟨rfl,fin w3 ?_⟩
  rw [hrn]
  exact ⟨B2.pure E3,h2.pure E3,Ext.pure (E2.trans E3)⟩
theorem c_Byte {S:NP} (a:Addr) (s:Sl) (bs:List UInt8) (r:Rd) (w0:World) (h:RdS S w0 a s bs r) (hat:r.at_≤bs.length) (hS:∀b,S b→b<w0.heap.size) :
  Calls prog 102 #[.pointer (some a)] w0 (fun e w'=>∃x:Int,e=.returned (.int .u8 x)∧x=((qF bs r).1:Int)∧RdS S w' a s bs (qF bs r).2∧Ext (·=a.block) w0 w'):=by
 refine w_R2 (some a) w0 (fun x w'=>x=((qF bs r).1:Int)∧RdS S w' a s bs (qF bs r).2∧Ext (·=a.block) w0 w') ?_
 unfold m_R2
 intro p1 w1 n1 p2 w2 n2
 have E1:Pure w0 w1:=Ext.new n1
 have E2:Pure w0 w2:=E1.trans (Ext.new n2)
 have hp1:w2.cell? p1=some (.pointer (some a)):=(Ext.new (F:=None) n2).cell (Box.of_newA n1).cell0 id
 have b1:=n1.at_size
 have b2:=n2.at_size
 have b12:p1.block≠p2.block:=by have:=World.block_lt_of_cell? w1 p1 (Box.of_newA n1).cell0;omega
 have ha0:=World.block_lt_of_cell? w0 a h.box.cell0
 have B2:=Box.of_newA n2
 have h2:=h.pure E2
 refine ⟨some a,hp1,?_⟩
 have fin:∀w3,(Box w3 p2 [.int .u8 ((qF bs r).1:Int)] 5∧RdS S w3 a s bs (qF bs r).2∧Ext (·=a.block) w0 w3)→∃v2:Int,w3.cell? p2=some (.int .u8 v2)∧jT w3 p2∧∀w4:World,w4=w3.setCell p2 (.int .u8 v2)→∃qV1:Int,w4.cell? p2=some (.int .u8 qV1)∧(qV1=((qF bs r).1:Int)∧RdS S w4 a s bs (qF bs r).2∧Ext (·=a.block) w0 w4):=by
  rintro w3 ⟨hB,hR,hE⟩;refine ⟨_,hB.cell0,hB.canW0 (by simp),?_⟩;rintro w4 rfl;have hx:Ext (·=p2.block) w3 (w3.setCell p2 (.int .u8 ((qF bs r).1:Int))):=Ext.setCell _ _;exact ⟨_,(jAI hB).cell0,rfl,hR.ext hx (fun b hb e=>by have:=hS b hb;have:=E1.size;omega) (fun e=>by have:=E1.size;omega),hE.trans' hx (fun i hi e=>by have:=E1.size;omega)⟩
 by_cases he:r.err=0
 ·refine (jJE a 127 _ r.at_ w2 (fun w3=>Box w3 p2 [.int .u8 ((qF bs r).1:Int)] 5∧RdS S w3 a s bs (qF bs r).2∧Ext (·=a.block) w0 w3) h2.atC (by have:=h2.errC;rw [he] at this;exact this) call127 ?_).mono ?_
  ·intro w3 p pf E3 hp hpf hpc hpfc
   have h3:=h2.pure E3
   refine (w_K3 p1 p2 w3 (fun o w4=>(o=none∧(Box w4 p2 [.int .u8 ((qF bs r).1:Int)] 5∧RdS S w4 a s bs (qF bs r).2∧Ext (·=a.block) w0 w4))∨(∃x,o=some (jRK x)∧w4.cell? p=some (.pointer (some a))∧w4.cell? pf=some (.int .i64 r.at_)∧jT w4 (a.add 1)∧jT w4 (a.add 2)∧jT w4 (a.add 3) ∧
    (Box (((w4.setCell (a.add 1) (.int .i64 r.at_)).setCell (a.add 2) (.int .i64 x)).setCell (a.add 3) (.int .i64 r.at_)) p2 [.int .u8 ((qF bs r).1:Int)] 5∧RdS S (((w4.setCell (a.add 1) (.int .i64 r.at_)).setCell (a.add 2) (.int .i64 x)).setCell (a.add 3) (.int .i64 r.at_)) a s bs (qF bs r).2∧Ext (·=a.block) w0 (((w4.setCell (a.add 1) (.int .i64 r.at_)).setCell (a.add 2) (.int .i64 x)).setCell (a.add 3) (.int .i64 r.at_))))) ?_).mono ?_
   ·unfold m_K3
    refine ⟨some a,E3.cell hp1 id,?_⟩
    refine (jSP a s bs r.at_ r.err r.spot w3 h3 hat).mono ?_
    rintro e w4 (⟨hlt,rfl,hR,hE⟩ | ⟨heq,rfl,hR,hE⟩)
    ·refine .inl ⟨_,rfl,?_⟩
     have hB4:Box w4 p2 [.int .u8 0] 5:=(B2.pure E3).ext hE (fun e=>by have:=E1.size;omega)
     refine ⟨hB4.canW0 (by simp),?_⟩
     rintro w5 rfl
     have hx:Ext (·=p2.block) w4 (w4.setCell p2 (.int .u8 (bs[r.at_].toNat:Int))):=Ext.setCell _ _
     have hrn:qF bs r=(bs[r.at_].toNat,⟨r.at_+1,0,r.spot⟩):=by simp [qF,he,hlt]
     rw [hrn]
     refine .inl ⟨rfl,jAI hB4,?_,((Ext.pure (E2.trans E3)).trans hE).trans' hx (fun i hi e=>by have:=E1.size;omega)⟩
     have:=hR.ext hx (fun b hb e=>by have:=hS b hb;have:=E1.size;omega) (fun e=>by have:=E1.size;omega)
     rw [he] at this
     exact this
    ·refine .inr ⟨_,rfl,.inr ⟨3,rfl,?_⟩⟩
     have hrn:qF bs r=(0,⟨r.at_,3,r.at_⟩):=by simp [qF,he,heq]
     have hB4:Box w4 p2 [.int .u8 0] 5:=(B2.pure E3).ext hE (fun e=>by have:=E1.size;omega)
     obtain ⟨c1,c2,c3,hR'⟩:=hR.gives r.at_ 3
     rw [hrn]
     exact ⟨hE.cell hpc (fun e=>by have:=E2.size;omega),hE.cell hpfc (fun e=>by have:=E2.size;omega),c1,c2,c3,hB4.ext lO (fun e=>by have:=E1.size;omega),hR',((Ext.pure (E2.trans E3)).trans hE).trans lO⟩
   ·rintro e w4 (⟨rfl,h⟩ | ⟨ch,rfl,h⟩)
    ·rcases h with ⟨_,h⟩ | ⟨_,h,_⟩
     ·exact .inl ⟨rfl,h⟩
     ·cases h
    ·rcases h with ⟨h,_⟩ | ⟨x,h1,h⟩
     ·cases h
     ·cases h1;exact .inr ⟨x,rfl,h⟩
  ·rintro e w3 ⟨rfl,hK⟩
   exact ⟨rfl,fin w3 hK⟩
 ·refine (jAF a _ r.err w2 h2.errC (by omega)).mono ?_
  rintro e w3 ⟨rfl,E3⟩
  have hrn:qF bs r=(0,r):=by simp [qF,he]
  refine ⟨rfl,fin w3 ?_⟩
  rw [hrn]
  exact ⟨B2.pure E3,h2.pure E3,Ext.pure (E2.trans E3)⟩
theorem c_Text {S:NP} (a:Addr) (s:Sl) (bs:List UInt8) (most:Nat) (r:Rd) (w0:World) (h:RdS S w0 a s bs r) (hat:r.at_≤bs.length) (hS:∀b,S b→b<w0.heap.size) (hm:most≤1000000000) :
  Calls prog 94 #[.pointer (some a),.int .i64 (most:Int)] w0 (fun e w'=>∃x:ByteArray,e=.returned (.string x)∧x=⟨(kK bs most r).1.toArray⟩∧RdS S w' a s bs (kK bs most r).2∧Ext (·=a.block) w0 w'):=by
 refine w_D3 (some a) most w0 (fun x w'=>x=⟨(kK bs most r).1.toArray⟩∧RdS S w' a s bs (kK bs most r).2∧Ext (·=a.block) w0 w') ?_
 unfold m_D3
 intro p1 w1 n1 pm w1' nm p2 w2 n2
 have E1:Pure w0 w1:=Ext.new n1
 have E1':Pure w0 w1':=E1.trans (Ext.new nm)
 have E2:Pure w0 w2:=E1'.trans (Ext.new n2)
 have hp1':w1'.cell? p1=some (.pointer (some a)):=(Ext.new (F:=None) nm).cell (Box.of_newA n1).cell0 id
 have hp1:w2.cell? p1=some (.pointer (some a)):=(Ext.new (F:=None) n2).cell hp1' id
 have hpm:w2.cell? pm=some (.int .i64 (most:Int)):=(Ext.new (F:=None) n2).cell (Box.of_newA nm).cell0 id
 have b1:=n1.at_size
 have bm:=nm.at_size
 have b2:=n2.at_size
 have b12:p1.block≠p2.block:=by have:=World.block_lt_of_cell? w1' p1 hp1';omega
 have ha0:=World.block_lt_of_cell? w0 a h.box.cell0
 have B2:=Box.of_newA n2
 have h2:=h.pure E2
 have g1:w0.heap.size≤p2.block:=by have:=E1'.size;omega
 have g2:w0.heap.size≤p1.block:=by omega
 have g3:w0.heap.size≤pm.block:=by have:=E1.size;omega
 refine ⟨some a,hp1,?_⟩
 have fin:∀w3,(Box w3 p2 [.string ⟨(kK bs most r).1.toArray⟩] 9∧RdS S w3 a s bs (kK bs most r).2∧Ext (·=a.block) w0 w3)→∃v2:ByteArray,w3.cell? p2=some (.string v2)∧jT w3 p2∧∀w4:World,w4=w3.setCell p2 (.string v2)→∃qV1:ByteArray,w4.cell? p2=some (.string qV1)∧(qV1=⟨(kK bs most r).1.toArray⟩∧RdS S w4 a s bs (kK bs most r).2∧Ext (·=a.block) w0 w4):=by
  rintro w3 ⟨hB,hR,hE⟩;refine ⟨_,hB.cell0,hB.canW0 (by simp),?_⟩;rintro w4 rfl;have hx:Ext (·=p2.block) w3 (w3.setCell p2 (.string ⟨(kK bs most r).1.toArray⟩)):=Ext.setCell _ _;exact ⟨_,(jAI hB).cell0,rfl,hR.ext hx (fun b hb e=>by have:=hS b hb;omega) (fun e=>by omega),hE.trans' hx (fun i hi e=>by omega)⟩
 by_cases he:r.err=0
 ·refine (jJE a 124 _ r.at_ w2 (fun w3=>Box w3 p2 [.string ⟨(kK bs most r).1.toArray⟩] 9∧RdS S w3 a s bs (kK bs most r).2∧Ext (·=a.block) w0 w3) h2.atC (by have:=h2.errC;rw [he] at this;exact this) call124 ?_).mono ?_
  ·intro w3 p pf E3 hp hpf hpc hpfc
   have h3:=h2.pure E3
   refine (w_N p1 pm p2 w3 (fun o w4=>(o=none∧(Box w4 p2 [.string ⟨(kK bs most r).1.toArray⟩] 9∧RdS S w4 a s bs (kK bs most r).2∧Ext (·=a.block) w0 w4))∨(∃x,o=some (jRK x)∧w4.cell? p=some (.pointer (some a))∧w4.cell? pf=some (.int .i64 r.at_)∧jT w4 (a.add 1)∧jT w4 (a.add 2)∧jT w4 (a.add 3) ∧
    (Box (((w4.setCell (a.add 1) (.int .i64 r.at_)).setCell (a.add 2) (.int .i64 x)).setCell (a.add 3) (.int .i64 r.at_)) p2 [.string ⟨(kK bs most r).1.toArray⟩] 9∧RdS S (((w4.setCell (a.add 1) (.int .i64 r.at_)).setCell (a.add 2) (.int .i64 x)).setCell (a.add 3) (.int .i64 r.at_)) a s bs (kK bs most r).2∧Ext (·=a.block) w0 (((w4.setCell (a.add 1) (.int .i64 r.at_)).setCell (a.add 2) (.int .i64 x)).setCell (a.add 3) (.int .i64 r.at_))))) ?_).mono ?_
   ·unfold m_N
    refine ⟨some a,E3.cell hp1 id,?_⟩
    refine (c_num a s bs r.at_ r.err r.spot w3 h3 hat).mono ?_
    have give:∀(x:Nat) (at':Int) (w4:World),kK bs most r=([],⟨r.at_,x,r.at_⟩)→RdAt S w4 a s bs at' r.err r.spot→Ext (·=a.block) w3 w4→(∃y,some (jRK x)=some (jRK y)∧w4.cell? p=some (.pointer (some a))∧w4.cell? pf=some (.int .i64 r.at_)∧jT w4 (a.add 1)∧jT w4 (a.add 2)∧jT w4 (a.add 3) ∧
     (Box (((w4.setCell (a.add 1) (.int .i64 r.at_)).setCell (a.add 2) (.int .i64 y)).setCell (a.add 3) (.int .i64 r.at_)) p2 [.string ⟨(kK bs most r).1.toArray⟩] 9∧RdS S (((w4.setCell (a.add 1) (.int .i64 r.at_)).setCell (a.add 2) (.int .i64 y)).setCell (a.add 3) (.int .i64 r.at_)) a s bs (kK bs most r).2∧Ext (·=a.block) w0 (((w4.setCell (a.add 1) (.int .i64 r.at_)).setCell (a.add 2) (.int .i64 y)).setCell (a.add 3) (.int .i64 r.at_)))):=by
     intro x at' w4 hrn hR hE
     have hB4:Box w4 p2 [.string ⟨#[]⟩] 9:=(B2.pure E3).ext hE (fun e=>by omega)
     obtain ⟨c1,c2,c3,hR'⟩:=hR.gives r.at_ x
     rw [hrn]
     exact ⟨x,rfl,hE.cell hpc (fun e=>by have:=E2.size;omega),hE.cell hpfc (fun e=>by have:=E2.size;omega),c1,c2,c3,hB4.ext lO (fun e=>by omega),hR',((Ext.pure (E2.trans E3)).trans hE).trans lO⟩
    rintro e w4 (⟨n,k,hn,rfl,hlt,hle,hR,hE⟩ | ⟨x,at',hn,rfl,hR,hE⟩)
    ·refine .inl ⟨_,rfl,hE.kept (fun b hb=>hb.elim),_,hE.cell (E3.cell hpm id) (fun e=>by omega),fun hb=>?_,fun _=>⟨_,hE.cell (E3.cell hpm id) (fun e=>by omega),?_⟩⟩
     ·have:=of_decide_eq_true hb;omega
     ·rw [vL (by omega)]
      refine ⟨fun hb=>?_,fun hb=>?_⟩
      ·have hlt':most<n:=by have:=of_decide_eq_true hb;omega
       exact .inr (give 1 _ w4 (by simp [kK,he,hn,hlt']) hR hE)
      ·have hlt':¬ most<n:=by have:=of_decide_eq_false hb;omega
       unfold m_N_j2
       intro w5 hs5
       have E5:=hs5.ext
       have hR5:=hR.pure E5
       have hp5:w5.cell? p1=some (.pointer (some a)):=E5.cell (hE.cell (E3.cell hp1 id) (fun e=>by omega)) id
       have hl:s.len=bs.length:=by rw [h.lst.len,zN]
       have hsm:=h.small
       have hE5:Ext (·=a.block) w3 w5:=hE.thenPure E5
       refine ⟨_,hp5,a,rfl,s,hR5.box.cell0,_,hp5,a,rfl,_,hR5.atC,?_⟩
       have hw1:IntKind.u64.wrap (IntKind.i64.wrap ((s.len:Int) - ((r.at_+k:Nat):Int)))=((bs.length - (r.at_+k):Nat):Int):=by
        rw [hl,IntWalk.i64_in _ (by omega),show ((bs.length:Int) - ((r.at_+k:Nat):Int))=((bs.length - (r.at_+k):Nat):Int) by omega,vL (by omega)]
       rw [hw1]
       refine ⟨fun hb2=>?_,fun hb2=>?_⟩
       ·have hg:bs.length<r.at_+k+n:=by have:=of_decide_eq_true hb2;omega
        exact .inr (give 3 _ w5 (by simp [kK,he,hn,hlt',hg]) hR5 hE5)
       ·have hg:¬ bs.length<r.at_+k+n:=by have:=of_decide_eq_false hb2;omega
        have hrn:kK bs most r=((bs.drop (r.at_+k)).take n,⟨r.at_+k+n,0,r.spot⟩):=by simp [kK,he,hn,hlt',hg]
        unfold m_N_j3
        refine ⟨fun _=>True,trivial,?_⟩
        intro w6 hw6
        have E6:Pure w5 w6:=by rw [hw6];exact Ext.drew _
        have hR6:=hR5.pure E6
        have hp6:=E6.cell hp5 id
        have hn1:IntKind.i64.wrap (n:Int)=(n:Int):=IntWalk.i64_in _ (by omega)
        have hn2:IntKind.i64.wrap (((r.at_+k:Nat):Int)+(n:Int))=((r.at_+k+n:Nat):Int):=by rw [IntWalk.i64_in _ (by omega)];simp
        obtain ⟨s1,hr1,hL1⟩:=hR6.lst.sub (k:=.i64) (lo:=r.at_+k) (n:=n) oV h.room (by rw [zN];omega)
        have hB6:Box w6 p2 [.string ⟨#[]⟩] 9:=((B2.pure E3).ext hE5 (fun e=>by omega)).pure E6
        have hL2:Lst S w6 1 s1 (byr ((bs.drop (r.at_+k)).take n)):=by
         have e:(List.drop (r.at_+k) (byr bs)).take n=byr ((bs.drop (r.at_+k)).take n):=by simp [byr,List.map_take,List.map_drop]
         rw [← e];exact hL1
        refine ⟨_,hp6,a,rfl,s,hR6.box.cell0,_,hp6,a,rfl,_,hR6.atC,_,hp6,a,rfl,_,hR6.atC,s1,by rw [hn1,hn2];exact hr1,_,jEJ underlying25 underlying5 underlying9 hL2,hB6.canW0 (by simp),id,?_⟩
        rintro w7 rfl
        have hx:Ext (·=p2.block) w6 (w6.setCell p2 (.string ⟨((bs.drop (r.at_+k)).take n).toArray⟩)):=Ext.setCell _ _
        have hR7:=hR6.ext hx (fun b hb e=>by have:=hS b hb;omega) (fun e=>by omega)
        refine ⟨_,hx.cell hp6 (fun e=>b12 e),a,rfl,_,hR7.atC,a,rfl,hR7.box.canW (i:=1) (by simp),id,?_⟩
        rintro w8 rfl
        rw [hn1,hn2,hrn]
        have hR8:=hR7.setAt ((r.at_+k+n:Nat):Int)
        rw [he] at hR8
        exact .inl ⟨rfl,(jAI hB6).ext vE (fun e=>by omega),hR8,((((Ext.pure (E2.trans E3)).trans hE5).thenPure E6).trans' hx (fun i hi e=>by omega)).trans vE⟩
    ·exact .inr ⟨_,rfl,.inr (give x at' w4 (by simp [kK,he,hn]) hR hE)⟩
   ·rintro e w4 (⟨rfl,h⟩ | ⟨ch,rfl,h⟩)
    ·rcases h with ⟨_,h⟩ | ⟨_,h,_⟩
     ·exact .inl ⟨rfl,h⟩
     ·cases h
    ·rcases h with ⟨h,_⟩ | ⟨x,h1,h⟩
     ·cases h
     ·cases h1;exact .inr ⟨x,rfl,h⟩
  ·rintro e w3 ⟨rfl,hK⟩
   exact ⟨rfl,fin w3 hK⟩
 ·refine (jAF a _ r.err w2 h2.errC (by omega)).mono ?_
  rintro e w3 ⟨rfl,E3⟩
  have hrn:kK bs most r=([],r):=by simp [kK,he]
  refine ⟨rfl,fin w3 ?_⟩
  rw [hrn]
  exact ⟨B2.pure E3,h2.pure E3,Ext.pure (E2.trans E3)⟩
theorem jQC {w:World} {e:TypeId} {sz:Nat} {s:Sl} {rs:List (List Value)} (h:Rws w e sz s rs):s.len≤s.cap:=by
 rcases h.own with ⟨rfl,_⟩ | ⟨g,cur,_,_,hc,_⟩
 ·exact Nat.le_refl _
 ·rw [h.len];exact hc
theorem c_cNew {S:NP} (s:Sl) (bs:List UInt8) (w0:World) (hs:Lst S w0 1 s (byr bs)) (hz:s.a=none→s=Sl.nil) (hn:bs.length≤100000000000) :
  Calls prog 66 #[s.v] w0 (fun e w'=>∃x:Option Addr,e=.returned (.pointer x)∧∃a s',x=some a∧RdS s'.blk w' a s' bs ⟨0,0,0⟩∧Pure w0 w'∧w0.heap.size≤a.block∧(∀b,s'.blk b→w0.heap.size≤b∧b<w'.heap.size)):=by
 refine w_O2 _ w0 (fun x w'=>∃a s',x=some a∧RdS s'.blk w' a s' bs ⟨0,0,0⟩∧Pure w0 w'∧w0.heap.size≤a.block∧(∀b,s'.blk b→w0.heap.size≤b∧b<w'.heap.size)) ?_
 unfold m_O2
 refine (jHL s bs w0 hs hz hn).mono ?_
 rintro _ w1 ⟨r1,rfl,hR⟩
 refine ⟨r1,rfl,fun p2 w2 n2=>⟨p2,r1,rfl,?_,hR.pure.trans (Ext.new n2),by rw [n2.at_size];exact hR.pure.size,fun b hb=>⟨hR.own b hb,?_⟩⟩⟩
 ·have hb1:∀b,r1.blk b→b<w1.heap.size:=fun b hb=>hR.rows.lt hb
  exact ⟨Box.of_newA n2,(hR.rows.pure (Ext.new n2)).lst,fun b hb e=>by have:=hb1 b hb;have:=n2.at_size;omega,hn,jQC hR.rows⟩
 ·exact (hR.rows.pure (Ext.new n2)).lt hb
theorem c_Left {S:NP} (a:Addr) (s:Sl) (bs:List UInt8) (r:Rd) (w0:World) (h:RdS S w0 a s bs r) (hat:r.at_≤bs.length) :
  Calls prog 67 #[.pointer (some a)] w0 (fun e w'=>∃x:Int,e=.returned (.int .i64 x)∧x=((bs.length - r.at_:Nat):Int)∧Pure w0 w'):=by
 refine w_P2 (some a) w0 (fun x w'=>x=((bs.length - r.at_:Nat):Int)∧Pure w0 w') ?_
 unfold m_P2
 refine ⟨fun hb=>(by cases hb),fun _=>⟨a,rfl,fun w1 hs=>?_⟩⟩
 have h1:=h.pure hs.first
 have hl:s.len=bs.length:=by rw [h.lst.len,zN]
 refine ⟨s,h1.box.cell0,a,rfl,_,h1.atC,?_,hs.first⟩
 rw [hl,IntWalk.i64_in _ (by have:=h.small;omega)];omega
theorem c_At {S:NP} (a:Addr) (s:Sl) (bs:List UInt8) (r:Rd) (w0:World) (h:RdS S w0 a s bs r) :
  Calls prog 68 #[.pointer (some a)] w0 (fun e w'=>∃x:Int,e=.returned (.int .i64 x)∧x=(r.at_:Int)∧w'=w0):=by
 refine w_Q2 (some a) w0 (fun x w'=>x=(r.at_:Int)∧w'=w0) ?_
 unfold m_Q2
 exact ⟨fun hb=>(by cases hb),fun _=>⟨a,rfl,_,h.atC,rfl,rfl⟩⟩
theorem c_Why {S:NP} (a:Addr) (s:Sl) (bs:List UInt8) (r:Rd) (w0:World) (h:RdS S w0 a s bs r) :
  Calls prog 103 #[.pointer (some a)] w0 (fun e w'=>∃x y:Int,e=.returned (.tuple #[.int .i64 x,.int .i64 y])∧x=(r.err:Int)∧y=(r.spot:Int)∧Pure w0 w'):=by
 refine w_S2 (some a) w0 (fun x y w'=>x=(r.err:Int)∧y=(r.spot:Int)∧Pure w0 w') ?_
 unfold m_S2
 refine ⟨fun hb=>(by cases hb),fun _=>⟨a,rfl,fun w1 hs=>?_⟩⟩
 have h1:=h.pure hs.first
 exact ⟨_,h1.errC,a,rfl,_,h1.box.cell (i:=3) rfl,rfl,rfl,hs.first⟩
theorem RetO.after {w w1 w2:World} {e:TypeId} {sz:Nat} {rs:List (List Value)} {s:Sl} (E:Pure w w1) (h:RetO w1 e sz rs s w2):RetO w e sz rs s w2 :=
 ⟨h.rows,fun b hb=>Nat.le_trans E.size (h.own b hb),E.trans h.pure⟩
section
variable {S:NP} (s:Sl) (bs:List UInt8) (k f t x a b:Int) (y:ByteArray) (m:Option Nat) (w0:World) (hs:Lst S w0 1 s (byr bs)) (hz:s.a=none→s=Sl.nil) (hn:bs.length≤10000000000)
include hs hz hn
theorem jPE (n:Nat) (hf:f=n) (hN:n<9223372036854775808) :
  Calls prog 83 #[s.v,.agg #[.int .i64 k,.int .i64 f,.int .i64 t,.int .u64 x,.string y,.int .i64 a,.int .i64 b],.map m] w0 (fun e w'=>∃r:Sl,e=.returned r.v∧RetO w0 5 1 (byr (bs++zH n)) r w'):=by
 subst hf
 refine w_U2 s k n t x y a b m w0 (fun r w'=>RetO w0 5 1 (byr (bs++zH n)) r w') ?_
 unfold m_U2
 intro H1 w1 hs1
 rw [vL (by omega)]
 refine (lQ s bs n w1 (hs.pure hs1.first) hz hn (by omega)).mono ?_
 rintro _ w2 ⟨r,rfl,hR⟩
 exact ⟨r,rfl,hR.kept,hR.after hs1.first⟩
theorem jUO (n:Nat) (ht:t=n) (hN:n<9223372036854775808) :
  Calls prog 87 #[s.v,.agg #[.int .i64 k,.int .i64 f,.int .i64 t,.int .u64 x,.string y,.int .i64 a,.int .i64 b],.map m] w0 (fun e w'=>∃r:Sl,e=.returned r.v∧RetO w0 5 1 (byr (bs++zH n)) r w'):=by
 subst ht
 refine w_X2 s k f n x y a b m w0 (fun r w'=>RetO w0 5 1 (byr (bs++zH n)) r w') ?_
 unfold m_X2
 intro H1 w1 hs1
 rw [vL (by omega)]
 refine (lQ s bs n w1 (hs.pure hs1.first) hz hn (by omega)).mono ?_
 rintro _ w2 ⟨r,rfl,hR⟩
 exact ⟨r,rfl,hR.kept,hR.after hs1.first⟩
theorem jPD (n:Nat) (hx:x=n) (hN:n<18446744073709551616) :
  Calls prog 89 #[s.v,.agg #[.int .i64 k,.int .i64 f,.int .i64 t,.int .u64 x,.string y,.int .i64 a,.int .i64 b],.map m] w0 (fun e w'=>∃r:Sl,e=.returned r.v∧RetO w0 5 1 (byr (bs++zH n)) r w'):=by
 subst hx
 refine w_Z2 s k f t n y a b m w0 (fun r w'=>RetO w0 5 1 (byr (bs++zH n)) r w') ?_
 unfold m_Z2
 intro H1 w1 hs1
 refine (lQ s bs n w1 (hs.pure hs1.first) hz hn (by omega)).mono ?_
 rintro _ w2 ⟨r,rfl,hR⟩
 exact ⟨r,rfl,hR.kept,hR.after hs1.first⟩
theorem jME (hN:y.size≤10000000000) :
  Calls prog 91 #[s.v,.agg #[.int .i64 k,.int .i64 f,.int .i64 t,.int .u64 x,.string y,.int .i64 a,.int .i64 b],.map m] w0 (fun e w'=>∃r:Sl,e=.returned r.v∧RetO w0 5 1 (byr (bs++kH y)) r w'):=by
 refine w_C3 s k f t x y a b m w0 (fun r w'=>RetO w0 5 1 (byr (bs++kH y)) r w') ?_
 unfold m_C3
 intro H1 w1 hs1
 refine (jPC s bs y w1 (hs.pure hs1.first) hz hn hN).mono ?_
 rintro _ w2 ⟨r,rfl,hR⟩
 exact ⟨r,rfl,hR.kept,hR.after hs1.first⟩
theorem c_putA (mb:Nat) (M:List (Int×Int)) (n:Nat) (hM:IMap (fun i:Int=>.int .i64 i) w0 mb M) (hk:SE.look M a=some (n:Int)) (hN:n<9223372036854775808) :
  Calls prog 95 #[s.v,.agg #[.int .i64 k,.int .i64 f,.int .i64 t,.int .u64 x,.string y,.int .i64 a,.int .i64 b],.map (some mb)] w0 (fun e w'=>∃r:Sl,e=.returned r.v∧RetO w0 5 1 (byr (bs++zH n)) r w'):=by
 refine w_F3 s k f t x y a b (some mb) w0 (fun r w'=>RetO w0 5 1 (byr (bs++zH n)) r w') ?_
 unfold m_F3
 intro H1 w1 hs1
 rcases (hM.pure hs1.first).get (P:=prog) (T:=132) underlying132 underlying29 (zeroValue3 _) a false with ⟨h1,_⟩ | ⟨v,h1,hg⟩
 ·rw [hk] at h1;cases h1
 rw [hk] at h1;cases h1
 refine ⟨_,hg,?_⟩
 rw [vL (by omega)]
 refine (lQ s bs n w1 (hs.pure hs1.first) hz hn (by omega)).mono ?_
 rintro _ w2 ⟨r,rfl,hR⟩
 exact ⟨r,rfl,hR.kept,hR.after hs1.first⟩
theorem c_putB (mb:Nat) (M:List (Int×Int)) (n:Nat) (hM:IMap (fun i:Int=>.int .i64 i) w0 mb M) (hk:SE.look M b=some (n:Int)) (hN:n<9223372036854775808) :
  Calls prog 97 #[s.v,.agg #[.int .i64 k,.int .i64 f,.int .i64 t,.int .u64 x,.string y,.int .i64 a,.int .i64 b],.map (some mb)] w0 (fun e w'=>∃r:Sl,e=.returned r.v∧RetO w0 5 1 (byr (bs++zH n)) r w'):=by
 refine w_H3 s k f t x y a b (some mb) w0 (fun r w'=>RetO w0 5 1 (byr (bs++zH n)) r w') ?_
 unfold m_H3
 intro H1 w1 hs1
 rcases (hM.pure hs1.first).get (P:=prog) (T:=132) underlying132 underlying29 (zeroValue3 _) b false with ⟨h1,_⟩ | ⟨v,h1,hg⟩
 ·rw [hk] at h1;cases h1
 rw [hk] at h1;cases h1
 refine ⟨_,hg,?_⟩
 rw [vL (by omega)]
 refine (lQ s bs n w1 (hs.pure hs1.first) hz hn (by omega)).mono ?_
 rintro _ w2 ⟨r,rfl,hR⟩
 exact ⟨r,rfl,hR.kept,hR.after hs1.first⟩
end
section
variable {S:NP} (a q:Addr) (s:Sl) (bs:List UInt8) (r:Rd) (cells:List Value) (w0:World) (h:RdS S w0 a s bs r) (hat:r.at_≤bs.length) (hS:∀b,S b→b<w0.heap.size) (hq:Box w0 q cells 164) (hl:cells.length=12) (haq:a.block≠q.block) (hSq:∀b,S b→b≠q.block)
include h hat hS hq hl haq hSq
theorem jPI:Calls prog 85 #[.pointer (some a),.pointer (some q)] w0 (fun e w'=>e=.returned (.tuple #[])∧RdS S w' a s bs (kW bs r).2∧Box w' q (cells.set 7 (.int .u64 ((kW bs r).1:Int))) 164∧Ext (fun b=>b=a.block∨b=q.block) w0 w'):=by
 refine w_W2 (some a) (some q) w0 (fun w'=>RdS S w' a s bs (kW bs r).2∧Box w' q (cells.set 7 (.int .u64 ((kW bs r).1:Int))) 164∧Ext (fun b=>b=a.block∨b=q.block) w0 w') ?_;unfold m_W2;refine (jHM a s bs r w0 h hat hS).mono ?_;rintro e w1 ⟨x,rfl,rfl,hR,hE⟩;have hq1:=hq.ext hE (fun e=>haq e.symm);refine ⟨_,rfl,q,rfl,hq1.canW (i:=7) (by omega),?_⟩;rintro w2 rfl;have hx:Ext (·=q.block) w1 (w1.setCell (q.add 7) (.int .u64 ((kW bs r).1:Int))):=vE;exact ⟨hR.ext hx (fun b hb e=>hSq b hb e) haq,hq1.set 7 _,(hE.mono (fun _ _ e=>.inl e)).trans (hx.mono (fun _ _ e=>.inr e))⟩
theorem jUS:Calls prog 88 #[.pointer (some a),.pointer (some q)] w0 (fun e w'=>e=.returned (.tuple #[])∧RdS S w' a s bs (kW bs r).2∧Box w' q (cells.set 8 (.int .u64 ((kW bs r).1:Int))) 164∧Ext (fun b=>b=a.block∨b=q.block) w0 w'):=by
 refine w_Y2 (some a) (some q) w0 (fun w'=>RdS S w' a s bs (kW bs r).2∧Box w' q (cells.set 8 (.int .u64 ((kW bs r).1:Int))) 164∧Ext (fun b=>b=a.block∨b=q.block) w0 w') ?_;unfold m_Y2;refine (jHM a s bs r w0 h hat hS).mono ?_;rintro e w1 ⟨x,rfl,rfl,hR,hE⟩;have hq1:=hq.ext hE (fun e=>haq e.symm);refine ⟨_,rfl,q,rfl,hq1.canW (i:=8) (by omega),?_⟩;rintro w2 rfl;have hx:Ext (·=q.block) w1 (w1.setCell (q.add 8) (.int .u64 ((kW bs r).1:Int))):=vE;exact ⟨hR.ext hx (fun b hb e=>hSq b hb e) haq,hq1.set 8 _,(hE.mono (fun _ _ e=>.inl e)).trans (hx.mono (fun _ _ e=>.inr e))⟩
theorem jSB:Calls prog 90 #[.pointer (some a),.pointer (some q)] w0 (fun e w'=>e=.returned (.tuple #[])∧RdS S w' a s bs (kW bs r).2∧Box w' q (cells.set 3 (.int .u64 ((kW bs r).1:Int))) 164∧Ext (fun b=>b=a.block∨b=q.block) w0 w'):=by
 refine w_A3 (some a) (some q) w0 (fun w'=>RdS S w' a s bs (kW bs r).2∧Box w' q (cells.set 3 (.int .u64 ((kW bs r).1:Int))) 164∧Ext (fun b=>b=a.block∨b=q.block) w0 w') ?_;unfold m_A3;refine (jHM a s bs r w0 h hat hS).mono ?_;rintro e w1 ⟨x,rfl,rfl,hR,hE⟩;have hq1:=hq.ext hE (fun e=>haq e.symm);refine ⟨_,rfl,q,rfl,hq1.canW (i:=3) (by omega),?_⟩;rintro w2 rfl;have hx:Ext (·=q.block) w1 (w1.setCell (q.add 3) (.int .u64 ((kW bs r).1:Int))):=vE;exact ⟨hR.ext hx (fun b hb e=>hSq b hb e) haq,hq1.set 3 _,(hE.mono (fun _ _ e=>.inl e)).trans (hx.mono (fun _ _ e=>.inr e))⟩
theorem jPH:Calls prog 93 #[.pointer (some a),.pointer (some q)] w0 (fun e w'=>e=.returned (.tuple #[])∧RdS S w' a s bs (kK bs 64 r).2∧Box w' q (cells.set 4 (.string ⟨(kK bs 64 r).1.toArray⟩)) 164∧Ext (fun b=>b=a.block∨b=q.block) w0 w'):=by
 refine w_E3 (some a) (some q) w0 (fun w'=>RdS S w' a s bs (kK bs 64 r).2∧Box w' q (cells.set 4 (.string ⟨(kK bs 64 r).1.toArray⟩)) 164∧Ext (fun b=>b=a.block∨b=q.block) w0 w') ?_;unfold m_E3;refine (c_Text a s bs 64 r w0 h hat hS (by omega)).mono ?_;rintro e w1 ⟨x,rfl,rfl,hR,hE⟩;have hq1:=hq.ext hE (fun e=>haq e.symm);refine ⟨_,rfl,q,rfl,hq1.canW (i:=4) (by omega),?_⟩;rintro w2 rfl;have hx:Ext (·=q.block) w1 (w1.setCell (q.add 4) (.string ⟨(kK bs 64 r).1.toArray⟩)):=vE;exact ⟨hR.ext hx (fun b hb e=>hSq b hb e) haq,hq1.set 4 _,(hE.mono (fun _ _ e=>.inl e)).trans (hx.mono (fun _ _ e=>.inr e))⟩
theorem c_getA:Calls prog 96 #[.pointer (some a),.pointer (some q)] w0 (fun e w'=>e=.returned (.tuple #[])∧RdS S w' a s bs (kW bs r).2∧Box w' q ((cells.set 9 (.int .u64 ((kW bs r).1:Int))).set 11 (.int .i64 1)) 164∧Ext (fun b=>b=a.block∨b=q.block) w0 w'):=by
 refine w_G3 (some a) (some q) w0 (fun w'=>RdS S w' a s bs (kW bs r).2∧Box w' q ((cells.set 9 (.int .u64 ((kW bs r).1:Int))).set 11 (.int .i64 1)) 164∧Ext (fun b=>b=a.block∨b=q.block) w0 w') ?_;unfold m_G3;refine (jHM a s bs r w0 h hat hS).mono ?_;rintro e w1 ⟨x,rfl,rfl,hR,hE⟩;have hq1:=hq.ext hE (fun e=>haq e.symm);refine ⟨_,rfl,q,rfl,hq1.canW (i:=9) (by omega),?_⟩;rintro w2 rfl;have hx:Ext (·=q.block) w1 ((w1.setCell (q.add 9) (.int .u64 ((kW bs r).1:Int))).setCell (q.add 11) (.int .i64 1)):=vE.trans vE;have hq2:=hq1.set 9 (.int .u64 ((kW bs r).1:Int));refine ⟨q,rfl,hq2.canW (i:=11) (by rw [List.length_set];omega),?_⟩;rintro w3 rfl;exact ⟨hR.ext hx (fun b hb e=>hSq b hb e) haq,hq2.set 11 _,(hE.mono (fun _ _ e=>.inl e)).trans (hx.mono (fun _ _ e=>.inr e))⟩
theorem c_getB:Calls prog 98 #[.pointer (some a),.pointer (some q)] w0 (fun e w'=>e=.returned (.tuple #[])∧RdS S w' a s bs (kW bs r).2∧Box w' q ((cells.set 10 (.int .u64 ((kW bs r).1:Int))).set 11 (.int .i64 2)) 164∧Ext (fun b=>b=a.block∨b=q.block) w0 w'):=by
 refine w_I3 (some a) (some q) w0 (fun w'=>RdS S w' a s bs (kW bs r).2∧Box w' q ((cells.set 10 (.int .u64 ((kW bs r).1:Int))).set 11 (.int .i64 2)) 164∧Ext (fun b=>b=a.block∨b=q.block) w0 w') ?_;unfold m_I3;refine (jHM a s bs r w0 h hat hS).mono ?_;rintro e w1 ⟨x,rfl,rfl,hR,hE⟩;have hq1:=hq.ext hE (fun e=>haq e.symm);refine ⟨_,rfl,q,rfl,hq1.canW (i:=10) (by omega),?_⟩;rintro w2 rfl;have hx:Ext (·=q.block) w1 ((w1.setCell (q.add 10) (.int .u64 ((kW bs r).1:Int))).setCell (q.add 11) (.int .i64 2)):=vE.trans vE;have hq2:=hq1.set 10 (.int .u64 ((kW bs r).1:Int));refine ⟨q,rfl,hq2.canW (i:=11) (by rw [List.length_set];omega),?_⟩;rintro w3 rfl;exact ⟨hR.ext hx (fun b hb e=>hSq b hb e) haq,hq2.set 11 _,(hE.mono (fun _ _ e=>.inl e)).trans (hx.mono (fun _ _ e=>.inr e))⟩
end
end Go.Proofs
end
section
namespace Go.Sp
def lV (k:Int):Bool:=k == 7 || k == 8 || k == 9
def jRL (k:Int):Bool:=k == 1 || k == 2 || k == 3
def jAB (n:Int):Node:=⟨6,n,0,0,⟨#[]⟩,0,0⟩
def jEE (n:Node):Int:=if n.kind=9 then n.to else n.frm
def tQ (L:Pool) (r u t:Int):Prop :=
 (r=1∧(nodeOf L u).kind=4∧(nodeOf L u).a=t)∨(r=2∧(nodeOf L u).kind=4∧(nodeOf L u).b=t)∨(r=3∧lV (nodeOf L u).kind=true∧(nodeOf L u).a=t)
inductive Seen (L:Pool) (G:List Int):Int→Prop
 | given {t:Int}:t∈G→Seen L G t
 | aris {r u t:Int}:Seen L G u→tQ L r u t→Seen L G t
inductive Drv (L:Pool) (K:Int→Prop):Int→Prop
 | seen {t:Int}:K t→Drv L K t
 | free {t:Int}:jRL (nodeOf L t).kind=true→Drv L K t
 | pair {t:Int}:(nodeOf L t).kind=4→Drv L K (nodeOf L t).a→Drv L K (nodeOf L t).b→Drv L K t
 | hash {t:Int}:(nodeOf L t).kind=5→Drv L K (nodeOf L t).a→Drv L K t
 | sign {t:Int} {i:Nat}:lV (nodeOf L t).kind=true→Drv L K (nodeOf L t).a→find L (jAB (jEE (nodeOf L t)))=some i→K ((i:Int)+1)→Drv L K t
structure Way where
 t:Int
 rule:Int
 frm:Int
deriving DecidableEq
def lT (S:List Way):List Int:=S.map Way.t
def jMH (L:Pool) (G:List Int) (pre:List Way) (v:Way):Prop:=(v.rule=0∧v.frm=0∧v.t∈G)∨(v.rule≠0∧tQ L v.rule v.frm v.t∧v.frm∈lT pre)
structure WaysOk (L:Pool) (G:List Int) (S:List Way):Prop where
 nodup:(lT S).Nodup
 inp:∀t∈lT S,inP L t=true
 way:∀i (h:i<S.length),jMH L G (S.take i) S[i]
def jUX (L:Pool) (S:List Way) (u:Int):Prop:=∀r t,tQ L r u t→t∈lT S
theorem jMP (S:List Way):(lT S).length=S.length:=by simp [lT]
theorem jMH.mono {L:Pool} {G G':List Int} {pre:List Way} {v:Way} (h:jMH L G pre v) (hG:∀t∈G,t∈G'):jMH L G' pre v:=by
 rcases h with ⟨a,b,c⟩ | h
 ·exact .inl ⟨a,b,hG _ c⟩
 ·exact .inr h
theorem WaysOk.mono {L:Pool} {G G':List Int} {S:List Way} (h:WaysOk L G S) (hG:∀t∈G,t∈G'):WaysOk L G' S:=⟨h.nodup,h.inp,fun i hi=>(h.way i hi).mono hG⟩
theorem WaysOk.snoc {L:Pool} {G:List Int} {S:List Way} (h:WaysOk L G S) {v:Way} (hn:v.t ∉ lT S) (hi:inP L v.t=true) (hv:jMH L G S v):WaysOk L G (S++[v]):=by
 refine ⟨?_,?_,fun i hlt=>?_⟩
 ·unfold lT at hn ⊢;rw [List.map_append,List.nodup_append];exact ⟨h.nodup,by simp,fun x hx y hy e=>by simp at hy;subst hy;exact hn (e▸hx)⟩
 ·intro t ht;unfold lT at ht;rw [List.map_append,List.mem_append] at ht;rcases ht with ht | ht
  ·exact h.inp t ht
  ·simp at ht;rw [ht];exact hi
 ·rw [List.length_append] at hlt;simp only [List.length_cons,List.length_nil] at hlt;by_cases hl:i<S.length
  ·rw [List.getElem_append_left hl,List.take_append_of_le_length (by omega)];exact h.way i hl
  ·have:i=S.length:=by omega
   subst this;rw [List.getElem_append_right (Nat.le_refl _),List.take_left];simpa using hv
theorem jUX.snoc {L:Pool} {S:List Way} {u:Int} {v:Way} (h:jUX L S u):jUX L (S++[v]) u:=fun r t ha=>by
 unfold lT;rw [List.map_append];exact List.mem_append_left _ (h r t ha)
theorem Seen.mono {L:Pool} {G G':List Int} (hG:∀t∈G,t∈G') {t:Int} (h:Seen L G t):Seen L G' t:=by
 induction h with
 | given hg=>exact .given (hG _ hg)
 | aris _ ha ih=>exact .aris ih ha
theorem Drv.mono {L:Pool} {K K':Int→Prop} (hK:∀t,K t→K' t) {t:Int} (h:Drv L K t):Drv L K' t:=by
 induction h with
 | seen h=>exact .seen (hK _ h)
 | free h=>exact .free h
 | pair h _ _ iha ihb=>exact .pair h iha ihb
 | hash h _ ih=>exact .hash h ih
 | sign h _ hf hk ih=>exact .sign h ih hf (hK _ hk)
structure Step where
 rule:Int
 a:Int
 b:Int
 t:Int
deriving DecidableEq
def jMG (i:Nat) (v:Int):Bool:=decide (0≤v) && decide (v<i)
def tAt (pre:List Step) (v:Int):Int:=(pre[v.toNat]?.map Step.t).getD 0
def jUW (L:Pool) (r u t:Int):Bool :=
 if r=1 then (nodeOf L u).kind == 4 && (nodeOf L u).a == t else if r=2 then (nodeOf L u).kind == 4 && (nodeOf L u).b == t else lV (nodeOf L u).kind && (nodeOf L u).a == t
def fol (L:Pool) (G:List Int) (pre:List Step) (s:Step):Bool :=
 if inP L s.t=false then false
 else if s.rule=0 then s.a == 0 && s.b == 0 && decide (s.t∈G)
 else if s.rule=1∨s.rule=2∨s.rule=3 then jMG pre.length s.a && s.b == 0 && jUW L s.rule (tAt pre s.a) s.t
 else if s.rule=4 then s.a == 0 && s.b == 0 && jRL (nodeOf L s.t).kind
 else if s.rule=5 then
  if (nodeOf L s.t).kind=4 then jMG pre.length s.a && jMG pre.length s.b && tAt pre s.a == (nodeOf L s.t).a && tAt pre s.b == (nodeOf L s.t).b
  else if (nodeOf L s.t).kind=5 then jMG pre.length s.a && s.b == 0 && tAt pre s.a == (nodeOf L s.t).a
  else if lV (nodeOf L s.t).kind=true then jMG pre.length s.a && jMG pre.length s.b && tAt pre s.a == (nodeOf L s.t).a && (nodeOf L (tAt pre s.b)).kind == 6 && (nodeOf L (tAt pre s.b)).frm == jEE (nodeOf L s.t)
  else false
 else false
end Go.Sp
namespace Go.Sp
theorem jGG {α:Type} [DecidableEq α]:∀{l m:List α},l.Nodup→(∀x∈l,x∈m)→l.length≤m.length
 | [],m,_,_=>by simp
 | x :: l,m,hn,hs=>by
  have hx:=hs x (by simp);rw [List.nodup_cons] at hn;have:=jGG (m:=m.erase x) hn.2 (fun y hy=>(List.mem_erase_of_ne (fun h=>hn.1 (by rw [← h];exact hy))).2 (hs y (List.mem_cons_of_mem _ hy)));rw [List.length_erase_of_mem hx] at this;have:=List.length_pos_of_mem hx;simp only [List.length_cons];omega
theorem jBG {L:Pool} {l:List Int} (hn:l.Nodup) (hi:∀t∈l,inP L t=true):l.length≤L.length:=by
 have:=jGG (m:=(List.range L.length).map fun i:Nat=>(i:Int)+1) hn (fun t ht=>by
  obtain ⟨i,h1,h2⟩:=lW (hi t ht);exact List.mem_map.2 ⟨i,List.mem_range.2 h1,h2.symm⟩)
 simpa using this
theorem WaysOk.few {L:Pool} {G:List Int} {S:List Way} (h:WaysOk L G S):S.length≤L.length:=by
 have:=jBG h.nodup h.inp;rwa [jMP] at this
theorem kids4 {L:Pool} (h:Wf L) {t:Int} (ht:inP L t=true) (hk:(nodeOf L t).kind=4):(inP L (nodeOf L t).a=true∧(nodeOf L t).a<t)∧(inP L (nodeOf L t).b=true∧(nodeOf L t).b<t):=by
 have:=(h.node ht).2.2.2.2.1;simp only [jH,hk,jF] at this;exact ⟨this _ (by simp),this _ (by simp)⟩
theorem kids7 {L:Pool} (h:Wf L) {t:Int} (ht:inP L t=true) (hk:lV (nodeOf L t).kind=true):inP L (nodeOf L t).a=true∧(nodeOf L t).a<t:=by
 have:=(h.node ht).2.2.2.2.1;simp only [lV,Bool.or_eq_true,beq_iff_eq] at hk;rcases hk with (hk | hk) | hk <;> simp only [jH,hk,jF] at this <;> exact this _ (by simp)
theorem tQ.inp {L:Pool} (h:Wf L) {r u t:Int} (hu:inP L u=true) (ha:tQ L r u t):inP L t=true∧t<u:=by
 rcases ha with ⟨_,hk,rfl⟩ | ⟨_,hk,rfl⟩ | ⟨_,hk,rfl⟩
 ·exact (kids4 h hu hk).1
 ·exact (kids4 h hu hk).2
 ·exact kids7 h hu hk
def jSU (S:List Way) (v:Way):List Way:=if v.t∈lT S then S else S++[v]
theorem WaysOk.add {L:Pool} {G:List Int} {S:List Way} (h:WaysOk L G S) {v:Way} (hi:inP L v.t=true) (hv:jMH L G S v):WaysOk L G (jSU S v):=by
 unfold jSU;split
 ·exact h
 ·rename_i hn;exact h.snoc hn hi hv
end Go.Sp
end
section
open Go.SE
namespace Go.Sp
def tJ (L:Pool) (n:Int):Int×Bool:=match find L (jAB n) with
 | some i=>((i:Int)+1,true)
 | none=>(0,false)
theorem jOP {L:Pool} {n:Node} {i:Nat} (h:find L n=some i):i<L.length∧nodeOf L ((i:Int)+1)=n:=by
 unfold find at h;rw [List.findIdx?_eq_some_iff_getElem] at h;obtain ⟨hi,h1,_⟩:=h;refine ⟨hi,?_⟩;rw [kN hi];simpa using h1
theorem jRH {L:Pool} {n:Int} (h:(tJ L n).2=true):inP L (tJ L n).1=true∧nodeOf L (tJ L n).1=jAB n∧∃i,find L (jAB n)=some i∧(tJ L n).1=(i:Int)+1:=by
 unfold tJ at h ⊢;cases hf:find L (jAB n) with
 | none=>rw [hf] at h;cases h
 | some i =>
  obtain ⟨hi,hn⟩:=jOP hf
  exact ⟨jY.2 ⟨by simp only;omega,by simp only;omega⟩,hn,i,rfl,rfl⟩
theorem jLT {L:Pool} {n:Int} {i:Nat} (h:find L (jAB n)=some i):tJ L n=((i:Int)+1,true):=by unfold tJ;rw [h]
theorem Drv.inv {L:Pool} {K:Int→Prop} {t:Int} (h:Drv L K t):K t∨jRL (nodeOf L t).kind=true∨((nodeOf L t).kind=4∧Drv L K (nodeOf L t).a∧Drv L K (nodeOf L t).b)∨((nodeOf L t).kind=5∧Drv L K (nodeOf L t).a) ∨
  (lV (nodeOf L t).kind=true∧Drv L K (nodeOf L t).a∧(tJ L (jEE (nodeOf L t))).2=true∧K (tJ L (jEE (nodeOf L t))).1):=by
 cases h with
 | seen h=>exact .inl h
 | free h=>exact .inr (.inl h)
 | pair h a b=>exact .inr (.inr (.inl ⟨h,a,b⟩))
 | hash h a=>exact .inr (.inr (.inr (.inl ⟨h,a⟩)))
 | sign h a hf hk=>rw [jLT hf];exact .inr (.inr (.inr (.inr ⟨h,a,rfl,hk⟩)))
theorem Drv.signed {L:Pool} {K:Int→Prop} {t:Int} (h:lV (nodeOf L t).kind=true) (ha:Drv L K (nodeOf L t).a) (hk:(tJ L (jEE (nodeOf L t))).2=true) (hK:K (tJ L (jEE (nodeOf L t))).1):Drv L K t:=by
 obtain ⟨_,_,i,hf,e⟩:=jRH hk;rw [e] at hK;exact .sign h ha hf hK
inductive Sub (L:Pool):Int→Int→Prop
 | refl (t:Int):Sub L t t
 | kid {t u k:Int}:Sub L t u→k∈jH (nodeOf L u)→Sub L t k
theorem Sub.trans {L:Pool} {a b c:Int} (h:Sub L a b) (k:Sub L b c):Sub L a c:=by
 induction k with
 | refl=>exact h
 | kid _ hk ih=>exact .kid ih hk
theorem jSJ {n:Node} (h:n.kind=4∨n.kind=5∨lV n.kind=true):n.a∈jH n:=by
 simp only [lV,Bool.or_eq_true,beq_iff_eq] at h;rcases h with h | h | (h | h) | h <;> simp [jH,h,jF]
theorem kids_b {n:Node} (h:n.kind=4):n.b∈jH n:=by simp [jH,h,jF]
theorem tQ.sub {L:Pool} {r u t:Int} (h:tQ L r u t):Sub L u t:=by
 rcases h with ⟨_,hk,rfl⟩ | ⟨_,hk,rfl⟩ | ⟨_,hk,rfl⟩
 ·exact .kid (.refl u) (jSJ (.inl hk))
 ·exact .kid (.refl u) (kids_b hk)
 ·exact .kid (.refl u) (jSJ (.inr (.inr hk)))
theorem Seen.sub {L:Pool} {G:List Int} {t:Int} (h:Seen L G t):∃g∈G,Sub L g t:=by
 induction h with
 | given hg=>exact ⟨_,hg,.refl _⟩
 | aris _ ha ih=>obtain ⟨g,hg,hs⟩:=ih;exact ⟨g,hg,hs.trans ha.sub⟩
theorem tQ.rule {L:Pool} {r u t:Int} (h:tQ L r u t):r=1∨r=2∨r=3:=by
 rcases h with ⟨h,_⟩ | ⟨h,_⟩ | ⟨h,_⟩
 ·exact .inl h
 ·exact .inr (.inl h)
 ·exact .inr (.inr h)
structure PrfOk (L:Pool) (G:List Int) (K:Int→Prop) (l:List Step) (B:List Int):Prop where
 fol:∀i (hi:i<l.length),fol L G (l.take i) l[i]=true
 nd:(l.map Step.t).Nodup
 drv:∀s∈l,Drv L K s.t
 bar:∀t∈B,¬ Drv L K t
theorem PrfOk.nil (L:Pool) (G:List Int) (K:Int→Prop):PrfOk L G K [] []:=⟨fun i hi=>by simp at hi,by simp,by simp,by simp⟩
theorem PrfOk.snoc {L:Pool} {G:List Int} {K:Int→Prop} {l:List Step} {B:List Int} (h:PrfOk L G K l B) {s:Step} (hf:Sp.fol L G l s=true) (hn:s.t ∉ l.map Step.t) (hd:Drv L K s.t):PrfOk L G K (l++[s]) B:=by
 refine ⟨fun i hi=>?_,?_,fun x hx=>?_,h.bar⟩
 ·rw [List.length_append] at hi;simp only [List.length_cons,List.length_nil] at hi;by_cases hl:i<l.length
  ·rw [List.getElem_append_left hl,List.take_append_of_le_length (by omega)];exact h.fol i hl
  ·have:i=l.length:=by omega
   subst this;rw [List.getElem_append_right (Nat.le_refl _),List.take_left];simpa using hf
 ·rw [List.map_append,List.nodup_append];exact ⟨h.nd,by simp,fun x hx y hy e=>by simp at hy;subst hy;exact hn (e▸hx)⟩
 ·rcases List.mem_append.1 hx with hx | hx
  ·exact h.drv x hx
  ·simp at hx;subst hx;exact hd
theorem fol_in {L:Pool} {G:List Int} {pre:List Step} {s:Step} (h:fol L G pre s=true):inP L s.t=true:=by
 unfold fol at h;split at h
 ·cases h
 ·rename_i hh;simpa using hh
theorem PrfOk.few {L:Pool} {G:List Int} {K:Int→Prop} {l:List Step} {B:List Int} (h:PrfOk L G K l B):l.length≤L.length:=by
 have:=jBG h.nd (fun t ht=>by
  obtain ⟨s,hs,rfl⟩:=List.mem_map.1 ht;obtain ⟨i,hi,rfl⟩:=List.getElem_of_mem hs;exact fol_in (h.fol i hi))
 simpa using this
def upd (V:Int→Bool) (t:Int) (b:Bool):Int→Bool:=fun x=>if x=t then b else V x
def vR (L:Pool):Nat→Int→(Int→Bool)×List Int→(Int→Bool)×List Int
 | 0,_,st=>st
 | n + 1, t, st => if inP L t = true ∧ st.1 t = false then
   let s2:=vR L n (nodeOf L t).b (vR L n (nodeOf L t).a (upd st.1 t true,st.2))
   (s2.1,s2.2++[t])
  else st
def qO (L:Pool) (t:Int):List Int:=(vR L (t.toNat+1) t (fun _=>false,[])).2
theorem Sub.head {L:Pool} {t y:Int} (h:Sub L t y):y=t∨∃k∈jH (nodeOf L t),Sub L k y:=by
 induction h with
 | refl=>exact .inl rfl
 | kid _ hk ih =>
  rcases ih with rfl | ⟨k,h1,h2⟩
  ·exact .inr ⟨_,hk,.refl _⟩
  ·exact .inr ⟨k,h1,h2.kid hk⟩
theorem Sub.le {L:Pool} (hW:Wf L) {t y:Int} (ht:inP L t=true) (h:Sub L t y):inP L y=true∧y≤t:=by
 induction h with
 | refl=>exact ⟨ht,Int.le_refl _⟩
 | kid _ hk ih =>
  have:=(hW.node ih.1).2.2.2.2.1 _ hk
  exact ⟨this.1,by omega⟩
theorem jSK {n:Node} {k:Int} (h:k∈jH n):k=n.a∨k=n.b:=by
 unfold jH at h;have:=List.mem_of_mem_take h;simpa using this
theorem jKC {L:Pool} (hW:Wf L) {t k:Int} (ht:inP L t=true) (h:k=(nodeOf L t).a∨k=(nodeOf L t).b) (hk:inP L k=true):k∈jH (nodeOf L t):=by
 have h1:=(hW.node ht).2.1;have h2:=(hW.node ht).2.2.1;have hk0:k≠0:=by have:=(jY.1 hk).1;omega
 unfold jH;rcases qW (nodeOf L t).kind with e | e | e
 ·have a0:=h1 (by omega);have b0:=h2 (by omega);rcases h with h | h
  ·exact absurd (h.trans a0) hk0
  ·exact absurd (h.trans b0) hk0
 ·have b0:=h2 (by omega);rcases h with h | h
  ·rw [e,h];simp
  ·exact absurd (h.trans b0) hk0
 ·rw [e];rcases h with h | h <;> simp [h]
structure OvOk (L:Pool) (st:(Int→Bool)×List Int):Prop where
 marked:∀x∈st.2,st.1 x=true
 closed:∀x∈st.2,∀y,Sub L x y→y∈st.2
 nd:st.2.Nodup
 inp:∀x∈st.2,inP L x=true
structure OvRes (L:Pool) (t:Int) (st st':(Int→Bool)×List Int):Prop extends OvOk L st' where
 app:∃M,st'.2=st.2++M∧∀x∈M,Sub L t x∧inP L t=true
 keep:∀x,st.1 x=true→st'.1 x=true
 back:∀x,st'.1 x=true→st.1 x=true∨x∈st'.2
 all:inP L t=true→∀y,Sub L t y→y∈st'.2
theorem oD {L:Pool} (hW:Wf L):∀(n:Nat) (t:Int) (st:(Int→Bool)×List Int),t.toNat<n→OvOk L st→(∀x,st.1 x=true→x≤t→x∈st.2)→OvRes L t st (vR L n t st):=by
 intro n;induction n with
 | zero=>intro t st h;omega
 | succ n ih =>
  intro t st hn hst hm
  rw [vR]
  by_cases hc:inP L t=true∧st.1 t=false
  ·rw [if_pos hc]
   obtain ⟨hin,hv⟩:=hc
   have ht1:=(jY.1 hin).1
   have hkid:=(hW.node hin).2.2.2.2.1
   have low:∀k,k=(nodeOf L t).a∨k=(nodeOf L t).b→k<t:=by
    intro k hk;cases hp:inP L k with
    | true=>exact (hkid k (jKC hW hin hk hp)).2
    | false =>
     have h1:=(hW.node hin).2.1
     have h2:=(hW.node hin).2.2.1
     rcases qW (nodeOf L t).kind with e | e | e
     ·have:=h1 (by omega);have:=h2 (by omega);rcases hk with hk | hk <;> omega
     ·have b0:=h2 (by omega)
      rcases hk with hk | hk
      ·have:=(hkid k (by unfold jH;rw [e,hk];simp)).2;exact this
      ·omega
     ·exact (hkid k (by unfold jH;rw [e];rcases hk with hk | hk <;> simp [hk])).2
   have o1:OvOk L (upd st.1 t true,st.2):=⟨fun x hx=>by simp only [upd];split <;> simp [hst.marked x hx],hst.closed,hst.nd,hst.inp⟩
   have r1:=ih (nodeOf L t).a (upd st.1 t true,st.2) (by have:=low _ (.inl rfl);omega) o1 (fun x hx hle=>by
    have:=low _ (.inl rfl);simp only [upd] at hx;rw [if_neg (by omega)] at hx;exact hm x hx (by omega))
   generalize vR L n (nodeOf L t).a (upd st.1 t true,st.2)=s1 at *
   have r2:=ih (nodeOf L t).b s1 (by have:=low _ (.inr rfl);omega) r1.toOvOk (fun x hx hle=>by
    have:=low _ (.inr rfl);rcases r1.back x hx with h | h
    ·simp only [upd] at h;rw [if_neg (by omega)] at h;have:=hm x h (by omega);obtain ⟨M,e,_⟩:=r1.app;simp only at e;rw [e];exact List.mem_append_left _ this
    ·exact h)
   generalize vR L n (nodeOf L t).b s1=s2 at *
   obtain ⟨M1,e1,m1⟩:=r1.app
   obtain ⟨M2,e2,m2⟩:=r2.app
   simp only at e1
   have hvt:s2.1 t=true:=r2.keep t (r1.keep t (by simp [upd]))
   have hto:t ∉ s2.2:=by
    rw [e2,e1];intro h;rcases List.mem_append.1 h with h | h
    ·rcases List.mem_append.1 h with h | h
     ·have:=hst.marked t h;rw [hv] at this;cases this
     ·obtain ⟨h1,h2⟩:=m1 t h;have:=(h1.le hW h2).2;have:=low _ (.inl rfl);omega
    ·obtain ⟨h1,h2⟩:=m2 t h;have:=(h1.le hW h2).2;have:=low _ (.inr rfl);omega
   have hall:∀y,Sub L t y→y∈s2.2++[t]:=by
    intro y hy;rcases hy.head with rfl | ⟨k,hk,hs⟩
    ·simp
    ·refine List.mem_append_left _ ?_;have hki:=(hkid k hk).1;rcases jSK hk with rfl | rfl
     ·rw [e2];exact List.mem_append_left _ (r1.all hki y hs)
     ·exact r2.all hki y hs
   refine ⟨⟨fun x hx=>?_,fun x hx y hy=>?_,?_,fun x hx=>?_⟩,⟨M1++M2++[t],by simp [e2,e1],fun x hx=>?_⟩,fun x hx=>?_,fun x hx=>?_,fun _=>hall⟩
   ·simp only [List.mem_append,List.mem_singleton] at hx
    rcases hx with hx | rfl
    ·exact r2.marked x hx
    ·exact hvt
   ·simp only [List.mem_append,List.mem_singleton] at hx
    rcases hx with hx | rfl
    ·exact List.mem_append_left _ (r2.closed x hx y hy)
    ·exact hall y hy
   ·rw [List.nodup_append]
    exact ⟨r2.nd,by simp,fun x hx y hy e=>by simp at hy;subst hy;exact hto (e▸hx)⟩
   ·simp only [List.mem_append,List.mem_singleton] at hx
    rcases hx with hx | rfl
    ·exact r2.inp x hx
    ·exact hin
   ·refine ⟨?_,hin⟩
    simp only [List.mem_append,List.mem_singleton] at hx
    rcases hx with (hx | hx) | rfl
    ·obtain ⟨h1,h2⟩:=m1 x hx
     exact (Sub.kid (.refl t) (jKC hW hin (.inl rfl) h2)).trans h1
    ·obtain ⟨h1,h2⟩:=m2 x hx
     exact (Sub.kid (.refl t) (jKC hW hin (.inr rfl) h2)).trans h1
    ·exact .refl _
   ·exact r2.keep x (r1.keep x (by simp only [upd];split <;> simp [hx]))
   ·rcases r2.back x hx with h | h
    ·rcases r1.back x h with h' | h'
     ·simp only [upd] at h'
      split at h'
      ·rename_i e;subst e;right;simp
      ·exact .inl h'
     ·right;show x∈s2.2++[t];rw [e2];exact List.mem_append_left _ (List.mem_append_left _ h')
    ·exact .inr (List.mem_append_left _ h)
  ·rw [if_neg hc]
   refine ⟨hst,⟨[],by simp,by simp⟩,fun x h=>h,fun x h=>.inl h,fun hin y hy=>?_⟩
   have hv:st.1 t=true:=by
    cases h:st.1 t with
    | true=>rfl
    | false=>exact absurd ⟨hin,h⟩ hc
   exact hst.closed t (hm t hv (Int.le_refl _)) y hy
theorem jBC {L:Pool} (hW:Wf L) {t x:Int}:x∈qO L t↔inP L t=true∧Sub L t x:=by
 have r:=oD hW (t.toNat+1) t (fun _=>false,[]) (by omega) ⟨by simp,by simp,by simp,by simp⟩ (by simp);constructor
 ·intro h;obtain ⟨M,e,hm⟩:=r.app;unfold qO at h;rw [e] at h;simp only [List.nil_append] at h;exact ⟨(hm x h).2,(hm x h).1⟩
 ·intro h;exact r.all h.1 x h.2
theorem xA {L:Pool} (hW:Wf L) (t:Int):(qO L t).length≤L.length:=by
 have r:=oD hW (t.toNat+1) t (fun _=>false,[]) (by omega) ⟨by simp,by simp,by simp,by simp⟩ (by simp);exact jBG r.nd r.inp
end Go.Sp
end
section
namespace Go.Sp
def Ord (L:Pool) (l:List Int):Prop:=∀pre z post,l=pre++z :: post→∀k∈jH (nodeOf L z),k∈pre
theorem Ord.snoc {L:Pool} {l:List Int} {t:Int} (h:Ord L l) (ht:∀k∈jH (nodeOf L t),k∈l):Ord L (l++[t]):=by
 intro pre z post e k hk;rcases List.eq_nil_or_concat post with rfl | ⟨post',y,rfl⟩
 ·have:=List.append_inj' e rfl;obtain ⟨rfl,e2⟩:=this;simp only [List.cons.injEq,and_true] at e2;subst e2;exact ht k hk
 ·have e':l++[t]=(pre++z :: post')++[y]:=by rw [e];simp
  have:=List.append_inj' e' rfl;exact h pre z post' this.1 k hk
theorem jQW {L:Pool} (hW:Wf L):∀(n:Nat) (t:Int) (st:(Int→Bool)×List Int),t.toNat<n→OvOk L st→(∀x,st.1 x=true→x≤t→x∈st.2)→Ord L st.2→Ord L (vR L n t st).2:=by
 intro n;induction n with
 | zero=>intro t st h;omega
 | succ n ih =>
  intro t st hn hst hm ho
  rw [vR]
  by_cases hc:inP L t=true∧st.1 t=false
  ·rw [if_pos hc]
   obtain ⟨hin,hv⟩:=hc
   have ht1:=(jY.1 hin).1
   have hkid:=(hW.node hin).2.2.2.2.1
   have low:∀k,k=(nodeOf L t).a∨k=(nodeOf L t).b→k<t:=by
    intro k hk;cases hp:inP L k with
    | true=>exact (hkid k (jKC hW hin hk hp)).2
    | false =>
     have h1:=(hW.node hin).2.1
     have h2:=(hW.node hin).2.2.1
     rcases qW (nodeOf L t).kind with e | e | e
     ·have:=h1 (by omega);have:=h2 (by omega);rcases hk with hk | hk <;> omega
     ·have b0:=h2 (by omega)
      rcases hk with hk | hk
      ·have:=(hkid k (by unfold jH;rw [e,hk];simp)).2;exact this
      ·omega
     ·exact (hkid k (by unfold jH;rw [e];rcases hk with hk | hk <;> simp [hk])).2
   have o1:OvOk L (upd st.1 t true,st.2):=⟨fun x hx=>by simp only [upd];split <;> simp [hst.marked x hx],hst.closed,hst.nd,hst.inp⟩
   have m1:∀x,(upd st.1 t true,st.2).1 x=true→x≤(nodeOf L t).a→x∈(upd st.1 t true,st.2).2:=fun x hx hle=>by
    have:=low _ (.inl rfl);simp only [upd] at hx;rw [if_neg (by omega)] at hx;exact hm x hx (by omega)
   have n1:(nodeOf L t).a.toNat<n:=by have:=low _ (.inl rfl);omega
   have n2:(nodeOf L t).b.toNat<n:=by have:=low _ (.inr rfl);omega
   have r1:=oD hW n (nodeOf L t).a (upd st.1 t true,st.2) n1 o1 m1
   have d1:=ih (nodeOf L t).a (upd st.1 t true,st.2) n1 o1 m1 ho
   generalize vR L n (nodeOf L t).a (upd st.1 t true,st.2)=s1 at *
   have m2:∀x,s1.1 x=true→x≤(nodeOf L t).b→x∈s1.2:=fun x hx hle=>by
    have:=low _ (.inr rfl);rcases r1.back x hx with h | h
    ·simp only [upd] at h;rw [if_neg (by omega)] at h;have:=hm x h (by omega);obtain ⟨M,e,_⟩:=r1.app;simp only at e;rw [e];exact List.mem_append_left _ this
    ·exact h
   have r2:=oD hW n (nodeOf L t).b s1 n2 r1.toOvOk m2
   have d2:=ih (nodeOf L t).b s1 n2 r1.toOvOk m2 d1
   generalize vR L n (nodeOf L t).b s1=s2 at *
   obtain ⟨M2,e2,_⟩:=r2.app
   refine d2.snoc fun k hk=>?_
   have hki:=(hkid k hk).1
   rcases jSK hk with rfl | rfl
   ·rw [e2];exact List.mem_append_left _ (r1.all hki _ (.refl _))
   ·exact r2.all hki _ (.refl _)
  ·rw [if_neg hc];exact ho
theorem jJM {L:Pool} (hW:Wf L) (t:Int):Ord L (qO L t) :=
 jQW hW (t.toNat+1) t (fun _=>false,[]) (by omega) ⟨by simp,by simp,by simp,by simp⟩ (by simp) (fun pre z post e=>by simp at e)
theorem tV {L:Pool} (hW:Wf L) (t:Int):(qO L t).Nodup :=
 (oD hW (t.toNat+1) t (fun _=>false,[]) (by omega) ⟨by simp,by simp,by simp,by simp⟩ (by simp)).nd
end Go.Sp
end
section
namespace Go.Proofs
inductive Fld | from_ | to_ | num | text | fst | snd
deriving DecidableEq
def kX (k:Int):List Fld :=
 if k=1 then [.from_] else if k=2 then [.num] else if k=3 then [.text] else if k=4 then [.fst,.snd] else if k=5 then [.fst] else if k=6 then [.from_] else if k=7 then [.from_,.fst] else if k=8 then [.from_,.to_,.fst] else if k=9 then [.from_,.to_,.fst] else []
def Fld.bytes (n:Sp.Node) (na nb:Nat):Fld→List UInt8
 | .from_=>zH n.frm.toNat | .to_=>zH n.to.toNat | .num=>zH n.num.toNat | .text=>kH n.text | .fst=>zH na | .snd=>zH nb
def posOf (seen:List Int) (t:Int):Nat:=seen.idxOf t
def kV (L:Sp.Pool) (seen:List Int) (t:Int):List UInt8 :=
 UInt8.ofNat (Sp.nodeOf L t).kind.toNat :: (kX (Sp.nodeOf L t).kind).flatMap (Fld.bytes (Sp.nodeOf L t) (posOf seen (Sp.nodeOf L t).a) (posOf seen (Sp.nodeOf L t).b))
def textFrom (L:Sp.Pool):List Int→List Int→List UInt8
 | _,[]=>[]
 | seen,t :: l=>kV L seen t++textFrom L (seen++[t]) l
theorem oT (L:Sp.Pool) (l:List Int) (t:Int):∀seen,textFrom L seen (l++[t])=textFrom L seen l++kV L (seen++l) t:=by
 induction l with
 | nil=>intro seen;simp [textFrom]
 | cons x l ih=>intro seen;simp only [List.cons_append,textFrom];rw [ih];simp
def kS (L:Sp.Pool) (t:Int):List UInt8:=textFrom L [] (Sp.qO L t)
theorem jGD {l l':List Int} {u:Int} (h:u∈l):posOf (l++l') u=posOf l u:=by unfold posOf;rw [List.idxOf_append,if_pos h]
theorem jCF {l:List Int} {z:Int} (h:z ∉ l):posOf (l++[z]) z=l.length:=by unfold posOf;rw [List.idxOf_append,if_neg h];simp
theorem jBF {l:List Int} {t:Int} (ht:t∈l):posOf l t<l.length:=List.idxOf_lt_length_of_mem ht
def jIZ (L:Sp.Pool) (t:Int):List UInt8×Int:=if Sp.inP L t then (if (kS L t).length>4096 then ([],1) else (kS L t,0)) else ([],51)
end Go.Proofs
end
section
open Go Go.SE
namespace Go.Proofs
open Tryz
attribute [local irreducible] Calls CallsD
def Fld.put:Fld→FuncId
 | .from_=>83 | .to_=>87 | .num=>89 | .text=>91 | .fst=>95 | .snd=>97
def Fld.get:Fld→FuncId
 | .from_=>85 | .to_=>88 | .num=>90 | .text=>93 | .fst=>96 | .snd=>98
def Fld.row (f:Fld):List Value:=[.func (.func f.put) #[] #[],.func (.func f.get) #[] #[]]
structure PartsAt (w0 w:World) (m:Nat) (Bs:List (Addr×Fld)) (M:List (Int×Sl)):Prop where
 box:∀b∈Bs,Box w b.1 b.2.row 140∧b.1.block≠m
 map:IMap Sl.v w m M
 lst:∀p∈M,Lst (fun b=>w0.heap.size≤b∧b≠m) w 2 p.2 ((kX p.1).map Fld.row)
 pure:Pure w0 w
 own:w0.heap.size≤m
theorem PartsAt.step {w0 w w1:World} {m:Nat} {Bs:List (Addr×Fld)} {M:List (Int×Sl)} (h:PartsAt w0 w m Bs M) {cs:Array Value} {p:Addr} (n1:New w (.cells cs 140) p w1) (k:Int) (n:Nat) (hn:(kX k).length=n) (hcs:cs.toList=((kX k).map Fld.row).flatten) (hk:SE.look M k=none) :
  ∃w2,(Instr.mapUpdate 130 (.map (some m)) (.int .i64 k) (Sl.mk (some p) n n).v).run prog w1=.ok () w2∧PartsAt w0 w2 m Bs (M++[(k,Sl.mk (some p) n n)]):=by
 have E1:Pure w w1:=Ext.new n1
 obtain ⟨w2,hr,hM,hE⟩:=(h.map.pure E1).put (P:=prog) (T:=130) underlying130 underlying3 hk (Sl.mk (some p) n n)
 have B1:=Box.of_newA n1
 have hb:=n1.at_size
 have hm:=h.map.lt
 refine ⟨w2,hr,⟨fun b hb=>⟨((h.box b hb).1.pure E1).ext hE (h.box b hb).2,(h.box b hb).2⟩,hM,?_,(h.pure.trans E1).trans' hE (fun i hi e=>by have:=h.own;omega),h.own⟩⟩
 intro q hq
 rcases List.mem_append.1 hq with hq | hq
 ·exact ((h.lst q hq).pure E1).ext hE (fun b hb=>hb.2)
 ·simp only [List.mem_singleton] at hq
  subst hq
  refine ⟨by simp [hn],fun i hi=>?_⟩
  have hi':i<(kX k).length:=by simpa using hi
  refine ⟨p.add (i*2),⟨by omega,by simp;omega,p,rfl,by simp⟩,?_,?_⟩
  ·rw [zA];exact ⟨by have:=h.pure.size;omega,by omega⟩
  ·have hrow:Row w2 p cs.toList:=hE.row (B1.row) (by omega)
   intro j hj
   rw [yS]
   have hlen:∀r∈(kX k).map Fld.row,r.length=2:=by intro r hr;obtain ⟨f,_,rfl⟩:=List.mem_map.1 hr;rfl
   have hj2:j<2:=by rw [hlen _ (List.getElem_mem hi)] at hj;exact hj
   have hg:=oG hlen hi hj2
   have hlt:i*2+j<cs.toList.length:=by rw [hcs,zK hlen,List.length_map];omega
   rw [hrow _ hlt,hcs,hg]
structure BxsAt (w0 w:World) (Bs:List (Addr×Fld)):Prop where
 box:∀b∈Bs,Box w b.1 b.2.row 140
 pure:Pure w0 w
theorem BxsAt.step {w0 w w1:World} {Bs:List (Addr×Fld)} (h:BxsAt w0 w Bs) {p:Addr} (n1:New w (.cells #[.nilFunc,.nilFunc] 140) p w1) (f:Fld) {A:WP} (k:∀w',BxsAt w0 w' (Bs++[(p,f)])→A w'):(∀j,j<2→jT w1 (p.add j))∧∀w',w'=storeRow w1 p f.row→A w':=by
 have E1:Pure w w1:=Ext.new n1;refine bx 2 (Box.of_newA n1) rfl rfl (fun w2 b E=>k w2 ⟨fun c hc=>?_,h.pure.own (p:=p) (by rw [n1.at_size];exact h.pure.size) ((Ext.pure E1).trans E)⟩);rcases List.mem_append.1 hc with hc | hc
 ·have hB:=h.box c hc;exact (hB.pure E1).ext E (fun e=>by have:=World.block_lt_of_cell? w c.1 hB.cell0;have:=n1.at_size;omega)
 ·simp only [List.mem_singleton] at hc;subst hc;exact b
theorem PartsAt.get {w0 w:World} {m:Nat} {Bs:List (Addr×Fld)} {M:List (Int×Sl)} (h:PartsAt w0 w m Bs M) {p:Addr} {f:Fld} (hb:(p,f)∈Bs):Row w p [.func (.func f.put) #[] #[],.func (.func f.get) #[] #[]]:=(h.box _ hb).1.row
theorem jUP (w0:World):Calls prog 64 #[] w0 (fun e w'=>∃x:Option Nat,e=.returned (.map x)∧∃m M,x=some m∧(∃Bs,PartsAt w0 w' m Bs M)∧M.map Prod.fst=[1,2,3,4,5,6,7,8,9]):=by
 refine w_M2 w0 (fun x w'=>∃m M,x=some m∧(∃Bs,PartsAt w0 w' m Bs M)∧M.map Prod.fst=[1,2,3,4,5,6,7,8,9]) ?_;unfold m_M2;have h0:BxsAt w0 w0 []:=⟨fun b hb=>(by cases hb),Ext.refl _⟩;intro p1 v1 n1;refine h0.step n1 .from_ (fun u1 h1=>?_);intro p2 v2 n2;refine h1.step n2 .to_ (fun u2 h2=>?_);intro p3 v3 n3;refine h2.step n3 .num (fun u3 h3=>?_);intro p4 v4 n4;refine h3.step n4 .text (fun u4 h4=>?_);intro p5 v5 n5;refine h4.step n5 .fst (fun u5 h5=>?_);intro p6 v6 n6;refine h5.step n6 .snd (fun u6 h6=>?_);intro p7 w1 n7;have g0:PartsAt w0 w1 p7.block _ []:=⟨fun b hb=>⟨(h6.box b hb).pure (Ext.new n7),fun e=>by have:=World.block_lt_of_cell? u6 b.1 (h6.box b hb).cell0;have:=n7.at_size;omega⟩,IMap.of_new n7,fun p hp=>(by cases hp),h6.pure.trans (Ext.new n7),by rw [n7.at_size];exact h6.pure.size⟩;refine ⟨_,_,g0.get (f:=.from_) (by simp),?_⟩;intro q1 x1 y1;obtain ⟨z1,r1,g1⟩:=g0.step y1 1 1 rfl rfl (by simp [SE.look]);refine ⟨z1,r1,?_⟩;refine ⟨_,_,g1.get (f:=.num) (by simp),?_⟩;intro q2 x2 y2;obtain ⟨z2,r2,g2⟩:=g1.step y2 2 1 rfl rfl (by simp [SE.look]);refine ⟨z2,r2,?_⟩;refine ⟨_,_,g2.get (f:=.text) (by simp),?_⟩;intro q3 x3 y3;obtain ⟨z3,r3,g3⟩:=g2.step y3 3 1 rfl rfl (by simp [SE.look]);refine ⟨z3,r3,?_⟩;refine ⟨_,_,g3.get (f:=.fst) (by simp),?_⟩;refine ⟨_,_,g3.get (f:=.snd) (by simp),?_⟩;intro q4 x4 y4;obtain ⟨z4,r4,g4⟩:=g3.step y4 4 2 rfl rfl (by simp [SE.look]);refine ⟨z4,r4,?_⟩;refine ⟨_,_,g4.get (f:=.fst) (by simp),?_⟩;intro q5 x5 y5;obtain ⟨z5,r5,g5⟩:=g4.step y5 5 1 rfl rfl (by simp [SE.look]);refine ⟨z5,r5,?_⟩;refine ⟨_,_,g5.get (f:=.from_) (by simp),?_⟩;intro q6 x6 y6;obtain ⟨z6,r6,g6⟩:=g5.step y6 6 1 rfl rfl (by simp [SE.look]);refine ⟨z6,r6,?_⟩;refine ⟨_,_,g6.get (f:=.from_) (by simp),?_⟩;refine ⟨_,_,g6.get (f:=.fst) (by simp),?_⟩;intro q7 x7 y7;obtain ⟨z7,r7,g7⟩:=g6.step y7 7 2 rfl rfl (by simp [SE.look]);refine ⟨z7,r7,?_⟩;refine ⟨_,_,g7.get (f:=.from_) (by simp),?_⟩;refine ⟨_,_,g7.get (f:=.to_) (by simp),?_⟩;refine ⟨_,_,g7.get (f:=.fst) (by simp),?_⟩;intro q8 x8 y8;obtain ⟨z8,r8,g8⟩:=g7.step y8 8 3 rfl rfl (by simp [SE.look]);refine ⟨z8,r8,?_⟩;refine ⟨_,_,g8.get (f:=.from_) (by simp),?_⟩;refine ⟨_,_,g8.get (f:=.to_) (by simp),?_⟩;refine ⟨_,_,g8.get (f:=.fst) (by simp),?_⟩;intro q9 x9 y9;obtain ⟨z9,r9,g9⟩:=g8.step y9 9 3 rfl rfl (by simp [SE.look]);refine ⟨z9,r9,?_⟩;exact ⟨p7.block,_,rfl,⟨_,g9⟩,rfl⟩
end Go.Proofs
end
section
namespace Go.Proofs
def Fld.rd (bs:List UInt8) (r:Rd):Fld→Rd
 | .text=>(kK bs 64 r).2
 | _=>(kW bs r).2
structure Raw where
 num:Nat
 text:List UInt8
 frm:Nat
 to:Nat
 a:Nat
 b:Nat
 kids:Nat
def xK:Raw:=⟨0,[],0,0,0,0,0⟩
def Fld.raw (bs:List UInt8) (r:Rd) (x:Raw):Fld→Raw
 | .from_=>{ x with frm:=(kW bs r).1 }
 | .to_=>{ x with to:=(kW bs r).1 }
 | .num=>{ x with num:=(kW bs r).1 }
 | .text=>{ x with text:=(kK bs 64 r).1 }
 | .fst=>{ x with a:=(kW bs r).1,kids:=1 }
 | .snd=>{ x with b:=(kW bs r).1,kids:=2 }
def zZ (bs:List UInt8):List Fld→Raw×Rd→Raw×Rd
 | [],s=>s
 | f :: l,(x,r)=>zZ bs l (f.raw bs r x,f.rd bs r)
def nodeErr (k n:Nat) (x:Raw) (e:Nat):Nat :=
 if e≠0 then e
 else if 16≤x.frm∨16≤x.to∨((k=8∨k=9)∧x.frm=x.to) then 50
 else if (0<x.kids∧n≤x.a)∨(1<x.kids∧n≤x.b) then 71
 else 0
def Raw.node (k:Nat) (x:Raw):Sp.Node:=⟨k,x.frm,x.to,x.num,⟨x.text.toArray⟩,if 0<x.kids then (x.a:Int)+1 else 0,if 1<x.kids then (x.b:Int)+1 else 0⟩
def oE (k:Nat):Bool:=decide (1≤k) && decide (k≤9)
def tR (L:Sp.Pool) (k:Nat) (s:Raw×Rd):Sp.Pool×Int×Rd :=
 if nodeErr k L.length s.1 s.2.err≠0 then (L,((nodeErr k L.length s.1 s.2.err:Nat):Int),s.2)
 else if (Sp.find L (s.1.node k)).isSome=true then (L,72,s.2)
 else ((Sp.make L (s.1.node k)).2.2,(Sp.make L (s.1.node k)).2.1,s.2)
def zO (bs:List UInt8) (L:Sp.Pool) (r:Rd):Sp.Pool×Int×Rd :=
 if oE (qF bs r).1=true then tR L (qF bs r).1 (zZ bs (kX (qF bs r).1) (xK,(qF bs r).2))
 else (L,70,(qF bs r).2)
def inRow:Nat→List Int→Nat
 | i,[]=>i
 | i,s :: l=>if s=(i:Int)+1 then inRow (i+1) l else i
def oY (L:Sp.Pool) (ps:List Nat):Option Sp.Pool×Int×Nat :=
 let i:=inRow 0 (Sp.qO L L.length)
 if h:i<ps.length then (none,73,ps[i]) else (some L,0,0)
def jGB (bs:List UInt8):Nat→Sp.Pool→Rd→List Nat→Option Sp.Pool×Int×Nat
 | 0,L,_,ps=>oY L ps
 | n+1,L,r,ps =>
  if r.at_<bs.length then
   if (zO bs L r).2.1≠0 then (none,(zO bs L r).2.1,r.at_)
   else jGB bs n (zO bs L r).1 (zO bs L r).2.2 (ps++[r.at_])
  else oY L ps
def zX (bs:List UInt8):Option Sp.Pool×Int×Nat :=
 if 4096<bs.length then (none,1,0) else if bs.length=0 then (none,3,0) else jGB bs bs.length [] ⟨0,0,0⟩ []
def zI (Lq:Sp.Pool):List Int→Sp.Pool→(Int→Int)→Sp.Pool×Int×(Int→Int)
 | [],L,own=>(L,0,own)
 | s :: l,L,own =>
  let m:=Sp.make L { Sp.nodeOf Lq s with a:=own (Sp.nodeOf Lq s).a,b:=own (Sp.nodeOf Lq s).b }
  if m.2.1≠0 then (L,m.2.1,own) else zI Lq l m.2.2 (fun x=>if x=s then m.1 else own x)
def kU (L Lq:Sp.Pool) (t:Int):Int×Int×Sp.Pool :=
 if Sp.inP Lq t=true then
  let c:=zI Lq (Sp.qO Lq t) L (fun _=>0)
  if c.2.1≠0 then (0,c.2.1,L) else (c.2.2 t,0,c.1)
 else (0,51,L)
def uI (L:Sp.Pool) (bs:List UInt8):Int×Int×Nat×Sp.Pool :=
 match (zX bs).1 with
 | none=>(0,(zX bs).2.1,(zX bs).2.2,L)
 | some q=>((kU L q q.length).1,(kU L q q.length).2.1,0,(kU L q q.length).2.2)
theorem jNI (bs:List UInt8) (r:Rd) (h:r.at_≤bs.length):r.at_≤(kW bs r).2.at_∧(kW bs r).2.at_≤bs.length:=by
 have key:∀(l:List UInt8) (i n:Nat) (m k:Nat),yT i n l=.ok (m,k)→k≤i+l.length∧i<k:=by
  intro l;induction l with
  | nil=>intro i n m k h;simp [yT] at h
  | cons c l ih =>
   intro i n m k h
   rw [yB] at h
   split at h
   ·cases h
   ·split at h
    ·split at h
     ·cases h
     ·cases h;simp
    ·have:=ih _ _ _ _ h
     rw [List.length_cons];omega
 unfold kW;split
 ·split
  ·rename_i n k hk;have:=key _ _ _ _ _ hk;rw [List.length_drop] at this;simp only;omega
  ·exact ⟨Nat.le_refl _,h⟩
 ·exact ⟨Nat.le_refl _,h⟩
theorem jQN (bs:List UInt8) (m:Nat) (r:Rd) (h:r.at_≤bs.length):r.at_≤(kK bs m r).2.at_∧(kK bs m r).2.at_≤bs.length:=by
 have hn:=jNI bs r h;unfold kW at hn;unfold kK;split
 ·rename_i he;rw [if_pos he] at hn;split
  ·rename_i n k hk;rw [hk] at hn;simp only at hn;split
   ·exact ⟨Nat.le_refl _,h⟩
   ·split
    ·exact ⟨Nat.le_refl _,h⟩
    ·simp only;omega
  ·exact ⟨Nat.le_refl _,h⟩
 ·exact ⟨Nat.le_refl _,h⟩
theorem Fld.rd_at (bs:List UInt8) (r:Rd) (f:Fld) (h:r.at_≤bs.length):r.at_≤(f.rd bs r).at_∧(f.rd bs r).at_≤bs.length:=by
 cases f <;> first | exact jQN bs 64 r h | exact jNI bs r h
theorem jGC (bs:List UInt8):∀(l:List Fld) (x:Raw) (r:Rd),r.at_≤bs.length→r.at_≤(zZ bs l (x,r)).2.at_∧(zZ bs l (x,r)).2.at_≤bs.length:=by
 intro l;induction l with
 | nil=>intro x r h;exact ⟨Nat.le_refl _,h⟩
 | cons f l ih =>
  intro x r h
  have h1:=f.rd_at bs r h
  have h2:=ih (f.raw bs r x) (f.rd bs r) h1.2
  rw [zZ];omega
theorem jJU (bs:List UInt8) (r:Rd) (h:r.at_<bs.length) (he:r.err=0):qF bs r=(bs[r.at_].toNat,⟨r.at_+1,0,r.spot⟩):=by
 unfold qF;rw [if_pos he,dif_pos h]
theorem xR (bs:List UInt8) (L:Sp.Pool) (r:Rd) (h:r.at_<bs.length) (he:r.err=0):zO bs L r =
  (if oE bs[r.at_].toNat=true then tR L bs[r.at_].toNat (zZ bs (kX bs[r.at_].toNat) (xK,⟨r.at_+1,0,r.spot⟩)) else (L,70,⟨r.at_+1,0,r.spot⟩)):=by
 unfold zO
 rw [jJU bs r h he]
theorem jCC {L:Sp.Pool} {k:Nat} {s:Raw×Rd} (h:(tR L k s).2.1=0):s.2.err=0∧nodeErr k L.length s.1 s.2.err=0∧Sp.find L (s.1.node k)=none∧(Sp.make L (s.1.node k)).2.1=0∧tR L k s=((Sp.make L (s.1.node k)).2.2,0,s.2):=by
 unfold tR at *;split at h
 ·rename_i h1;exact absurd (by simpa using h) h1
 ·rename_i h1;rw [if_neg h1];have h1:nodeErr k L.length s.1 s.2.err=0:=by omega
  have he':s.2.err=0:=by
   by_cases h2:s.2.err=0
   ·exact h2
   ·exfalso;unfold nodeErr at h1;rw [if_pos h2] at h1;exact h2 h1
  split at h
  ·simp at h
  ·rename_i h3;rw [if_neg h3];simp only at h;exact ⟨he',h1,by simpa using h3,h,by rw [h]⟩
theorem jFX (bs:List UInt8) (L:Sp.Pool) (r:Rd) (h:r.at_<bs.length) (he:r.err=0) (h0:(zO bs L r).2.1=0):r.at_<(zO bs L r).2.2.at_∧(zO bs L r).2.2.at_≤bs.length∧(zO bs L r).2.2.err=0:=by
 have hl:=jGC bs (kX bs[r.at_].toNat) xK ⟨r.at_+1,0,r.spot⟩ (by simp only;omega);simp only at hl;rw [xR bs L r h he] at *;split at h0
 ·rename_i hk;rw [if_pos hk];obtain ⟨h1,_,_,_,h5⟩:=jCC h0;rw [h5];exact ⟨by simp only;omega,hl.2,h1⟩
 ·simp at h0
theorem jEP {bs:List UInt8} {L:Sp.Pool} {r:Rd} {ps:List Nat} (h:¬ r.at_<bs.length):∀n,jGB bs n L r ps=oY L ps:=by
 intro n;cases n with
 | zero=>rfl
 | succ n=>rw [jGB,if_neg h]
end Go.Proofs
end
section
open Go Go.SE
namespace Go.Proofs
open Tryz
attribute [local irreducible] Calls CallsD
theorem c_put {S:NP} (f:Fld) (s:Sl) (bs:List UInt8) (n:Sp.Node) (na nb mb:Nat) (M:List (Int×Int)) (w0:World) (hs:Lst S w0 1 s (byr bs)) (hz:s.a=none→s=Sl.nil) (hn:bs.length≤10000000000)
  (h1:0≤n.frm∧n.frm<9223372036854775808) (h2:0≤n.to∧n.to<9223372036854775808) (h3:0≤n.num∧n.num<18446744073709551616) (h4:n.text.size≤10000000000) (hM:IMap (fun i:Int=>.int .i64 i) w0 mb M)
  (ha:f=.fst→SE.look M n.a=some (na:Int)∧na<9223372036854775808) (hb:f=.snd→SE.look M n.b=some (nb:Int)∧nb<9223372036854775808) :
  Calls prog f.put #[s.v,.agg #[.int .i64 n.kind,.int .i64 n.frm,.int .i64 n.to,.int .u64 n.num,.string n.text,.int .i64 n.a,.int .i64 n.b],.map (some mb)] w0 (fun e w'=>∃r:Sl,e=.returned r.v∧RetO w0 5 1 (byr (bs++f.bytes n na nb)) r w'):=by
 cases f
 ·exact jPE s bs _ _ _ _ _ _ _ _ w0 hs hz hn n.frm.toNat (by omega) (by omega)
 ·exact jUO s bs _ _ _ _ _ _ _ _ w0 hs hz hn n.to.toNat (by omega) (by omega)
 ·exact jPD s bs _ _ _ _ _ _ _ _ w0 hs hz hn n.num.toNat (by omega) (by omega)
 ·exact jME s bs _ _ _ _ _ _ _ _ w0 hs hz hn h4
 ·exact c_putA s bs _ _ _ _ _ _ _ w0 hs hz hn mb M na hM (ha rfl).1 (ha rfl).2
 ·exact c_putB s bs _ _ _ _ _ _ _ w0 hs hz hn mb M nb hM (hb rfl).1 (hb rfl).2
def Fld.upd (bs:List UInt8) (r:Rd) (cells:List Value):Fld→List Value
 | .from_=>cells.set 7 (.int .u64 ((kW bs r).1:Int))
 | .to_=>cells.set 8 (.int .u64 ((kW bs r).1:Int))
 | .num=>cells.set 3 (.int .u64 ((kW bs r).1:Int))
 | .text=>cells.set 4 (.string ⟨(kK bs 64 r).1.toArray⟩)
 | .fst=>(cells.set 9 (.int .u64 ((kW bs r).1:Int))).set 11 (.int .i64 1)
 | .snd=>(cells.set 10 (.int .u64 ((kW bs r).1:Int))).set 11 (.int .i64 2)
theorem c_get {S:NP} (f:Fld) (a q:Addr) (s:Sl) (bs:List UInt8) (r:Rd) (cells:List Value) (w0:World) (h:RdS S w0 a s bs r) (hat:r.at_≤bs.length) (hS:∀b,S b→b<w0.heap.size) (hq:Box w0 q cells 164) (hl:cells.length=12) (haq:a.block≠q.block) (hSq:∀b,S b→b≠q.block) :
  Calls prog f.get #[.pointer (some a),.pointer (some q)] w0 (fun e w'=>e=.returned (.tuple #[])∧RdS S w' a s bs (f.rd bs r)∧Box w' q (f.upd bs r cells) 164∧Ext (fun b=>b=a.block∨b=q.block) w0 w'):=by
 cases f
 ·exact jPI a q s bs r cells w0 h hat hS hq hl haq hSq
 ·exact jUS a q s bs r cells w0 h hat hS hq hl haq hSq
 ·exact jSB a q s bs r cells w0 h hat hS hq hl haq hSq
 ·exact jPH a q s bs r cells w0 h hat hS hq hl haq hSq
 ·exact c_getA a q s bs r cells w0 h hat hS hq hl haq hSq
 ·exact c_getB a q s bs r cells w0 h hat hS hq hl haq hSq
structure Kinds (w:World) (m:Nat) (F:NP):Prop where
 ex:∃M:List (Int×Sl),IMap Sl.v w m M∧(∀p∈M,Lst F w 2 p.2 ((kX p.1).map Fld.row))∧M.map Prod.fst=[1,2,3,4,5,6,7,8,9]
 lt:∀b,F b→b<w.heap.size
 ne:∀b,F b→b≠m
theorem Kinds.ext {w w':World} {m:Nat} {F G:NP} (h:Kinds w m F) (E:Ext G w w') (hG:∀b,F b∨b=m→¬ G b):Kinds w' m F:=by
 obtain ⟨M,h1,h2,h3⟩:=h.ex;exact ⟨⟨M,h1.ext E (hG m (.inr rfl)),fun p hp=>(h2 p hp).ext E (fun b hb=>hG b (.inl hb)),h3⟩,fun b hb=>Nat.lt_of_lt_of_le (h.lt b hb) E.size,h.ne⟩
theorem Kinds.pure {w w':World} {m:Nat} {F:NP} (h:Kinds w m F) (E:Pure w w'):Kinds w' m F:=h.ext E (fun _ _ h=>h)
theorem Kinds.mlt {w:World} {m:Nat} {F:NP} (h:Kinds w m F):m<w.heap.size:=by obtain ⟨M,h1,_⟩:=h.ex;exact h1.lt
theorem lst_lt {S:NP} {w:World} {s:Sl} {rs:List (List Value)} {sz:Nat} (h:Lst S w sz s rs) (hr:∀r∈rs,0<r.length):Lst (fun b=>S b∧b<w.heap.size) w sz s rs :=
 ⟨h.len,fun i hi=>let ⟨a,h1,h2,h3⟩:=h.at_ i hi;⟨a,h1,⟨h2,by
  have h0:=hr _ (List.getElem_mem hi);have:=h3 0 h0;rw [List.getElem?_eq_getElem h0] at this;have:=World.block_lt_of_cell? w (a.add 0) this;rwa [zA] at this⟩,h3⟩⟩
theorem jPG (w0:World):Calls prog 64 #[] w0 (fun e w'=>∃x:Option Nat,e=.returned (.map x)∧∃m F,x=some m∧Kinds w' m F∧Pure w0 w'∧w0.heap.size≤m∧∀b,F b→w0.heap.size≤b):=by
 refine (jUP w0).mono ?_;rintro _ w' ⟨x,rfl,m,M,rfl,⟨Bs,h⟩,hM⟩;refine ⟨_,rfl,m,fun b=>(w0.heap.size≤b∧b≠m)∧b<w'.heap.size,rfl,⟨⟨M,h.map,fun p hp=>lst_lt (h.lst p hp) (fun r hr=>by obtain ⟨f,_,rfl⟩:=List.mem_map.1 hr;simp [Fld.row]),hM⟩,fun b hb=>hb.2,fun b hb=>hb.1.2⟩,h.pure,h.own,fun b hb=>hb.1.1⟩
theorem Kinds.get {w:World} {m:Nat} {F:NP} (h:Kinds w m F) (k:Int) (h1:1≤k) (h9:k≤9) (ok:Bool) :
  ∃s:Sl,(Instr.lookup 130 (.map (some m)) (.int .i64 k) ok).run prog w=.ok (if ok then .tuple #[s.v,.bool true] else s.v) w∧Lst F w 2 s ((kX k).map Fld.row):=by
 obtain ⟨M,hM,hL,hk⟩:=h.ex
 rcases hM.get (P:=prog) (T:=130) underlying130 underlying3 (zeroValue136 _) k ok with ⟨hn,_⟩ | ⟨s,hs,hr⟩
 ·have:=uP.1 hn
  rw [hk] at this
  simp at this;omega
 ·exact ⟨s,hr,hL _ (tF hs)⟩
theorem Kinds.none {w:World} {m:Nat} {F:NP} (h:Kinds w m F) (k:Int) (hk:¬ (1≤k∧k≤9)):(Instr.lookup 130 (.map (some m)) (.int .i64 k) true).run prog w=.ok (.tuple #[Sl.nil.v,.bool false]) w:=by
 obtain ⟨M,hM,hL,hks⟩:=h.ex;rcases hM.get (P:=prog) (T:=130) underlying130 underlying3 (zeroValue136 _) k true with ⟨_,hr⟩ | ⟨s,hs,_⟩
 ·exact hr
 ·have:k∈M.map Prod.fst:=List.mem_map.2 ⟨_,tF hs,rfl⟩;rw [hks] at this;simp at this;omega
def vS:Nat→List Int→List (Int×Int)
 | _,[]=>[]
 | i,t :: l=>(t,(i:Int)) :: vS (i+1) l
theorem jGE (l:List Int) (t:Int):∀i,vS i (l++[t])=vS i l++[(t,((i+l.length:Nat):Int))]:=by
 induction l with
 | nil=>intro i;simp [vS]
 | cons x l ih=>intro i;simp only [List.cons_append,vS,ih,List.length_cons];congr 3;simp;omega
theorem jGF (l:List Int):∀i,(vS i l).map Prod.fst=l:=by
 induction l with
 | nil=>intro i;rfl
 | cons x l ih=>intro i;simp [vS,ih]
theorem jIH (l:List Int):∀i,(vS i l).length=l.length:=by
 induction l with
 | nil=>intro i;rfl
 | cons x l ih=>intro i;simp [vS,ih]
theorem jAP (l:List Int) (t:Int) (ht:t∈l):∀i,SE.look (vS i l) t=some ((i+posOf l t:Nat):Int):=by
 induction l with
 | nil=>cases ht
 | cons x l ih =>
  intro i
  rw [vS,SE.look]
  by_cases e:x=t
  ·subst e;rw [if_pos rfl];simp [posOf]
  ·rw [if_neg e]
   have ht':t∈l:=(List.mem_cons.1 ht).resolve_left (fun h=>e h.symm)
   rw [ih ht']
   have:posOf (x :: l) t=posOf l t+1:=by
    have e0:(x == t)=false:=by simpa using e
    simp [posOf,List.idxOf_cons,e0]
   rw [this];congr 2;omega
end Go.Proofs
end
section
namespace Go.Sp
def qX (L:Pool):Prop:=∀e∈L,vU e.node.num
theorem qX.nil:qX []:=fun _ h=>(by cases h)
theorem qX.make {L:Pool} (h:qX L) {n:Node} (hn:vU n.num):qX (make L n).2.2:=by
 rcases tE L n with e | ⟨_,e⟩
 ·rw [e];exact h
 ·rw [e];intro x hx;rcases List.mem_append.1 hx with hx | hx
  ·exact h x hx
  ·rw [List.mem_singleton] at hx;subst hx;exact hn
theorem qX.grow (t:Tree):∀L,qX L→NumT t→qX (grow L t).2.2:=by
 induction t using Tree.ind with
 | h k f t u x ks ih =>
  have:∀(ks:List Tree),(∀i (hi:i<ks.length),∀L,qX L→NumT ks[i]→qX (Sp.grow L ks[i]).2.2)→(∀i (hi:i<ks.length),NumT ks[i])→∀(n:Node) i L,vU n.num→qX L→qX (zD n i L ks).2.2:=by
   intro ks;induction ks with
   | nil=>intro _ _ n i L hn h;unfold zD;exact h.make hn
   | cons t ts iht =>
    intro hh hk n i L hn h
    have h0:=hh 0 (by simp) L h (hk 0 (by simp))
    simp only [List.getElem_cons_zero] at h0
    unfold zD
    split
    ·exact h0
    ·exact iht (fun i hi=>hh (i+1) (by simpa using hi)) (fun i hi=>hk (i+1) (by simpa using hi)) _ _ _ (by split <;> exact hn) h0
  intro L h hT
  cases hT with
  | mk _ _ _ _ _ _ own kids =>
   unfold Sp.grow
   exact this ks ih kids _ _ L own h
theorem qX.of {L:Pool} (h:qX L) {t:Tree} (hT:NumT t):qX (of L t).2.2:=by
 unfold Sp.of;split
 ·exact h
 ·split
  ·exact h
  ·exact qX.grow t L h hT
theorem qX.node {L:Pool} (h:qX L) (t:Int):vU (nodeOf L t).num:=by
 cases ht:inP L t with
 | true=>obtain ⟨e,he,hm,_⟩:=jBJ ht;simp only [nodeOf,he,Option.map_some,Option.getD_some];exact h e hm
 | false=>simp only [nodeOf,lN ht,Option.map_none,Option.getD_none];exact ⟨by decide,by decide⟩
theorem lJ {L:Pool} (hW:Wf L) {t:Int} (ht:inP L t=true):1≤(nodeOf L t).kind∧(nodeOf L t).kind≤9∧0≤(nodeOf L t).frm∧(nodeOf L t).frm<16∧0≤(nodeOf L t).to∧(nodeOf L t).to<16∧(nodeOf L t).text.size≤64:=by
 obtain ⟨h1,_,_,h4,_⟩:=hW.node ht;generalize nodeOf L t=n at *;have hp:qI n.kind=true∧((jF n.kind).frm=false→n.frm=0)∧((jF n.kind).to=false→n.to=0):=by
  unfold jW at h1;simp only at h1;split at h1
  ·cases h1
  ·rename_i h;simp at h;exact ⟨h.1.1.1.1,h.1.1.1.2,h.1.1.2⟩
 have hk:=hp.1;simp only [qI,Bool.and_eq_true,decide_eq_true_eq] at hk;have hf:((jF n.kind).frm=true→qH n.frm=true)∧((jF n.kind).to=true→qH n.to=true)∧n.text.size≤64:=by
  unfold jP at h4;split at h4
  ·cases h4
  ·rename_i h;split at h4
   ·cases h4
   ·simp at h;exact ⟨fun hh=>h.1 hh,fun hh=>(h.2 hh).1,by omega⟩
 refine ⟨hk.1,hk.2,?_⟩;have n1:0≤n.frm∧n.frm<16:=by
  cases hs:(jF n.kind).frm with
  | true=>have:=hf.1 hs;simpa [qH] using this
  | false=>rw [hp.2.1 hs];decide
 have n2:0≤n.to∧n.to<16:=by
  cases hs:(jF n.kind).to with
  | true=>have:=hf.2.1 hs;simpa [qH] using this
  | false=>rw [hp.2.2 hs];decide
 exact ⟨n1.1,n1.2,n2.1,n2.2,hf.2.2⟩
end Go.Sp
namespace Go.Proofs
theorem jBK (k:Int):(kX k).length≤3:=by
 unfold kX;repeat' split
 all_goals decide
theorem jIV (n:Sp.Node) (na nb:Nat) (f:Fld) (h1:n.frm<16) (h2:n.to<16) (h3:Sp.vU n.num) (h4:n.text.size≤64) (ha:na<65537) (hb:nb<65537):(f.bytes n na nb).length≤74:=by
 have h3:=h3.2;cases f <;> simp only [Fld.bytes,kH,List.length_append]
 ·have:=vB (n:=n.frm.toNat) (by omega);omega
 ·have:=vB (n:=n.to.toNat) (by omega);omega
 ·have:=vB (n:=n.num.toNat) (by omega);omega
 ·have:=vB (n:=n.text.size) (by omega);have:n.text.data.toList.length=n.text.size:=Array.length_toList;omega
 ·have:=vB (n:=na) (by omega);omega
 ·have:=vB (n:=nb) (by omega);omega
theorem jCR {α β:Type} (f:α→List β) (c:Nat):∀l:List α,(∀x∈l,(f x).length≤c)→(l.flatMap f).length≤c*l.length:=by
 intro l;induction l with
 | nil=>intro _;simp
 | cons a l ih =>
  intro h
  have h1:=h a (by simp)
  have h2:=ih (fun x hx=>h x (List.mem_cons_of_mem _ hx))
  rw [List.flatMap_cons,List.length_append,List.length_cons,Nat.mul_succ];omega
theorem qP (l:List Int) (t:Int):posOf l t≤l.length:=List.idxOf_le_length
theorem jGH {L:Sp.Pool} (hW:Sp.Wf L) (hN:Sp.qX L) {seen:List Int} {t:Int} (ht:Sp.inP L t=true) (hs:seen.length≤65536):(kV L seen t).length≤300:=by
 obtain ⟨_,_,_,h1,_,h2,h4⟩:=Sp.lJ hW ht;have:=jCR (Fld.bytes (Sp.nodeOf L t) (posOf seen (Sp.nodeOf L t).a) (posOf seen (Sp.nodeOf L t).b)) 74 (kX (Sp.nodeOf L t).kind) (fun f _=>jIV _ _ _ f h1 h2 (hN.node t) h4 (by have:=qP seen (Sp.nodeOf L t).a;omega) (by have:=qP seen (Sp.nodeOf L t).b;omega));have h3:=jBK (Sp.nodeOf L t).kind;have:74*(kX (Sp.nodeOf L t).kind).length≤74*3:=Nat.mul_le_mul_left _ h3;unfold kV;rw [List.length_cons];omega
theorem jFN {L:Sp.Pool} (hW:Sp.Wf L) (hN:Sp.qX L):∀(l seen:List Int),(∀t∈l,Sp.inP L t=true)→seen.length+l.length≤65536→(textFrom L seen l).length≤300*l.length:=by
 intro l;induction l with
 | nil=>intro seen _ _;simp [textFrom]
 | cons t l ih =>
  intro seen h hl
  rw [List.length_cons] at hl
  have h1:=jGH hW hN (seen:=seen) (h t (by simp)) (by omega)
  have h2:=ih (seen++[t]) (fun x hx=>h x (List.mem_cons_of_mem _ hx)) (by rw [List.length_append,List.length_singleton];omega)
  rw [textFrom,List.length_append,List.length_cons,Nat.mul_succ];omega
end Go.Proofs
end
section
open Go Go.SE
namespace Go.Proofs
attribute [local irreducible] Calls
def Sp.nodeErr (n:Sp.Node):Int :=
 if Sp.jW n≠0 then 53 else if (decide ((Sp.jF n.kind).kids<1) && n.a != 0) || (decide ((Sp.jF n.kind).kids<2) && n.b != 0) then 53 else Sp.jP (Sp.jF n.kind) n
end Go.Proofs
end
section
open Go Go.SE
namespace Go.Proofs
open Tryz
attribute [local irreducible] Calls
theorem jTF:SlType prog 143 3 1 8:=by
 refine ⟨underlying143,⟨t3,_,by kernel_rfl,(by kernel_rfl:t3.zero=some (.int .i64 0)),by kernel_rfl,by kernel_rfl,rfl⟩,by omega⟩
end Go.Proofs
end
section
open Go Go.SE
namespace Go.Proofs
attribute [local irreducible] Calls
theorem TreeAt.hst {S:NP} {w0 w w':World} {H H':NP} {s:Sl} {t:Sp.Tree} (h:TreeAt S w s t) (hs:Hst w0 H w H' w') (hd:∀b,S b→b<w.heap.size∧¬ H b):TreeAt S w' s t :=
 h.ext hs.ext (fun b hb hh=>hs.disj (G:=S) hd b hb hh)
end Go.Proofs
end
section
open Go Go.SE
namespace Go.Proofs
open Tryz
attribute [local irreducible] Calls
theorem jAE (p:Addr) (w:World) {L:Sp.Pool} {F:NP} (hP:jS w p L F):Calls prog 51 #[.pointer (some p)] w (fun e w'=>∃r:Int,e=.returned (.int .i64 r)∧(r=L.length∧w'=w)):=by
 refine w_R1 _ w (fun r w'=>r=L.length∧w'=w) ?_;unfold m_R1;obtain ⟨s,m,h,_⟩:=hP;refine Br.f rfl ⟨p,rfl,s,h.box.cell0,?_,rfl⟩;have:=h.rows.len;rw [this];simp
theorem c_kids (p:Addr) (t:Int) (w:World) {L:Sp.Pool} {F:NP} (hP:jS w p L F) (hok:Sp.Ok L):Calls prog 126 #[.pointer (some p),.int .i64 t] w (fun e w'=>∃s:Sl,e=.returned s.v∧(Lst (fun b=>w.heap.size≤b∧b<w'.heap.size) w' 1 s (tmr (Sp.jH (Sp.nodeOf L t)))∧Pure w w')):=by
 refine w_A2 _ _ w (fun s w'=>Lst (fun b=>w.heap.size≤b∧b<w'.heap.size) w' 1 s (tmr (Sp.jH (Sp.nodeOf L t)))∧Pure w w') ?_;unfold m_A2;refine (jHN p t w hP hok).mono ?_;rintro _ w1 ⟨k,f,t',u,x,a,b,r,rfl,⟨hn,_⟩,E1⟩;refine ⟨_,_,_,_,_,_,_,_,rfl,?_⟩;intro p2 w2 h2;have E2:Pure w w2:=E1.trans (Ext.new h2);have o2:=New.own E1 h2;refine bx 7 (Box.of_new h2) rfl rfl (fun w3 b2 E=>?_);have E3:Pure w w3:=E2.own o2 E;refine ⟨k,b2.cell0,?_⟩;refine (jHH k w3).mono ?_;rintro _ w4 ⟨s1,s2,s3,s4,s5,ok,rfl,⟨hs,_⟩,E4⟩;refine ⟨_,_,_,_,_,_,rfl,?_⟩;have b24:=b2.pure E4;intro p3 w5 h5;have E5:Pure w4 w5:=Ext.new h5;have b25:=b24.pure E5;have ne:p2.block≠p3.block:=h5.ne b24.blk;have E05:Pure w w5:=(E3.trans E4).trans E5;have o5:=New.own (E3.trans E4) h5;refine bx 5 (Box.of_new h5) rfl rfl (fun w6 b3 E=>?_);have b26:=b25.ext E ne;have E06:Pure w w6:=E05.own o5 E;refine ⟨a,b26.cell rfl,b,b26.cell rfl,?_⟩;intro p4 w7 h7;have E7:Pure w6 w7:=Ext.new h7;have b4:=Box.of_new h7;have hsh:Sp.jF k=⟨s1,s2,s3,s4,s5⟩:=hs.symm;have hk5:s5=0∨s5=1∨s5=2:=by have:=Sp.qW k;rw [hsh] at this;exact this
 refine ⟨s5,(b3.pure E7).cell rfl,_,jJQ p4 s5 w7 hk5,?_,E06.trans E7⟩;have hks:Sp.jH (Sp.nodeOf L t)=[a,b].take s5.toNat:=by rw [← hn];simp [Sp.jH,hsh]
 rw [hks];have z:=h7.at_size;have z6:=E06.size;have zl:=b4.lt;refine ⟨by rcases hk5 with rfl | rfl | rfl <;> rfl,fun i hi=>?_⟩;rw [uY] at hi;have hi2:i<s5.toNat:=by simp at hi;omega
 refine ⟨p4.add (i*1),⟨by omega,by show (i:Int)<(s5.toNat:Int);omega,p4,rfl,rfl⟩,by rw [zA];omega,?_⟩;intro j hj;have hj1:j<1:=by simp only [tmr,List.getElem_map,List.length_cons,List.length_nil] at hj;omega
 have hj0:j=0:=by omega
 subst hj0;rw [yS];have h01:i=0∨i=1:=by omega
 rcases h01 with rfl | rfl
 ·rw [b4.cell (i:=0*1+0) rfl];simp [tmr]
 ·rw [b4.cell (i:=1*1+0) rfl];simp [tmr]
end Go.Proofs
end
section
open Go Go.SE
open Go.IntKind renaming i64 → q6
namespace Go.Proofs
open Tryz
set_option maxRecDepth 100000
set_option maxHeartbeats 4000000
attribute [local irreducible] wpL wpX opE wpE Calls
def m_R3 (p1:Option Addr) (aA:Option Addr) (t1:Int) (w0:World) (K:Int→Int→WP):Prop :=∀p2 w1,New w0 (.cells #[(vp p1)] 27) p2 w1→∀p3 w2,New w1 (.cells #[(vp aA)] 27) p3 w2→∀p4 w3,New w2 (.cells #[(vi 0)] 29) p4 w3→∀p5 w4,New w3 (.cells #[(vi 0)] 30) p5 w4→∃v1,w4.cell? p2=some (vp v1)∧Br (Option.isNone v1) (jT w4 p4∧¬ None p4.block∧∀w5,w5=w4.setCell p4 (vi 0)→jT w5 p5∧¬ None p5.block∧∀w6,w6=w5.setCell p5 (vi 0)→∃aB,w6.cell? p4=some (vi aB)∧∃aC,w6.cell? p5=some (vi aC)∧K aB aC w6) (∃v2,w4.cell? p3=some (vp v2)∧Calls prog 37 #[(vp v2),(vi t1)] w4 (fun e w7=>∃r1,e=.returned (vb r1)∧Kept None w4 w7∧Br (!r1) (jT w7 p4∧¬ None p4.block∧∀w8,w8=w7.setCell p4 (vi 0)→jT w8 p5∧¬ None p5.block∧∀w9,w9=w8.setCell p5 (vi 51)→∃aD,w9.cell? p4=some (vi aD)∧∃aE,w9.cell? p5=some (vi aE)∧K aD aE w9) (∃v3,w7.cell? p2=some (vp v3)∧∃a1,v3=some a1∧∃v4:Sl,w7.cell? a1=some v4.v∧∀p6 w10,New w7 (.cells #[(vi 0)] 3) p6 w10→jT w10 p6∧¬ None p6.block∧∀w11,w11=w10.setCell p6 (vi (v4.len:Int))→∀p7 w12,New w11 (.map #[] 0) p7 w12→∀p8 w13,New w12 (.cells #[(.map none)] 145) p8 w13→jT w13 p8∧¬ None p8.block∧∀w14,w14=w13.setCell p8 (.map (some p7.block))→∃v5,w14.cell? p3=some (vp v5)∧Calls prog 65 #[(vp v5),(vi t1)] w14 (fun e w15=>∃r2:Value,e=.returned r2∧Kept None w14 w15∧∃(f1:FuncId) (cs1:Array Value),r2=.func (.func f1) #[] cs1∧(∀args w,(callFunc f1 args).run prog w=.ok (.enter f1 args) w)∧∃(xs1:List (Int)) (Rd1:WP),jPR prog f1 cs1 (fun (z2:Int)=>#[(vi z2)]) xs1 Rd1 w15∧∃(I1 Ir1:List (Int)→NP→WP),RngI w0 Rd1 I1 (fun _ _ _=>False) Ir1∧I1 [] None w15∧(∀(pre1:List (Int)) (z2:Int) (Y1:NP) (A1:World),I1 pre1 Y1 A1→Hst w0 Y1 A1 Y1 A1→(∃post,xs1=pre1++z2 :: post)→∃v6,A1.cell? p3=some (vp v6)∧Calls prog 18 #[(vp v6),(vi z2)] A1 (fun e w17=>∃aF aG aH aI aJ aK aL r3,e=.returned (.tuple #[(Ae aF aG aH aI aJ aK aL),(vb r3)])∧Kept None A1 w17∧∀p9 w18,New w17 (.cells #[(vi 0),(vi 0),(vi 0),(vu 0),ve,(vi 0),(vi 0)] 59) p9 w18→(∀j,j<7→jT w18 (p9.add j))∧¬ None p9.block∧∀w19,w19=storeRow w18 p9 (Ad aF aG aH aI aJ aK aL)→∃C1:WP,C1 w19.drew∧∀w20,w20=w19.drew→∃v7:Option Nat,w20.cell? p8=some (.map v7)∧∃v8,w20.cell? (p9.add 5)=some (vi v8)∧∃v9,(Instr.lookup 145 (.map v7) (vi v8) false).run prog w20=.ok (vi v9) w20∧∃v10:Option Nat,(∀w',C1 w'→w'.cell? p8=some (.map v10))∧∃v11,w20.cell? (p9.add 6)=some (vi v11)∧∃v12,(∀w',C1 w'→(Instr.lookup 145 (.map v10) (vi v11) false).run prog w'=.ok (vi v12) w')∧jT w20 (p9.add 5)∧¬ None (p9.add 5).block∧∀w21,w21=w20.setCell (p9.add 5) (vi v9)→C1 w21∧jT w21 (p9.add 6)∧¬ None (p9.add 6).block∧∀w22,w22=w21.setCell (p9.add 6) (vi v12)→∃v13,w22.cell? p2=some (vp v13)∧∃aQ aR aS aT aU aV aW,Row w22 p9 (Ad aQ aR aS aT aU aV aW)∧Calls prog 63 #[(vp v13),(.agg #[(vi aQ),(vi aR),(vi aS),(vu aT),(vs aU),(vi aV),(vi aW)])] w22 (fun e w23=>∃r4 r5,e=.returned (.tuple #[(vi r4),(vi r5)])∧Kept None w22 w23∧Br (r5 != 0) (∃v14,w23.cell? p2=some (vp v14)∧∃v15,w23.cell? p6=some (vi v15)∧Calls prog 40 #[(vp v14),(vi v15)] w23 (fun e w24=>e=.returned (.tuple #[])∧Kept None w23 w24∧jT w24 p4∧¬ None p4.block∧∀w25,w25=w24.setCell p4 (vi 0)→jT w25 p5∧¬ None p5.block∧∀w26,w26=w25.setCell p5 (vi r5)→Kept Y1 A1 w26∧Ir1 (pre1++[z2]) Y1 w26)) (∃v16:Option Nat,w23.cell? p8=some (.map v16)∧∃w27:World,(Instr.mapUpdate 145 (.map v16) (vi z2) (vi r4)).run prog w23=.ok () w27∧Kept None w23 w27∧Kept Y1 A1 w27∧I1 (pre1++[z2]) Y1 w27))))∧(∀H1 w28,Hst w0 H1 w28 H1 w28→(∀b,None b→H1 b)→Kept None w15 w28→I1 xs1 H1 w28→∃v17:Option Nat,w28.cell? p8=some (.map v17)∧∃v18,(Instr.lookup 145 (.map v17) (vi t1) false).run prog w28=.ok (vi v18) w28∧jT w28 p4∧¬ H1 p4.block∧∀w29,w29=w28.setCell p4 (vi v18)→jT w29 p5∧¬ H1 p5.block∧∀w30,w30=w29.setCell p5 (vi 0)→∀w31,Hst w0 H1 w30 H1 w31→∃aM,w31.cell? p4=some (vi aM)∧∃aN,w31.cell? p5=some (vi aN)∧K aM aN w31)∧(∀(pre2:List (Int)) (H2:NP) (w33:World),Hst w0 H2 w33 H2 w33→Ir1 pre2 H2 w33→∃aO,w33.cell? p4=some (vi aO)∧∃aP,w33.cell? p5=some (vi aP)∧K aO aP w33)))))
theorem w_R3 (p1 aA t1 w0 K) (h:m_R3 p1 aA t1 w0 K):
  Calls prog 50 #[(vp p1),(vp aA),(vi t1)] w0 (fun e w'=>∃r6 r7,e=.returned (.tuple #[(vi r6),(vi r7)])∧K r6 r7 w'):=by
 refine cw (args:=[(vp p1),(vp aA),(vi t1)]) func50 ntmps50 ?_
 obtain ⟨hs,hb⟩:=st0 w0
 refine eg (nw2 hs hb h xb fun p2 w1 hs hb h=>nw2 hs hb h xb fun p3 w2 hs hb h=>nw2 hs hb h (jG (zeroValue29 _) rfl) fun p4 w3 hs hb h=>nw2 hs hb h (jG (zeroValue30 _) rfl) fun p5 w4 hs hb h=>ln (jA (eg (ql (isAgg27 _) h fun v1 h=>q2 (vb (Option.isNone v1)) (qK (by kernel_rfl) rfl underlying27) (ln (cbr h ?_ ?_))))))<;>intro h
 refine eg (st2 (sizeOf29 _) hs hb h fun w5 hs hb h=>st2 (sizeOf30 _) hs hb h fun w6 hs hb h=>ln (er (zM ?_)))
 obtain ⟨aB,hv1,h⟩:=h
 obtain ⟨aC,hv2,h⟩:=h
 refine gg2 results50 (RV.cell1 (A:=p4) (by kernel_rfl) (isAgg29 _) hv1) (RV.cell1 (A:=p5) (by kernel_rfl) (isAgg30 _) hv2) ⟨aB,aC,rfl,h⟩
 refine jB (jN (jA (eg (ql (isAgg27 _) h fun v2 h=>q (sc call37 (h.mono fun e w7 ⟨r1,k,hk,h⟩=>have ⟨hs,hb⟩:=hk.hh hs hb;⟨_,k,?_⟩))))))
 refine q (ln (cbr h ?_ ?_))<;>intro h
 refine eg (st2 (sizeOf29 _) hs hb h fun w8 hs hb h=>st2 (sizeOf30 _) hs hb h fun w9 hs hb h=>ln (er (zM ?_)))
 obtain ⟨aD,hv3,h⟩:=h
 obtain ⟨aE,hv4,h⟩:=h
 refine gg2 results50 (RV.cell1 (A:=p4) (by kernel_rfl) (isAgg29 _) hv3) (RV.cell1 (A:=p5) (by kernel_rfl) (isAgg30 _) hv4) ⟨aD,aE,rfl,h⟩
 refine jB (jN (eg (ql (isAgg27 _) h fun v3 h=>qm h fun a1 h=>q (ql (isAgg46 _) h fun v4 h=>q (sn (O:=(.cells #[(vi 0)] 3)) (jG (zeroValue3 _) rfl) ?_)))))
 intro p6 w10 hn17
 have h:=h p6 w10 hn17
 obtain ⟨hs,hb⟩:=hs.nw hb hn17
 refine st2 (sizeOf3 _) hs hb h fun w11 hs hb h=>ln (eg (nw5 (fun p=>.map (some p.block)) hs hb h fun p7 w12 hs hb h=>nw2 hs hb h (jG (zeroValue145 _) rfl) fun p8 w13 hs hb h=>st2 (sizeOf145 _) hs hb h fun w14 hs hb h=>ln (jED (rg (ql (isAgg27 _) h fun v5 h=>q (sc call65 (h.mono fun e w15 ⟨r2,k,hk,h⟩=>have ⟨hs,hb⟩:=hk.hh hs hb;⟨_,k,?_⟩)))))))
 refine ln ?_
 obtain ⟨f1,cs1,hv5,hf1,h⟩:=h
 obtain ⟨xs1,Rd1,hit,I1,Ir1,hRI,h0,hbody,h⟩:=h
 refine jBR (encs:=(fun (z2:Int)=>#[(vi z2)])) (Eq.trans (b:=r2) (by kernel_rfl) hv5) hf1 hit (fun _=>rfl) (by decide) hs I1 (fun _ _ _=>False) Ir1 hRI h0 ?ha ?hr ?ht
 case ha =>
  intro l z2 w34
  refine rg (q (ln ⟨rfl,?_⟩))
  intro pre1 Y1 A1 hi hY hpost
  have h:=hbody pre1 z2 Y1 A1 hi hY hpost
  obtain ⟨hs,hb⟩:=st0 A1
  refine jM (eg (ql (isAgg27 _) h fun v6 h=>q (sc call18 (h.mono fun e w17 ⟨aF,aG,aH,aI,aJ,aK,aL,r3,k,hk,h⟩=>have ⟨hs,hb⟩:=hk.hh hs hb;⟨_,k,?_⟩))))
  refine qc (nw2 hs hb h (jG (zeroValue59 _) rfl) fun p9 w18 hs hb h=>?_)
  obtain ⟨hp8,hnh,h⟩:=h
  refine ss (xo p9 (Ad aF aG aH aI aJ aK aL) (sizeOf59 _) hp8) ?_
  intro w19 hn7
  have h:=h w19 hn7
  have hk:Kept None w18 w19:=by rw [hn7];exact Kept.storeRow hnh
  obtain ⟨hs,hb⟩:=hk.hh hs hb
  refine q (ln (jA ?_))
  obtain ⟨C1,hC,h⟩:=h
  refine dr2 C1 [9,11] [11] hC h hs hb fun w20 hs hb h=>?_
  have hs:=hs.here
  refine qg 0 ?_
  obtain ⟨v7,hv17,h⟩:=h
  refine sye Kp0 (xl (isAgg145 _) hv17) (qx 1 (vp (some (p9.add 5))) Kp1 (qg 2 ?_))
  obtain ⟨v8,hv16,h⟩:=h
  refine sye Kp2 (xl (isAgg29 _) hv16) (qg 3 ?_)
  obtain ⟨v9,hv15,h⟩:=h
  refine sye (v:=(vi v9)) Kp3 (vW (by kernel_rfl) (by kernel_rfl) hv15) (qg 4 ?_)
  obtain ⟨v10,hv14,h⟩:=h
  refine sy Kp4 (fun _ k=>xl (isAgg145 _) (hv14 _ k)) (qx 5 (vp (some (p9.add 6))) Kp5 (qg 6 ?_))
  obtain ⟨v11,hv13,h⟩:=h
  refine sye Kp6 (xl (isAgg29 _) hv13) (qg 7 ?_)
  obtain ⟨v12,hv12,h⟩:=h
  refine sy (v:=(vi v12)) Kp7 (fun w' hw'=>(vW (by kernel_rfl) (by kernel_rfl) (hv12 w' hw'))) (qx 8 (vp (some (p9.add 5))) Kp8 (lg 9 ?_))
  obtain ⟨hp9,hnh,h⟩:=h
  refine sl_t Kp9 (xs (v:=(vi v9)) (sizeOf29 _) hp9) ?_
  intro w21 hn8
  have h:=h w21 hn8
  refine ⟨.inr h.1,?_⟩
  have h:=h.2
  have hk:=Kept.sc hnh hn8
  obtain ⟨hs,hb⟩:=hk.hh hs hb
  refine qx 10 (vp (some (p9.add 6))) (jJ (S8 (jD (jD jI)))) (lg 11 ?_)
  obtain ⟨hp10,hnh,h⟩:=h
  refine sl_t (jJ (S8 (jD (jD (jD jI))))) (xs (v:=(vi v12)) (sizeOf29 _) hp10) ?_
  intro w22 hn9
  have h:=h w22 hn9
  refine ⟨.inl (by kernel_rfl),?_⟩
  have hk:=Kept.sc hnh hn9
  obtain ⟨hs,hb⟩:=hk.hh hs hb
  refine wn (jN (eg (ql (isAgg27 _) h fun v13 h=>?_)))
  obtain ⟨aQ,aR,aS,aT,aU,aV,aW,hv10,h⟩:=h
  refine qa (isAgg59 _) (sizeOf59 _) hv10 (sc call63 (h.mono fun e w23 ⟨r4,r5,k,hk,h⟩=>have ⟨hs,hb⟩:=hk.hh hs hb;⟨_,k,?_⟩))
  refine q (qd (ln (jA (eg (qb (ln (cbr h ?_ ?_)))))))<;>intro h
  refine eg (ql (isAgg27 _) h fun v14 h=>ql (isAgg3 _) h fun v15 h=>sc call40 (h.mono fun e w24 ⟨k,hk,h⟩=>have ⟨hs,hb⟩:=hk.hh hs hb;⟨_,k,?_⟩))
  refine ln (eg (q (st2 (sizeOf29 _) hs hb h fun w25 hs hb h=>st2 (sizeOf30 _) hs hb h fun w26 hs hb h=>ln (er (zM (qJ ?_))))))
  exact rd_r h
  refine jB (jN (rg (ql (isAgg145 _) h fun v16 h=>qb ?_)))
  obtain ⟨w27,hv8,hk,h⟩:=h
  refine vC (jK rfl) (uW (by kernel_rfl) (by kernel_rfl) (by kernel_rfl) hv8) ?_
  obtain ⟨hs,hb⟩:=hk.hh hs hb
  refine jC (uS ?_)
  exact rd_n h
 case hr =>
  intro D1 H1 w28 hs' hD hDe aX hk1 hio1
  have hb':=hb.behind hk1 aX hD hDe
  have hs:=hs'
  have hb:=hb'
  have h:=h.1 H1 w28 hs aX hk1 (hio1.elim id (fun h=>h.elim (fun _ h=>h.elim)))
  refine eg (ql (isAgg145 _) h fun v17 h=>q ?_)
  obtain ⟨v18,hv21,h⟩:=h
  refine q2 (vi v18) (vW (by kernel_rfl) (by kernel_rfl) hv21) (st2 (sizeOf29 _) hs hb h fun w29 hs hb h=>st2 (sizeOf30 _) hs hb h fun w30 hs hb h=>ln (er (af_r hb.dead ?_)))
  intro w31 hw'
  have hl:=hb.leave hs hw'
  obtain ⟨hs,hb⟩:=hl
  -- behind the loop
  have ⟨h,hs⟩:=hs.hr (h w31)
  obtain ⟨aM,hv19,h⟩:=h
  obtain ⟨aN,hv20,h⟩:=h
  refine gg2 results50 (RV.cell1 (A:=p4) (by kernel_rfl) (isAgg29 _) hv19) (RV.cell1 (A:=p5) (by kernel_rfl) (isAgg30 _) hv20) ⟨aM,aN,rfl,h⟩
 case ht =>
  intro D1 pre2 H2 w32 hs' hD hDe hio
  have hs2:=hs'.putD (o:=.deferred none) hD
  have hio:=hRI.r _ _ _ _ _ hio hs2
  have hs2:=hs2.here
  have hs:=hs2
  generalize World.putObj w32 D1 (.deferred none)=w33 at hs hio ⊢
  have hb:=HB.nil H2 w33
  have h:=h.2 pre2 H2 w33 hs hio
  obtain ⟨aO,hv23,h⟩:=h
  obtain ⟨aP,hv24,h⟩:=h
  refine gg2 results50 (RV.cell1 (A:=p4) (by kernel_rfl) (isAgg29 _) hv23) (RV.cell1 (A:=p5) (by kernel_rfl) (isAgg30 _) hv24) ⟨aO,aP,rfl,h⟩
def m_J1_l1 (yield1:Value) (r1:Sl) (x1:Int) (wl1:World) (Kc1:Int→WP) (K:WP):Prop :=Br (decide (x1<(r1.len:Int))) (∃a1:Addr,At r1 x1 1 a1∧∃v3,wl1.cell? a1=some (vi v3)∧∃(ly1:Nat),yield1=.func (.yield ly1) #[] #[]∧Yld prog ly1 #[(vi v3)] wl1 (fun e w2=>∃b1,e=.returned (vb b1)∧Br (!b1) (K w2) (Kc1 (q6.wrap (x1+1)) w2))) (K wl1)
def m_J1 (yield1:Value) (cap1 cap2:Addr) (w0:World) (K:WP):Prop :=∃v1,w0.cell? cap1=some (vp v1)∧∃v2,w0.cell? cap2=some (vi v2)∧Calls prog 100 #[(vp v1),(vi v2)] w0 (fun e w1=>∃r1:Sl,e=.returned r1.v∧∃(I1:Int→WP) (mu1:Int→World→Nat),I1 0 w1∧∀(x1:Int) (wl1:World),I1 x1 wl1→m_J1_l1 yield1 r1 x1 wl1 (fun y'0 w'=>I1 y'0 w'∧mu1 y'0 w'<mu1 x1 wl1) K)
theorem w_J1 (yield1 cap1 cap2 w0 K) (h:m_J1 yield1 cap1 cap2 w0 K):
  Calls prog 99 #[yield1,(vp (some cap1)),(vp (some cap2))] w0 (fun e w'=>e=.returned (.tuple #[])∧K  w'):=by
 refine cw (args:=[yield1,(vp (some cap1)),(vp (some cap2))]) func99 ntmps99 (eg ?_)
 refine ql (isAgg27 _) h fun v1 h=>ql (isAgg29 _) h fun v2 h=>sc call100 (h.mono fun e w1 ⟨r1,k,h⟩=>⟨_,k,?_⟩)
 refine qb (ln (jM ?_))
 obtain ⟨I1,mu1,h0,hr⟩:=h
 refine kL (σ:=Int×World) (fun s ρ w=>w=s.2∧Has ρ [(0,yield1),(8,r1.v),(9,(vi (r1.len:Int))),(10,(vi s.1))]∧I1 s.1 s.2) (fun s=>mu1 s.1 s.2) (0,w1) ⟨rfl,hm,h0⟩ ?_
 rintro ⟨x1,wl1⟩ ρ w ⟨hw,hH,hI⟩
 dsimp only at hw hH;subst w
 have h:=hr x1 wl1 hI
 refine jQ hH (eg (q (ln (jA (cbr h ?_ ?_)))))<;>intro h
 refine jB (jN (jA (jM (eg (qi (runUnderlying166 _) (sizeOf29 _) h fun a1 h=>ql (isAgg29 _) h fun v3 h=>q (ln (eg (qb ?_))))))))
 obtain ⟨ly1,hy1,h⟩:=h
 refine jQA (jK rfl) (by kernel_rfl) hy1 (by kernel_rfl) (h.mono ?_)
 rintro e w2 ⟨b1,rfl,h⟩
 refine ⟨_,rfl,?_⟩
 refine q (ln (cbr h ?_ ?_))<;>intro h
 refine er (qJ (zM (zM (qJ (jFV (.inl rfl) results99 ⟨rfl,h⟩)))))
 refine jB (uS (jN (rg (qb (ln ⟨((q6.wrap (x1+1)),w2),⟨rfl,hm,h.1⟩,h.2⟩)))))
 refine zV (xG (xG (xE (jFV (.inr rfl) results99 ⟨rfl,h⟩))))
end Go.Proofs
end
section
open Go Go.SE
namespace Go.SE
theorem Rws.kept {w w':World} {X:NP} {e:TypeId} {sz:Nat} {s:Sl} {rs:List (List Value)} (h:Rws w e sz s rs) (hk:Kept X w w') (hX:∀b,s.blk b→X b):Rws w' e sz s rs:=by
 refine ⟨h.each,h.len,?_⟩;rcases h.own with h' | ⟨g,cur,ha,hg,r⟩
 ·exact .inl h'
 ·exact .inr ⟨g,cur,ha,by rw [hk.keep g (yO hg) (hX g ⟨_,ha,rfl⟩)];exact hg,r⟩
end Go.SE
namespace Go.Sp
theorem jLH {L:Pool} (hW:Wf L) {t:Int} (ht:inP L t=true) (n:Nat) (st:(Int→Bool)×List Int):(jH (nodeOf L t)).foldl (fun st k=>vR L n k st) st=vR L n (nodeOf L t).b (vR L n (nodeOf L t).a st):=by
 have z:∀st,vR L n 0 st=st:=fun st=>by
  cases n with
  | zero=>rfl
  | succ n=>rw [vR,if_neg (by simp [inP])]
 have h1:=(hW.node ht).2.1;have h2:=(hW.node ht).2.2.1;unfold jH;rcases qW (nodeOf L t).kind with e | e | e
 ·rw [e,h1 (by omega),h2 (by omega),z,z];rfl
 ·rw [e,h2 (by omega),z];rfl
 ·rw [e];rfl
end Go.Sp
namespace Go.Proofs
open Tryz
attribute [local irreducible] Calls
def jTC (M:List Int):List (Int×Unit):=M.map fun t=>(t,())
theorem jPX (M:List Int):(jTC M).map Prod.fst=M:=by simp [jTC,Function.comp_def]
def one1 (_:Unit):Value:=.int .i64 1
structure WkAt (w:World) (p c1 c2 c3 c4:Addr) (m:Nat) (so:Sl) (L:Sp.Pool) (FP:NP) (st:(Int→Bool)×List Int):Prop where
 b1:Box w c1 [.map (some m)] 132
 b2:Box w c2 [.pointer (some p)] 27
 b3:Box w c3 [.func (.func 125) #[] #[.pointer (some c1),.pointer (some c2),.pointer (some c3),.pointer (some c4)]] 192
 b4:Box w c4 [so.v] 166
 mp:∃M,IMap one1 w m (jTC M)∧∀x,st.1 x=decide (x∈M)
 out:Rws w 29 1 so (tmr st.2)
 pool:jS w p L FP
 n4:c4.block≠c1.block∧c4.block≠c2.block∧c4.block≠c3.block∧c4.block≠m
 nm:m≠c1.block∧m≠c2.block∧m≠c3.block
 ns:∀b,so.blk b→b≠c1.block∧b≠c2.block∧b≠c3.block∧b≠c4.block∧b≠m
 nf:∀b,FP b→b≠c4.block∧b≠m∧¬ so.blk b
def WkF (c4:Addr) (m:Nat) (so:Sl) (b:Nat):Prop:=b=c4.block∨b=m∨so.blk b
section
variable {w w':World} {p c1 c2 c3 c4:Addr} {m:Nat} {so:Sl} {L:Sp.Pool} {FP:NP} {st:(Int→Bool)×List Int}
theorem WkAt.pure (h:WkAt w p c1 c2 c3 c4 m so L FP st) (E:Pure w w'):WkAt w' p c1 c2 c3 c4 m so L FP st :=
 ⟨h.b1.pure E,h.b2.pure E,h.b3.pure E,h.b4.pure E,let ⟨M,h1,h2⟩:=h.mp;⟨M,h1.pure E,h2⟩,h.out.pure E,h.pool.pure E,h.n4,h.nm,h.ns,h.nf⟩
end
theorem c_walk (p c1 c2 c3 c4:Addr) (m:Nat) {L:Sp.Pool} {FP:NP} (hW:Sp.Wf L):∀(n:Nat) (t:Int) (w0:World) (st:(Int→Bool)×List Int) (so:Sl),t.toNat<n→Sp.inP L t=true→WkAt w0 p c1 c2 c3 c4 m so L FP st→Sp.OvOk L st→(∀y,st.1 y=true→y≤t→y∈st.2) →
  Calls prog 125 #[.int .i64 t,.pointer (some c1),.pointer (some c2),.pointer (some c3),.pointer (some c4)] w0 (fun e w'=>e=.returned (.tuple #[])∧∃so',WkAt w' p c1 c2 c3 c4 m so' L FP (Sp.vR L n t st)∧Ext (WkF c4 m so) w0 w'∧∀b,so'.blk b→so.blk b∨w0.heap.size≤b):=by
 intro n
 induction n with
 | zero=>intro t w0 st so h;omega
 | succ n ih =>
 intro t w0 st so hn hin h hst hm
 have hR:=Sp.oD hW (n+1) t st hn hst hm
 suffices key:∀K:WP,(∀so' w',WkAt w' p c1 c2 c3 c4 m so' L FP (Sp.vR L (n+1) t st)→Ext (WkF c4 m so) w0 w'→(∀b,so'.blk b→so.blk b∨w0.heap.size≤b)→K w')→m_C1 t c1 c2 c3 c4 w0 K from
  w_C1 _ _ _ _ _ w0 _ (key _ (fun so' w' a b c=>⟨so',a,b,c⟩))
 intro K hK
 unfold m_C1
 obtain ⟨M,hM,hV⟩:=h.mp
 have hz:∀w,(zeroValue 3).run prog w=.ok (.int .i64 0) w:=fun w=>zeroValue3 w
 rcases hM.get underlying132 underlying29 (hz w0) t false with ⟨hno,hl⟩ | ⟨u,hyes,hl⟩
 ·have hnot:t ∉ M:=by have:=uP.1 hno;rwa [jPX] at this
  have hv:st.1 t=false:=by rw [hV];simpa using hnot
  rw [Sp.vR,if_pos ⟨hin,hv⟩] at hK hR
  refine ⟨some m,h.b1.cell0,0,hl,Br.f (by simp) ?_⟩
  obtain ⟨w1,hu,hM1,E1⟩:=hM.put (f:=one1) underlying132 underlying29 hno ()
  refine ⟨some m,h.b1.cell0,0,hl,w1,by rw [i64 (by omega) (by omega)];exact hu,?_⟩
  have A1:WkAt w1 p c1 c2 c3 c4 m so L FP (Sp.upd st.1 t true,st.2) :=
   ⟨h.b1.ext E1 (fun e=>h.nm.1 e.symm),h.b2.ext E1 (fun e=>h.nm.2.1 e.symm),h.b3.ext E1 (fun e=>h.nm.2.2 e.symm),h.b4.ext E1 h.n4.2.2.2,
   ⟨M ++ [t], by rw [show jTC (M ++ [t]) = jTC M ++ [(t, ())] by simp [jTC]]; exact hM1, fun x => by
     simp only [Sp.upd,List.mem_append,List.mem_singleton];by_cases e:x=t
     ·simp [e]
     ·rw [if_neg e,hV];simp [e]⟩,
   h.out.ext E1 (fun b hb=>(h.ns b hb).2.2.2.2),h.pool.ext E1 (fun b hb=>(h.nf b hb).2.1),h.n4,h.nm,h.ns,h.nf⟩
  refine ⟨some p,A1.b2.cell0,?_⟩
  refine (c_kids p t w1 A1.pool hW.ok).mono ?_
  rintro _ w2 ⟨r1,rfl,hks,E2⟩
  refine ⟨_,rfl,?_⟩
  have A2:=A1.pure E2
  have o1:Sp.OvOk L (Sp.upd st.1 t true,st.2):=⟨fun y hy=>by simp only [Sp.upd];split <;> simp [hst.marked y hy],hst.closed,hst.nd,hst.inp⟩
  have hkid:=(hW.node hin).2.2.2.2.1
  have hlen:(Sp.jH (Sp.nodeOf L t)).length≤2:=by rw [Sp.jH];simp;omega
  generalize hks0:Sp.jH (Sp.nodeOf L t)=ks at *
  let sj:Nat→(Int→Bool)×List Int:=fun j=>(ks.take j).foldl (fun st k=>Sp.vR L n k st) (Sp.upd st.1 t true,st.2)
  have good:∀j,j≤ks.length→Sp.OvOk L (sj j)∧∀y,(sj j).1 y=true→y<t→y∈(sj j).2:=by
   intro j;induction j with
   | zero =>
    intro _
    refine ⟨o1,fun y hy hlt=>?_⟩
    simp only [sj,List.take_zero,List.foldl_nil,Sp.upd] at hy ⊢
    rw [if_neg (by omega)] at hy
    exact hm y hy (by omega)
   | succ j ihj =>
    intro hj
    obtain ⟨g1,g2⟩:=ihj (by omega)
    have hk:=hkid ks[j] (List.getElem_mem _)
    have hk1:=(Sp.jY.1 hk.1).1
    have e:sj (j+1)=Sp.vR L n ks[j] (sj j):=by simp only [sj];rw [List.take_succ_eq_append_getElem (by omega),List.foldl_append];rfl
    have r:=Sp.oD hW n ks[j] (sj j) (by omega) g1 (fun y hy hle=>g2 y hy (by omega))
    rw [e]
    refine ⟨r.toOvOk,fun y hy hlt=>?_⟩
    rcases r.back y hy with h1 | h1
    ·obtain ⟨M',e',_⟩:=r.app
     rw [e'];exact List.mem_append_left _ (g2 y h1 hlt)
    ·exact h1
  refine ⟨fun x A=>∃(j:Nat) (so':Sl),x=j∧j≤ks.length∧WkAt A p c1 c2 c3 c4 m so' L FP (sj j)∧Ext (WkF c4 m so) w2 A∧∀b,so'.blk b→so.blk b∨w2.heap.size≤b,fun x _=>((ks.length:Int) - x).toNat,⟨0,so,rfl,Nat.zero_le _,A2,Ext.refl _,fun b hb=>.inl hb⟩,?_⟩
  rintro _ w3 ⟨j,so3,rfl,hj,A3,X3,f3⟩
  unfold m_C1_l1
  have hlen1:r1.len=ks.length:=by rw [hks.len,uY]
  have hks3:Lst (fun b=>w1.heap.size≤b∧b<w2.heap.size) w3 1 r1 (tmr ks):=hks.ext X3 (fun b hb hx=>by
   rcases hx with hx | hx | hx
   ·have:=A1.b4.lt;omega
   ·have:m<w1.heap.size:=hM1.lt;omega
   ·have:=A1.out.lt hx;omega)
  obtain ⟨g1,g2⟩:=good j hj
  refine ⟨fun hc=>?_,fun hc=>?_⟩
  ·have hc:j<ks.length:=by have:=of_decide_eq_true hc;omega
   obtain ⟨a,hat,_,hv⟩:=jMU hks3 hc
   refine ⟨a,hat,_,hv,_,A3.b3.cell0,_,_,_,rfl,call125,?_⟩
   have hk:=hkid ks[j] (List.getElem_mem _)
   have hk1:=(Sp.jY.1 hk.1).1
   refine (ih ks[j] w3 (sj j) so3 (by omega) hk.1 A3 g1 (fun y hy hle=>g2 y hy (by omega))).mono ?_
   rintro _ w4 ⟨rfl,so4,A4,X4,f4⟩
   refine ⟨rfl,⟨j+1,so4,kQ hc (by omega),hc,?_,X3.trans' X4 (fun i hi hb=>?_),fun b hb=>?_⟩,?_⟩
   ·have e:sj (j+1)=Sp.vR L n ks[j] (sj j):=by simp only [sj];rw [List.take_succ_eq_append_getElem (by omega),List.foldl_append];rfl
    rw [e];exact A4
   ·rcases hb with hb | hb | hb
    ·exact .inl hb
    ·exact .inr (.inl hb)
    ·exact .inr (.inr ((f3 i hb).elim id (fun h=>by omega)))
   ·rcases f4 b hb with h1 | h1
    ·exact f3 b h1
    ·have:=X3.size;right;omega
   ·rw [kQ hc (by omega)]
    show ((ks.length:Int) - ((j+1:Nat):Int)).toNat<((ks.length:Int) - (j:Int)).toNat
    omega
  ·have hc:j=ks.length:=by have:=of_decide_eq_false hc;omega
   subst hc
   have es:sj ks.length=Sp.vR L n (Sp.nodeOf L t).b (Sp.vR L n (Sp.nodeOf L t).a (Sp.upd st.1 t true,st.2)):=by
    rw [← Sp.jLH hW hin,hks0];simp only [sj,List.take_length]
   simp only at hK hR
   rw [← es] at hK hR
   generalize sj ks.length=s3 at *
   refine ⟨so3,A3.b4.cell0,?_⟩
   intro p1 w4 h4
   have E4:Pure w3 w4:=Ext.new h4
   have hfew:s3.2.length≤65536:=by have:=Sp.jBG g1.nd g1.inp;have:=hW.ok.few;omega
   obtain ⟨s1',w5,hr5,R5,X5,f5⟩:=(A3.out.pure E4).append (P:=prog) (ty:=166) (c:=1) slT_tm (r:=[.int .i64 t]) (Box.of_new h4).row rfl rfl (by rw [uY];omega) (by rw [uY];simp [maxLen];omega)
   have b5:=(A3.b4.pure E4).ext X5 (fun hb=>(A3.ns _ hb).2.2.2.1 rfl)
   refine ⟨s1',w5,hr5,b5.canW0 (by simp),?_⟩
   intro w6 h6
   have E6:Ext (·=c4.block) w5 w6:=by rw [h6];exact Ext.setCell c4 _
   have b6:Box w6 c4 [s1'.v] 166:=by rw [h6];exact b5.set0
   have z1:=E1.size
   have z2:=E2.size
   have z3:=X3.size
   have z4:=E4.size
   have f5':∀b,s1'.blk b→so3.blk b∨w3.heap.size≤b:=fun b hb=>(f5 b hb).imp_right (fun h=>by omega)
   have ns':∀b,s1'.blk b→b≠c1.block∧b≠c2.block∧b≠c3.block∧b≠c4.block∧b≠m:=fun b hb=>(f5' b hb).elim (A3.ns b) (fun hh=>by
    have q1:=A3.b1.lt;have q2:=A3.b2.lt;have q3:=A3.b3.lt;have q4:=A3.b4.lt;have q5:m<w3.heap.size:=by obtain ⟨M',hM',_⟩:=A3.mp;exact hM'.lt
    exact ⟨by omega,by omega,by omega,by omega,by omega⟩)
   have up:∀{T:TypeId} {c:Addr} {vs:List Value},Box w3 c vs T→¬ so3.blk c.block→c.block≠c4.block→Box w6 c vs T:=fun h h1 h2=>((h.pure E4).ext X5 h1).ext E6 h2
   refine hK s1' w6 ⟨up A3.b1 (fun hb=>(A3.ns _ hb).1 rfl) A3.n4.1.symm,up A3.b2 (fun hb=>(A3.ns _ hb).2.1 rfl) A3.n4.2.1.symm,up A3.b3 (fun hb=>(A3.ns _ hb).2.2.1 rfl) A3.n4.2.2.1.symm,b6,?_,?_,((A3.pool.pure E4).ext X5 (fun b hb=>(A3.nf b hb).2.2)).ext E6 (fun b hb e=>(A3.nf b hb).1 e),A3.n4,A3.nm,ns',fun b hb=>⟨(A3.nf b hb).1,(A3.nf b hb).2.1,fun hh=>(f5' b hh).elim (A3.nf b hb).2.2 (fun hh=>by have:=A3.pool.lt hb;omega)⟩⟩ ?_ ?_
   ·obtain ⟨M',hM',hV'⟩:=A3.mp
    exact ⟨M',((hM'.pure E4).ext X5 (fun hb=>(A3.ns _ hb).2.2.2.2 rfl)).ext E6 A3.n4.2.2.2.symm,hV'⟩
   ·show Rws _ _ _ _ (tmr (s3.2++[t]))
    rw [show tmr (s3.2++[t])=tmr s3.2++[[.int .i64 t]] by simp [tmr]]
    exact R5.ext E6 (fun b hb e=>(ns' b hb).2.2.2.1 e)
   ·have f33:∀b,so3.blk b→b<w0.heap.size→so.blk b:=fun b hb hlt=>(f3 b hb).elim id (fun h2=>by omega)
    refine (((E1.mono (fun b _ hb=>.inr (.inl hb))).thenPure E2).trans X3).trans' ((E4.pure (F:=WkF c4 m so3)).trans ((X5.mono (fun b _ hb=>.inr (.inr hb))).trans (E6.mono (fun b _ e=>.inl e)))) (fun i hi hb=>?_)
    rcases hb with hb | hb | hb
    ·exact .inl hb
    ·exact .inr (.inl hb)
    ·exact .inr (.inr (f33 i hb hi))
   ·intro b hb
    rcases f5' b hb with h1 | h1
    ·exact (f3 b h1).imp_right (fun h=>by omega)
    ·right;omega
 ·have hyes':t∈M:=by have:=tF hyes;simp [jTC] at this;exact this
  have hv:st.1 t=true:=by rw [hV];simpa using hyes'
  rw [Sp.vR,if_neg (by simp [hv])] at hK
  refine ⟨some m,h.b1.cell0,1,hl,Br.t (by simp) ?_⟩
  exact hK so w0 h (Ext.refl _) (fun b hb=>.inl hb)
theorem c_subs (p:Addr) (t:Int) (w0:World) {L:Sp.Pool} {FP:NP} (hW:Sp.Wf L) (hP:jS w0 p L FP) :
  Calls prog 100 #[.pointer (some p),.int .i64 t] w0 (fun e w'=>∃r:Sl,e=.returned r.v∧RetO w0 29 1 (tmr (Sp.qO L t)) r w'):=by
 refine w_W1 _ _ w0 (fun r w'=>RetO w0 29 1 (tmr (Sp.qO L t)) r w') ?_
 unfold m_W1
 intro p2 w1 h1 p3 w2 h2 p4 w3 h3 p5 w4 h4
 have B2:=Box.of_new h1
 have B3:=Box.of_new h2
 have M4:=IMap.of_new (f:=one1) h3
 have B5:=Box.of_new h4
 have E1:Pure w0 w1:=Ext.new h1
 have E2:Pure w1 w2:=Ext.new h2
 have E3:Pure w2 w3:=Ext.new h3
 have E4:Pure w3 w4:=Ext.new h4
 have s1:=h1.at_size;have s2:=h2.at_size;have s3:=h3.at_size;have s4:=h4.at_size
 have z1:=E1.size;have z2:=E2.size;have z3:=E3.size;have z4:=E4.size
 have l1:=B2.lt;have l2:=B3.lt;have l3:=M4.lt;have l4:=B5.lt
 refine ⟨B5.canW0 (by simp),fun w5 h5=>?_⟩
 have E5:Ext (·=p5.block) w4 w5:=by rw [h5];exact Ext.setCell p5 _
 have B5':Box w5 p5 [.map (some p4.block)] 132:=by rw [h5];exact B5.set0
 intro p6 w6 h6
 have B6:=Box.of_new h6
 have E6:Pure w5 w6:=Ext.new h6
 have s6:=h6.at_size;have z5:=E5.size;have z6:=E6.size;have l6:=B6.lt
 refine ⟨B6.canW0 (by simp),fun w7 h7=>?_⟩
 have E7:Ext (·=p6.block) w6 w7:=by rw [h7];exact Ext.setCell p6 _
 have B6':Box w7 p6 [.func (.func 125) #[] #[.pointer (some p5),.pointer (some p2),.pointer (some p6),.pointer (some p3)]] 192:=by rw [h7];exact B6.set0
 have z7:=E7.size
 have EE:Pure w0 w7:=((((((E1.trans E2).trans E3).trans E4).own (by omega) E5).trans E6).own (by omega) E7)
 have up:∀{T:TypeId} {c:Addr} {vs:List Value},Box w4 c vs T→c.block≠p5.block→c.block≠p6.block→Box w7 c vs T:=fun h h1 h2=>((h.ext E5 h1).pure E6).ext E7 h2
 have hnil:∀b,¬ Sl.nil.blk b:=fun b hb=>by obtain ⟨a,h,_⟩:=hb;cases h
 have A:WkAt w7 p p5 p2 p6 p3 p4.block Sl.nil L FP (fun _=>false,[]) :=
  ⟨(B5'.pure E6).ext E7 (by omega),up (((B2.pure E2).pure E3).pure E4) (by omega) (by omega),B6',up ((B3.pure E3).pure E4) (by omega) (by omega),
  ⟨[],(((M4.pure E4).ext E5 (by omega)).pure E6).ext E7 (by omega),fun x=>by simp⟩,Rws.nil _ _ _,hP.pure EE,⟨by omega,by omega,by omega,by omega⟩,⟨by omega,by omega,by omega⟩,fun b hb=>(hnil b hb).elim,fun b hb=>by
   have:=hP.lt hb;exact ⟨by omega,by omega,hnil b⟩⟩
 refine ⟨some p,A.b2.cell0,?_⟩
 refine (c_in p t w7 A.pool).mono ?_
 rintro _ _ ⟨r1,rfl,rfl,rfl⟩
 refine ⟨_,rfl,fun hc=>?_,fun hc=>?_⟩
 ·refine ⟨_,A.b3.cell0,_,_,_,rfl,call125,?_⟩
  refine (c_walk p p5 p2 p6 p3 p4.block hW (t.toNat+1) t w7 _ Sl.nil (by omega) hc A ⟨by simp,by simp,by simp,by simp⟩ (by simp)).mono ?_
  rintro _ w8 ⟨rfl,so,A8,X8,f8⟩
  refine ⟨rfl,so,A8.b4.cell0,A8.out,fun b hb=>?_,EE.trans' X8 (fun i hi hb=>?_)⟩
  ·rcases f8 b hb with h | h
   ·exact (hnil b h).elim
   ·omega
  ·rcases hb with hb | hb | hb
   ·omega
   ·omega
   ·exact hnil _ hb
 ·have : Sp.qO L t = [] := by
   unfold Sp.qO;rw [Sp.vR,if_neg (by simp [hc])]
  rw [this]
  exact ⟨Sl.nil,A.b4.cell0,Rws.nil _ _ _,fun b hb=>(hnil b hb).elim,EE⟩
theorem jPJ (p:Addr) (t:Int) (w0:World):Calls prog 65 #[.pointer (some p),.int .i64 t] w0 (fun e w'=>∃r:Value,e=.returned r∧∃p2 p3:Addr,r=.func (.func 99) #[] #[.pointer (some p2),.pointer (some p3)]∧Box w' p2 [.pointer (some p)] 27∧Box w' p3 [.int .i64 t] 29∧Pure w0 w'):=by
 refine w_T1 _ _ w0 (fun r w'=>∃p2 p3:Addr,r=.func (.func 99) #[] #[.pointer (some p2),.pointer (some p3)]∧Box w' p2 [.pointer (some p)] 27∧Box w' p3 [.int .i64 t] 29∧Pure w0 w') ?_;unfold m_T1;intro p2 w1 h1 p3 w2 h2;exact ⟨p2,p3,rfl,(Box.of_new h1).pure (Ext.new h2),Box.of_new h2,(show Pure w0 w1 from Ext.new h1).trans (Ext.new h2)⟩
theorem jIO {p p2 p3:Addr} {t:Int} {w0:World} {L:Sp.Pool} {FP:NP} (hW:Sp.Wf L) (hP:jS w0 p L FP) (B2:Box w0 p2 [.pointer (some p)] 27) (B3:Box w0 p3 [.int .i64 t] 29) :
  jPR prog 99 #[.pointer (some p2),.pointer (some p3)] (fun z:Int=>#[.int .i64 z]) (Sp.qO L t) (fun _=>True) w0:=by
 intro l J Jx W E _ hJ hJx hyield h0
 refine (w_J1 (.func (.yield l) #[] #[]) p2 p3 W (fun A=>∃X,Hst W X A X A∧(J (Sp.qO L t) X A∨∃pre,Jx pre X A)) ?_).mono (fun e A h=>⟨⟨_,h.1⟩,h.2⟩)
 unfold m_J1
 refine ⟨some p,(B2.pure E).cell0,t,(B3.pure E).cell0,?_⟩
 refine (c_subs p t W hW (hP.pure E)).mono ?_
 rintro _ w1 ⟨r,rfl,hr⟩
 refine ⟨_,rfl,?_⟩
 generalize hxs:Sp.qO L t=xs at *
 have hfew:xs.length≤65536:=by rw [← hxs];have:=Sp.xA hW t;have:=hW.ok.few;omega
 have hs1:Hst W None W (fun b=>W.heap.size≤b∧b<w1.heap.size) w1:=⟨hr.pure.pure,fun _ h=>h.elim,fun b h=>.inr h.1,fun b h=>h.1,fun b h=>h.2,hr.pure.size⟩
 have hX:∀b,r.blk b→W.heap.size≤b∧b<w1.heap.size:=fun b hb=>⟨hr.own b hb,hr.rows.lt hb⟩
 refine ⟨fun x A=>∃j:Nat,x=j∧j≤xs.length∧Hst W (fun b=>W.heap.size≤b∧b<w1.heap.size) A (fun b=>W.heap.size≤b∧b<w1.heap.size) A∧J (xs.take j) (fun b=>W.heap.size≤b∧b<w1.heap.size) A∧Rws A 29 1 r (tmr xs),fun x _=>((xs.length:Int) - x).toNat,⟨0,rfl,Nat.zero_le _,hs1.here,hJ _ _ _ _ _ h0 hs1,hr.rows⟩,?_⟩
 rintro _ A ⟨j,rfl,hj,hA,hJA,hRA⟩
 unfold m_J1_l1
 have hlen:r.len=xs.length:=by rw [hr.rows.len,uY]
 refine ⟨fun hc=>?_,fun hc=>?_⟩
 ·have hc:j<xs.length:=by have:=of_decide_eq_true hc;omega
  obtain ⟨a,hat,_,hv⟩:=jMU hRA.lst hc
  refine ⟨a,hat,_,hv,l,rfl,?_⟩
  refine (hyield (xs.take j) xs[j] _ A hJA hA ⟨xs.drop (j+1),by rw [← List.drop_eq_getElem_cons hc,List.take_append_drop]⟩).mono ?_
  rintro e A' (⟨rfl,hk,hJ'⟩ | ⟨rfl,hk,hJ'⟩)
  ·refine ⟨_,rfl,Br.f rfl ⟨⟨j+1,kQ hc (by omega),hc,hA.again hk,by rw [List.take_succ_eq_append_getElem hc];exact hJ',hRA.kept hk hX⟩,?_⟩⟩
   rw [kQ hc (by omega)]
   show ((xs.length:Int) - ((j+1:Nat):Int)).toNat<((xs.length:Int) - (j:Int)).toNat
   omega
  ·exact ⟨_,rfl,Br.t rfl ⟨_,hA.again hk,.inr ⟨_,hJ'⟩⟩⟩
 ·have hc:j=xs.length:=by have:=of_decide_eq_false hc;omega
  subst hc
  rw [List.take_length] at hJA
  exact ⟨_,hA,.inl hJA⟩
end Go.Proofs
end
